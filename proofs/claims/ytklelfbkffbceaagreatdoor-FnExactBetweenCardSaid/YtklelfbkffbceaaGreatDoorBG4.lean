
/- The functions of the program in plain Lean, and that the machine answers as they do; conditions at each theorem. -/
import Derived.Test.YtklelfbkffbceaaGreatDoorBG3
set_option linter.unusedVariables false
set_option linter.unusedSimpArgs false
namespace Go.Am.Try
open Go.Am Go.Proofs
set_option linter.unusedVariables false
set_option maxRecDepth 20000
set_option maxHeartbeats 2000000
noncomputable section
def Xr (a0:GEvent):Option Bool:=
 if a0.Kind=2 then
  (wo a0.Addr).bind fun r2=>
  match r2 with
  |true=>
   if a0.Act=0 then
    (xP a0.Val).bind fun r4=>
    match r4 with
    |true=>
     (wI a0.Deps).bind fun r5=>
     some r5
    |false=>
     some false
   else
   some false
  |false=>
   some false
 else
 (XL a0.Val).bind fun r2=>
 match r2 with
 |true=>
  if 0<(a0.Deps.length:Int)then
   some false
  else
  if a0.Kind=0 then
   if(a0.Addr.length:Int)=0 then
    some (decide (a0.Act=0))
   else
   some false
  else
  if a0.Kind=5 then
   if(a0.Addr.length:Int)=0 then
    some (decide (a0.Act=0))
   else
   some false
  else
  if a0.Kind=6 then
   if(a0.Addr.length:Int)=0 then
    some (decide (a0.Act=0))
   else
   some false
  else
  if a0.Kind=1 then
   (wo a0.Addr).bind fun r8=>
   match r8 with
   |true=>
    (xg a0.Act 1 4).bind fun r9=>
    some r9
   |false=>
    some false
  else
  if a0.Kind=3 then
   (wo a0.Addr).bind fun r9=>
   match r9 with
   |true=>
    some (decide (a0.Act=0))
   |false=>
    some false
  else
  if a0.Kind=4 then
   (wo a0.Addr).bind fun r10=>
   match r10 with
   |true=>
    some (decide (a0.Act=0))
   |false=>
    some false
  else
  some false
 |false=>
  some false
theorem LT (a0:GEvent):Oc (Xr a0) 86 [] [.val true (ve a0)] fun r=>(vb r,[]):=tc (
 .eI a0.Kind 2 (fun c1=>.cl (j0 a0.Addr) fun r2=>.vM 0 r2 (
   .az 0 0<|.az 0 0<|.eD a0.Act 0<|.az 0 0<|.cI 0 (a0.Act=0) (fun c3=>.kT 0 (dT c3)<|.kT 0 (dT c3)<|.cl (YL a0.Val) fun r4=>.kT 0 (dT c3)<|.vM 0 r4 (
     .az 0 0<|.az 0 0<|.cl (XR a0.Deps) fun r5=>.az 0 1<|.ret r5)<|.az 0 0<|.az 0 0<|.az 0 0<|.ret false) fun c3=>.kF 0 (dF c3)<|.kF 0 (dF c3)<|.kF 0 (dF c3)<|.ret false)<|.az 0 0<|.az 0 0<|.az 0 0<|.ret false) fun c1=>.cl (Nz a0.Val) fun r2=>.vN 0 r2 (
  .an 0 0<|.an 0 0<|.le (zl za) a0.Deps<|.an 0 0<|.lI 0 (a0.Deps.length:Int) (fun c3=>.an 0 0<|.ret false) fun c3=>.an 0 0<|.eI a0.Kind 0 (fun c4=>.le za a0.Addr<|.eI (a0.Addr.length:Int) 0 (fun c5=>.eD a0.Act 0<|.ret (decide (a0.Act=0))) fun c5=>.ret false) fun c4=>.eI a0.Kind 5 (fun c5=>.le za a0.Addr<|.eI (a0.Addr.length:Int) 0 (fun c6=>.eD a0.Act 0<|.ret (decide (a0.Act=0))) fun c6=>.ret false) fun c5=>.eI a0.Kind 6 (fun c6=>.le za a0.Addr<|.eI (a0.Addr.length:Int) 0 (fun c7=>.eD a0.Act 0<|.ret (decide (a0.Act=0))) fun c7=>.ret false) fun c6=>.eI a0.Kind 1 (fun c7=>.cl (j0 a0.Addr) fun r8=>.vM 0 r8 (
    .az 0 0<|.az 0 0<|.cl (wZ a0.Act 1 4) fun r9=>.az 0 1<|.ret r9)<|.az 0 0<|.az 0 0<|.az 0 0<|.ret false) fun c7=>.eI a0.Kind 3 (fun c8=>.cl (j0 a0.Addr) fun r9=>.vM 0 r9 (
    .az 0 0<|.az 0 0<|.eD a0.Act 0<|.az 0 0<|.ret (decide (a0.Act=0)))<|.az 0 0<|.az 0 0<|.az 0 0<|.ret false) fun c8=>.eI a0.Kind 4 (fun c9=>.cl (j0 a0.Addr) fun r10=>.vM 0 r10 (
    .az 0 0<|.az 0 0<|.eD a0.Act 0<|.az 0 0<|.ret (decide (a0.Act=0)))<|.az 0 0<|.az 0 0<|.az 0 0<|.ret false) fun c9=>.ret false)<|.an 0 0<|.an 0 0<|.an 0 0<|.an 0 0<|.ret false) (zf Tryz.func86)
def Zr (a0:GState) (a1:GEvent):Option Bool:=
 (yt a0 a1.Addr).bind fun⟨r1_0,r1_1⟩=>
 if a0.Serial=1000000 then
  some false
 else
 if a1.Kind=0 then
  some (!a0.Open)
 else
 if a1.Kind=1 then
  match a0.Open with
  |true=>
   if(a0.Pending.length:Int)=0 then
    if r1_1=true then
     if a1.Act=1 then
      some false
     else
     some true
    else
    if a1.Act=1 then
     some (decide ((a0.Entries.length:Int)<16))
    else
    some false
   else
   some false
  |false=>
   some false
 else
 if a1.Kind=2 then
  (wn a0.Pending a1.Addr).bind fun r6=>
  match r6 with
  |true=>
   some (!(decide (a0.Act=4)))
  |false=>
   some false
 else
 if a1.Kind=3 then
  (wn a0.Pending a1.Addr).bind fun r7=>
  match r7 with
  |true=>
   some (decide (a0.Act=4))
  |false=>
   some false
 else
 if a1.Kind=4 then
  (wn a0.Pending a1.Addr).bind fun r8=>
  some r8
 else
 if a1.Kind=5 then
  match a0.Open with
  |true=>
   some (decide ((a0.Pending.length:Int)=0))
  |false=>
   some false
 else
 some a0.Open
theorem Ul (a0:GState) (a1:GEvent):Oc (Zr a0 a1) 138 [] [.val true (y9 a0),.val true (ve a1)] fun r=>(vb r,[]):=tc (
 .cl (q4 a0 a1.Addr) fun⟨r1_0,r1_1⟩=>.eI a0.Serial 1000000 (fun c2=>.ret false) fun c2=>.eI a1.Kind 0 (fun c3=>.ret (!a0.Open)) fun c3=>.eI a1.Kind 1 (fun c4=>.vM 1 a0.Open (
   .az 0 0<|.az 0 0<|.le za a0.Pending<|.az 0 0<|.eD (a0.Pending.length:Int) 0<|.az 0 0<|.cI 0 ((a0.Pending.length:Int)=0) (fun c5=>.kT 0 (dT c5)<|.kT 0 (dT c5)<|.kT 0 (dT c5)<|.eD a1.Act 1<|.kT 0 (dT c5)<|.sp (r1_1=true) (fun c6=>.sp (a1.Act=1) (fun c7=>.eb c6 (nT (dT c7))<|.kT 0 (dT c5)<|.ret false) fun c7=>.eb c6 (nF (dF c7))<|.kT 0 (dT c5)<|.kT 2 c6<|.kT 0 c6<|.kT 0 c6<|.kT 0 c6<|.kT 1 c6<|.ret true) fun c6=>.sp (a1.Act=1) (fun c7=>.eb (bF c6) (nT (dT c7))<|.kT 0 (dT c5)<|.kF 2 (bF c6)<|.kF 0 (bF c6)<|.kF 0 (bF c6)<|.le zq a0.Entries<|.kF 0 (bF c6)<|.lD (a0.Entries.length:Int) 16<|.kF 1 (bF c6)<|.ret (decide ((a0.Entries.length:Int)<16))) fun c7=>.eb (bF c6) (nF (dF c7))<|.kT 0 (dT c5)<|.ret false) fun c5=>.kF 0 (dF c5)<|.kF 0 (dF c5)<|.kF 0 (dF c5)<|.kF 0 (dF c5)<|.kF 0 (dF c5)<|.ret false)<|.az 0 0<|.az 0 0<|.az 0 0<|.az 0 0<|.ret false) fun c4=>.eI a1.Kind 2 (fun c5=>.cl (kG a0.Pending a1.Addr) fun r6=>.vM 0 r6 (
   .az 0 0<|.az 0 0<|.eD a0.Act 4<|.az 0 0<|.ret (!(decide (a0.Act=4))))<|.az 0 0<|.az 0 0<|.az 0 0<|.ret false) fun c5=>.eI a1.Kind 3 (fun c6=>.cl (kG a0.Pending a1.Addr) fun r7=>.vM 0 r7 (
   .az 0 0<|.az 0 0<|.eD a0.Act 4<|.az 0 0<|.ret (decide (a0.Act=4)))<|.az 0 0<|.az 0 0<|.az 0 0<|.ret false) fun c6=>.eI a1.Kind 4 (fun c7=>.cl (kG a0.Pending a1.Addr) fun r8=>.ret r8) fun c7=>.eI a1.Kind 5 (fun c8=>.vM 1 a0.Open (
   .az 0 0<|.az 0 0<|.le za a0.Pending<|.az 0 0<|.eD (a0.Pending.length:Int) 0<|.az 0 0<|.ret (decide ((a0.Pending.length:Int)=0)))<|.az 0 0<|.az 0 0<|.az 0 0<|.az 0 0<|.ret false) fun c8=>.ret a0.Open) (zf Tryz.func138)
def jN (a0:Bool) (e0_0:Int) (e0_1:Bool) (e0_3:Int) (e1:(List UInt8)) (e2:(List GEntry)):Option GState:=
 if(e1.length:Int)=0 then
  some (GState.mk e0_0 e0_1 e1 e0_3 e2)
 else
 (yt (GState.mk e0_0 e0_1 e1 e0_3 e2) e1).bind fun⟨r2_0,r2_1⟩=>
 match r2_1 with
 |true=>
  (zn r2_0).bind fun i3=>
  (e2[i3]?).bind fun x4=>
  ((e2.set i3 (GEntry.mk x4.Addr x4.Val x4.Deps true x4.Turned))[i3]?).bind fun x5=>
  some (GState.mk e0_0 e0_1 e1 e0_3 ((e2.set i3 (GEntry.mk x4.Addr x4.Val x4.Deps true x4.Turned)).set i3 (GEntry.mk x5.Addr x5.Val x5.Deps x5.Taint e0_0)))
 |false=>
  match a0 with
  |true=>
   (zS e1).bind fun r3=>
   (qF r2_0 e2 [(GEntry.mk r3 (GValue.mk 5 0 [] [] []) [] false 0)]).bind fun r4=>
   (zn r2_0).bind fun i5=>
   (r4[i5]?).bind fun x6=>
   ((r4.set i5 (GEntry.mk x6.Addr x6.Val x6.Deps true x6.Turned))[i5]?).bind fun x7=>
   some (GState.mk e0_0 e0_1 e1 e0_3 ((r4.set i5 (GEntry.mk x6.Addr x6.Val x6.Deps true x6.Turned)).set i5 (GEntry.mk x7.Addr x7.Val x7.Deps x7.Taint e0_0)))
  |false=>
   some (GState.mk e0_0 e0_1 e1 e0_3 e2)
theorem Qa (a0:Bool) (e0_0:Int) (e0_1:Bool) (e0_3:Int) (e1:(List UInt8)) (e2:(List GEntry)):Oc (jN a0 e0_0 e0_1 e0_3 e1 e2) 141 [.var [ci e0_0,.bool e0_1,.ref 1,ci e0_3,.ref 2],.obj 1 (eL za e1),.obj 9 (eL zQ e2)] [vp 0 0,vb a0] fun r=>(.tup [],[.var (Ry r),.dead,.dead]):=tc (
 .le za e1<|.eI (e1.length:Int) 0 (fun c1=>.ret (GState.mk e0_0 e0_1 e1 e0_3 e2)) fun c1=>.vw zH e1<|.vo j8 e2<|.vw zH e1<|.cl (q4 (GState.mk e0_0 e0_1 e1 e0_3 e2) e1) fun⟨r2_0,r2_1⟩=>.vN 0 r2_1 (
  .na r2_0 fun i3=>.ix zJ e2 i3 fun x4=>.ag 0<|.sl (zJ (GEntry.mk x4.Addr x4.Val x4.Deps true x4.Turned)) e2 i3<|.ag 1<|.ix zJ (e2.set i3 (GEntry.mk x4.Addr x4.Val x4.Deps true x4.Turned)) i3 fun x5=>.ag 0<|.sl (zJ (GEntry.mk x5.Addr x5.Val x5.Deps x5.Taint e0_0)) (e2.set i3 (GEntry.mk x4.Addr x4.Val x4.Deps true x4.Turned)) i3<|.ret (GState.mk e0_0 e0_1 e1 e0_3 ((e2.set i3 (GEntry.mk x4.Addr x4.Val x4.Deps true x4.Turned)).set i3 (GEntry.mk x5.Addr x5.Val x5.Deps x5.Taint e0_0))))<|.vN 0 a0 (
  .vw zH e1<|.cl (xq e1) fun r3=>.cn kh r3<|.cl (XE r2_0 e2 [(GEntry.mk r3 (GValue.mk 5 0 [] [] []) [] false 0)]) fun r4=>.na r2_0 fun i5=>.ix zJ r4 i5 fun x6=>.ag 0<|.sl (zJ (GEntry.mk x6.Addr x6.Val x6.Deps true x6.Turned)) r4 i5<|.ag 1<|.ix zJ (r4.set i5 (GEntry.mk x6.Addr x6.Val x6.Deps true x6.Turned)) i5 fun x7=>.ag 0<|.sl (zJ (GEntry.mk x7.Addr x7.Val x7.Deps x7.Taint e0_0)) (r4.set i5 (GEntry.mk x6.Addr x6.Val x6.Deps true x6.Turned)) i5<|.ret (GState.mk e0_0 e0_1 e1 e0_3 ((r4.set i5 (GEntry.mk x6.Addr x6.Val x6.Deps true x6.Turned)).set i5 (GEntry.mk x7.Addr x7.Val x7.Deps x7.Taint e0_0))))<|.ret (GState.mk e0_0 e0_1 e1 e0_3 e2)) (zf Tryz.func141)
def qN (a0:GState) (a1:GEvent):Option (GState×Bool):=
 (wh a0).bind fun r1=>
 (Zr a0 a1).bind fun r2=>
 match r2 with
 |true=>
  (yt (GState.mk (w64 (r1.Serial+1)) r1.Open r1.Pending r1.Act r1.Entries) a1.Addr).bind fun⟨r3_0,r3_1⟩=>
  if a1.Kind=0 then
   some ((GState.mk (w64 (r1.Serial+1)) true r1.Pending r1.Act r1.Entries),true)
  else
  if a1.Kind=1 then
   (zS a1.Addr).bind fun r6=>
   some ((GState.mk (w64 (r1.Serial+1)) r1.Open r6 a1.Act r1.Entries),true)
  else
  if a1.Kind=2 then
   (zS a1.Addr).bind fun r7=>
   (z6 a1.Val).bind fun r8=>
   (yR a1.Deps).bind fun r9=>
   match r3_1 with
   |true=>
    (zn r3_0).bind fun i10=>
    (r1.Entries[i10]?).bind fun x11=>
    some ((GState.mk (w64 (r1.Serial+1)) r1.Open [] 0 (r1.Entries.set i10 (GEntry.mk r7 r8 r9 false (w64 (r1.Serial+1))))),true)
   |false=>
    (qF r3_0 r1.Entries [(GEntry.mk r7 r8 r9 false (w64 (r1.Serial+1)))]).bind fun r10=>
    some ((GState.mk (w64 (r1.Serial+1)) r1.Open [] 0 r10),true)
  else
  if a1.Kind=3 then
   (qG r3_0 (w64 (r3_0+1)) r1.Entries).bind fun r8=>
   some ((GState.mk (w64 (r1.Serial+1)) r1.Open [] 0 r8),true)
  else
  if a1.Kind=4 then
   (jN false (w64 (r1.Serial+1)) r1.Open r1.Act r1.Pending r1.Entries).bind fun r9=>
   some ((GState.mk r9.Serial true [] 0 r9.Entries),true)
  else
  if a1.Kind=6 then
   (jN true (w64 (r1.Serial+1)) r1.Open r1.Act r1.Pending r1.Entries).bind fun r10=>
   some ((GState.mk r10.Serial false [] 0 r10.Entries),true)
  else
  if a1.Kind=5 then
   some ((GState.mk (w64 (r1.Serial+1)) false [] 0 r1.Entries),true)
  else
  some ((GState.mk (w64 (r1.Serial+1)) r1.Open [] 0 r1.Entries),true)
 |false=>
  some (r1,false)
theorem O3 (a0:GState) (a1:GEvent):Oc (qN a0 a1) 87 [] [.val true (y9 a0),.val true (ve a1)] fun r=>(.tup [(true,(Ry r.1)),(false,[.bool r.2])],[]):=tc (
 .cl (Jn a0) fun r1=>.cl (Ul a0 a1) fun r2=>.vN 0 r2 (
  .vw zH r1.Pending<|.vo j8 r1.Entries<|.cl (q4 (GState.mk (w64 (r1.Serial+1)) r1.Open r1.Pending r1.Act r1.Entries) a1.Addr) fun⟨r3_0,r3_1⟩=>.eI a1.Kind 0 (fun c4=>.ret ((GState.mk (w64 (r1.Serial+1)) true r1.Pending r1.Act r1.Entries),true)) fun c4=>.eI a1.Kind 1 (fun c5=>.cl (xq a1.Addr) fun r6=>.ret ((GState.mk (w64 (r1.Serial+1)) r1.Open r6 a1.Act r1.Entries),true)) fun c5=>.eI a1.Kind 2 (fun c6=>.cl (xq a1.Addr) fun r7=>.cl (yv a1.Val) fun r8=>.cl (kn a1.Deps) fun r9=>.vM 0 r3_1 (
    .na r3_0 fun i10=>.ix zJ r1.Entries i10 fun x11=>.ag 0<|.sl (zJ (GEntry.mk r7 r8 r9 false (w64 (r1.Serial+1)))) r1.Entries i10<|.ret ((GState.mk (w64 (r1.Serial+1)) r1.Open [] 0 (r1.Entries.set i10 (GEntry.mk r7 r8 r9 false (w64 (r1.Serial+1))))),true))<|.cl (XE r3_0 r1.Entries [(GEntry.mk r7 r8 r9 false (w64 (r1.Serial+1)))]) fun r10=>.ret ((GState.mk (w64 (r1.Serial+1)) r1.Open [] 0 r10),true)) fun c6=>.eI a1.Kind 3 (fun c7=>.cl (Vc r3_0 (w64 (r3_0+1)) r1.Entries) fun r8=>.ret ((GState.mk (w64 (r1.Serial+1)) r1.Open [] 0 r8),true)) fun c7=>.eI a1.Kind 4 (fun c8=>.q (.eFo a1.Kind 6 (by omega))<|.cl (Qa false (w64 (r1.Serial+1)) r1.Open r1.Act r1.Pending r1.Entries) fun r9=>.q (.eT c8)<|.ret ((GState.mk r9.Serial true [] 0 r9.Entries),true)) fun c8=>.eI a1.Kind 6 (fun c9=>.q (.eT c9)<|.cl (Qa true (w64 (r1.Serial+1)) r1.Open r1.Act r1.Pending r1.Entries) fun r10=>.q (.eF c8)<|.ret ((GState.mk r10.Serial false [] 0 r10.Entries),true)) fun c9=>.eI a1.Kind 5 (fun c10=>.ret ((GState.mk (w64 (r1.Serial+1)) false [] 0 r1.Entries),true)) fun c10=>.ret ((GState.mk (w64 (r1.Serial+1)) r1.Open [] 0 r1.Entries),true))<|.ret (r1,false)) (zf Tryz.func87)
def Wn (F:GHistory→Option ((List GState)×Bool)):Prop:=∀(a0:GHistory),Oc (F a0) 41 [] [.val true (xv a0)] fun r=>(.tup [(false,[cq Wd r.1]),(false,[.bool r.2])],[])
def xA (v0:(List GEvent)) (v1:Int):Nat→Int→(List GState)→Option ((Bool×(List GState))⊕(Int×(List GState)))
 |0,_,_=>none
 |m+1,v2,v3=>
 if v2<v1 then
  (zn v2).bind fun i2=>
  (v0[i2]?).bind fun x3=>
  (Xr x3).bind fun r4=>
  match r4 with
  |true=>
   (v3[i2]?).bind fun x5=>
   (qN x5 x3).bind fun⟨r6_0,r6_1⟩=>
   match r6_1 with
   |true=>
    if zC 72 (v3.length+[r6_0].length)then
    xA v0 v1 m (w64 (v2+1)) (v3++[r6_0])
    else none
   |false=>
    some (.inl (false,[]))
  |false=>
   some (.inl (false,[]))
 else
 some (.inr (v2,v3))
theorem J5 (v0:(List GEvent)) (v1:Int) (m:Nat):∀(v2:Int) (v3:(List GState)),Ol (xA v0 v1 m v2 v3) 41 (zD Tryz.f41 0) ⟨[(4,vr 0),(33,vq zN v0),(34,vi v1),(35,vi v2)],[.obj 5 (eL Wd v3)],0⟩ fun o=>match o with | .inl ⟨o_0_0,o_0_1⟩=>(.ret,⟨[(2,vr 0),(3,vb o_0_0)],[.obj 5 (eL Wd o_0_1)],0⟩)| .inr (⟨o_1_0,o_1_1⟩)=>(.exit 0,⟨[(4,vr 0),(33,vq zN v0),(34,vi v1),(35,vi o_1_0),(36,vb false)],[.obj 5 (eL Wd o_1_1)],0⟩):=by
 induction m with
 |zero=>intro v2 v3 o h;cases h
 |succ m ih=>exact fun v2 v3=>tlp (
  .lI v2 v1 (fun c1=>.na v2 fun i2=>.ix ZO v0 i2 fun x3=>.cl (LT x3) fun r4=>.vN 0 r4 (
    .ag 3<|.ix ZN v3 i2 fun x5=>.ag 0<|.cl (O3 x5 x3) fun⟨r6_0,r6_1⟩=>.vN 0 r6_1 (
     .vw zH r6_0.Pending<|.vo j8 r6_0.Entries<|.pl We [r6_0]<|.ap 72 We v3 [r6_0] fun n7=>.go (ih (w64 (v2+1)) (v3++[r6_0])))<|.ret (.inl (false,[])))<|.ret (.inl (false,[]))) fun c1=>.ret (.inr (v2,v3)))
def kc (n:Nat) (a0:GHistory):Option ((List GState)×Bool):=
 (Z6 a0.Base).bind fun r1=>
 match r1 with
 |true=>
  if 300<(a0.Events.length:Int)then
   some ([],false)
  else
  (xg a0.Safe 0 (a0.Events.length:Int)).bind fun r3=>
  match r3 with
  |true=>
   (wh a0.Base).bind fun r4=>
   (xA a0.Events (a0.Events.length:Int) n 0 [r4]).bind fun o5=>
   match o5 with
   | .inl ⟨o5_0_0,o5_0_1⟩=>
    some (o5_0_1,o5_0_0)
   | .inr (⟨o5_1_0,o5_1_1⟩)=>
    some (o5_1_1,true)
  |false=>
   some ([],false)
 |false=>
  some ([],false)
theorem Vw (n:Nat):Wn (kc n):=fun a0=>tc (
 .cl (LS a0.Base) fun r1=>.vN 0 r1 (
  .an 0 0<|.an 0 0<|.le zN a0.Events<|.an 0 0<|.lI 300 (a0.Events.length:Int) (fun c2=>.an 0 0<|.vw We []<|.ret ([],false)) fun c2=>.an 0 0<|.le zN a0.Events<|.cl (wZ a0.Safe 0 (a0.Events.length:Int)) fun r3=>.vN 2 r3 (
   .cl (Jn a0.Base) fun r4=>.vw zH r4.Pending<|.vo j8 r4.Entries<|.le zN a0.Events<|.l2 (J5 a0.Events (a0.Events.length:Int) n 0 [r4]) (fun⟨o5_0_0,o5_0_1⟩=>.vw We o5_0_1<|.ret (o5_0_1,o5_0_0)) fun⟨o5_1_0,o5_1_1⟩=>.vw We o5_1_1<|.ret (o5_1_1,true))<|.vw We []<|.ret ([],false))<|.an 0 0<|.an 0 0<|.an 0 0<|.an 0 0<|.vw We []<|.ret ([],false)) (zf Tryz.func41)
def q5 (a0:GHistory):Option ((List GState)×Bool):=kc (a0.Events.length+5) a0
theorem Ka (a0:GHistory) (r:((List GState)×Bool)) (h:q5 a0=some r):∃n,kc n a0=some r:=⟨_,h⟩
theorem KY:Wn q5:=fun a0 r h=>(Ka a0 r h).elim fun n hn=>Vw n a0 r hn
def wv (a0:GState) (a1:(List UInt8)):Option GValue:=
 (yt a0 a1).bind fun⟨r1_0,r1_1⟩=>
 match r1_1 with
 |true=>
  (zn r1_0).bind fun i2=>
  (a0.Entries[i2]?).bind fun x3=>
  (z6 x3.Val).bind fun r4=>
  some r4
 |false=>
  some (GValue.mk 5 0 [] [] [])
theorem Wo (a0:GState) (a1:(List UInt8)):Oc (wv a0 a1) 43 [] [.val true (y9 a0),vq za a1] fun r=>(.val true (xT r),[]):=tc (
 .cl (q4 a0 a1) fun⟨r1_0,r1_1⟩=>.vN 0 r1_1 (
  .na r1_0 fun i2=>.ix ym a0.Entries i2 fun x3=>.cl (yv x3.Val) fun r4=>.ret r4)<|.ret (GValue.mk 5 0 [] [] [])) (zf Tryz.func43)
def Y7 (a0:Int):Option Bool:=
 some false
theorem Kb (a0:Int):Oc (Y7 a0) 201 [] [vi a0] fun r=>(vb r,[]):=tc (
 .q (.eTo a0 a0 (by omega))<|.ret false) (zf Tryz.func201)
def qV (a0:Int) (a1:Int):Option Int:=
 (Y7 a0).bind fun r1=>
 (Y7 a1).bind fun r2=>
 match r1 with
 |true=>
  match r2 with
  |true=>
   some 0
  |false=>
   some (-1)
 |false=>
  match r2 with
  |true=>
   some 1
  |false=>
   if a0<a1 then
    some (-1)
   else
   if a1<a0 then
    some 1
   else
   some 0
theorem YO (a0:Int) (a1:Int):Oc (qV a0 a1) 145 [] [vi a0,vi a1] fun r=>(vi r,[]):=tc (
 .cl (Kb a0) fun r1=>.cl (Kb a1) fun r2=>.vM 0 r1 (
  .vM 0 r2 (
   .ret 0)<|.ret (-1))<|.vM 0 r2 (
  .ret 1)<|.lI a0 a1 (fun c3=>.ret (-1)) fun c3=>.lI a1 a0 (fun c4=>.ret 1) fun c4=>.ret 0) (zf Tryz.func145)
def Um (F:(List Int)→Option Int):Prop:=∀(a0:(List Int)),Oc (F a0) 144 [] [vq Jz a0] fun r=>(vi r,[])
def kf (v0:Int) (a0:(List Int)) (v2:Int):Nat→Int→Option (Int⊕Int)
 |0,_=>none
 |m+1,v3=>
 if v3<v2 then
  (zn v3).bind fun i2=>
  (a0[i2]?).bind fun x3=>
  if x3=v0 then
   kf v0 a0 v2 m (w64 (v3+1))
  else
  some (.inl x3)
 else
 some (.inr v3)
theorem O4 (v0:Int) (a0:(List Int)) (v2:Int) (m:Nat):∀(v3:Int),Ol (kf v0 a0 v2 m v3) 144 (zD Tryz.f144 0) ⟨[(3,vi v0),(6,vq Jz a0),(7,vi v2),(8,vi v3)],[],0⟩ fun o=>match o with | .inl o_0=>(.ret,⟨[(2,vi o_0)],[],0⟩)| .inr (o_1)=>(.exit 0,⟨[(3,vi v0),(6,vq Jz a0),(7,vi v2),(8,vi o_1),(9,vb false)],[],0⟩):=by
 induction m with
 |zero=>intro v3 o h;cases h
 |succ m ih=>exact fun v3=>tlp (
  .lI v3 v2 (fun c1=>.na v3 fun i2=>.ix0 Jz a0 i2 fun x3=>.eI x3 v0 (fun c4=>.go (ih (w64 (v3+1)))) fun c4=>.ret (.inl x3)) fun c1=>.ret (.inr v3))
def Kc (n:Nat) (a0:(List Int)):Option Int:=
 (kf 0 a0 (a0.length:Int) n 0).bind fun o1=>
 match o1 with
 | .inl o1_0=>
  some o1_0
 | .inr (o1_1)=>
  some 0
theorem E8 (n:Nat):Um (Kc n):=fun a0=>tc (
 .le Jz a0<|.l2 (O4 0 a0 (a0.length:Int) n 0) (fun o1_0=>.ret o1_0) fun o1_1=>.ret 0) (zf Tryz.func144)
def orI:List Int→Int
 |[]=>0
 |x::l=>if x=0 then orI l else x
theorem Aw {a:List Int} (ha:a.length<=2 ^ 20):∀(d i m:Nat),i+d=a.length→d<m→∃z,kf 0 a (a.length:Int) m (i:Int)=some z∧(match z with | .inl x=>x| .inr _=>0)=orI (a.drop i):=by
 intro d
 induction d with
 |zero=>
  intro i m hi hm
  obtain⟨m,rfl,_⟩:=zg hm
  refine⟨.inr i,by rw[kf,if_neg (by omega)],?_⟩
  rw[List.drop_eq_nil_of_le (by omega)];rfl
 |succ d ih=>
  intro i m hi hm
  obtain⟨m,rfl,hm'⟩:=zg hm
  have hil:i<a.length:=by omega
  rw[kf,if_pos (by omega),zb,oB,zj hil,oB,wb hil,orI]
  by_cases h:a[i]=0
  ·rw[if_pos h,if_pos h,zG (by omega)]
   exact ih (i+1) m (by omega) (by omega)
  ·rw[if_neg h,if_neg h]
   exact⟨_,rfl,rfl⟩
def Z7 (a0:(List Int)):Option Int:=if a0.length<=2 ^ 20 then some (orI a0)else none
theorem LU (a0:(List Int)) (r:Int) (h:Z7 a0=some r):∃n,Kc n a0=some r:=by
 unfold Z7 at h
 obtain⟨ha,h⟩:=zB h
 obtain⟨z,h1,h2⟩:=Aw ha a0.length 0 (a0.length+1) (by omega) (by omega)
 refine⟨a0.length+1,?_⟩
 unfold Kc
 rw[show(0:Int)=((0:Nat):Int)from rfl]
 rw[List.drop_zero]at h2
 refine(congrArg (fun x=>Option.bind x _) h1).trans ?_
 rw[oB,<-h,<-h2]
 cases z <;> rfl
theorem GV:Um Z7:=fun a0 r h=>(LU a0 r h).elim fun n hn=>E8 n a0 r hn
def qO (F:GValue→GValue→Option Int):Prop:=∀(a0:GValue) (a1:GValue),Oc (F a0 a1) 90 [] [.val true (zi a0),.val true (zi a1)] fun r=>(vi r,[])
def y0 (G_impl_compareValues:GValue→GValue→Option Int) (v0:Int) (a0:GValue) (a1:GValue):Nat→Int→Option (Int⊕Int)
 |0,_=>none
 |m+1,v1=>
 if v1<v0 then
  if a0.Kind=5 then
   (zn v1).bind fun i3=>
   (a0.K[i3]?).bind fun x4=>
   (a1.K[i3]?).bind fun x5=>
   (yr x4 x5).bind fun r6=>
   if r6=0 then
    (a0.L[i3]?).bind fun x8=>
    (a1.L[i3]?).bind fun x9=>
    (G_impl_compareValues x8 x9).bind fun r10=>
    if r10=0 then
     y0 G_impl_compareValues v0 a0 a1 m (w64 (v1+1))
    else
    some (.inl r10)
   else
   some (.inl r6)
  else
  (zn v1).bind fun i3=>
  (a0.L[i3]?).bind fun x4=>
  (a1.L[i3]?).bind fun x5=>
  (G_impl_compareValues x4 x5).bind fun r6=>
  if r6=0 then
   y0 G_impl_compareValues v0 a0 a1 m (w64 (v1+1))
  else
  some (.inl r6)
 else
 some (.inr v1)
theorem Kd (G_impl_compareValues:GValue→GValue→Option Int) (H_impl_compareValues:qO G_impl_compareValues) (v0:Int) (a0:GValue) (a1:GValue) (m:Nat):∀(v1:Int),Ol (y0 G_impl_compareValues v0 a0 a1 m v1) 90 (zD Tryz.f90 0) ⟨[(2,vp 0 0),(3,vp 1 0),(35,vi v0),(36,vi v1)],[.var (zi a0),.var (zi a1)],0⟩ fun o=>match o with | .inl o_0=>(.ret,⟨[(4,vi o_0)],[],0⟩)| .inr (o_1)=>(.exit 0,⟨[(2,vp 0 0),(3,vp 1 0),(35,vi v0),(36,vi o_1),(37,vb false)],[.var (zi a0),.var (zi a1)],0⟩):=by
 induction m with
 |zero=>intro v1 o h;cases h
 |succ m ih=>exact fun v1=>tlp (
  .lI v1 v0 (fun c1=>.eI a0.Kind 5 (fun c2=>.na v1 fun i3=>.ix0 (zl za) a0.K i3 fun x4=>.ag 1<|.ix0 (zl za) a1.K i3 fun x5=>.cl (wd x4 x5) fun r6=>.eI r6 0 (fun c7=>.ag 3<|.ix zr a0.L i3 fun x8=>.ag 4<|.ix zr a1.L i3 fun x9=>.cl (H_impl_compareValues x8 x9) fun r10=>.eI r10 0 (fun c11=>.go (ih (w64 (v1+1)))) fun c11=>.ret (.inl r10)) fun c7=>.ret (.inl r6)) fun c2=>.na v1 fun i3=>.ix zr a0.L i3 fun x4=>.ag 1<|.ix zr a1.L i3 fun x5=>.cl (H_impl_compareValues x4 x5) fun r6=>.eI r6 0 (fun c7=>.go (ih (w64 (v1+1)))) fun c7=>.ret (.inl r6)) fun c1=>.ret (.inr v1))
def kz (G_impl_compareValues:GValue→GValue→Option Int) (n:Nat) (a0:GValue) (a1:GValue):Option Int:=
 (qV a0.Kind a1.Kind).bind fun r1=>
 (qV a0.N a1.N).bind fun r2=>
 (yr a0.S a1.S).bind fun r3=>
 (Z7 [r1,r2,r3]).bind fun r4=>
 if r4=0 then
  (y0 G_impl_compareValues (if(a1.L.length:Int)<(a0.L.length:Int)then(a1.L.length:Int)else(a0.L.length:Int)) a0 a1 n 0).bind fun o6=>
  match o6 with
  | .inl o6_0=>
   some o6_0
  | .inr (o6_1)=>
   (qV (a0.L.length:Int) (a1.L.length:Int)).bind fun r7=>
   some r7
 else
 some r4
theorem Rf (G_impl_compareValues:GValue→GValue→Option Int) (H_impl_compareValues:qO G_impl_compareValues) (n:Nat):qO (kz G_impl_compareValues n):=fun a0 a1=>tc (
 .cl (YO a0.Kind a1.Kind) fun r1=>.cl (YO a0.N a1.N) fun r2=>.cl (wd a0.S a1.S) fun r3=>.vw zm7 [r1,r2,r3]<|.cl (GV [r1,r2,r3]) fun r4=>.eI r4 0 (fun c5=>.le zd a0.L<|.le zd a1.L<|.l2 (Kd G_impl_compareValues H_impl_compareValues (if(a1.L.length:Int)<(a0.L.length:Int)then(a1.L.length:Int)else(a0.L.length:Int)) a0 a1 n 0) (fun o6_0=>.ret o6_0) fun o6_1=>.le zd a0.L<|.le zd a1.L<|.cl (YO (a0.L.length:Int) (a1.L.length:Int)) fun r7=>.ret r7) fun c5=>.ret r4) (zf Tryz.func90)
def yh:Nat→GValue→GValue→Option Int
 |0,_,_=>none
 |n+1,a0,a1=>kz (yh n) n a0 a1
theorem KZ (n:Nat):qO (yh n):=by
 induction n with
 |zero=>exact fun _ _ _ h=>(by rw[yh]at h;cases h)
 |succ n ih=>
  have ih_impl_compareValues:=ih
  exact fun a0 a1 r h=>Rf (yh n) ih_impl_compareValues n a0 a1 r (by rw[yh]at h;exact h)
def qP (a0:GValue) (a1:GValue):Option Int:=yh (vsz a0+3) a0 a1
theorem Kq (a0:GValue) (a1:GValue) (r:Int) (h:qP a0 a1=some r):∃n,yh n a0 a1=some r:=⟨_,h⟩
theorem Vx:qO qP:=by
 intro a0 a1 r h
 obtain⟨n,hn⟩:=Kq a0 a1 r h
 exact(KZ n) a0 a1 r hn
def KO (F:(List GStep)→Option (List GStep)):Prop:=∀(a0:(List GStep)),Oc (F a0) 91 [] [vq zU a0] fun r=>(.val false [.own 3 (eL qY r)],[])
def q6 (a0:(List GStep)) (v1:Int):Nat→Int→(List GStep)→Option (Int×(List GStep))
 |0,_,_=>none
 |m+1,v2,v3=>
 if v2<v1 then
  (zn v2).bind fun i2=>
  (a0[i2]?).bind fun x3=>
  (zS x3.Key).bind fun r4=>
  if zC 40 (v3.length+[(GStep.mk x3.Kind r4 x3.I)].length)then
  q6 a0 v1 m (w64 (v2+1)) (v3++[(GStep.mk x3.Kind r4 x3.I)])
  else none
 else
 some (v2,v3)
theorem Te (a0:(List GStep)) (v1:Int) (m:Nat):∀(v2:Int) (v3:(List GStep)),Ol (q6 a0 v1 m v2 v3) 91 (zD Tryz.f91 0) ⟨[(3,vr 0),(7,vq zU a0),(8,vi v1),(9,vi v2)],[.obj 3 (eL qY v3)],0⟩ fun o=>match o with |⟨o_0,o_1⟩=>(.exit 0,⟨[(3,vr 0),(7,vq zU a0),(8,vi v1),(9,vi o_0),(10,vb false)],[.obj 3 (eL qY o_1)],0⟩):=by
 induction m with
 |zero=>intro v2 v3 o h;cases h
 |succ m ih=>exact fun v2 v3=>tlp (
  .lI v2 v1 (fun c1=>.na v2 fun i2=>.ix Ya a0 i2 fun x3=>.cl (xq x3.Key) fun r4=>.ao 40 Wr v3 [(GStep.mk x3.Kind r4 x3.I)] fun n5=>.go (ih (w64 (v2+1)) (v3++[(GStep.mk x3.Kind r4 x3.I)]))) fun c1=>.ret (v2,v3))
def WK (n:Nat) (a0:(List GStep)):Option (List GStep):=
 (q6 a0 (a0.length:Int) n 0 []).bind fun⟨o1_0,o1_1⟩=>
 some o1_1
theorem LV (n:Nat):KO (WK n):=fun a0=>tc (
 .le zU a0<|.lp (Te a0 (a0.length:Int) n 0 []) fun⟨o1_0,o1_1⟩=>.ret o1_1) (zf Tryz.func91)
theorem GW {a:List GStep} (ha:yu a<=2 ^ 38):∀(l p:List GStep) (m:Nat),a=p++l→l.length<m→∃z,q6 a (a.length:Int) m (p.length:Int) p=some (z,a):=by
 have hl:=k8 a
 intro l
 induction l with
 |nil=>
  intro p m he hm
  subst he
  obtain⟨m,rfl,_⟩:=zg hm
  exact⟨_,by rw[q6,if_neg (xF p)];simp;rfl⟩
 |cons x l ih=>
  intro p m he hm
  obtain⟨m,rfl,hm'⟩:=zg hm
  have hx:1+Wh x<=yu a:=UA (by rw[he];simp)
  unfold Wh at hx
  have hlen:a.length=p.length+(l.length+1):=by rw[he];simp
  obtain⟨z,hz⟩:=ih (p++[x]) m (by rw[he];simp) (by simp only[List.length_cons]at hm';omega)
  refine⟨z,?_⟩
  have ex:GStep.mk x.Kind x.Key x.I=x:=by cases x;rfl
  rw[q6,if_pos (by omega),zb,oB,show a[p.length]? =some x by rw[he];exact zp p x l,oB,show zS x.Key=some x.Key from if_pos (xc (by decide) (by omega)),oB,ex,if_pos (xc (by decide) (by simp only[List.length_cons,List.length_nil];omega)),ye p x (by omega),hz]
def xi (a0:(List GStep)):Option (List GStep):=if yu a0<=2 ^ 38 then some a0 else none
theorem XD {a:List GStep} (h:yu a<=2 ^ 38):xi a=some a:=if_pos h
theorem Un (a0:(List GStep)) (r:(List GStep)) (h:xi a0=some r):∃n,WK n a0=some r:=by
 unfold xi at h
 obtain⟨ha,h⟩:=zB h
 obtain⟨z,hz⟩:=GW ha a0 [] (a0.length+1) rfl (by omega)
 refine⟨a0.length+1,?_⟩
 unfold WK
 simp only[List.length_nil,Int.natCast_zero]at hz
 rw[hz];exact h
theorem j7:KO xi:=fun a0 r h=>(Un a0 r h).elim fun n hn=>LV n a0 r hn
def jh (F:(List (List UInt8))→(List UInt8)→Option (Int×Bool)):Prop:=∀(a0:(List (List UInt8))) (a1:(List UInt8)),Oc (F a0 a1) 149 [] [vq (zl za) a0,vq za a1,.val false [.fn 94 []]] fun r=>(.tup [(false,[ci r.1]),(false,[.bool r.2])],[])
def z7 (a0:(List (List UInt8))) (a1:(List UInt8)) (v2:Int):Nat→Int→Int→Option (Int×Int)
 |0,_,_=>none
 |m+1,v3,v4=>
 if v3<v4 then
  (zn (w64 (Yq .shr .u64 (IntKind.u64.wrap (w64 (v3+v4))) 1))).bind fun i2=>
  (a0[i2]?).bind fun x3=>
  (yr x3 a1).bind fun r4=>
  if r4<0 then
   z7 a0 a1 v2 m (w64 ((w64 (Yq .shr .u64 (IntKind.u64.wrap (w64 (v3+v4))) 1))+1)) v4
  else
  z7 a0 a1 v2 m v3 (w64 (Yq .shr .u64 (IntKind.u64.wrap (w64 (v3+v4))) 1))
 else
 some (v3,v4)
theorem Z8 (a0:(List (List UInt8))) (a1:(List UInt8)) (v2:Int) (m:Nat):∀(v3:Int) (v4:Int),Ol (z7 a0 a1 v2 m v3 v4) 149 (zD Tryz.f149 0) ⟨[(0,vq (zl za) a0),(1,vq za a1),(2,.val false [.fn 94 []]),(8,vi v2),(9,vi v3),(10,vi v4)],[],0⟩ fun o=>match o with |⟨o_0,o_1⟩=>(.exit 0,⟨[(0,vq (zl za) a0),(1,vq za a1),(2,.val false [.fn 94 []]),(8,vi v2),(9,vi o_0),(10,vi o_1),(17,vb false)],[],0⟩):=by
 induction m with
 |zero=>intro v3 v4 o h;cases h
 |succ m ih=>exact fun v3 v4=>tlp (
  .lI v3 v4 (fun c1=>.q (.gTo 0 1 (by decide))<|.cw (Yq .shr .u64 (IntKind.u64.wrap (w64 (v3+v4))) 1)<|.na (w64 (Yq .shr .u64 (IntKind.u64.wrap (w64 (v3+v4))) 1)) fun i2=>.ix0 (zl za) a0 i2 fun x3=>.cl (wd x3 a1) fun r4=>.lI r4 0 (fun c5=>.go (ih (w64 ((w64 (Yq .shr .u64 (IntKind.u64.wrap (w64 (v3+v4))) 1))+1)) v4)) fun c5=>.go (ih v3 (w64 (Yq .shr .u64 (IntKind.u64.wrap (w64 (v3+v4))) 1)))) fun c1=>.ret (v3,v4))
def xS (n:Nat) (a0:(List (List UInt8))) (a1:(List UInt8)):Option (Int×Bool):=
 (z7 a0 a1 (a0.length:Int) n 0 (a0.length:Int)).bind fun⟨o1_0,o1_1⟩=>
 if o1_0<(a0.length:Int)then
  (zn o1_0).bind fun i3=>
  (a0[i3]?).bind fun x4=>
  (yr x4 a1).bind fun r5=>
  some (o1_0,(decide (r5=0)))
 else
 some (o1_0,false)
theorem Yw (n:Nat):jh (xS n):=fun a0 a1=>tc (
 .le (zl za) a0<|.lp (Z8 a0 a1 (a0.length:Int) n 0 (a0.length:Int)) fun⟨o1_0,o1_1⟩=>.lI o1_0 (a0.length:Int) (fun c2=>.na o1_0 fun i3=>.ix0 (zl za) a0 i3 fun x4=>.cl (wd x4 a1) fun r5=>.eD r5 0<|.ret (o1_0,(decide (r5=0)))) fun c2=>.ret (o1_0,false)) (zf Tryz.func149)
theorem E9 {a:List (List UInt8)} {x:List UInt8} {c:Nat} {v2:Int} (hp:j9 a x c) (ha:a.length<=2 ^ 40):∀(d i j m:Nat),j - i<=d→i<=c→c<=j→j<=a.length→d<m→z7 a x v2 m (i:Int) (j:Int)=some ((c:Int),(c:Int)):=by
 intro d
 induction d with
 |zero=>
  intro i j m hd h1 h2 h3 hm
  obtain⟨m,rfl,_⟩:=zg hm
  rw[z7,if_neg (by omega),show i=c by omega,show j=c by omega]
 |succ d ih=>
  intro i j m hd h1 h2 h3 hm
  obtain⟨m,rfl,hm'⟩:=zg hm
  by_cases hij:i<j
  ·have hk:(i+j) / 2<a.length:=by omega
   rw[z7,if_pos (by omega),Dd (by omega),zb,oB,zj hk,oB]
   unfold yr xd
   simp only[oB]
   have hq:=hp.2 _ hk
   by_cases hl:Op.bytesLess a[(i+j) / 2] x=true
   ·rw[if_pos (by rw[VB];exact hl),zG (by omega)]
    have:=hq.2 hl
    exact ih _ _ m (by omega) (by omega) h2 h3 (by omega)
   ·rw[if_neg (by rw[VB];exact hl)]
    have:¬(i+j) / 2<c:=fun h=>hl (hq.1 h)
    exact ih _ _ m (by omega) h1 (by omega) (by omega) (by omega)
  ·rw[z7,if_neg (by omega),show i=c by omega,show j=c by omega]
open Classical in
noncomputable def yd (a0:(List (List UInt8))) (a1:(List UInt8)):Option (Int×Bool):=if h:a0.length<=2 ^ 40∧∃c,j9 a0 a1 c then some (((Classical.choose h.2:Nat):Int),decide (a0[Classical.choose h.2]? =some a1))else none
theorem LW {a:List (List UInt8)} {x:List UInt8} (ha:a.length<=2 ^ 40) (h:Asc a):∃c,j9 a x c∧yd a x=some ((c:Int),decide (x∈a)):=by
 have he:a.length<=2 ^ 40∧∃c,j9 a x c:=⟨ha,j9.of h x⟩
 refine⟨Classical.choose he.2,Classical.choose_spec he.2,?_⟩
 unfold yd
 rw[dif_pos he]
 congr 2
 exact decide_eq_decide.2 (j9.mem h (Classical.choose_spec he.2))
theorem ZK (a0:(List (List UInt8))) (a1:(List UInt8)) (r:(Int×Bool)) (h:yd a0 a1=some r):∃n,xS n a0 a1=some r:=by
 unfold yd at h
 split at h
 ·rename_i he
  have hp:=Classical.choose_spec he.2
  generalize Classical.choose he.2=c at h hp
  refine⟨a0.length+1,?_⟩
  unfold xS
  have hl:=E9 (v2:=(a0.length:Int)) hp he.1 a0.length 0 a0.length (a0.length+1) (by omega) (by omega) hp.1 (Nat.le_refl _) (by omega)
  rw[show((0:Nat):Int)=0 from rfl]at hl
  rw[hl,oB]
  dsimp only
  rw[<-h]
  by_cases hc:c<a0.length
  ·rw[if_pos (by omega),zb,oB,zj hc,oB]
   unfold yr xd
   simp only[oB]
   congr 2
   exact decide_eq_decide.2 ((OL _ _).trans (by simp))
  ·rw[if_neg (by omega),List.getElem?_eq_none (by omega)]
   simp
 ·cases h
theorem Yk:jh yd:=fun a0 a1 r h=>(ZK a0 a1 r h).elim fun n hn=>Yw n a0 a1 r hn
def wj (a0:GValue) (a1:(List UInt8)):Option (Int×Bool):=
 (yd a0.K a1).bind fun⟨r1_0,r1_1⟩=>
 some (r1_0,r1_1)
theorem Qb (a0:GValue) (a1:(List UInt8)):Oc (wj a0 a1) 97 [] [.val true (zi a0),vq za a1] fun r=>(.tup [(false,[ci r.1]),(false,[.bool r.2])],[]):=tc (
 .cl (Yk a0.K a1) fun⟨r1_0,r1_1⟩=>.ret (r1_0,r1_1)) (zf Tryz.func97)
def Yo (F:(List GStep)→GValue→GValue→Option (List GChange)):Prop:=∀(a0:(List GStep)) (a1:GValue) (a2:GValue),Oc (F a0 a1 a2) 44 [] [vq zU a0,.val true (zi a1),.val true (zi a2)] fun r=>(.val false [.own 13 (eL yO r)],[])
def kJ (G_impl_diff:(List GStep)→GValue→GValue→Option (List GChange)) (a0:(List GStep)) (v1:Int) (a1:GValue) (a2:GValue):Nat→Int→(List GChange)→Option (Int×(List GChange))
 |0,_,_=>none
 |m+1,v2,v5=>
 if v2<v1 then
  (xi a0).bind fun r2=>
  if zC 40 (r2.length+[(GStep.mk 1 [] v2)].length)then
  (zn v2).bind fun i4=>
  (a1.L[i4]?).bind fun x5=>
  (a2.L[i4]?).bind fun x6=>
  (G_impl_diff (r2++[(GStep.mk 1 [] v2)]) x5 x6).bind fun r7=>
  if zC 216 (v5.length+r7.length)then
  kJ G_impl_diff a0 v1 a1 a2 m (w64 (v2+1)) (v5++r7)
  else none
  else none
 else
 some (v2,v5)
theorem LX (G_impl_diff:(List GStep)→GValue→GValue→Option (List GChange)) (H_impl_diff:Yo G_impl_diff) (a0:(List GStep)) (v1:Int) (a1:GValue) (a2:GValue) (m:Nat):∀(v2:Int) (v5:(List GChange)),Ol (kJ G_impl_diff a0 v1 a1 a2 m v2 v5) 44 (zD Tryz.f44 0) ⟨[(0,vq zU a0),(4,vp 0 0),(5,vp 1 0),(7,vr 2),(53,vi v1),(54,vi v2)],[.var (zi a1),.var (zi a2),.obj 13 (eL yO v5)],0⟩ fun o=>match o with |⟨o_0,o_1⟩=>(.exit 1,⟨[(0,vq zU a0),(4,vp 0 0),(5,vp 1 0),(7,vr 2),(53,vi v1),(54,vi o_0),(55,vb false)],[.var (zi a1),.var (zi a2),.obj 13 (eL yO o_1)],0⟩):=by
 induction m with
 |zero=>intro v2 v5 o h;cases h
 |succ m ih=>exact fun v2 v5=>tlp (
  .lI v2 v1 (fun c1=>.cl (j7 a0) fun r2=>.ao 40 Wr r2 [(GStep.mk 1 [] v2)] fun n3=>.na v2 fun i4=>.ix zr a1.L i4 fun x5=>.ag 1<|.ix zr a2.L i4 fun x6=>.vo Wr (r2++[(GStep.mk 1 [] v2)])<|.cl (H_impl_diff (r2++[(GStep.mk 1 [] v2)]) x5 x6) fun r7=>.cn zZ r7<|.ao 216 zZ v5 r7 fun n8=>.go (ih (w64 (v2+1)) (v5++r7))) fun c1=>.ret (v2,v5))
def yH (G_impl_diff:(List GStep)→GValue→GValue→Option (List GChange)) (a0:(List GStep)) (v1:(List (List UInt8))) (v2:Int) (a1:GValue) (a2:GValue):Nat→Int→(List GChange)→Option (Int×(List GChange))
 |0,_,_=>none
 |m+1,v3,v6=>
 if v3<v2 then
  (zn v3).bind fun i2=>
  (v1[i2]?).bind fun x3=>
  (xi a0).bind fun r4=>
  (zS x3).bind fun r5=>
  if zC 40 (r4.length+[(GStep.mk 0 r5 0)].length)then
  (wj a1 x3).bind fun⟨r7_0,r7_1⟩=>
  (wj a2 x3).bind fun⟨r8_0,r8_1⟩=>
  match r7_1 with
  |true=>
   match r8_1 with
   |true=>
    (zn r7_0).bind fun i9=>
    (a1.L[i9]?).bind fun x10=>
    (zn r8_0).bind fun i11=>
    (a2.L[i11]?).bind fun x12=>
    (G_impl_diff (r4++[(GStep.mk 0 r5 0)]) x10 x12).bind fun r13=>
    if zC 216 (v6.length+r13.length)then
    yH G_impl_diff a0 v1 v2 a1 a2 m (w64 (v3+1)) (v6++r13)
    else none
   |false=>
    (zn r7_0).bind fun i9=>
    (a1.L[i9]?).bind fun x10=>
    (z6 x10).bind fun r11=>
    if zC 216 (v6.length+[(GChange.mk (r4++[(GStep.mk 0 r5 0)]) true r11 false (GValue.mk 0 0 [] [] []))].length)then
    yH G_impl_diff a0 v1 v2 a1 a2 m (w64 (v3+1)) (v6++[(GChange.mk (r4++[(GStep.mk 0 r5 0)]) true r11 false (GValue.mk 0 0 [] [] []))])
    else none
  |false=>
   (zn r8_0).bind fun i9=>
   (a2.L[i9]?).bind fun x10=>
   (z6 x10).bind fun r11=>
   if zC 216 (v6.length+[(GChange.mk (r4++[(GStep.mk 0 r5 0)]) false (GValue.mk 0 0 [] [] []) true r11)].length)then
   yH G_impl_diff a0 v1 v2 a1 a2 m (w64 (v3+1)) (v6++[(GChange.mk (r4++[(GStep.mk 0 r5 0)]) false (GValue.mk 0 0 [] [] []) true r11)])
   else none
  else none
 else
 some (v3,v6)
theorem LY (G_impl_diff:(List GStep)→GValue→GValue→Option (List GChange)) (H_impl_diff:Yo G_impl_diff) (a0:(List GStep)) (v1:(List (List UInt8))) (v2:Int) (a1:GValue) (a2:GValue) (m:Nat):∀(v3:Int) (v6:(List GChange)),Ol (yH G_impl_diff a0 v1 v2 a1 a2 m v3 v6) 44 (zD Tryz.f44 1) ⟨[(0,vq zU a0),(4,vp 0 0),(5,vp 1 0),(7,vr 2),(96,vq (zl za) v1),(97,vi v2),(98,vi v3)],[.var (zi a1),.var (zi a2),.obj 13 (eL yO v6)],0⟩ fun o=>match o with |⟨o_0,o_1⟩=>(.exit 3,⟨[(0,vq zU a0),(4,vp 0 0),(5,vp 1 0),(7,vr 2),(96,vq (zl za) v1),(97,vi v2),(98,vi o_0),(99,vb false)],[.var (zi a1),.var (zi a2),.obj 13 (eL yO o_1)],0⟩):=by
 induction m with
 |zero=>intro v3 v6 o h;cases h
 |succ m ih=>exact fun v3 v6=>tlp (
  .lI v3 v2 (fun c1=>.na v3 fun i2=>.ix0 (zl za) v1 i2 fun x3=>.cl (j7 a0) fun r4=>.cl (xq x3) fun r5=>.ao 40 Wr r4 [(GStep.mk 0 r5 0)] fun n6=>.cl (Qb a1 x3) fun⟨r7_0,r7_1⟩=>.cl (Qb a2 x3) fun⟨r8_0,r8_1⟩=>.vM 0 r7_1 (
    .az 0 0<|.vM 0 r8_1 (
     .na r7_0 fun i9=>.ix zr a1.L i9 fun x10=>.na r8_0 fun i11=>.ix zr a2.L i11 fun x12=>.vo Wr (r4++[(GStep.mk 0 r5 0)])<|.cl (H_impl_diff (r4++[(GStep.mk 0 r5 0)]) x10 x12) fun r13=>.cn zZ r13<|.ao 216 zZ v6 r13 fun n14=>.go (ih (w64 (v3+1)) (v6++r13)))<|.az 0 1<|.na r7_0 fun i9=>.ix zr a1.L i9 fun x10=>.cl (yv x10) fun r11=>.ao 216 zZ v6 [(GChange.mk (r4++[(GStep.mk 0 r5 0)]) true r11 false (GValue.mk 0 0 [] [] []))] fun n12=>.go (ih (w64 (v3+1)) (v6++[(GChange.mk (r4++[(GStep.mk 0 r5 0)]) true r11 false (GValue.mk 0 0 [] [] []))])))<|.az 0 0<|.az 1 0<|.na r8_0 fun i9=>.ix zr a2.L i9 fun x10=>.cl (yv x10) fun r11=>.ao 216 zZ v6 [(GChange.mk (r4++[(GStep.mk 0 r5 0)]) false (GValue.mk 0 0 [] [] []) true r11)] fun n12=>.go (ih (w64 (v3+1)) (v6++[(GChange.mk (r4++[(GStep.mk 0 r5 0)]) false (GValue.mk 0 0 [] [] []) true r11)]))) fun c1=>.ret (v3,v6))
def QD (G_impl_diff:(List GStep)→GValue→GValue→Option (List GChange)) (n:Nat) (a0:(List GStep)) (a1:GValue) (a2:GValue):Option (List GChange):=
 (qP a1 a2).bind fun r1=>
 if r1=0 then
  some []
 else
 if a1.Kind=4 then
  if a2.Kind=4 then
   if(a1.L.length:Int)=(a2.L.length:Int)then
    (kJ G_impl_diff a0 (a1.L.length:Int) a1 a2 n 0 []).bind fun⟨o6_0,o6_1⟩=>
    some o6_1
   else
   (xi a0).bind fun r6=>
   (z6 a1).bind fun r7=>
   (z6 a2).bind fun r8=>
   if zC 216 (0+[(GChange.mk r6 true r7 true r8)].length)then
   some [(GChange.mk r6 true r7 true r8)]
   else none
  else
  (xi a0).bind fun r5=>
  (z6 a1).bind fun r6=>
  (z6 a2).bind fun r7=>
  if zC 216 (0+[(GChange.mk r5 true r6 true r7)].length)then
  some [(GChange.mk r5 true r6 true r7)]
  else none
 else
 if a1.Kind=5 then
  if a2.Kind=5 then
   (yR a1.K).bind fun r6=>
   (yR a2.K).bind fun r7=>
   if zC 24 (r6.length+r7.length)then
   (jF (r6++r7)).bind fun r9=>
   (qH r9).bind fun r10=>
   (yH G_impl_diff a0 r10 (r10.length:Int) a1 a2 n 0 []).bind fun⟨o11_0,o11_1⟩=>
   some o11_1
   else none
  else
  (xi a0).bind fun r6=>
  (z6 a1).bind fun r7=>
  (z6 a2).bind fun r8=>
  if zC 216 (0+[(GChange.mk r6 true r7 true r8)].length)then
  some [(GChange.mk r6 true r7 true r8)]
  else none
 else
 (xi a0).bind fun r5=>
 (z6 a1).bind fun r6=>
 (z6 a2).bind fun r7=>
 if zC 216 (0+[(GChange.mk r5 true r6 true r7)].length)then
 some [(GChange.mk r5 true r6 true r7)]
 else none
theorem DE (G_impl_diff:(List GStep)→GValue→GValue→Option (List GChange)) (H_impl_diff:Yo G_impl_diff) (n:Nat):Yo (QD G_impl_diff n):=fun a0 a1 a2=>tc (
 .cl (Vx a1 a2) fun r1=>.eI r1 0 (fun c2=>.ret []) fun c2=>.eI a1.Kind 4 (fun c3=>.eI a2.Kind 4 (fun c4=>.le zd a1.L<|.le zd a2.L<|.eI (a1.L.length:Int) (a2.L.length:Int) (fun c5=>.le zd a1.L<|.lp (LX G_impl_diff H_impl_diff a0 (a1.L.length:Int) a1 a2 n 0 []) fun⟨o6_0,o6_1⟩=>.ret o6_1) fun c5=>.q (.eFo a1.Kind 5 (by omega))<|.cl (j7 a0) fun r6=>.cl (yv a1) fun r7=>.cl (yv a2) fun r8=>.ao 216 zZ [] [(GChange.mk r6 true r7 true r8)] fun n9=>.ret [(GChange.mk r6 true r7 true r8)]) fun c4=>.q (.eFo a1.Kind 5 (by omega))<|.cl (j7 a0) fun r5=>.cl (yv a1) fun r6=>.cl (yv a2) fun r7=>.ao 216 zZ [] [(GChange.mk r5 true r6 true r7)] fun n8=>.ret [(GChange.mk r5 true r6 true r7)]) fun c3=>.eI a1.Kind 5 (fun c4=>.eI a2.Kind 5 (fun c5=>.cl (kn a1.K) fun r6=>.cl (kn a2.K) fun r7=>.ao 24 (W5 1 kh) r6 r7 fun n8=>.cl (Kr (r6++r7)) fun r9=>.cl (Jj r9) fun r10=>.vo (W5 1 kh) r10<|.le (zl za) r10<|.lp (LY G_impl_diff H_impl_diff a0 r10 (r10.length:Int) a1 a2 n 0 []) fun⟨o11_0,o11_1⟩=>.ret o11_1) fun c5=>.cl (j7 a0) fun r6=>.cl (yv a1) fun r7=>.cl (yv a2) fun r8=>.ao 216 zZ [] [(GChange.mk r6 true r7 true r8)] fun n9=>.ret [(GChange.mk r6 true r7 true r8)]) fun c4=>.cl (j7 a0) fun r5=>.cl (yv a1) fun r6=>.cl (yv a2) fun r7=>.ao 216 zZ [] [(GChange.mk r5 true r6 true r7)] fun n8=>.ret [(GChange.mk r5 true r6 true r7)]) (zf Tryz.func44)
def wW:Nat→(List GStep)→GValue→GValue→Option (List GChange)
 |0,_,_,_=>none
 |n+1,a0,a1,a2=>QD (wW n) n a0 a1 a2
theorem GX (n:Nat):Yo (wW n):=by
 induction n with
 |zero=>exact fun _ _ _ _ h=>(by rw[wW]at h;cases h)
 |succ n ih=>
  have ih_impl_diff:=ih
  exact fun a0 a1 a2 r h=>DE (wW n) ih_impl_diff n a0 a1 a2 r (by rw[wW]at h;exact h)
def QE (a0:(List GStep)) (a1:GValue) (a2:GValue):Option (List GChange):=wW (vsz a1+vsz a2+4) a0 a1 a2
theorem N0 (a0:(List GStep)) (a1:GValue) (a2:GValue) (r:(List GChange)) (h:QE a0 a1 a2=some r):∃n,wW n a0 a1 a2=some r:=⟨_,h⟩
theorem EA:Yo QE:=by
 intro a0 a1 a2 r h
 obtain⟨n,hn⟩:=N0 a0 a1 a2 r h
 exact(GX n) a0 a1 a2 r hn
def Xs (a0:GHistory) (a1:Int) (a2:Int) (a3:(List UInt8)):Option ((List GChange)×Bool):=
 (q5 a0).bind fun⟨r1_0,r1_1⟩=>
 match r1_1 with
 |true=>
  (xg a1 a0.Base.Serial (w64 (a0.Base.Serial+(a0.Events.length:Int)))).bind fun r2=>
  match r2 with
  |true=>
   (xg a2 a0.Base.Serial (w64 (a0.Base.Serial+(a0.Events.length:Int)))).bind fun r3=>
   match r3 with
   |true=>
    (zn (w64 (a1 - a0.Base.Serial))).bind fun i4=>
    (r1_0[i4]?).bind fun x5=>
    (wv x5 a3).bind fun r6=>
    (zn (w64 (a2 - a0.Base.Serial))).bind fun i7=>
    (r1_0[i7]?).bind fun x8=>
    (wv x8 a3).bind fun r9=>
    (QE [] r6 r9).bind fun r10=>
    some (r10,true)
   |false=>
    some ([],false)
  |false=>
   some ([],false)
 |false=>
  some ([],false)
theorem LZ (a0:GHistory) (a1:Int) (a2:Int) (a3:(List UInt8)):Oc (Xs a0 a1 a2 a3) 10 [] [.val true (xv a0),vi a1,vi a2,vq za a3] fun r=>(.tup [(false,[.own 13 (eL yO r.1)]),(false,[.bool r.2])],[]):=tc (
 .cl (KY a0) fun⟨r1_0,r1_1⟩=>.le zN a0.Events<|.vN 0 r1_1 (
  .an 0 0<|.an 0 0<|.an 0 0<|.an 0 0<|.an 0 0<|.cl (wZ a1 a0.Base.Serial (w64 (a0.Base.Serial+(a0.Events.length:Int)))) fun r2=>.an 0 1<|.an 0 1<|.vN 0 r2 (
   .an 0 0<|.an 0 0<|.an 0 0<|.an 0 0<|.an 0 0<|.cl (wZ a2 a0.Base.Serial (w64 (a0.Base.Serial+(a0.Events.length:Int)))) fun r3=>.an 0 1<|.an 0 1<|.vN 0 r3 (
    .na (w64 (a1 - a0.Base.Serial)) fun i4=>.ix ZN r1_0 i4 fun x5=>.cl (Wo x5 a3) fun r6=>.na (w64 (a2 - a0.Base.Serial)) fun i7=>.ix ZN r1_0 i7 fun x8=>.cl (Wo x8 a3) fun r9=>.vw zH r6.S<|.vo (W5 1 kh) r6.K<|.vo Zg r6.L<|.vw zH r9.S<|.vo (W5 1 kh) r9.K<|.vo Zg r9.L<|.cl (EA [] r6 r9) fun r10=>.cn zZ r10<|.ret (r10,true))<|.ret ([],false))<|.an 0 0<|.an 0 0<|.an 0 0<|.an 0 0<|.an 0 0<|.an 0 0<|.an 0 0<|.ret ([],false))<|.an 0 0<|.an 0 0<|.an 0 0<|.an 0 0<|.an 0 0<|.an 0 0<|.an 0 0<|.ret ([],false)) (zf Tryz.func10)
def Vy (F:(List UInt8)→(List UInt8)→Option Bool):Prop:=∀(a0:(List UInt8)) (a1:(List UInt8)),Oc (F a0 a1) 13 [] [vq za a0,vq za a1] fun r=>(vb r,[])
def qW (a0:(List UInt8)) (a1:(List UInt8)):Nat→Int→Option (Bool⊕Int)
 |0,_=>none
 |m+1,v2=>
 if v2<(a0.length:Int)then
  (zn v2).bind fun i2=>
  (a0[i2]?).bind fun x3=>
  (a1[i2]?).bind fun x4=>
  if((x3.toNat:Nat):Int)=((x4.toNat:Nat):Int)then
   qW a0 a1 m (w64 (v2+1))
  else
  some (.inl false)
 else
 some (.inr v2)
theorem Uo (a0:(List UInt8)) (a1:(List UInt8)) (m:Nat):∀(v2:Int),Ol (qW a0 a1 m v2) 13 (zD Tryz.f13 0) ⟨[(0,vq za a0),(1,vq za a1),(5,vi v2)],[],0⟩ fun o=>match o with | .inl o_0=>(.ret,⟨[(4,vb o_0)],[],0⟩)| .inr (o_1)=>(.exit 0,⟨[(0,vq za a0),(1,vq za a1),(5,vi o_1),(14,vb false)],[],0⟩):=by
 induction m with
 |zero=>intro v2 o h;cases h
 |succ m ih=>exact fun v2=>tlp (
  .le za a0<|.lI v2 (a0.length:Int) (fun c1=>.na v2 fun i2=>.ix0 za a0 i2 fun x3=>.ag 1<|.ix0 za a1 i2 fun x4=>.eI ((x3.toNat:Nat):Int) ((x4.toNat:Nat):Int) (fun c5=>.go (ih (w64 (v2+1)))) fun c5=>.ret (.inl false)) fun c1=>.ret (.inr v2))
def Qr (n:Nat) (a0:(List UInt8)) (a1:(List UInt8)):Option Bool:=
 if(a0.length:Int)=(a1.length:Int)then
  (qW a0 a1 n 0).bind fun o2=>
  match o2 with
  | .inl o2_0=>
   some o2_0
  | .inr (o2_1)=>
   some true
 else
 some false
theorem N1 (n:Nat):Vy (Qr n):=fun a0 a1=>tc (
 .le za a0<|.le za a1<|.eI (a0.length:Int) (a1.length:Int) (fun c1=>.l2 (Uo a0 a1 n 0) (fun o2_0=>.ret o2_0) fun o2_1=>.ret true) fun c1=>.ret false) (zf Tryz.func13)
theorem EB {a:List UInt8} (ha:a.length<=2 ^ 40):∀(d i m:Nat),i+d=a.length→d<m→∃z,qW a a m (i:Int)=some (.inr z):=by
 intro d
 induction d with
 |zero=>
  intro i m hi hm
  obtain⟨m,rfl,_⟩:=zg hm
  exact⟨_,by rw[qW,if_neg (by omega)]⟩
 |succ d ih=>
  intro i m hi hm
  obtain⟨m,rfl,hm'⟩:=zg hm
  have hil:i<a.length:=by omega
  rw[qW,if_pos (by omega),zb,oB,zj hil,oB,oB,if_pos rfl,zG (by omega)]
  exact ih (i+1) m (by omega) (by omega)
def zX (a0:(List UInt8)) (a1:(List UInt8)):Option Bool:=if a0=a1∧a0.length<=2 ^ 40 then some true else none
theorem Py (a0:(List UInt8)) (a1:(List UInt8)) (r:Bool) (h:zX a0 a1=some r):∃n,Qr n a0 a1=some r:=by
 unfold zX at h
 obtain⟨⟨he,ha⟩,h2⟩:=zB h
 clear h
 subst he
 refine⟨a0.length+1,?_⟩
 obtain⟨z,hz⟩:=EB ha a0.length 0 (a0.length+1) (by omega) (by omega)
 rw[show((0:Nat):Int)=0 from rfl]at hz
 unfold Qr
 rw[if_pos rfl,hz];exact h2
theorem xX:Vy zX:=fun a0 a1 r h=>(Py a0 a1 r h).elim fun n hn=>N1 n a0 a1 r hn
def Yl (a0:GStep) (a1:GStep):Option Bool:=
 if a0.Kind=a1.Kind then
  (zX a0.Key a1.Key).bind fun r2=>
  match r2 with
  |true=>
   if a0.I=a1.I then
    some true
   else
   some false
  |false=>
   some false
 else
 some false
theorem N2 (a0:GStep) (a1:GStep):Oc (Yl a0 a1) 150 [] [.val true (V9 a0),.val true (V9 a1)] fun r=>(vb r,[]):=tc (
 .eI a0.Kind a1.Kind (fun c1=>.cl (xX a0.Key a1.Key) fun r2=>.vN 0 r2 (
   .eI a0.I a1.I (fun c3=>.ret true) fun c3=>.ret false)<|.ret false) fun c1=>.ret false) (zf Tryz.func150)
def Vz (F:(List GStep)→(List GStep)→Option Bool):Prop:=∀(a0:(List GStep)) (a1:(List GStep)),Oc (F a0 a1) 98 [] [vq zU a0,vq zU a1] fun r=>(vb r,[])
def qX (a0:(List GStep)) (a1:(List GStep)):Nat→Int→Option (Bool⊕Int)
 |0,_=>none
 |m+1,v2=>
 if v2<(a0.length:Int)then
  (zn v2).bind fun i2=>
  (a0[i2]?).bind fun x3=>
  (a1[i2]?).bind fun x4=>
  (Yl x3 x4).bind fun r5=>
  match r5 with
  |true=>
   qX a0 a1 m (w64 (v2+1))
  |false=>
   some (.inl false)
 else
 some (.inr v2)
theorem Up (a0:(List GStep)) (a1:(List GStep)) (m:Nat):∀(v2:Int),Ol (qX a0 a1 m v2) 98 (zD Tryz.f98 0) ⟨[(0,vq zU a0),(1,vq zU a1),(5,vi v2)],[],0⟩ fun o=>match o with | .inl o_0=>(.ret,⟨[(4,vb o_0)],[],0⟩)| .inr (o_1)=>(.exit 0,⟨[(0,vq zU a0),(1,vq zU a1),(5,vi o_1),(14,vb false)],[],0⟩):=by
 induction m with
 |zero=>intro v2 o h;cases h
 |succ m ih=>exact fun v2=>tlp (
  .le zU a0<|.lI v2 (a0.length:Int) (fun c1=>.na v2 fun i2=>.ix Ya a0 i2 fun x3=>.ag 1<|.ix Ya a1 i2 fun x4=>.cl (N2 x3 x4) fun r5=>.vN 0 r5 (
    .go (ih (w64 (v2+1))))<|.ret (.inl false)) fun c1=>.ret (.inr v2))
def Qs (n:Nat) (a0:(List GStep)) (a1:(List GStep)):Option Bool:=
 if(a0.length:Int)=(a1.length:Int)then
  (qX a0 a1 n 0).bind fun o2=>
  match o2 with
  | .inl o2_0=>
   some o2_0
  | .inr (o2_1)=>
   some true
 else
 some false
theorem N3 (n:Nat):Vz (Qs n):=fun a0 a1=>tc (
 .le zU a0<|.le zU a1<|.eI (a0.length:Int) (a1.length:Int) (fun c1=>.l2 (Up a0 a1 n 0) (fun o2_0=>.ret o2_0) fun o2_1=>.ret true) fun c1=>.ret false) (zf Tryz.func98)
theorem EC {a:List GStep} (ha:a.length<=2 ^ 40) (hG:∀v∈a,Yl v v=some true):∀(d i m:Nat),i+d=a.length→d<m→∃z,qX a a m (i:Int)=some (.inr z):=by
 intro d
 induction d with
 |zero=>
  intro i m hi hm
  obtain⟨m,rfl,_⟩:=zg hm
  exact⟨_,by rw[qX,if_neg (by omega)]⟩
 |succ d ih=>
  intro i m hi hm
  obtain⟨m,rfl,hm'⟩:=zg hm
  have hil:i<a.length:=by omega
  rw[qX,if_pos (by omega),zb,oB,zj hil,oB,oB,hG _ (List.getElem_mem hil),oB,zG (by omega)]
  exact ih (i+1) m (by omega) (by omega)
theorem zbt {v:GStep} (h:Wh v<=2 ^ 39):Yl v v=some true:=by
 unfold Wh at h
 unfold Yl zX
 rw[if_pos rfl,if_pos ⟨rfl,by omega⟩,oB]
 dsimp only
 rw[if_pos rfl]
open Classical in
noncomputable def kK (a0:(List GStep)) (a1:(List GStep)):Option Bool:=if a0=a1∧yu a0<=2 ^ 39 then some true else none
theorem znb {s:List GStep} (h:yu s<=2 ^ 39):kK s s=some true:=if_pos ⟨rfl,h⟩
theorem Pz (a0:(List GStep)) (a1:(List GStep)) (r:Bool) (h:kK a0 a1=some r):∃n,Qs n a0 a1=some r:=by
 unfold kK at h
 obtain⟨⟨he,ha⟩,h2⟩:=zB h
 clear h
 subst he
 have hl:=k8 a0
 refine⟨a0.length+1,?_⟩
 obtain⟨z,hz⟩:=EC (a:=a0) (by omega) (fun v hv=>zbt (by have:=UA hv;omega)) a0.length 0 (a0.length+1) (by omega) (by omega)
 rw[show((0:Nat):Int)=0 from rfl]at hz
 unfold Qs
 rw[if_pos rfl,hz];exact h2
theorem Ma:Vz kK:=fun a0 a1 r h=>(Pz a0 a1 r h).elim fun n hn=>N3 n a0 a1 r hn
def KP (F:(List (List UInt8))→(List (List UInt8))→Option Bool):Prop:=∀(a0:(List (List UInt8))) (a1:(List (List UInt8))),Oc (F a0 a1) 22 [] [vq (zl za) a0,vq (zl za) a1] fun r=>(vb r,[])
def q7 (a0:(List (List UInt8))) (a1:(List (List UInt8))):Nat→Int→Option (Bool⊕Int)
 |0,_=>none
 |m+1,v2=>
 if v2<(a0.length:Int)then
  (zn v2).bind fun i2=>
  (a0[i2]?).bind fun x3=>
  (a1[i2]?).bind fun x4=>
  (zX x3 x4).bind fun r5=>
  match r5 with
  |true=>
   q7 a0 a1 m (w64 (v2+1))
  |false=>
   some (.inl false)
 else
 some (.inr v2)
theorem Tf (a0:(List (List UInt8))) (a1:(List (List UInt8))) (m:Nat):∀(v2:Int),Ol (q7 a0 a1 m v2) 22 (zD Tryz.f22 0) ⟨[(0,vq (zl za) a0),(1,vq (zl za) a1),(5,vi v2)],[],0⟩ fun o=>match o with | .inl o_0=>(.ret,⟨[(4,vb o_0)],[],0⟩)| .inr (o_1)=>(.exit 0,⟨[(0,vq (zl za) a0),(1,vq (zl za) a1),(5,vi o_1),(14,vb false)],[],0⟩):=by
 induction m with
 |zero=>intro v2 o h;cases h
 |succ m ih=>exact fun v2=>tlp (
  .le (zl za) a0<|.lI v2 (a0.length:Int) (fun c1=>.na v2 fun i2=>.ix0 (zl za) a0 i2 fun x3=>.ag 1<|.ix0 (zl za) a1 i2 fun x4=>.cl (xX x3 x4) fun r5=>.vN 0 r5 (
    .go (ih (w64 (v2+1))))<|.ret (.inl false)) fun c1=>.ret (.inr v2))
def WL (n:Nat) (a0:(List (List UInt8))) (a1:(List (List UInt8))):Option Bool:=
 if(a0.length:Int)=(a1.length:Int)then
  (q7 a0 a1 n 0).bind fun o2=>
  match o2 with
  | .inl o2_0=>
   some o2_0
  | .inr (o2_1)=>
   some true
 else
 some false
theorem Mb (n:Nat):KP (WL n):=fun a0 a1=>tc (
 .le (zl za) a0<|.le (zl za) a1<|.eI (a0.length:Int) (a1.length:Int) (fun c1=>.l2 (Tf a0 a1 n 0) (fun o2_0=>.ret o2_0) fun o2_1=>.ret true) fun c1=>.ret false) (zf Tryz.func22)
theorem GY {a:List (List UInt8)} (ha:bsz a<=2 ^ 40):∀(d i m:Nat),i+d=a.length→d<m→∃z,q7 a a m (i:Int)=some (.inr z):=by
 have hl:=wT a
 intro d
 induction d with
 |zero=>
  intro i m hi hm
  obtain⟨m,rfl,_⟩:=zg hm
  exact⟨_,by rw[q7,if_neg (by omega)]⟩
 |succ d ih=>
  intro i m hi hm
  obtain⟨m,rfl,hm'⟩:=zg hm
  have hil:i<a.length:=by omega
  have hx:=ZD (List.getElem_mem hil)
  rw[q7,if_pos (by omega),zb,oB,zj hil,oB,oB]
  unfold zX
  rw[if_pos ⟨rfl,by omega⟩,oB,zG (by omega)]
  exact ih (i+1) m (by omega) (by omega)
def xY (a0:(List (List UInt8))) (a1:(List (List UInt8))):Option Bool:=if a0=a1∧bsz a0<=2 ^ 40 then some true else none
theorem Uq (a0:(List (List UInt8))) (a1:(List (List UInt8))) (r:Bool) (h:xY a0 a1=some r):∃n,WL n a0 a1=some r:=by
 unfold xY at h
 obtain⟨⟨he,ha⟩,h2⟩:=zB h
 clear h
 subst he
 have hl:=wT a0
 refine⟨a0.length+1,?_⟩
 obtain⟨z,hz⟩:=GY ha a0.length 0 (a0.length+1) (by omega) (by omega)
 rw[show((0:Nat):Int)=0 from rfl]at hz
 unfold WL
 rw[if_pos rfl,hz];exact h2
theorem XW:KP xY:=fun a0 a1 r h=>(Uq a0 a1 r h).elim fun n hn=>Mb n a0 a1 r hn
def Y8 (F:(List GValue)→(List GValue)→Option Bool):Prop:=∀(a0:(List GValue)) (a1:(List GValue)),Oc (F a0 a1) 151 [] [vq zd a0,vq zd a1] fun r=>(vb r,[])
def Z9 (F:GValue→GValue→Option Bool):Prop:=∀(a0:GValue) (a1:GValue),Oc (F a0 a1) 99 [] [.val true (zi a0),.val true (zi a1)] fun r=>(vb r,[])
def q8 (G_laws_eqValue:GValue→GValue→Option Bool) (a0:(List GValue)) (a1:(List GValue)):Nat→Int→Option (Bool⊕Int)
 |0,_=>none
 |m+1,v2=>
 if v2<(a0.length:Int)then
  (zn v2).bind fun i2=>
  (a0[i2]?).bind fun x3=>
  (a1[i2]?).bind fun x4=>
  (G_laws_eqValue x3 x4).bind fun r5=>
  match r5 with
  |true=>
   q8 G_laws_eqValue a0 a1 m (w64 (v2+1))
  |false=>
   some (.inl false)
 else
 some (.inr v2)
theorem Tg (G_laws_eqValue:GValue→GValue→Option Bool) (H_laws_eqValue:Z9 G_laws_eqValue) (a0:(List GValue)) (a1:(List GValue)) (m:Nat):∀(v2:Int),Ol (q8 G_laws_eqValue a0 a1 m v2) 151 (zD Tryz.f151 0) ⟨[(0,vq zd a0),(1,vq zd a1),(5,vi v2)],[],0⟩ fun o=>match o with | .inl o_0=>(.ret,⟨[(4,vb o_0)],[],0⟩)| .inr (o_1)=>(.exit 0,⟨[(0,vq zd a0),(1,vq zd a1),(5,vi o_1),(14,vb false)],[],0⟩):=by
 induction m with
 |zero=>intro v2 o h;cases h
 |succ m ih=>exact fun v2=>tlp (
  .le zd a0<|.lI v2 (a0.length:Int) (fun c1=>.na v2 fun i2=>.ix zr a0 i2 fun x3=>.ag 1<|.ix zr a1 i2 fun x4=>.cl (H_laws_eqValue x3 x4) fun r5=>.vN 0 r5 (
    .go (ih (w64 (v2+1))))<|.ret (.inl false)) fun c1=>.ret (.inr v2))
def Y9 (G_laws_eqValue:GValue→GValue→Option Bool) (n:Nat) (a0:(List GValue)) (a1:(List GValue)):Option Bool:=
 if(a0.length:Int)=(a1.length:Int)then
  (q8 G_laws_eqValue a0 a1 n 0).bind fun o2=>
  match o2 with
  | .inl o2_0=>
   some o2_0
  | .inr (o2_1)=>
   some true
 else
 some false
theorem Mc (G_laws_eqValue:GValue→GValue→Option Bool) (H_laws_eqValue:Z9 G_laws_eqValue) (n:Nat):Y8 (Y9 G_laws_eqValue n):=fun a0 a1=>tc (
 .le zd a0<|.le zd a1<|.eI (a0.length:Int) (a1.length:Int) (fun c1=>.l2 (Tg G_laws_eqValue H_laws_eqValue a0 a1 n 0) (fun o2_0=>.ret o2_0) fun o2_1=>.ret true) fun c1=>.ret false) (zf Tryz.func151)
def Qt (G_laws_eqValueS:(List GValue)→(List GValue)→Option Bool) (a0:GValue) (a1:GValue):Option Bool:=
 if a0.Kind=a1.Kind then
  if a0.N=a1.N then
   (zX a0.S a1.S).bind fun r3=>
   match r3 with
   |true=>
    (xY a0.K a1.K).bind fun r4=>
    match r4 with
    |true=>
     (G_laws_eqValueS a0.L a1.L).bind fun r5=>
     match r5 with
     |true=>
      some true
     |false=>
      some false
    |false=>
     some false
   |false=>
    some false
  else
  some false
 else
 some false
theorem N4 (G_laws_eqValueS:(List GValue)→(List GValue)→Option Bool) (H_laws_eqValueS:Y8 G_laws_eqValueS):Z9 (Qt G_laws_eqValueS):=fun a0 a1=>tc (
 .eI a0.Kind a1.Kind (fun c1=>.eI a0.N a1.N (fun c2=>.cl (xX a0.S a1.S) fun r3=>.vN 0 r3 (
    .cl (XW a0.K a1.K) fun r4=>.vN 0 r4 (
     .cl (H_laws_eqValueS a0.L a1.L) fun r5=>.vN 0 r5 (
      .ret true)<|.ret false)<|.ret false)<|.ret false) fun c2=>.ret false) fun c1=>.ret false) (zf Tryz.func99)
mutual
def wJ:Nat→(List GValue)→(List GValue)→Option Bool
 |0,_,_=>none
 |n+1,a0,a1=>Y9 (q9 n) n a0 a1
def q9:Nat→GValue→GValue→Option Bool
 |0,_,_=>none
 |n+1,a0,a1=>Qt (wJ n) a0 a1
end
theorem Jo (n:Nat):Y8 (wJ n)∧Z9 (q9 n):=by
 induction n with
 |zero=>exact⟨fun _ _ _ h=>(by rw[wJ]at h;cases h),fun _ _ _ h=>(by rw[q9]at h;cases h)⟩
 |succ n ih=>
  obtain⟨ih_laws_eqValueS,ih_laws_eqValue⟩:=ih
  exact⟨fun a0 a1 r h=>Mc (q9 n) ih_laws_eqValue n a0 a1 r (by rw[wJ]at h;exact h),
   fun a0 a1 r h=>N4 (wJ n) ih_laws_eqValueS a0 a1 r (by rw[q9]at h;exact h)⟩
theorem Md {G:GValue→GValue→Option Bool} {a:List GValue} {f:Nat} (ha:a.length<=2 ^ 40) (hf:a.length<f) (hG:∀v∈a,G v v=some true):Y9 G f a a=some true:=by
 have loop:∀(d i m:Nat),i+d=a.length→d<m→∃z,q8 G a a m (i:Int)=some (.inr z):=by
  intro d
  induction d with
  |zero=>
   intro i m hi hm
   obtain⟨m,rfl,_⟩:=zg hm
   exact⟨_,by rw[q8,if_neg (by omega)]⟩
  |succ d ih=>
   intro i m hi hm
   obtain⟨m,rfl,hm'⟩:=zg hm
   have hil:i<a.length:=by omega
   rw[q8,if_pos (by omega),zb,oB,zj hil,oB,oB,hG _ (List.getElem_mem hil),oB,zG (by omega)]
   exact ih (i+1) m (by omega) (by omega)
 obtain⟨z,hz⟩:=loop a.length 0 f (by omega) (by omega)
 rw[show((0:Nat):Int)=0 from rfl]at hz
 unfold Y9
 rw[if_pos rfl,hz];rfl
theorem Gk:∀(N:Nat) (v:GValue),vsz v<N→vsz v<=2 ^ 40→∀f:Nat,2*vsz v+3<=f→q9 f v v=some true:=by
 intro N
 induction N with
 |zero=>intro v hv;omega
 |succ N ih=>
  intro v hv hs f hf
  obtain⟨f,rfl,_⟩:=zg (show 0<f by omega)
  obtain⟨f,rfl,_⟩:=zg (show 0<f by omega)
  have he:=yT v
  have hl:=yS v.L
  rw[q9]
  unfold Qt zX xY
  rw[if_pos rfl,if_pos rfl,if_pos (show v.S=v.S∧v.S.length<=2 ^ 40 from⟨rfl,by omega⟩),oB]
  dsimp only
  rw[if_pos (show v.K=v.K∧bsz v.K<=2 ^ 40 from⟨rfl,by omega⟩),oB]
  dsimp only
  rw[wJ,Md (by omega) (by omega) fun x hx=> ?_]
  ·rfl
  ·have:=yN hx
   exact ih x (by omega) (by omega) f (by omega)
open Classical in
noncomputable def WM (a0:(List GValue)) (a1:(List GValue)):Option Bool:=if a0=a1∧yX a0<=2 ^ 40 then some true else none
theorem Ur (a0:(List GValue)) (a1:(List GValue)) (r:Bool) (h:WM a0 a1=some r):∃n,wJ n a0 a1=some r:=by
 unfold WM at h
 obtain⟨⟨he,ha⟩,h2⟩:=zB h
 clear h
 subst he
 have hl:=yS a0
 refine⟨2*yX a0+5,?_⟩
 rw[wJ,Md (by omega) (by omega) fun x hx=> ?_,h2]
 have:=yN hx
 exact Gk _ x (Nat.lt_succ_self _) (by omega) _ (by omega)
open Classical in
noncomputable def y8 (a0:GValue) (a1:GValue):Option Bool:=if a0=a1∧vsz a0<=2 ^ 40 then some true else none
theorem P0 (a0:GValue) (a1:GValue) (r:Bool) (h:y8 a0 a1=some r):∃n,q9 n a0 a1=some r:=by
 unfold y8 at h
 obtain⟨⟨he,ha⟩,h2⟩:=zB h
 clear h
 subst he
 exact⟨2*vsz a0+3,by rw[<-h2];exact Gk _ a0 (Nat.lt_succ_self _) ha _ (Nat.le_refl _)⟩
theorem zen:Y8 WM:=by
 intro a0 a1 r h
 obtain⟨n,hn⟩:=Ur a0 a1 r h
 exact(Jo n).1 a0 a1 r hn
theorem wK:Z9 y8:=by
 intro a0 a1 r h
 obtain⟨n,hn⟩:=P0 a0 a1 r h
 exact(Jo n).2 a0 a1 r hn
def vS (a0:GChange) (a1:GChange):Option Bool:=
 (kK a0.Path a1.Path).bind fun r1=>
 match r1 with
 |true=>
  if a0.Had=true then
   if a1.Had=true then
    (y8 a0.Old a1.Old).bind fun r4=>
    match r4 with
    |true=>
     if a0.Has=true then
      if a1.Has=true then
       (y8 a0.New a1.New).bind fun r7=>
       match r7 with
       |true=>
        some true
       |false=>
        some false
      else
      some false
     else
     if a1.Has=true then
      some false
     else
     (y8 a0.New a1.New).bind fun r7=>
     match r7 with
     |true=>
      some true
     |false=>
      some false
    |false=>
     some false
   else
   some false
  else
  if a1.Had=true then
   some false
  else
  (y8 a0.Old a1.Old).bind fun r4=>
  match r4 with
  |true=>
   if a0.Has=true then
    if a1.Has=true then
     (y8 a0.New a1.New).bind fun r7=>
     match r7 with
     |true=>
      some true
     |false=>
      some false
    else
    some false
   else
   if a1.Has=true then
    some false
   else
   (y8 a0.New a1.New).bind fun r7=>
   match r7 with
   |true=>
    some true
   |false=>
    some false
  |false=>
   some false
 |false=>
  some false
theorem O5 (a0:GChange) (a1:GChange):Oc (vS a0 a1) 45 [] [.val true (U7 a0),.val true (U7 a1)] fun r=>(vb r,[]):=tc (
 .cl (Ma a0.Path a1.Path) fun r1=>.vN 0 r1 (
  .sp (a0.Had=true) (fun c2=>.sp (a1.Had=true) (fun c3=>.eb c2 c3<|.cl (wK a0.Old a1.Old) fun r4=>.vN 0 r4 (
     .sp (a0.Has=true) (fun c5=>.sp (a1.Has=true) (fun c6=>.eb c5 c6<|.cl (wK a0.New a1.New) fun r7=>.vN 0 r7 (
        .ret true)<|.ret false) fun c6=>.eb c5 (bF c6)<|.ret false) fun c5=>.sp (a1.Has=true) (fun c6=>.eb (bF c5) c6<|.ret false) fun c6=>.eb (bF c5) (bF c6)<|.cl (wK a0.New a1.New) fun r7=>.vN 0 r7 (
      .ret true)<|.ret false)<|.ret false) fun c3=>.eb c2 (bF c3)<|.ret false) fun c2=>.sp (a1.Had=true) (fun c3=>.eb (bF c2) c3<|.ret false) fun c3=>.eb (bF c2) (bF c3)<|.cl (wK a0.Old a1.Old) fun r4=>.vN 0 r4 (
   .sp (a0.Has=true) (fun c5=>.sp (a1.Has=true) (fun c6=>.eb c5 c6<|.cl (wK a0.New a1.New) fun r7=>.vN 0 r7 (
      .ret true)<|.ret false) fun c6=>.eb c5 (bF c6)<|.ret false) fun c5=>.sp (a1.Has=true) (fun c6=>.eb (bF c5) c6<|.ret false) fun c6=>.eb (bF c5) (bF c6)<|.cl (wK a0.New a1.New) fun r7=>.vN 0 r7 (
    .ret true)<|.ret false)<|.ret false)<|.ret false) (zf Tryz.func45)
def Ke (F:(List GChange)→(List GChange)→Option Bool):Prop:=∀(a0:(List GChange)) (a1:(List GChange)),Oc (F a0 a1) 11 [] [vq yg a0,vq yg a1] fun r=>(vb r,[])
def wO (a0:(List GChange)) (a1:(List GChange)):Nat→Int→Option (Bool⊕Int)
 |0,_=>none
 |m+1,v2=>
 if v2<(a0.length:Int)then
  (zn v2).bind fun i2=>
  (a0[i2]?).bind fun x3=>
  (a1[i2]?).bind fun x4=>
  (vS x3 x4).bind fun r5=>
  match r5 with
  |true=>
   wO a0 a1 m (w64 (v2+1))
  |false=>
   some (.inl false)
 else
 some (.inr v2)
theorem Rh (a0:(List GChange)) (a1:(List GChange)) (m:Nat):∀(v2:Int),Ol (wO a0 a1 m v2) 11 (zD Tryz.f11 0) ⟨[(0,vq yg a0),(1,vq yg a1),(5,vi v2)],[],0⟩ fun o=>match o with | .inl o_0=>(.ret,⟨[(4,vb o_0)],[],0⟩)| .inr (o_1)=>(.exit 0,⟨[(0,vq yg a0),(1,vq yg a1),(5,vi o_1),(14,vb false)],[],0⟩):=by
 induction m with
 |zero=>intro v2 o h;cases h
 |succ m ih=>exact fun v2=>tlp (
  .le yg a0<|.lI v2 (a0.length:Int) (fun c1=>.na v2 fun i2=>.ix vV a0 i2 fun x3=>.ag 1<|.ix vV a1 i2 fun x4=>.cl (O5 x3 x4) fun r5=>.vN 0 r5 (
    .go (ih (w64 (v2+1))))<|.ret (.inl false)) fun c1=>.ret (.inr v2))
def XX (n:Nat) (a0:(List GChange)) (a1:(List GChange)):Option Bool:=
 if(a0.length:Int)=(a1.length:Int)then
  (wO a0 a1 n 0).bind fun o2=>
  match o2 with
  | .inl o2_0=>
   some o2_0
  | .inr (o2_1)=>
   some true
 else
 some false
theorem O6 (n:Nat):Ke (XX n):=fun a0 a1=>tc (
 .le yg a0<|.le yg a1<|.eI (a0.length:Int) (a1.length:Int) (fun c1=>.l2 (Rh a0 a1 n 0) (fun o2_0=>.ret o2_0) fun o2_1=>.ret true) fun c1=>.ret false) (zf Tryz.func11)
theorem DF {v:GChange} (h:X7 v<=2 ^ 39):vS v v=some true:=by
 unfold X7 at h
 have e1:kK v.Path v.Path=some true:=if_pos ⟨rfl,by omega⟩
 have e2:y8 v.Old v.Old=some true:=if_pos ⟨rfl,by omega⟩
 have e3:y8 v.New v.New=some true:=if_pos ⟨rfl,by omega⟩
 unfold vS
 rw[e1,oB]
 dsimp only
 rw[e2,oB,e3,oB]
 by_cases c1:v.Had=true
 ·rw[if_pos c1,if_pos c1]
  by_cases c2:v.Has=true
  ·rw[if_pos c2,if_pos c2]
  ·rw[if_neg c2,if_neg c2]
 ·rw[if_neg c1,if_neg c1]
  by_cases c2:v.Has=true
  ·rw[if_pos c2,if_pos c2]
  ·rw[if_neg c2,if_neg c2]
theorem N5 {a:List GChange} (ha:a.length<=2 ^ 40) (hG:∀v∈a,vS v v=some true):∀(d i m:Nat),i+d=a.length→d<m→∃z,wO a a m (i:Int)=some (.inr z):=by
 intro d
 induction d with
 |zero=>
  intro i m hi hm
  obtain⟨m,rfl,_⟩:=zg hm
  exact⟨_,by rw[wO,if_neg (by omega)]⟩
 |succ d ih=>
  intro i m hi hm
  obtain⟨m,rfl,hm'⟩:=zg hm
  have hil:i<a.length:=by omega
  rw[wO,if_pos (by omega),zb,oB,zj hil,oB,oB,hG _ (List.getElem_mem hil),oB,zG (by omega)]
  exact ih (i+1) m (by omega) (by omega)
open Classical in
noncomputable def kX (a0:(List GChange)) (a1:(List GChange)):Option Bool:=if a0=a1∧zY a0<=2 ^ 39 then some true else none
theorem ED {s:List GChange} (h:zY s<=2 ^ 39):kX s s=some true:=if_pos ⟨rfl,h⟩
theorem Th (a0:(List GChange)) (a1:(List GChange)) (r:Bool) (h:kX a0 a1=some r):∃n,XX n a0 a1=some r:=by
 unfold kX at h
 obtain⟨⟨he,ha⟩,h2⟩:=zB h
 clear h
 subst he
 have hl:=k9 a0
 refine⟨a0.length+1,?_⟩
 obtain⟨z,hz⟩:=N5 (a:=a0) (by omega) (fun v hv=>DF (by have:=Gx hv;omega)) a0.length 0 (a0.length+1) (by omega) (by omega)
 rw[show((0:Nat):Int)=0 from rfl]at hz
 unfold XX
 rw[if_pos rfl,hz];exact h2
theorem P1:Ke kX:=fun a0 a1 r h=>(Th a0 a1 r h).elim fun n hn=>O6 n a0 a1 r hn
def ZA (a0:GEntry) (a1:GEntry):Option Bool:=
 (zX a0.Addr a1.Addr).bind fun r1=>
 match r1 with
 |true=>
  (y8 a0.Val a1.Val).bind fun r2=>
  match r2 with
  |true=>
   (xY a0.Deps a1.Deps).bind fun r3=>
   match r3 with
   |true=>
    if a0.Taint=true then
     if a1.Taint=true then
      if a0.Turned=a1.Turned then
       some true
      else
      some false
     else
     some false
    else
    if a1.Taint=true then
     some false
    else
    if a0.Turned=a1.Turned then
     some true
    else
    some false
   |false=>
    some false
  |false=>
   some false
 |false=>
  some false
theorem Me (a0:GEntry) (a1:GEntry):Oc (ZA a0 a1) 152 [] [.val true (Zh a0),.val true (Zh a1)] fun r=>(vb r,[]):=tc (
 .cl (xX a0.Addr a1.Addr) fun r1=>.vN 0 r1 (
  .cl (wK a0.Val a1.Val) fun r2=>.vN 0 r2 (
   .cl (XW a0.Deps a1.Deps) fun r3=>.vN 0 r3 (
    .sp (a0.Taint=true) (fun c4=>.sp (a1.Taint=true) (fun c5=>.eb c4 c5<|.eI a0.Turned a1.Turned (fun c6=>.ret true) fun c6=>.ret false) fun c5=>.eb c4 (bF c5)<|.ret false) fun c4=>.sp (a1.Taint=true) (fun c5=>.eb (bF c4) c5<|.ret false) fun c5=>.eb (bF c4) (bF c5)<|.eI a0.Turned a1.Turned (fun c6=>.ret true) fun c6=>.ret false)<|.ret false)<|.ret false)<|.ret false) (zf Tryz.func152)
def KQ (F:(List GEntry)→(List GEntry)→Option Bool):Prop:=∀(a0:(List GEntry)) (a1:(List GEntry)),Oc (F a0 a1) 100 [] [vq zq a0,vq zq a1] fun r=>(vb r,[])
def qA (a0:(List GEntry)) (a1:(List GEntry)):Nat→Int→Option (Bool⊕Int)
 |0,_=>none
 |m+1,v2=>
 if v2<(a0.length:Int)then
  (zn v2).bind fun i2=>
  (a0[i2]?).bind fun x3=>
  (a1[i2]?).bind fun x4=>
  (ZA x3 x4).bind fun r5=>
  match r5 with
  |true=>
   qA a0 a1 m (w64 (v2+1))
  |false=>
   some (.inl false)
 else
 some (.inr v2)
theorem Ti (a0:(List GEntry)) (a1:(List GEntry)) (m:Nat):∀(v2:Int),Ol (qA a0 a1 m v2) 100 (zD Tryz.f100 0) ⟨[(0,vq zq a0),(1,vq zq a1),(5,vi v2)],[],0⟩ fun o=>match o with | .inl o_0=>(.ret,⟨[(4,vb o_0)],[],0⟩)| .inr (o_1)=>(.exit 0,⟨[(0,vq zq a0),(1,vq zq a1),(5,vi o_1),(14,vb false)],[],0⟩):=by
 induction m with
 |zero=>intro v2 o h;cases h
 |succ m ih=>exact fun v2=>tlp (
  .le zq a0<|.lI v2 (a0.length:Int) (fun c1=>.na v2 fun i2=>.ix ym a0 i2 fun x3=>.ag 1<|.ix ym a1 i2 fun x4=>.cl (Me x3 x4) fun r5=>.vN 0 r5 (
    .go (ih (w64 (v2+1))))<|.ret (.inl false)) fun c1=>.ret (.inr v2))
def WN (n:Nat) (a0:(List GEntry)) (a1:(List GEntry)):Option Bool:=
 if(a0.length:Int)=(a1.length:Int)then
  (qA a0 a1 n 0).bind fun o2=>
  match o2 with
  | .inl o2_0=>
   some o2_0
  | .inr (o2_1)=>
   some true
 else
 some false
theorem Mf (n:Nat):KQ (WN n):=fun a0 a1=>tc (
 .le zq a0<|.le zq a1<|.eI (a0.length:Int) (a1.length:Int) (fun c1=>.l2 (Ti a0 a1 n 0) (fun o2_0=>.ret o2_0) fun o2_1=>.ret true) fun c1=>.ret false) (zf Tryz.func100)
theorem GZ {a:List GEntry} (ha:a.length<=2 ^ 40) (hG:∀v∈a,ZA v v=some true):∀(d i m:Nat),i+d=a.length→d<m→∃z,qA a a m (i:Int)=some (.inr z):=by
 intro d
 induction d with
 |zero=>
  intro i m hi hm
  obtain⟨m,rfl,_⟩:=zg hm
  exact⟨_,by rw[qA,if_neg (by omega)]⟩
 |succ d ih=>
  intro i m hi hm
  obtain⟨m,rfl,hm'⟩:=zg hm
  have hil:i<a.length:=by omega
  rw[qA,if_pos (by omega),zb,oB,zj hil,oB,oB,hG _ (List.getElem_mem hil),oB,zG (by omega)]
  exact ih (i+1) m (by omega) (by omega)
theorem Ax {v:GEntry} (h:esz v<=2 ^ 39):ZA v v=some true:=by
 unfold esz at h
 unfold ZA zX y8 xY
 rw[if_pos ⟨rfl,by omega⟩,oB]
 dsimp only
 rw[if_pos ⟨rfl,by omega⟩,oB]
 dsimp only
 rw[if_pos ⟨rfl,by omega⟩,oB]
 dsimp only
 rw[if_pos rfl]
 cases v.Taint <;> rfl
open Classical in
noncomputable def kg (a0:(List GEntry)) (a1:(List GEntry)):Option Bool:=if a0=a1∧yG a0<=2 ^ 39 then some true else none
theorem PF {s:List GEntry} (h:yG s<=2 ^ 39):kg s s=some true:=if_pos ⟨rfl,h⟩
theorem Us (a0:(List GEntry)) (a1:(List GEntry)) (r:Bool) (h:kg a0 a1=some r):∃n,WN n a0 a1=some r:=by
 unfold kg at h
 obtain⟨⟨he,ha⟩,h2⟩:=zB h
 clear h
 subst he
 have hl:=kj a0
 refine⟨a0.length+1,?_⟩
 obtain⟨z,hz⟩:=GZ (a:=a0) (by omega) (fun v hv=>Ax (by have:=Wg hv;omega)) a0.length 0 (a0.length+1) (by omega) (by omega)
 rw[show((0:Nat):Int)=0 from rfl]at hz
 unfold WN
 rw[if_pos rfl,hz];exact h2
theorem Kf:KQ kg:=fun a0 a1 r h=>(Us a0 a1 r h).elim fun n hn=>Mf n a0 a1 r hn
def Xt (a0:GState) (a1:GState):Option Bool:=
 if a0.Serial=a1.Serial then
  if a0.Open=true then
   if a1.Open=true then
    (zX a0.Pending a1.Pending).bind fun r4=>
    match r4 with
    |true=>
     if a0.Act=a1.Act then
      (kg a0.Entries a1.Entries).bind fun r6=>
      match r6 with
      |true=>
       some true
      |false=>
       some false
     else
     some false
    |false=>
     some false
   else
   some false
  else
  if a1.Open=true then
   some false
  else
  (zX a0.Pending a1.Pending).bind fun r4=>
  match r4 with
  |true=>
   if a0.Act=a1.Act then
    (kg a0.Entries a1.Entries).bind fun r6=>
    match r6 with
    |true=>
     some true
    |false=>
     some false
   else
   some false
  |false=>
   some false
 else
 some false
theorem Mg (a0:GState) (a1:GState):Oc (Xt a0 a1) 46 [] [.val true (y9 a0),.val true (y9 a1)] fun r=>(vb r,[]):=tc (
 .eI a0.Serial a1.Serial (fun c1=>.sp (a0.Open=true) (fun c2=>.sp (a1.Open=true) (fun c3=>.eb c2 c3<|.cl (xX a0.Pending a1.Pending) fun r4=>.vN 0 r4 (
     .eI a0.Act a1.Act (fun c5=>.cl (Kf a0.Entries a1.Entries) fun r6=>.vN 0 r6 (
       .ret true)<|.ret false) fun c5=>.ret false)<|.ret false) fun c3=>.eb c2 (bF c3)<|.ret false) fun c2=>.sp (a1.Open=true) (fun c3=>.eb (bF c2) c3<|.ret false) fun c3=>.eb (bF c2) (bF c3)<|.cl (xX a0.Pending a1.Pending) fun r4=>.vN 0 r4 (
   .eI a0.Act a1.Act (fun c5=>.cl (Kf a0.Entries a1.Entries) fun r6=>.vN 0 r6 (
     .ret true)<|.ret false) fun c5=>.ret false)<|.ret false) fun c1=>.ret false) (zf Tryz.func46)
def ZB (a0:GEvent) (a1:GEvent):Option Bool:=
 if a0.Kind=a1.Kind then
  (zX a0.Addr a1.Addr).bind fun r2=>
  match r2 with
  |true=>
   if a0.Act=a1.Act then
    (y8 a0.Val a1.Val).bind fun r4=>
    match r4 with
    |true=>
     (xY a0.Deps a1.Deps).bind fun r5=>
     match r5 with
     |true=>
      some true
     |false=>
      some false
    |false=>
     some false
   else
   some false
  |false=>
   some false
 else
 some false
theorem Mh (a0:GEvent) (a1:GEvent):Oc (ZB a0 a1) 101 [] [.val true (ve a0),.val true (ve a1)] fun r=>(vb r,[]):=tc (
 .eI a0.Kind a1.Kind (fun c1=>.cl (xX a0.Addr a1.Addr) fun r2=>.vN 0 r2 (
   .eI a0.Act a1.Act (fun c3=>.cl (wK a0.Val a1.Val) fun r4=>.vN 0 r4 (
     .cl (XW a0.Deps a1.Deps) fun r5=>.vN 0 r5 (
      .ret true)<|.ret false)<|.ret false) fun c3=>.ret false)<|.ret false) fun c1=>.ret false) (zf Tryz.func101)
def KR (F:(List GEvent)→(List GEvent)→Option Bool):Prop:=∀(a0:(List GEvent)) (a1:(List GEvent)),Oc (F a0 a1) 47 [] [vq zN a0,vq zN a1] fun r=>(vb r,[])
def qB (a0:(List GEvent)) (a1:(List GEvent)):Nat→Int→Option (Bool⊕Int)
 |0,_=>none
 |m+1,v2=>
 if v2<(a0.length:Int)then
  (zn v2).bind fun i2=>
  (a0[i2]?).bind fun x3=>
  (a1[i2]?).bind fun x4=>
  (ZB x3 x4).bind fun r5=>
  match r5 with
  |true=>
   qB a0 a1 m (w64 (v2+1))
  |false=>
   some (.inl false)
 else
 some (.inr v2)
theorem Tj (a0:(List GEvent)) (a1:(List GEvent)) (m:Nat):∀(v2:Int),Ol (qB a0 a1 m v2) 47 (zD Tryz.f47 0) ⟨[(0,vq zN a0),(1,vq zN a1),(5,vi v2)],[],0⟩ fun o=>match o with | .inl o_0=>(.ret,⟨[(4,vb o_0)],[],0⟩)| .inr (o_1)=>(.exit 0,⟨[(0,vq zN a0),(1,vq zN a1),(5,vi o_1),(14,vb false)],[],0⟩):=by
 induction m with
 |zero=>intro v2 o h;cases h
 |succ m ih=>exact fun v2=>tlp (
  .le zN a0<|.lI v2 (a0.length:Int) (fun c1=>.na v2 fun i2=>.ix ZO a0 i2 fun x3=>.ag 1<|.ix ZO a1 i2 fun x4=>.cl (Mh x3 x4) fun r5=>.vN 0 r5 (
    .go (ih (w64 (v2+1))))<|.ret (.inl false)) fun c1=>.ret (.inr v2))
def WO (n:Nat) (a0:(List GEvent)) (a1:(List GEvent)):Option Bool:=
 if(a0.length:Int)=(a1.length:Int)then
  (qB a0 a1 n 0).bind fun o2=>
  match o2 with
  | .inl o2_0=>
   some o2_0
  | .inr (o2_1)=>
   some true
 else
 some false
theorem Mi (n:Nat):KR (WO n):=fun a0 a1=>tc (
 .le zN a0<|.le zN a1<|.eI (a0.length:Int) (a1.length:Int) (fun c1=>.l2 (Tj a0 a1 n 0) (fun o2_0=>.ret o2_0) fun o2_1=>.ret true) fun c1=>.ret false) (zf Tryz.func47)
theorem Ha {a:List GEvent} (ha:a.length<=2 ^ 40) (hG:∀v∈a,ZB v v=some true):∀(d i m:Nat),i+d=a.length→d<m→∃z,qB a a m (i:Int)=some (.inr z):=by
 intro d
 induction d with
 |zero=>
  intro i m hi hm
  obtain⟨m,rfl,_⟩:=zg hm
  exact⟨_,by rw[qB,if_neg (by omega)]⟩
 |succ d ih=>
  intro i m hi hm
  obtain⟨m,rfl,hm'⟩:=zg hm
  have hil:i<a.length:=by omega
  rw[qB,if_pos (by omega),zb,oB,zj hil,oB,oB,hG _ (List.getElem_mem hil),oB,zG (by omega)]
  exact ih (i+1) m (by omega) (by omega)
theorem Ay {v:GEvent} (h:jA v<=2 ^ 39):ZB v v=some true:=by
 unfold jA at h
 unfold ZB zX y8 xY
 rw[if_pos rfl,if_pos ⟨rfl,by omega⟩,oB]
 dsimp only
 rw[if_pos rfl,if_pos ⟨rfl,by omega⟩,oB]
 dsimp only
 rw[if_pos ⟨rfl,by omega⟩,oB]
open Classical in
noncomputable def vT (a0:(List GEvent)) (a1:(List GEvent)):Option Bool:=if a0=a1∧y3 a0<=2 ^ 39 then some true else none
theorem DH {s:List GEvent} (h:y3 s<=2 ^ 39):vT s s=some true:=if_pos ⟨rfl,h⟩
theorem Ut (a0:(List GEvent)) (a1:(List GEvent)) (r:Bool) (h:vT a0 a1=some r):∃n,WO n a0 a1=some r:=by
 unfold vT at h
 obtain⟨⟨he,ha⟩,h2⟩:=zB h
 clear h
 subst he
 have hl:=YT a0
 refine⟨a0.length+1,?_⟩
 obtain⟨z,hz⟩:=Ha (a:=a0) (by omega) (fun v hv=>Ay (by have:=U9 hv;omega)) a0.length 0 (a0.length+1) (by omega) (by omega)
 rw[show((0:Nat):Int)=0 from rfl]at hz
 unfold WO
 rw[if_pos rfl,hz];exact h2
theorem O7:KR vT:=fun a0 a1 r h=>(Ut a0 a1 r h).elim fun n hn=>Mi n a0 a1 r hn
def kY (a0:GHistory) (a1:GHistory):Option Bool:=
 (Xt a0.Base a1.Base).bind fun r1=>
 match r1 with
 |true=>
  (vT a0.Events a1.Events).bind fun r2=>
  match r2 with
  |true=>
   if a0.Safe=a1.Safe then
    some true
   else
   some false
  |false=>
   some false
 |false=>
  some false
theorem Jp (a0:GHistory) (a1:GHistory):Oc (kY a0 a1) 12 [] [.val true (xv a0),.val true (xv a1)] fun r=>(vb r,[]):=tc (
 .cl (Mg a0.Base a1.Base) fun r1=>.vN 0 r1 (
  .cl (O7 a0.Events a1.Events) fun r2=>.vN 0 r2 (
   .eI a0.Safe a1.Safe (fun c3=>.ret true) fun c3=>.ret false)<|.ret false)<|.ret false) (zf Tryz.func12)
def Kg (F:Int→(List UInt8)→Option (Int×(List UInt8))):Prop:=∀(a0:Int) (e0:(List UInt8)),Oc (F a0 e0) 15 [.obj 1 (eL za e0)] [vr 0,vi a0] fun r=>(vi r.1,[.obj 1 (eL za r.2)])
def wP:Nat→Int→Int→(List UInt8)→Option (Int×Int×(List UInt8))
 |0,_,_,_=>none
 |m+1,a0,v1,e0=>
 if v1<(e0.length:Int)then
  (zn v1).bind fun i2=>
  (e0[i2]?).bind fun x3=>
  wP m (w64 (a0+1)) (w64 (v1+1)) (e0.set i2 (b8 a0))
 else
 some (a0,v1,e0)
theorem Ri (m:Nat):∀(a0:Int) (v1:Int) (e0:(List UInt8)),Ol (wP m a0 v1 e0) 15 (zD Tryz.f15 0) ⟨[(0,vr 0),(1,vi a0),(5,vi v1)],[.obj 1 (eL za e0)],1⟩ fun o=>match o with |⟨o_0,o_1,o_2⟩=>(.exit 0,⟨[(0,vr 0),(1,vi o_0),(5,vi o_1),(9,vb false)],[.obj 1 (eL za o_2)],1⟩):=by
 induction m with
 |zero=>intro a0 v1 e0 o h;cases h
 |succ m ih=>exact fun a0 v1 e0=>tlp (
  .le za e0<|.lI v1 (e0.length:Int) (fun c1=>.na v1 fun i2=>.ix0 za e0 i2 fun x3=>.ag 0<|.sl (e:=za) (x:=(b8 a0)) (c:=[.int .u8 (((b8 a0).toNat:Nat):Int)]) rfl e0 i2<|.go (ih (w64 (a0+1)) (w64 (v1+1)) (e0.set i2 (b8 a0)))) fun c1=>.ret (a0,v1,e0))
def XY (n:Nat) (a0:Int) (e0:(List UInt8)):Option (Int×(List UInt8)):=
 (wP n a0 0 e0).bind fun⟨o1_0,o1_1,o1_2⟩=>
 some (o1_0,o1_2)
theorem O8 (n:Nat):Kg (XY n):=fun a0 e0=>tc (
 .lp (Ri n a0 0 e0) fun⟨o1_0,o1_1,o1_2⟩=>.ret (o1_0,o1_2)) (zf Tryz.func15)
theorem N6:∀(l p:List UInt8) (k:Int) (m:Nat),0<=k→k+2*l.length<=2 ^ 41→p.length+l.length<=2 ^ 41→l.length<m→∃z,wP m k (p.length:Int) (p++l)=some (k+l.length,z,p++mB k l):=by
 intro l
 induction l with
 |nil=>
  intro p k m _ _ _ hm
  obtain⟨m,rfl,_⟩:=zg hm
  exact⟨_,by rw[wP,if_neg (xF p)];simp[mB];rfl⟩
 |cons x l ih=>
  intro p k m h0 h1 h2 hm
  obtain⟨m,rfl,hm'⟩:=zg hm
  simp only[List.length_cons]at h1 h2 hm'
  obtain⟨z,hz⟩:=ih (p++[b8 k]) (k+1) m (by omega) (by omega) (by simp;omega) (by omega)
  rw[wP,if_pos (ZE p x l),zb,oB,zp,oB,yW,ye p (b8 k) (by omega),zR (x:=k+1) (by omega) (by omega),Qz p (b8 k) l,hz]
  refine⟨z,?_⟩
  rw[mB,Qz p (b8 k) (mB (k+1) l)]
  simp only[List.length_cons]
  rw[show k+1+(l.length:Int)=k+((l.length+1:Nat):Int) by omega]
def yb (a0:Int) (e0:(List UInt8)):Option (Int×(List UInt8)):=if 0<=a0∧a0+2*e0.length<=2 ^ 41 then some (a0+e0.length,mB a0 e0)else none
theorem wk {a:Int} {s:List UInt8} (h0:0<=a) (h1:a+2*s.length<=2 ^ 41):yb a s=some (a+s.length,mB a s):=if_pos ⟨h0,h1⟩
theorem Tk (a0:Int) (e0:(List UInt8)) (r:(Int×(List UInt8))) (h:yb a0 e0=some r):∃n,XY n a0 e0=some r:=by
 unfold yb at h
 obtain⟨⟨h0,h1⟩,h⟩:=zB h
 obtain⟨z,hz⟩:=N6 e0 [] a0 (e0.length+1) h0 h1 (by simp;omega) (by omega)
 refine⟨e0.length+1,?_⟩
 unfold XY
 simp only[List.nil_append,List.length_nil,Int.natCast_zero]at hz
 rw[hz]
 exact h
theorem yA:Kg yb:=fun a0 e0 r h=>(Tk a0 e0 r h).elim fun n hn=>O8 n a0 e0 r hn
def Jq (F:Int→(List (List UInt8))→Option (Int×(List (List UInt8)))):Prop:=∀(a0:Int) (e0:(List (List UInt8))),Oc (F a0 e0) 25 [.obj 1 (eL (yn 1 za) e0)] [vr 0,vi a0] fun r=>(vi r.1,[.obj 1 (eL (yn 1 za) r.2)])
def ww:Nat→Int→Int→(List (List UInt8))→Option (Int×Int×(List (List UInt8)))
 |0,_,_,_=>none
 |m+1,a0,v1,e0=>
 if v1<(e0.length:Int)then
  (zn v1).bind fun i2=>
  (e0[i2]?).bind fun x3=>
  (yb a0 x3).bind fun⟨r4_0,r4_1⟩=>
  ww m r4_0 (w64 (v1+1)) (e0.set i2 r4_1)
 else
 some (a0,v1,e0)
theorem V0 (m:Nat):∀(a0:Int) (v1:Int) (e0:(List (List UInt8))),Ol (ww m a0 v1 e0) 25 (zD Tryz.f25 0) ⟨[(0,vr 0),(1,vi a0),(5,vi v1)],[.obj 1 (eL (yn 1 za) e0)],1⟩ fun o=>match o with |⟨o_0,o_1,o_2⟩=>(.exit 0,⟨[(0,vr 0),(1,vi o_0),(5,vi o_1),(9,vb false)],[.obj 1 (eL (yn 1 za) o_2)],1⟩):=by
 induction m with
 |zero=>intro a0 v1 e0 o h;cases h
 |succ m ih=>exact fun a0 v1 e0=>tlp (
  .le (yn 1 za) e0<|.lI v1 (e0.length:Int) (fun c1=>.na v1 fun i2=>.ix0 (yn 1 za) e0 i2 fun x3=>.ag 0<|.cl (yA a0 x3) fun⟨r4_0,r4_1⟩=>.ag 1<|.sl (e:=(yn 1 za)) (x:=r4_1) (c:=[.own 1 (eL za r4_1)]) rfl e0 i2<|.go (ih r4_0 (w64 (v1+1)) (e0.set i2 r4_1))) fun c1=>.ret (a0,v1,e0))
def X1 (n:Nat) (a0:Int) (e0:(List (List UInt8))):Option (Int×(List (List UInt8))):=
 (ww n a0 0 e0).bind fun⟨o1_0,o1_1,o1_2⟩=>
 some (o1_0,o1_2)
theorem P2 (n:Nat):Jq (X1 n):=fun a0 e0=>tc (
 .lp (V0 n a0 0 e0) fun⟨o1_0,o1_1,o1_2⟩=>.ret (o1_0,o1_2)) (zf Tryz.func25)
theorem Mj:∀(l p:List (List UInt8)) (k:Int) (m:Nat),0<=k→k+2*bsz l<=2 ^ 41→p.length+l.length<=2 ^ 41→l.length<m→∃z,ww m k (p.length:Int) (p++l)=some (k+cB l,z,p++mBB k l):=by
 intro l
 induction l with
 |nil=>
  intro p k m _ _ _ hm
  obtain⟨m,rfl,_⟩:=zg hm
  exact⟨_,by rw[ww,if_neg (xF p)];simp[mBB,cB];rfl⟩
 |cons x l ih=>
  intro p k m h0 h1 h2 hm
  obtain⟨m,rfl,hm'⟩:=zg hm
  rw[Dc]at h1
  simp only[List.length_cons]at h2 hm'
  obtain⟨z,hz⟩:=ih (p++[mB k x]) (k+x.length) m (by omega) (by omega) (by simp;omega) (by omega)
  rw[ww,if_pos (ZE p x l),zb,oB,zp,oB,wk (by omega) (by omega),oB]
  dsimp only
  rw[yW,ye p (mB k x) (by omega),Qz p (mB k x) l,hz]
  refine⟨z,?_⟩
  rw[mBB,Qz p (mB k x) (mBB (k+x.length) l),Br]
  rw[show k+(x.length:Int)+(cB l:Int)=k+((x.length+cB l:Nat):Int) by omega]
def yM (a0:Int) (e0:(List (List UInt8))):Option (Int×(List (List UInt8))):=if 0<=a0∧a0+2*bsz e0<=2 ^ 41 then some (a0+cB e0,mBB a0 e0)else none
theorem ki {a:Int} {s:List (List UInt8)} (h0:0<=a) (h1:a+2*bsz s<=2 ^ 41):yM a s=some (a+cB s,mBB a s):=if_pos ⟨h0,h1⟩
theorem Rj (a0:Int) (e0:(List (List UInt8))) (r:(Int×(List (List UInt8)))) (h:yM a0 e0=some r):∃n,X1 n a0 e0=some r:=by
 unfold yM at h
 obtain⟨⟨h0,h1⟩,h⟩:=zB h
 have:=wT e0
 obtain⟨z,hz⟩:=Mj e0 [] a0 (e0.length+1) h0 h1 (by simp;omega) (by omega)
 refine⟨e0.length+1,?_⟩
 unfold X1
 simp only[List.nil_append,List.length_nil,Int.natCast_zero]at hz
 rw[hz]
 exact h
theorem wl:Jq yM:=fun a0 e0 r h=>(Rj a0 e0 r h).elim fun n hn=>P2 n a0 e0 r hn
def ko (F:Int→(List GValue)→Option (Int×(List GValue))):Prop:=∀(a0:Int) (e0:(List GValue)),Oc (F a0 e0) 51 [.obj 5 (eL zt e0)] [vr 0,vi a0] fun r=>(vi r.1,[.obj 5 (eL zt r.2)])
def wx (G_laws_markValueS:Int→(List GValue)→Option (Int×(List GValue))):Nat→Int→Int→(List GValue)→Option (Int×Int×(List GValue))
 |0,_,_,_=>none
 |m+1,a0,v1,e0=>
 if v1<(e0.length:Int)then
  (zn v1).bind fun i2=>
  (e0[i2]?).bind fun x3=>
  ((e0.set i2 (GValue.mk a0 x3.N x3.S x3.K x3.L))[i2]?).bind fun x4=>
  (((e0.set i2 (GValue.mk a0 x3.N x3.S x3.K x3.L)).set i2 (GValue.mk x4.Kind (w64 (a0+1)) x4.S x4.K x4.L))[i2]?).bind fun x5=>
  (yb (w64 ((w64 (a0+1))+1)) x5.S).bind fun⟨r6_0,r6_1⟩=>
  ((((e0.set i2 (GValue.mk a0 x3.N x3.S x3.K x3.L)).set i2 (GValue.mk x4.Kind (w64 (a0+1)) x4.S x4.K x4.L)).set i2 (GValue.mk x5.Kind x5.N r6_1 x5.K x5.L))[i2]?).bind fun x7=>
  (yM r6_0 x7.K).bind fun⟨r8_0,r8_1⟩=>
  (((((e0.set i2 (GValue.mk a0 x3.N x3.S x3.K x3.L)).set i2 (GValue.mk x4.Kind (w64 (a0+1)) x4.S x4.K x4.L)).set i2 (GValue.mk x5.Kind x5.N r6_1 x5.K x5.L)).set i2 (GValue.mk x7.Kind x7.N x7.S r8_1 x7.L))[i2]?).bind fun x9=>
  (G_laws_markValueS r8_0 x9.L).bind fun⟨r10_0,r10_1⟩=>
  wx G_laws_markValueS m r10_0 (w64 (v1+1)) (((((e0.set i2 (GValue.mk a0 x3.N x3.S x3.K x3.L)).set i2 (GValue.mk x4.Kind (w64 (a0+1)) x4.S x4.K x4.L)).set i2 (GValue.mk x5.Kind x5.N r6_1 x5.K x5.L)).set i2 (GValue.mk x7.Kind x7.N x7.S r8_1 x7.L)).set i2 (GValue.mk x9.Kind x9.N x9.S x9.K r10_1))
 else
 some (a0,v1,e0)
theorem V1 (G_laws_markValueS:Int→(List GValue)→Option (Int×(List GValue))) (H_laws_markValueS:ko G_laws_markValueS) (m:Nat):∀(a0:Int) (v1:Int) (e0:(List GValue)),Ol (wx G_laws_markValueS m a0 v1 e0) 51 (zD Tryz.f51 0) ⟨[(0,vr 0),(1,vi a0),(5,vi v1)],[.obj 5 (eL zt e0)],1⟩ fun o=>match o with |⟨o_0,o_1,o_2⟩=>(.exit 0,⟨[(0,vr 0),(1,vi o_0),(5,vi o_1),(9,vb false)],[.obj 5 (eL zt o_2)],1⟩):=by
 induction m with
 |zero=>intro a0 v1 e0 o h;cases h
 |succ m ih=>exact fun a0 v1 e0=>tlp (
  .le zt e0<|.lI v1 (e0.length:Int) (fun c1=>.na v1 fun i2=>.ix yJ e0 i2 fun x3=>.ag 0<|.sl (yJ (GValue.mk a0 x3.N x3.S x3.K x3.L)) e0 i2<|.ag 1<|.ix yJ (e0.set i2 (GValue.mk a0 x3.N x3.S x3.K x3.L)) i2 fun x4=>.ag 0<|.sl (yJ (GValue.mk x4.Kind (w64 (a0+1)) x4.S x4.K x4.L)) (e0.set i2 (GValue.mk a0 x3.N x3.S x3.K x3.L)) i2<|.ag 2<|.ix yJ ((e0.set i2 (GValue.mk a0 x3.N x3.S x3.K x3.L)).set i2 (GValue.mk x4.Kind (w64 (a0+1)) x4.S x4.K x4.L)) i2 fun x5=>.ag 0<|.cl (yA (w64 ((w64 (a0+1))+1)) x5.S) fun⟨r6_0,r6_1⟩=>.ag 1<|.sl (yJ (GValue.mk x5.Kind x5.N r6_1 x5.K x5.L)) ((e0.set i2 (GValue.mk a0 x3.N x3.S x3.K x3.L)).set i2 (GValue.mk x4.Kind (w64 (a0+1)) x4.S x4.K x4.L)) i2<|.ag 4<|.ix yJ (((e0.set i2 (GValue.mk a0 x3.N x3.S x3.K x3.L)).set i2 (GValue.mk x4.Kind (w64 (a0+1)) x4.S x4.K x4.L)).set i2 (GValue.mk x5.Kind x5.N r6_1 x5.K x5.L)) i2 fun x7=>.ag 0<|.cl (wl r6_0 x7.K) fun⟨r8_0,r8_1⟩=>.ag 1<|.sl (yJ (GValue.mk x7.Kind x7.N x7.S r8_1 x7.L)) (((e0.set i2 (GValue.mk a0 x3.N x3.S x3.K x3.L)).set i2 (GValue.mk x4.Kind (w64 (a0+1)) x4.S x4.K x4.L)).set i2 (GValue.mk x5.Kind x5.N r6_1 x5.K x5.L)) i2<|.ag 6<|.ix yJ ((((e0.set i2 (GValue.mk a0 x3.N x3.S x3.K x3.L)).set i2 (GValue.mk x4.Kind (w64 (a0+1)) x4.S x4.K x4.L)).set i2 (GValue.mk x5.Kind x5.N r6_1 x5.K x5.L)).set i2 (GValue.mk x7.Kind x7.N x7.S r8_1 x7.L)) i2 fun x9=>.ag 0<|.cl (H_laws_markValueS r8_0 x9.L) fun⟨r10_0,r10_1⟩=>.ag 1<|.sl (yJ (GValue.mk x9.Kind x9.N x9.S x9.K r10_1)) ((((e0.set i2 (GValue.mk a0 x3.N x3.S x3.K x3.L)).set i2 (GValue.mk x4.Kind (w64 (a0+1)) x4.S x4.K x4.L)).set i2 (GValue.mk x5.Kind x5.N r6_1 x5.K x5.L)).set i2 (GValue.mk x7.Kind x7.N x7.S r8_1 x7.L)) i2<|.go (ih r10_0 (w64 (v1+1)) (((((e0.set i2 (GValue.mk a0 x3.N x3.S x3.K x3.L)).set i2 (GValue.mk x4.Kind (w64 (a0+1)) x4.S x4.K x4.L)).set i2 (GValue.mk x5.Kind x5.N r6_1 x5.K x5.L)).set i2 (GValue.mk x7.Kind x7.N x7.S r8_1 x7.L)).set i2 (GValue.mk x9.Kind x9.N x9.S x9.K r10_1)))) fun c1=>.ret (a0,v1,e0))
def X2 (G_laws_markValueS:Int→(List GValue)→Option (Int×(List GValue))) (n:Nat) (a0:Int) (e0:(List GValue)):Option (Int×(List GValue)):=
 (wx G_laws_markValueS n a0 0 e0).bind fun⟨o1_0,o1_1,o1_2⟩=>
 some (o1_0,o1_2)
theorem P3 (G_laws_markValueS:Int→(List GValue)→Option (Int×(List GValue))) (H_laws_markValueS:ko G_laws_markValueS) (n:Nat):ko (X2 G_laws_markValueS n):=fun a0 e0=>tc (
 .lp (V1 G_laws_markValueS H_laws_markValueS n a0 0 e0) fun⟨o1_0,o1_1,o1_2⟩=>.ret (o1_0,o1_2)) (zf Tryz.func51)
def xr:Nat→Int→(List GValue)→Option (Int×(List GValue))
 |0,_,_=>none
 |n+1,a0,e0=>X2 (xr n) n a0 e0
theorem Tn (n:Nat):ko (xr n):=by
 induction n with
 |zero=>exact fun _ _ _ h=>(by rw[xr]at h;cases h)
 |succ n ih=>
  have ih_laws_markValueS:=ih
  exact fun a0 e0 r h=>P3 (xr n) ih_laws_markValueS n a0 e0 r (by rw[xr]at h;exact h)
theorem Mk {G:Int→List GValue→Option (Int×List GValue)}:∀(l p:List GValue) (k:Int) (m:Nat),(∀v∈l,∀i:Int,0<=i→i+2*yX v.L<=2 ^ 41→G i v.L=some (i+cVs v.L,mVs i v.L))→0<=k→k+2*yX l<=2 ^ 41→p.length+l.length<=2 ^ 41→l.length<m→∃z,wx G m k (p.length:Int) (p++l)=some (k+cVs l,z,p++mVs k l):=by
 intro l
 induction l with
 |nil=>
  intro p k m _ _ _ _ hm
  obtain⟨m,rfl,_⟩:=zg hm
  exact⟨_,by rw[wx,if_neg (xF p)];simp[mVs,cVs];rfl⟩
 |cons x l ih=>
  intro p k m hG h0 h1 h2 hm
  obtain⟨m,rfl,hm'⟩:=zg hm
  simp only[List.length_cons]at h2 hm'
  have hx:=hG x List.mem_cons_self
  have hc:=WU x
  obtain⟨kd,n,s,kk,ks⟩:=x
  have hb:=ZF kk
  have hd:=QP ks
  simp only[yX,vsz]at h1
  simp only[cV,vsz]at hc
  simp only[GValue.L]at hx
  obtain⟨z,hz⟩:=ih (p++[mV k (.mk kd n s kk ks)]) (k+cV (.mk kd n s kk ks)) m (fun v hv=>hG v (List.mem_cons_of_mem _ hv)) (by omega) (by simp only[cV];omega) (by simp;omega) (by omega)
  rw[wx,if_pos (ZE p _ l),zb,oB,zp,oB]
  simp only[yW,zp,oB,GValue.Kind,GValue.N,GValue.S,GValue.K,GValue.L]
  rw[zR (x:=k+1) (by omega) (by omega),zR (x:=k+1+1) (by omega) (by omega),wk (by omega) (by omega)]
  simp only[oB,yW,zp,GValue.Kind,GValue.N,GValue.S,GValue.K,GValue.L]
  rw[ki (by omega) (by omega)]
  simp only[oB,yW,zp,GValue.Kind,GValue.N,GValue.S,GValue.K,GValue.L]
  rw[hx _ (by omega) (by omega)]
  simp only[oB,yW,zp,GValue.Kind,GValue.N,GValue.S,GValue.K,GValue.L]
  refine⟨z,?_⟩
  rw[ye p (mV k (.mk kd n s kk ks)) (by omega),show GValue.mk k (k+1) (mB (k+1+1) s) (mBB (k+1+1+s.length) kk) (mVs (k+1+1+s.length+cB kk) ks)=mV k (.mk kd n s kk ks) by simp only[mV],Qz p _ l,
   show k+1+1+(s.length:Int)+(cB kk:Int)+(cVs ks:Int)=k+((cV (.mk kd n s kk ks):Nat):Int) by simp only[cV];omega,hz]
  simp only[mVs,cVs,List.append_assoc,List.singleton_append]
  rw[show k+((cV (.mk kd n s kk ks):Nat):Int)+(cVs l:Int)=k+((cV (.mk kd n s kk ks)+cVs l:Nat):Int) by omega]
theorem EE:∀(N:Nat) (l:List GValue),yX l<N→∀(k:Int) (f:Nat),0<=k→k+2*yX l<=2 ^ 41→yX l+2<=f→xr f k l=some (k+cVs l,mVs k l):=by
 intro N
 induction N with
 |zero=>intro l hl;omega
 |succ N ih=>
  intro l hl k f h0 h1 hf
  obtain⟨f,rfl,_⟩:=zg (show 0<f by omega)
  have hlen:=yS l
  rw[xr]
  unfold X2
  obtain⟨z,hz⟩:=Mk (G:=xr f) l [] k f (fun v hv i g0 g1=>by
   have:=yN hv
   have:=yT v
   exact ih v.L (by omega) i f g0 g1 (by omega)) h0 h1 (by simp;omega) (by omega)
  simp only[List.nil_append,List.length_nil,Int.natCast_zero]at hz
  rw[hz];rfl
def xQ (a0:Int) (e0:(List GValue)):Option (Int×(List GValue)):=if 0<=a0∧a0+2*yX e0<=2 ^ 41 then some (a0+cVs e0,mVs a0 e0)else none
theorem XM {a:Int} {s:List GValue} (h0:0<=a) (h1:a+2*yX s<=2 ^ 41):xQ a s=some (a+cVs s,mVs a s):=if_pos ⟨h0,h1⟩
theorem Rk (a0:Int) (e0:(List GValue)) (r:(Int×(List GValue))) (h:xQ a0 e0=some r):∃n,xr n a0 e0=some r:=by
 unfold xQ at h
 obtain⟨⟨h0,h1⟩,h⟩:=zB h
 exact⟨yX e0+2,by rw[EE _ e0 (Nat.lt_succ_self _) a0 _ h0 h1 (Nat.le_refl _),h]⟩
theorem vU:ko xQ:=by
 intro a0 e0 r h
 obtain⟨n,hn⟩:=Rk a0 e0 r h
 exact(Tn n) a0 e0 r hn
end
end Go.Am.Try
