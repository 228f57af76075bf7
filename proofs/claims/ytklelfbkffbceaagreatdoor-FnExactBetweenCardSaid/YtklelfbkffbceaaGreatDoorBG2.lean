
/- The functions of the program in plain Lean, and that the machine answers as they do; conditions at each theorem. -/
import Derived.Test.YtklelfbkffbceaaGreatDoorBG1
set_option linter.unusedVariables false
set_option linter.unusedSimpArgs false
namespace Go.Am.Try
open Go.Am Go.Proofs
set_option linter.unusedVariables false
set_option maxRecDepth 20000
set_option maxHeartbeats 2000000
noncomputable section
def Vp (F:(List (List UInt8))→Option Bool):Prop:=∀(a0:(List (List UInt8))),Oc (F a0) 188 [] [vq (zl za) a0] fun r=>(vb r,[])
def wB (a0:(List (List UInt8))):Nat→Int→Option (Bool⊕Int)
 |0,_=>none
 |m+1,v1=>
 if v1<(a0.length:Int)then
  (zn v1).bind fun i2=>
  (a0[i2]?).bind fun x3=>
  (wX x3).bind fun r4=>
  match r4 with
  |true=>
   if 0<v1 then
    (zn (w64 (v1 - 1))).bind fun i6=>
    (a0[i6]?).bind fun x7=>
    if Op.bytesLess x7 x3=true then
     wB a0 m (w64 (v1+1))
    else
    some (.inl false)
   else
   wB a0 m (w64 (v1+1))
  |false=>
   some (.inl false)
 else
 some (.inr v1)
theorem TR (a0:(List (List UInt8))) (m:Nat):∀(v1:Int),Ol (wB a0 m v1) 188 (zD Tryz.f188 0) ⟨[(0,vq (zl za) a0),(3,vi v1)],[],0⟩ fun o=>match o with | .inl o_0=>(.ret,⟨[(2,vb o_0)],[],0⟩)| .inr (o_1)=>(.exit 0,⟨[(0,vq (zl za) a0),(3,vi o_1),(10,vb false)],[],0⟩):=by
 induction m with
 |zero=>intro v1 o h;cases h
 |succ m ih=>exact fun v1=>tlp (
  .le (zl za) a0<|.lI v1 (a0.length:Int) (fun c1=>.na v1 fun i2=>.ix0 (zl za) a0 i2 fun x3=>.cl (jo x3) fun r4=>.vN 0 r4 (
    .an 0 0<|.lI 0 v1 (fun c5=>.an 0 0<|.na (w64 (v1 - 1)) fun i6=>.ix0 (zl za) a0 i6 fun x7=>.bt x7<|.ag 5<|.ag 4<|.bt x3<|.bI x7 x3 (fun c8=>.an 0 2<|.an 1 2<|.go (ih (w64 (v1+1)))) fun c8=>.an 0 2<|.an 1 2<|.ret (.inl false)) fun c5=>.an 0 0<|.an 12 0<|.an 1 0<|.go (ih (w64 (v1+1))))<|.an 0 0<|.an 0 0<|.an 0 0<|.an 0 0<|.ret (.inl false)) fun c1=>.ret (.inr v1))
def Qo (n:Nat) (a0:(List (List UInt8))):Option Bool:=
 if 8<(a0.length:Int)then
  some false
 else
 (wB a0 n 0).bind fun o2=>
 match o2 with
 | .inl o2_0=>
  some o2_0
 | .inr (o2_1)=>
  some true
theorem Nm (n:Nat):Vp (Qo n):=fun a0=>tc (
 .le (zl za) a0<|.lI 8 (a0.length:Int) (fun c1=>.ret false) fun c1=>.l2 (TR a0 n 0) (fun o2_0=>.ret o2_0) fun o2_1=>.ret true) (zf Tryz.func188)
theorem KJ {a:List UInt8} (h:a.length<=2 ^ 20):wX a=some (y5 a):=zeh h
theorem Ew {a:List (List UInt8)} (hs:∀x∈a,x.length<=2 ^ 20) (ha:a.length<=2 ^ 40):∀(d i m:Nat),i+d=a.length→d<m→∃z,wB a m (i:Int)=some (if Zk y5 id a i d=true then .inr z else .inl false):=by
 intro d
 induction d with
 |zero=>
  intro i m hi hm
  obtain⟨m,rfl,_⟩:=zg hm
  exact⟨_,by rw[wB,if_neg (by omega)];rfl⟩
 |succ d ih=>
  intro i m hi hm
  obtain⟨m,rfl,hm'⟩:=zg hm
  have hil:i<a.length:=by omega
  rw[wB,if_pos (by omega),zb,oB,zj hil,oB,KJ (hs _ (List.getElem_mem hil)),oB,KU]
  obtain⟨z,hz⟩:=ih (i+1) m (by omega) (by omega)
  cases hx:y5 a[i]with
  |false=>
   refine⟨0,?_⟩
   have:gOk y5 id a i=false:=by
    unfold gOk;rw[zj hil];simp[hx]
   rw[this];rfl
  |true=>
   dsimp only
   by_cases h0:0<i
   ·rw[if_pos (by omega),Zd (by omega) h0,zb,oB,zj (show i - 1<a.length by omega),oB,U8 hil h0,hx,Bool.true_and,zG (by omega),hz]
    by_cases hl:Op.bytesLess a[i - 1] a[i]=true
    ·rw[if_pos hl,show Op.bytesLess (id a[i - 1]) (id a[i])=true from hl,Bool.true_and];exact⟨z,rfl⟩
    ·rw[if_neg hl,show Op.bytesLess (id a[i - 1]) (id a[i])=false from Bool.eq_false_iff.2 hl];exact⟨z,rfl⟩
   ·obtain rfl:i=0:=by omega
    rw[if_neg (by omega),R4 hil,hx,Bool.true_and,zG (by omega),hz]
    exact⟨z,rfl⟩
def js (a0:(List (List UInt8))):Option Bool:=if bsz a0<=2 ^ 20 then some (vY a0)else none
theorem Pl (a0:(List (List UInt8))) (r:Bool) (h:js a0=some r):∃n,Qo n a0=some r:=by
 unfold js at h
 obtain⟨ha,h⟩:=zB h
 have hl:=wT a0
 obtain⟨z,hz⟩:=Ew (a:=a0) (fun x hx=>by have:=ZD hx;omega) (by omega) a0.length 0 (a0.length+1) (by omega) (by omega)
 refine⟨a0.length+1,?_⟩
 unfold Qo
 rw[show((0:Nat):Int)=0 from rfl]at hz
 rw[<-h]
 unfold vY
 by_cases h8:(8:Int)<(a0.length:Int)
 ·rw[if_pos h8,decide_eq_false (by omega)];rfl
 ·rw[if_neg h8,hz,oB,decide_eq_true (by omega),Bool.true_and]
  cases Zk y5 id a0 0 a0.length <;> rfl
theorem KK:Vp js:=fun a0 r h=>(Pl a0 r h).elim fun n hn=>Nm n a0 r hn
def Vq (F:GState→Option Bool):Prop:=∀(a0:GState),Oc (F a0) 126 [] [.val true (y9 a0)] fun r=>(vb r,[])
def yY (a0:GState):Nat→Int→Option (Bool⊕Int)
 |0,_=>none
 |m+1,v0=>
 if v0<(a0.Entries.length:Int)then
  (zn v0).bind fun i2=>
  (a0.Entries[i2]?).bind fun x3=>
  (wX x3.Addr).bind fun r4=>
  match r4 with
  |true=>
   (kQ x3.Val).bind fun r5=>
   match r5 with
   |true=>
    (js x3.Deps).bind fun r6=>
    match r6 with
    |true=>
     if x3.Turned<1 then
      some (.inl false)
     else
     if a0.Serial<x3.Turned then
      some (.inl false)
     else
     if 0<v0 then
      (zn (w64 (v0 - 1))).bind fun i10=>
      (a0.Entries[i10]?).bind fun x11=>
      if Op.bytesLess x11.Addr x3.Addr=true then
        yY a0 m (w64 (v0+1))
      else
      some (.inl false)
     else
     yY a0 m (w64 (v0+1))
    |false=>
     some (.inl false)
   |false=>
    some (.inl false)
  |false=>
   some (.inl false)
 else
 some (.inr v0)
theorem YI (a0:GState) (m:Nat):∀(v0:Int),Ol (yY a0 m v0) 126 (zD Tryz.f126 0) ⟨[(1,vp 0 0),(4,vi v0)],[.var (y9 a0)],0⟩ fun o=>match o with | .inl o_0=>(.ret,⟨[(2,vb o_0)],[],0⟩)| .inr (o_1)=>(.exit 0,⟨[(1,vp 0 0),(4,vi o_1),(71,vb false)],[.var (y9 a0)],0⟩):=by
 induction m with
 |zero=>intro v0 o h;cases h
 |succ m ih=>exact fun v0=>tlp (
  .le zq a0.Entries<|.lI v0 (a0.Entries.length:Int) (fun c1=>.na v0 fun i2=>.ix ym a0.Entries i2 fun x3=>.cl (jo x3.Addr) fun r4=>.vN 0 r4 (
    .an 0 0<|.an 0 0<|.cl (RC x3.Val) fun r5=>.an 0 1<|.an 0 1<|.vN 0 r5 (
     .an 0 0<|.an 0 0<|.cl (KK x3.Deps) fun r6=>.an 0 1<|.an 0 1<|.vN 0 r6 (
      .an 0 0<|.an 0 0<|.lI x3.Turned 1 (fun c7=>.an 0 0<|.ret (.inl false)) fun c7=>.an 0 0<|.lI a0.Serial x3.Turned (fun c8=>.ret (.inl false)) fun c8=>.lI 0 v0 (fun c9=>.na (w64 (v0 - 1)) fun i10=>.ix ym a0.Entries i10 fun x11=>.bt x11.Addr<|.bt x3.Addr<|.bI x11.Addr x3.Addr (fun c12=>.go (ih (w64 (v0+1)))) fun c12=>.ret (.inl false)) fun c9=>.go (ih (w64 (v0+1))))<|.an 0 0<|.an 0 0<|.an 0 0<|.ret (.inl false))<|.an 0 0<|.an 0 0<|.an 0 0<|.an 0 0<|.ret (.inl false))<|.an 0 0<|.an 0 0<|.an 0 0<|.an 0 0<|.ret (.inl false)) fun c1=>.ret (.inr v0))
def Xi (n:Nat) (a0:GState):Option Bool:=
 if a0.Serial<0 then
  some false
 else
 if 1000000<a0.Serial then
  some false
 else
 if 16<(a0.Entries.length:Int)then
  some false
 else
 if 0<(a0.Pending.length:Int)then
  match a0.Open with
  |true=>
   (wX a0.Pending).bind fun r5=>
   match r5 with
   |true=>
    if a0.Act<1 then
     some false
    else
    if 4<a0.Act then
     some false
    else
    (xK a0 a0.Pending).bind fun r8=>
    if a0.Act=1 then
     if 0<=r8 then
      some false
     else
     (yY a0 n 0).bind fun o11=>
     match o11 with
     | .inl o11_0=>
      some o11_0
     | .inr (o11_1)=>
      some true
    else
    if 0<=r8 then
     (yY a0 n 0).bind fun o11=>
     match o11 with
     | .inl o11_0=>
      some o11_0
     | .inr (o11_1)=>
      some true
    else
    some false
   |false=>
    some false
  |false=>
   some false
 else
 if a0.Act=0 then
  (yY a0 n 0).bind fun o6=>
  match o6 with
  | .inl o6_0=>
   some o6_0
  | .inr (o6_1)=>
   some true
 else
 some false
theorem Nn (n:Nat):Vq (Xi n):=fun a0=>tc (
 .lI a0.Serial 0 (fun c1=>.ret false) fun c1=>.lI 1000000 a0.Serial (fun c2=>.ret false) fun c2=>.le zq a0.Entries<|.lI 16 (a0.Entries.length:Int) (fun c3=>.ret false) fun c3=>.le za a0.Pending<|.lI 0 (a0.Pending.length:Int) (fun c4=>.vN 4 a0.Open (
   .an 0 0<|.an 0 0<|.cl (jo a0.Pending) fun r5=>.an 0 1<|.an 1 1<|.vN 1 r5 (
    .an 0 0<|.an 0 0<|.lI a0.Act 1 (fun c6=>.an 1 0<|.ret false) fun c6=>.an 1 0<|.lI 4 a0.Act (fun c7=>.ret false) fun c7=>.eD a0.Act 1<|.cl (Xh a0 a0.Pending) fun r8=>.gD 0 r8<|.sp (a0.Act=1) (fun c9=>.sp (0<=r8) (fun c10=>.eb (dT c9) (dT c10)<|.ret false) fun c10=>.eb (dT c9) (dF c10)<|.l2 (YI a0 n 0) (fun o11_0=>.ret o11_0) fun o11_1=>.ret true) fun c9=>.sp (0<=r8) (fun c10=>.eb (dF c9) (dT c10)<|.l2 (YI a0 n 0) (fun o11_0=>.ret o11_0) fun o11_1=>.ret true) fun c10=>.eb (dF c9) (dF c10)<|.ret false)<|.an 0 0<|.an 0 0<|.an 1 0<|.ret false)<|.an 0 0<|.an 0 0<|.an 0 0<|.an 1 0<|.ret false) fun c4=>.eI a0.Act 0 (fun c5=>.l2 (YI a0 n 0) (fun o6_0=>.ret o6_0) fun o6_1=>.ret true) fun c5=>.ret false) (zf Tryz.func126)
theorem zm8 {v:GValue} (h:vsz v<=2 ^ 20):wc v=some (jd v):=by
 unfold wc Yn
 rw[if_pos ⟨h,by decide,by decide,by decide⟩,oB]
 congr 1
 unfold okV jd
 rw[show(6 - (1:Int)).toNat=5 from rfl]
 by_cases hc:shV 5 v=true∧(ptV v:Int)<=40
 ·rw[if_pos hc,decide_eq_true hc];exact decide_eq_true (by omega)
 ·rw[if_neg hc,decide_eq_false hc];rfl
theorem zbf {v:GValue} (h:vsz v<=2 ^ 20):kQ v=some (vk v):=by
 unfold kQ vk
 by_cases h5:v.Kind=5
 ·rw[if_pos h5,zm8 h,oB,decide_eq_true h5,Bool.true_and]
  cases hv:jd v with
  |false=>rfl
  |true=>
   simp only[Bool.true_and]
   unfold kE
   rw[if_pos (by omega)];rfl
 ·rw[if_neg h5,decide_eq_false h5];rfl
theorem Ao {l:List (List UInt8)} (h:bsz l<=2 ^ 20):js l=some (vY l):=if_pos h
theorem Ey {s:GState} (hs:yG s.Entries<=2 ^ 20):∀(d i m:Nat),i+d=s.Entries.length→d<m→∃z,yY s m (i:Int)=some (if Zk (Ji s.Serial) GEntry.Addr s.Entries i d=true then .inr z else .inl false):=by
 have hlen:=kj s.Entries
 intro d
 induction d with
 |zero=>
  intro i m hi hm
  obtain⟨m,rfl,_⟩:=zg hm
  exact⟨_,by rw[yY,if_neg (by omega)];rfl⟩
 |succ d ih=>
  intro i m hi hm
  obtain⟨m,rfl,hm'⟩:=zg hm
  have hil:i<s.Entries.length:=by omega
  have hz0:=Wg (List.getElem_mem hil)
  obtain⟨z,hz⟩:=ih (i+1) m (by omega) (by omega)
  rw[yY,if_pos (by omega),zb,oB,zj hil,oB,KU]
  unfold esz at hz0
  rw[KJ (by omega),oB,zbf (by omega),oB,Ao (by omega),oB,zG (by omega),hz]
  generalize Zk _ GEntry.Addr s.Entries (i+1) d=g
  have hT:decide (1<=s.Entries[i].Turned∧s.Entries[i].Turned<=s.Serial)=(!(decide (s.Entries[i].Turned<1))&& !(decide (s.Serial<s.Entries[i].Turned))):=by
   by_cases a:s.Entries[i].Turned<1 <;> by_cases b:s.Serial<s.Entries[i].Turned <;> simp[a,b] <;> omega
  refine⟨z,?_⟩
  by_cases h0:0<i
  ·rw[U8 hil h0]
   unfold Ji
   rw[hT]
   rw[if_pos (show(0:Int)<((i:Nat):Int) by omega),Zd (by omega) h0,zb,oB,zj (show i - 1<s.Entries.length by omega),oB]
   generalize Op.bytesLess s.Entries[i - 1].Addr s.Entries[i].Addr=b
   by_cases a1:s.Entries[i].Turned<1 <;> by_cases a2:s.Serial<s.Entries[i].Turned <;> cases b <;> cases y5 s.Entries[i].Addr <;> cases vk s.Entries[i].Val <;> cases vY s.Entries[i].Deps <;> simp[a1,a2]
  ·obtain rfl:i=0:=by omega
   rw[R4 hil]
   unfold Ji
   rw[hT]
   rw[if_neg (show¬(0:Int)<((0:Nat):Int) by omega)]
   by_cases a1:s.Entries[0].Turned<1 <;> by_cases a2:s.Serial<s.Entries[0].Turned <;> cases y5 s.Entries[0].Addr <;> cases vk s.Entries[0].Val <;> cases vY s.Entries[0].Deps <;> simp[a1,a2]
def Z1 (a0:GState):Option Bool:=if ssz a0<=2 ^ 20 then some (stB a0)else none
theorem zbg {s:GState} (h:ssz s<=2 ^ 20):Z1 s=some (stB s):=if_pos h
theorem D7 {s:GState} (h:ssz s<=2 ^ 20):Xi (s.Entries.length+1) s=some (stB s):=by
 have hlen:=kj s.Entries
 unfold ssz at h
 obtain⟨z,hz⟩:=Ey (s:=s) (by omega) s.Entries.length 0 (s.Entries.length+1) (by omega) (by omega)
 rw[show((0:Nat):Int)=0 from rfl]at hz
 have hf:((yY s (s.Entries.length+1) 0).bind fun o4=>match o4 with | .inl o=>some o| .inr _=>some true)=some (M0 s):=by
  rw[hz,show M0 s=Zk (Ji s.Serial) GEntry.Addr s.Entries 0 s.Entries.length from rfl]
  cases Zk (Ji s.Serial) GEntry.Addr s.Entries 0 s.Entries.length <;> rfl
 unfold Xi
 unfold stB
 by_cases h1:s.Serial<0
 ·rw[if_pos h1,decide_eq_false (p:=0<=s.Serial∧s.Serial<=1000000∧s.Entries.length<=16) (by omega)];rfl
 rw[if_neg h1]
 by_cases h2:1000000<s.Serial
 ·rw[if_pos h2,decide_eq_false (p:=0<=s.Serial∧s.Serial<=1000000∧s.Entries.length<=16) (by omega)];rfl
 rw[if_neg h2]
 by_cases h3:(16:Int)<(s.Entries.length:Int)
 ·rw[if_pos h3,decide_eq_false (p:=0<=s.Serial∧s.Serial<=1000000∧s.Entries.length<=16) (by omega)];rfl
 rw[if_neg h3,decide_eq_true (p:=0<=s.Serial∧s.Serial<=1000000∧s.Entries.length<=16) (by omega),Bool.true_and]
 unfold Hq
 by_cases hp:s.Pending=[]
 ·rw[if_neg (by rw[hp];simp),if_pos hp]
  by_cases ha:s.Act=0
  ·rw[if_pos ha,decide_eq_true ha,Bool.and_true]
   exact hf
  ·rw[if_neg ha,decide_eq_false ha,Bool.and_false]
 ·have hp0:(0:Int)<(s.Pending.length:Int):=by
   have:s.Pending.length≠0:=fun e=>hp (List.eq_nil_of_length_eq_zero e)
   omega
  rw[if_pos hp0,if_neg hp]
  cases ho:s.Open with
  |false=>simp
  |true=>
   dsimp only
   rw[KJ (by omega),oB]
   cases y5 s.Pending with
   |false=>simp
   |true=>
    dsimp only
    by_cases a1:s.Act<1
    ·rw[if_pos a1,decide_eq_false (p:=1<=s.Act∧s.Act<=4) (by omega)];simp
    rw[if_neg a1]
    by_cases a2:4<s.Act
    ·rw[if_pos a2,decide_eq_false (p:=1<=s.Act∧s.Act<=4) (by omega)];simp
    rw[if_neg a2,decide_eq_true (p:=1<=s.Act∧s.Act<=4) (by omega)]
    unfold xK
    rw[if_pos (by omega),oB]
    have hh:=TP s.Entries s.Pending 0
    by_cases hA:s.Act=1
    ·rw[if_pos hA,decide_eq_false (p:=s.Act≠1) (by omega)]
     cases hb:xm s.Entries s.Pending with
     |true=>rw[if_pos (hh.2 hb)];simp
     |false=>rw[if_neg (fun h=>by rw[hh.1 h]at hb;cases hb)];refine Eq.trans hf ?_;simp
    ·rw[if_neg hA,decide_eq_true (p:=s.Act≠1) hA]
     cases hb:xm s.Entries s.Pending with
     |true=>rw[if_pos (hh.2 hb)];refine Eq.trans hf ?_;simp
     |false=>rw[if_neg (fun h=>by rw[hh.1 h]at hb;cases hb)];simp
theorem Pm (a0:GState) (r:Bool) (h:Z1 a0=some r):∃n,Xi n a0=some r:=by
 unfold Z1 at h
 obtain⟨ha,h⟩:=zB h
 exact⟨_,by rw[<-h];exact D7 ha⟩
theorem LG:Vq Z1:=fun a0 r h=>(Pm a0 r h).elim fun n hn=>Nn n a0 r hn
def xy (a0:(List UInt8)) (a1:(List UInt8)):Option Int:=
 if Op.bytesLess a0 a1=true then
  some (-1)
 else
 if Op.bytesLess a1 a0=true then
  some 1
 else
 some 0
theorem vO (a0:(List UInt8)) (a1:(List UInt8)):Oc (xy a0 a1) 81 [] [vq za a0,vq za a1] fun r=>(vi r,[]):=tc (
 .bt a0<|.bt a1<|.bI a0 a1 (fun c1=>.ret (-1)) fun c1=>.bt a0<|.bt a1<|.bI a1 a0 (fun c2=>.ret 1) fun c2=>.ret 0) (zf Tryz.func81)
def jK (a0:Int) (a1:Int):Option Int:=
 if a0<a1 then
  some (-1)
 else
 if a1<a0 then
  some 1
 else
 some 0
theorem Jc (a0:Int) (a1:Int):Oc (jK a0 a1) 130 [] [vi a0,vi a1] fun r=>(vi r,[]):=tc (
 .lI a0 a1 (fun c1=>.ret (-1)) fun c1=>.lI a1 a0 (fun c2=>.ret 1) fun c2=>.ret 0) (zf Tryz.func130)
def YJ (F:GValue→GValue→Option Int):Prop:=∀(a0:GValue) (a1:GValue),Oc (F a0 a1) 79 [] [.val true (zi a0),.val true (zi a1)] fun r=>(vi r,[])
def xW (G_spec_l2cmp:GValue→GValue→Option Int) (a0:GValue) (a1:GValue):Nat→Int→Option (Int⊕Int)
 |0,_=>none
 |m+1,v0=>
 if v0<(a0.L.length:Int)then
  if v0<(a1.L.length:Int)then
   if a0.Kind=5 then
    (zn v0).bind fun i4=>
    (a0.K[i4]?).bind fun x5=>
    (a1.K[i4]?).bind fun x6=>
    (xy x5 x6).bind fun r7=>
    if r7=0 then
     (a0.L[i4]?).bind fun x9=>
     (a1.L[i4]?).bind fun x10=>
     (G_spec_l2cmp x9 x10).bind fun r11=>
     if r11=0 then
      xW G_spec_l2cmp a0 a1 m (w64 (v0+1))
     else
     some (.inl r11)
    else
    some (.inl r7)
   else
   (zn v0).bind fun i4=>
   (a0.L[i4]?).bind fun x5=>
   (a1.L[i4]?).bind fun x6=>
   (G_spec_l2cmp x5 x6).bind fun r7=>
   if r7=0 then
    xW G_spec_l2cmp a0 a1 m (w64 (v0+1))
   else
   some (.inl r7)
  else
  some (.inr v0)
 else
 some (.inr v0)
theorem Oh (G_spec_l2cmp:GValue→GValue→Option Int) (H_spec_l2cmp:YJ G_spec_l2cmp) (a0:GValue) (a1:GValue) (m:Nat):∀(v0:Int),Ol (xW G_spec_l2cmp a0 a1 m v0) 79 (zD Tryz.f79 0) ⟨[(2,vp 0 0),(3,vp 1 0),(5,vi v0)],[.var (zi a0),.var (zi a1)],0⟩ fun o=>match o with | .inl o_0=>(.ret,⟨[(4,vi o_0)],[],0⟩)| .inr (o_1)=>(.exit 0,⟨[(2,vp 0 0),(3,vp 1 0),(5,vi o_1),(47,vb false)],[.var (zi a0),.var (zi a1)],0⟩):=by
 induction m with
 |zero=>intro v0 o h;cases h
 |succ m ih=>exact fun v0=>tlp (
  .le zd a0.L<|.lI v0 (a0.L.length:Int) (fun c1=>.le zd a1.L<|.lI v0 (a1.L.length:Int) (fun c2=>.eI a0.Kind 5 (fun c3=>.na v0 fun i4=>.ix0 (zl za) a0.K i4 fun x5=>.ag 1<|.ix0 (zl za) a1.K i4 fun x6=>.cl (vO x5 x6) fun r7=>.eI r7 0 (fun c8=>.ag 3<|.ix zr a0.L i4 fun x9=>.ag 4<|.ix zr a1.L i4 fun x10=>.cl (H_spec_l2cmp x9 x10) fun r11=>.eI r11 0 (fun c12=>.go (ih (w64 (v0+1)))) fun c12=>.ret (.inl r11)) fun c8=>.ret (.inl r7)) fun c3=>.na v0 fun i4=>.ix zr a0.L i4 fun x5=>.ag 1<|.ix zr a1.L i4 fun x6=>.cl (H_spec_l2cmp x5 x6) fun r7=>.eI r7 0 (fun c8=>.go (ih (w64 (v0+1)))) fun c8=>.ret (.inl r7)) fun c2=>.ret (.inr v0)) fun c1=>.ret (.inr v0))
def Z2 (G_spec_l2cmp:GValue→GValue→Option Int) (n:Nat) (a0:GValue) (a1:GValue):Option Int:=
 if a0.Kind=a1.Kind then
  if a0.Kind=3 then
   (xy a0.S a1.S).bind fun r3=>
   some r3
  else
  if a0.N=a1.N then
   (xW G_spec_l2cmp a0 a1 n 0).bind fun o4=>
   match o4 with
   | .inl o4_0=>
    some o4_0
   | .inr (o4_1)=>
    (jK (a0.L.length:Int) (a1.L.length:Int)).bind fun r5=>
    some r5
  else
  (jK a0.N a1.N).bind fun r4=>
  some r4
 else
 (jK a0.Kind a1.Kind).bind fun r2=>
 some r2
theorem Ez (G_spec_l2cmp:GValue→GValue→Option Int) (H_spec_l2cmp:YJ G_spec_l2cmp) (n:Nat):YJ (Z2 G_spec_l2cmp n):=fun a0 a1=>tc (
 .eI a0.Kind a1.Kind (fun c1=>.eI a0.Kind 3 (fun c2=>.cl (vO a0.S a1.S) fun r3=>.ret r3) fun c2=>.eI a0.N a1.N (fun c3=>.l2 (Oh G_spec_l2cmp H_spec_l2cmp a0 a1 n 0) (fun o4_0=>.ret o4_0) fun o4_1=>.le zd a0.L<|.le zd a1.L<|.cl (Jc (a0.L.length:Int) (a1.L.length:Int)) fun r5=>.ret r5) fun c3=>.cl (Jc a0.N a1.N) fun r4=>.ret r4) fun c1=>.cl (Jc a0.Kind a1.Kind) fun r2=>.ret r2) (zf Tryz.func79)
def xf:Nat→GValue→GValue→Option Int
 |0,_,_=>none
 |n+1,a0,a1=>Z2 (xf n) n a0 a1
theorem Np (n:Nat):YJ (xf n):=by
 induction n with
 |zero=>exact fun _ _ _ h=>(by rw[xf]at h;cases h)
 |succ n ih=>
  have ih_spec_l2cmp:=ih
  exact fun a0 a1 r h=>Ez (xf n) ih_spec_l2cmp n a0 a1 r (by rw[xf]at h;exact h)
def kR (a0:GValue) (a1:GValue):Option Int:=xf (vsz a0+3) a0 a1
theorem LH (a0:GValue) (a1:GValue) (r:Int) (h:kR a0 a1=some r):∃n,xf n a0 a1=some r:=⟨_,h⟩
theorem RD:YJ kR:=by
 intro a0 a1 r h
 obtain⟨n,hn⟩:=LH a0 a1 r h
 exact(Np n) a0 a1 r hn
def ja (a0:GValue):Option Bool:=
 (kR a0 (GValue.mk 0 0 [] [] [])).bind fun r1=>
 if r1=0 then
  some (decide (a0.N=0))
 else
 some false
theorem Xj (a0:GValue):Oc (ja a0) 189 [] [.val true (zi a0)] fun r=>(vb r,[]):=tc (
 .cl (RD a0 (GValue.mk 0 0 [] [] [])) fun r1=>.eI r1 0 (fun c2=>.eD a0.N 0<|.ret (decide (a0.N=0))) fun c2=>.ret false) (zf Tryz.func189)
def Xk (a0:GEvent):Option Bool:=
 if a0.Kind<0 then
  some false
 else
 if 6<a0.Kind then
  some false
 else
 if a0.Kind=1 then
  if 0<(a0.Addr.length:Int)then
   (wX a0.Addr).bind fun r5=>
   match r5 with
   |true=>
    if a0.Act<1 then
     some false
    else
    if 4<a0.Act then
     some false
    else
    (wc a0.Val).bind fun r8=>
    match r8 with
    |true=>
     (ja a0.Val).bind fun r9=>
     match r9 with
     |true=>
      some (decide ((a0.Deps.length:Int)=0))
     |false=>
      some false
    |false=>
     some false
   |false=>
    some false
  else
  some false
 else
 if a0.Kind=2 then
  if 0<(a0.Addr.length:Int)then
   (wX a0.Addr).bind fun r6=>
   match r6 with
   |true=>
    if a0.Act=0 then
     (kQ a0.Val).bind fun r8=>
     match r8 with
     |true=>
      (js a0.Deps).bind fun r9=>
      some r9
     |false=>
      some false
    else
    some false
   |false=>
    some false
  else
  some false
 else
 if a0.Kind=3 then
  if 0<(a0.Addr.length:Int)then
   (wX a0.Addr).bind fun r7=>
   match r7 with
   |true=>
    if a0.Act=0 then
     (wc a0.Val).bind fun r9=>
     match r9 with
     |true=>
      (ja a0.Val).bind fun r10=>
      match r10 with
      |true=>
       some (decide ((a0.Deps.length:Int)=0))
      |false=>
       some false
     |false=>
      some false
    else
    some false
   |false=>
    some false
  else
  some false
 else
 if a0.Kind=4 then
  if 0<(a0.Addr.length:Int)then
   (wX a0.Addr).bind fun r8=>
   match r8 with
   |true=>
    if a0.Act=0 then
     (wc a0.Val).bind fun r10=>
     match r10 with
     |true=>
      (ja a0.Val).bind fun r11=>
      match r11 with
      |true=>
       some (decide ((a0.Deps.length:Int)=0))
      |false=>
       some false
     |false=>
      some false
    else
    some false
   |false=>
    some false
  else
  some false
 else
 if 0<(a0.Addr.length:Int)then
  some false
 else
 if a0.Act=0 then
  (wc a0.Val).bind fun r9=>
  match r9 with
  |true=>
   (ja a0.Val).bind fun r10=>
   match r10 with
   |true=>
    some (decide ((a0.Deps.length:Int)=0))
   |false=>
    some false
  |false=>
   some false
 else
 some false
theorem LI (a0:GEvent):Oc (Xk a0) 127 [] [.val true (ve a0)] fun r=>(vb r,[]):=tc (
 .lI a0.Kind 0 (fun c1=>.ret false) fun c1=>.lI 6 a0.Kind (fun c2=>.ret false) fun c2=>.eI a0.Kind 1 (fun c3=>.le za a0.Addr<|.lD 0 (a0.Addr.length:Int)<|.sp (0<(a0.Addr.length:Int)) (fun c4=>.eb (a:=true) (b:=(decide (0<(a0.Addr.length:Int)))) rfl (dT c4)<|.cl (jo a0.Addr) fun r5=>.vN 4 r5 (
    .q (.eT c3)<|.lI a0.Act 1 (fun c6=>.ret false) fun c6=>.lI 4 a0.Act (fun c7=>.ret false) fun c7=>.q (.eFo a0.Kind 2 (by omega))<|.cl (Ye a0.Val) fun r8=>.vM 0 r8 (
     .az 0 0<|.az 0 0<|.cl (Xj a0.Val) fun r9=>.az 0 1<|.vM 0 r9 (
      .az 0 0<|.az 0 0<|.le (zl za) a0.Deps<|.az 0 0<|.eD (a0.Deps.length:Int) 0<|.az 0 0<|.ret (decide ((a0.Deps.length:Int)=0)))<|.az 0 0<|.az 0 0<|.az 0 0<|.az 0 0<|.ret false)<|.az 0 0<|.az 0 0<|.az 0 0<|.ret false)<|.ret false) fun c4=>.eb (a:=true) (b:=(decide (0<(a0.Addr.length:Int)))) rfl (dF c4)<|.ret false) fun c3=>.eI a0.Kind 2 (fun c4=>.le za a0.Addr<|.lD 0 (a0.Addr.length:Int)<|.sp (0<(a0.Addr.length:Int)) (fun c5=>.eb (a:=true) (b:=(decide (0<(a0.Addr.length:Int)))) rfl (dT c5)<|.cl (jo a0.Addr) fun r6=>.vN 4 r6 (
    .q (.eF c3)<|.eI a0.Act 0 (fun c7=>.q (.eT c4)<|.cl (RC a0.Val) fun r8=>.vM 0 r8 (
      .az 0 0<|.az 0 0<|.cl (KK a0.Deps) fun r9=>.az 0 1<|.ret r9)<|.az 0 0<|.az 0 0<|.az 0 0<|.ret false) fun c7=>.ret false)<|.ret false) fun c5=>.eb (a:=true) (b:=(decide (0<(a0.Addr.length:Int)))) rfl (dF c5)<|.ret false) fun c4=>.eI a0.Kind 3 (fun c5=>.le za a0.Addr<|.lD 0 (a0.Addr.length:Int)<|.sp (0<(a0.Addr.length:Int)) (fun c6=>.eb (a:=true) (b:=(decide (0<(a0.Addr.length:Int)))) rfl (dT c6)<|.cl (jo a0.Addr) fun r7=>.vN 4 r7 (
    .q (.eF c3)<|.eI a0.Act 0 (fun c8=>.q (.eF c4)<|.cl (Ye a0.Val) fun r9=>.vM 0 r9 (
      .az 0 0<|.az 0 0<|.cl (Xj a0.Val) fun r10=>.az 0 1<|.vM 0 r10 (
       .az 0 0<|.az 0 0<|.le (zl za) a0.Deps<|.az 0 0<|.eD (a0.Deps.length:Int) 0<|.az 0 0<|.ret (decide ((a0.Deps.length:Int)=0)))<|.az 0 0<|.az 0 0<|.az 0 0<|.az 0 0<|.ret false)<|.az 0 0<|.az 0 0<|.az 0 0<|.ret false) fun c8=>.ret false)<|.ret false) fun c6=>.eb (a:=true) (b:=(decide (0<(a0.Addr.length:Int)))) rfl (dF c6)<|.ret false) fun c5=>.eI a0.Kind 4 (fun c6=>.le za a0.Addr<|.lD 0 (a0.Addr.length:Int)<|.sp (0<(a0.Addr.length:Int)) (fun c7=>.eb (a:=true) (b:=(decide (0<(a0.Addr.length:Int)))) rfl (dT c7)<|.cl (jo a0.Addr) fun r8=>.vN 4 r8 (
    .q (.eF c3)<|.eI a0.Act 0 (fun c9=>.q (.eF c4)<|.cl (Ye a0.Val) fun r10=>.vM 0 r10 (
      .az 0 0<|.az 0 0<|.cl (Xj a0.Val) fun r11=>.az 0 1<|.vM 0 r11 (
       .az 0 0<|.az 0 0<|.le (zl za) a0.Deps<|.az 0 0<|.eD (a0.Deps.length:Int) 0<|.az 0 0<|.ret (decide ((a0.Deps.length:Int)=0)))<|.az 0 0<|.az 0 0<|.az 0 0<|.az 0 0<|.ret false)<|.az 0 0<|.az 0 0<|.az 0 0<|.ret false) fun c9=>.ret false)<|.ret false) fun c7=>.eb (a:=true) (b:=(decide (0<(a0.Addr.length:Int)))) rfl (dF c7)<|.ret false) fun c6=>.le za a0.Addr<|.lD 0 (a0.Addr.length:Int)<|.sp (0<(a0.Addr.length:Int)) (fun c7=>.eb (a:=false) (b:=(decide (0<(a0.Addr.length:Int)))) rfl (dT c7)<|.ret false) fun c7=>.eb (a:=false) (b:=(decide (0<(a0.Addr.length:Int)))) rfl (dF c7)<|.q (.eF c3)<|.eI a0.Act 0 (fun c8=>.q (.eF c4)<|.cl (Ye a0.Val) fun r9=>.vM 0 r9 (
   .az 0 0<|.az 0 0<|.cl (Xj a0.Val) fun r10=>.az 0 1<|.vM 0 r10 (
    .az 0 0<|.az 0 0<|.le (zl za) a0.Deps<|.az 0 0<|.eD (a0.Deps.length:Int) 0<|.az 0 0<|.ret (decide ((a0.Deps.length:Int)=0)))<|.az 0 0<|.az 0 0<|.az 0 0<|.az 0 0<|.ret false)<|.az 0 0<|.az 0 0<|.az 0 0<|.ret false) fun c8=>.ret false) (zf Tryz.func127)
def WF (a0:GState) (a1:GEvent):Option Bool:=
 if 1000000<=a0.Serial then
  some false
 else
 if a1.Kind=0 then
  some (!a0.Open)
 else
 if a1.Kind=1 then
  (xK a0 a1.Addr).bind fun r4=>
  match a0.Open with
  |true=>
   if 0<(a0.Pending.length:Int)then
    some false
   else
   if a1.Act=1 then
    if 0<=r4 then
     some false
    else
    some (decide ((a0.Entries.length:Int)<16))
   else
   if 0<=r4 then
    some true
   else
   some false
  |false=>
   some false
 else
 if a1.Kind=2 then
  if 0<(a0.Pending.length:Int)then
   if a0.Pending=a1.Addr then
    some (!(decide (a0.Act=4)))
   else
   some false
  else
  some false
 else
 if a1.Kind=3 then
  if 0<(a0.Pending.length:Int)then
   if a0.Pending=a1.Addr then
    some (decide (a0.Act=4))
   else
   some false
  else
  some false
 else
 if a1.Kind=4 then
  if 0<(a0.Pending.length:Int)then
   some (decide (a0.Pending=a1.Addr))
  else
  some false
 else
 if a1.Kind=5 then
  match a0.Open with
  |true=>
   some (!(decide (0<(a0.Pending.length:Int))))
  |false=>
   some false
 else
 some a0.Open
theorem GK (a0:GState) (a1:GEvent):Oc (WF a0 a1) 74 [] [.val true (y9 a0),.val true (ve a1)] fun r=>(vb r,[]):=tc (
 .le za a0.Pending<|.lD 0 (a0.Pending.length:Int)<|.gI 1000000 a0.Serial (fun c1=>.ret false) fun c1=>.eI a1.Kind 0 (fun c2=>.ret (!a0.Open)) fun c2=>.eI a1.Kind 1 (fun c3=>.cl (Xh a0 a1.Addr) fun r4=>.gD 0 r4<|.vM 0 a0.Open (
   .az 0 0<|.az 0 0<|.cN 0 (0<(a0.Pending.length:Int)) (fun c5=>.kF 0 (nT (dT c5))<|.kF 0 (nT (dT c5))<|.kF 0 (nT (dT c5))<|.kF 0 (nT (dT c5))<|.kF 0 (nT (dT c5))<|.ret false) fun c5=>.kT 0 (nF (dF c5))<|.kT 0 (nF (dF c5))<|.eI a1.Act 1 (fun c6=>.kT 0 (nF (dF c5))<|.kT 0 (nF (dF c5))<|.sp (0<=r4) (fun c7=>.eb (a:=true) (b:=(decide (0<=r4))) rfl (dT c7)<|.kT 0 (nF (dF c5))<|.ret false) fun c7=>.eb (a:=true) (b:=(decide (0<=r4))) rfl (dF c7)<|.kT 0 (nF (dF c5))<|.kF 2 (dF c7)<|.kF 0 (dF c7)<|.kF 0 (dF c7)<|.le zq a0.Entries<|.kF 0 (dF c7)<|.lD (a0.Entries.length:Int) 16<|.kF 1 (dF c7)<|.ret (decide ((a0.Entries.length:Int)<16))) fun c6=>.kT 0 (nF (dF c5))<|.kT 0 (nF (dF c5))<|.sp (0<=r4) (fun c7=>.eb (a:=false) (b:=(decide (0<=r4))) rfl (dT c7)<|.kT 0 (nF (dF c5))<|.kT 2 (dT c7)<|.kT 0 (dT c7)<|.kT 0 (dT c7)<|.kT 0 (dT c7)<|.kT 1 (dT c7)<|.ret true) fun c7=>.eb (a:=false) (b:=(decide (0<=r4))) rfl (dF c7)<|.kT 0 (nF (dF c5))<|.ret false)<|.az 0 0<|.az 0 0<|.ret false) fun c3=>.eI a1.Kind 2 (fun c4=>.cI 1 (0<(a0.Pending.length:Int)) (fun c5=>.kT 0 (dT c5)<|.kT 0 (dT c5)<|.bt a0.Pending<|.kT 0 (dT c5)<|.kT 0 (dT c5)<|.kT 0 (dT c5)<|.bt a1.Addr<|.kT 0 (dT c5)<|.sD a0.Pending a1.Addr<|.kT 0 (dT c5)<|.cI 0 (a0.Pending=a1.Addr) (fun c6=>.kT 0 (dT c6)<|.kT 0 (dT c6)<|.eD a0.Act 4<|.kT 0 (dT c6)<|.ret (!(decide (a0.Act=4)))) fun c6=>.kF 0 (dF c6)<|.kF 0 (dF c6)<|.kF 0 (dF c6)<|.ret false) fun c5=>.kF 0 (dF c5)<|.kF 0 (dF c5)<|.kF 0 (dF c5)<|.kF 0 (dF c5)<|.kF 0 (dF c5)<|.kF 0 (dF c5)<|.kF 0 (dF c5)<|.ret false) fun c4=>.eI a1.Kind 3 (fun c5=>.cI 1 (0<(a0.Pending.length:Int)) (fun c6=>.kT 0 (dT c6)<|.kT 0 (dT c6)<|.bt a0.Pending<|.kT 0 (dT c6)<|.kT 0 (dT c6)<|.kT 0 (dT c6)<|.bt a1.Addr<|.kT 0 (dT c6)<|.sD a0.Pending a1.Addr<|.kT 0 (dT c6)<|.cI 0 (a0.Pending=a1.Addr) (fun c7=>.kT 0 (dT c7)<|.kT 0 (dT c7)<|.eD a0.Act 4<|.kT 0 (dT c7)<|.ret (decide (a0.Act=4))) fun c7=>.kF 0 (dF c7)<|.kF 0 (dF c7)<|.kF 0 (dF c7)<|.ret false) fun c6=>.kF 0 (dF c6)<|.kF 0 (dF c6)<|.kF 0 (dF c6)<|.kF 0 (dF c6)<|.kF 0 (dF c6)<|.kF 0 (dF c6)<|.kF 0 (dF c6)<|.ret false) fun c5=>.eI a1.Kind 4 (fun c6=>.cI 1 (0<(a0.Pending.length:Int)) (fun c7=>.kT 0 (dT c7)<|.kT 0 (dT c7)<|.bt a0.Pending<|.kT 0 (dT c7)<|.kT 0 (dT c7)<|.kT 0 (dT c7)<|.bt a1.Addr<|.kT 0 (dT c7)<|.sD a0.Pending a1.Addr<|.kT 0 (dT c7)<|.ret (decide (a0.Pending=a1.Addr))) fun c7=>.kF 0 (dF c7)<|.kF 0 (dF c7)<|.kF 0 (dF c7)<|.kF 0 (dF c7)<|.kF 0 (dF c7)<|.kF 0 (dF c7)<|.kF 0 (dF c7)<|.ret false) fun c6=>.eI a1.Kind 5 (fun c7=>.vM 1 a0.Open (
   .az 0 0<|.az 0 0<|.ret (!(decide (0<(a0.Pending.length:Int)))))<|.az 0 0<|.az 0 0<|.ret false) fun c7=>.ret a0.Open) (zf Tryz.func74)
def TS (F:(List GEntry)→GEntry→Option (List GEntry)):Prop:=∀(a0:(List GEntry)) (a1:GEntry),Oc (F a0 a1) 128 [] [vq zq a0,.val true (Zh a1)] fun r=>(vq zq r,[])
def yP (a0:(List GEntry)) (a1:GEntry):Nat→Bool→Int→(List GEntry)→Option (Bool×Int×(List GEntry))
 |0,_,_,_=>none
 |m+1,v1,v2,v4=>
 if v2<(a0.length:Int)then
  (zn v2).bind fun i2=>
  (a0[i2]?).bind fun x3=>
  (xy a1.Addr x3.Addr).bind fun r4=>
  match v1 with
  |true=>
   if r4=0 then
    yP a0 a1 m v1 (w64 (v2+1)) v4
   else
   if zC 152 (v4.length+[x3].length)then
   yP a0 a1 m v1 (w64 (v2+1)) (v4++[x3])
   else none
  |false=>
   if r4<=0 then
    if zC 152 (v4.length+[a1].length)then
    if r4=0 then
     yP a0 a1 m true (w64 (v2+1)) (v4++[a1])
    else
    if zC 152 ((v4++[a1]).length+[x3].length)then
    yP a0 a1 m true (w64 (v2+1)) ((v4++[a1])++[x3])
    else none
    else none
   else
   if r4=0 then
    yP a0 a1 m v1 (w64 (v2+1)) v4
   else
   if zC 152 (v4.length+[x3].length)then
   yP a0 a1 m v1 (w64 (v2+1)) (v4++[x3])
   else none
 else
 some (v1,v2,v4)
theorem Oi (a0:(List GEntry)) (a1:GEntry) (m:Nat):∀(v1:Bool) (v2:Int) (v4:(List GEntry)),Ol (yP a0 a1 m v1 v2 v4) 128 (zD Tryz.f128 0) ⟨[(0,vq zq a0),(3,vp 0 0),(5,vr 1),(6,vb v1),(7,vi v2)],[.var (Zh a1),.obj 9 (eL zq v4)],0⟩ fun o=>match o with |⟨o_0,o_1,o_2⟩=>(.exit 0,⟨[(0,vq zq a0),(3,vp 0 0),(5,vr 1),(6,vb o_0),(7,vi o_1),(12,vb false)],[.var (Zh a1),.obj 9 (eL zq o_2)],0⟩):=by
 induction m with
 |zero=>intro v1 v2 v4 o h;cases h
 |succ m ih=>exact fun v1 v2 v4=>tlp (
  .le zq a0<|.lI v2 (a0.length:Int) (fun c1=>.na v2 fun i2=>.ix ym a0 i2 fun x3=>.cl (vO a1.Addr x3.Addr) fun r4=>.vN 0 v1 (
    .an 0 0<|.an 0 0<|.eI r4 0 (fun c5=>.go (ih v1 (w64 (v2+1)) v4)) fun c5=>.ag 3<|.ag 2<|.pl xl [x3]<|.ap 152 xl v4 [x3] fun n6=>.go (ih v1 (w64 (v2+1)) (v4++[x3])))<|.an 0 0<|.gI r4 0 (fun c5=>.an 0 0<|.pl xl [a1]<|.ap 152 xl v4 [a1] fun n6=>.eI r4 0 (fun c7=>.go (ih true (w64 (v2+1)) (v4++[a1]))) fun c7=>.ag 3<|.ag 2<|.pl xl [x3]<|.ap 152 xl (v4++[a1]) [x3] fun n8=>.go (ih true (w64 (v2+1)) ((v4++[a1])++[x3]))) fun c5=>.an 0 0<|.eI r4 0 (fun c6=>.go (ih v1 (w64 (v2+1)) v4)) fun c6=>.ag 3<|.ag 2<|.pl xl [x3]<|.ap 152 xl v4 [x3] fun n7=>.go (ih v1 (w64 (v2+1)) (v4++[x3]))) fun c1=>.ret (v1,v2,v4))
def JT (n:Nat) (a0:(List GEntry)) (a1:GEntry):Option (List GEntry):=
 (yP a0 a1 n false 0 []).bind fun⟨o1_0,o1_1,o1_2⟩=>
 match o1_0 with
 |true=>
  some o1_2
 |false=>
  if zC 152 (o1_2.length+[a1].length)then
  some (o1_2++[a1])
  else none
theorem E0 (n:Nat):TS (JT n):=fun a0 a1=>tc (
 .lp (Oi a0 a1 n false 0 []) fun⟨o1_0,o1_1,o1_2⟩=>.vN 0 o1_0 (
  .vw xl o1_2<|.ret o1_2)<|.pl xl [a1]<|.ap 152 xl o1_2 [a1] fun n2=>.vw xl (o1_2++[a1])<|.ret (o1_2++[a1])) (zf Tryz.func128)
theorem Xl {m:Nat} (hm:m<=2 ^ 39):zC 152 m:=by
 unfold zC
 constructor <;> simp[Am.maxBytes] <;> omega
def kS (e:GEntry):Bool→List GEntry→List GEntry
 |put,[]=>bif put then[]else[e]
 |put,x::l=>
  bif Op.bytesLess e.Addr x.Addr then(bif put then x::kS e put l else e::x::kS e true l)
  else bif Op.bytesLess x.Addr e.Addr then x::kS e put l
  else bif put then kS e put l else e::kS e true l
theorem Ap {a:List GEntry} {e:GEntry} (ha:a.length<=2 ^ 37):∀(l p q:List GEntry) (b:Bool) (m:Nat),a=p++l→q.length<=2*p.length+1→l.length<m→
 ∃(b':Bool) (z:Int) (o:List GEntry),yP a e m b (p.length:Int) q=some (b',z,o)∧o.length<=2*a.length+1∧(bif b' then o else o++[e])=q++kS e b l:=by
 intro l
 induction l with
 |nil=>
  intro p q b m he hq hm
  obtain⟨m,rfl,_⟩:=zg hm
  refine⟨b,_,q,by rw[yP,he,List.append_nil,if_neg (by omega)],by rw[he];simp;omega,?_⟩
  cases b <;> simp[kS]
 |cons x l ih=>
  intro p q b m he hq hm
  obtain⟨m,rfl,hm'⟩:=zg hm
  have hlen:a.length=p.length+(l.length+1):=by rw[he];simp
  have hlm:l.length<m:=by simp only[List.length_cons]at hm';omega
  have hnext:∀(b1:Bool) (q1:List GEntry),q1.length<=2*p.length+3→∃(b':Bool) (z:Int) (o:List GEntry),yP a e m b1 ((p++[x]).length:Int) q1=some (b',z,o)∧o.length<=2*a.length+1∧(bif b' then o else o++[e])=q1++kS e b1 l:=fun b1 q1 h1=>
   ih (p++[x]) q1 b1 m (by rw[he];simp) (by simp;omega) hlm
  rw[yP,if_pos (by omega),zb,oB,show a[p.length]? =some x by rw[he];exact zp p x l,oB,ye p x (by omega)]
  unfold xy
  unfold kS
  by_cases c1:Op.bytesLess e.Addr x.Addr=true
  ·rw[if_pos c1,oB,c1]
   simp only[cond_true]
   cases b with
   |true=>
    simp only[cond_true]
    rw[if_neg (by decide),if_pos (Xl (by simp;omega))]
    obtain⟨b',z,o,h1,h2,h3⟩:=hnext true (q++[x]) (by simp;omega)
    exact⟨b',z,o,h1,h2,by rw[h3];simp⟩
   |false=>
    simp only[cond_false]
    rw[if_pos (by decide),if_pos (Xl (by simp;omega)),if_neg (by decide),if_pos (Xl (by simp;omega))]
    obtain⟨b',z,o,h1,h2,h3⟩:=hnext true (q++[e]++[x]) (by simp;omega)
    exact⟨b',z,o,h1,h2,by rw[h3];simp⟩
  ·rw[if_neg c1]
   rw[show Op.bytesLess e.Addr x.Addr=false by simpa using c1]
   simp only[cond_false]
   by_cases c2:Op.bytesLess x.Addr e.Addr=true
   ·rw[if_pos c2,oB,c2]
    simp only[cond_true]
    obtain⟨b',z,o,h1,h2,h3⟩:=hnext b (q++[x]) (by simp;omega)
    cases b with
    |true=>
     simp only
     rw[if_neg (by decide),if_pos (Xl (by simp;omega))]
     exact⟨b',z,o,h1,h2,by rw[h3];simp⟩
    |false=>
     simp only
     rw[if_neg (by decide),if_neg (by decide),if_pos (Xl (by simp;omega))]
     exact⟨b',z,o,h1,h2,by rw[h3];simp⟩
   ·rw[if_neg c2,oB,show Op.bytesLess x.Addr e.Addr=false by simpa using c2]
    simp only[cond_false]
    cases b with
    |true=>
     simp only[cond_true]
     rw[if_pos trivial]
     obtain⟨b',z,o,h1,h2,h3⟩:=hnext true q (by omega)
     exact⟨b',z,o,h1,h2,by rw[h3]⟩
    |false=>
     simp only[cond_false]
     rw[if_pos (by decide),if_pos (Xl (by simp;omega)),if_pos trivial]
     obtain⟨b',z,o,h1,h2,h3⟩:=hnext true (q++[e]) (by simp;omega)
     exact⟨b',z,o,h1,h2,by rw[h3];simp⟩
def qL (a0:(List GEntry)) (a1:GEntry):Option (List GEntry):=if a0.length<=2 ^ 37 then some (kS a1 false a0)else none
theorem LJ (a0:(List GEntry)) (a1:GEntry) (r:(List GEntry)) (h:qL a0 a1=some r):∃n,JT n a0 a1=some r:=by
 unfold qL at h
 obtain⟨ha,h⟩:=zB h
 obtain⟨b',z,o,h1,h2,h3⟩:=Ap (a:=a0) (e:=a1) (by omega) a0 [] [] false (a0.length+1) rfl (by simp) (by omega)
 refine⟨a0.length+1,?_⟩
 unfold JT
 simp only[List.length_nil,Int.natCast_zero]at h1
 rw[h1,<-h]
 rw[List.nil_append]at h3
 rw[<-h3]
 cases b' with
 |true=>rfl
 |false=>
  simp only[oB,cond_false]
  rw[if_pos (Xl (by simp;omega))]
theorem RE:TS qL:=fun a0 a1 r h=>(LJ a0 a1 r h).elim fun n hn=>E0 n a0 a1 r hn
def k7 (a0:GEvent) (e0:GState):Option GState:=
 (xK (GState.mk (w64 (e0.Serial+1)) e0.Open e0.Pending e0.Act e0.Entries) e0.Pending).bind fun r1=>
 if a0.Kind=0 then
  some (GState.mk (w64 (e0.Serial+1)) true e0.Pending e0.Act e0.Entries)
 else
 if a0.Kind=1 then
  some (GState.mk (w64 (e0.Serial+1)) e0.Open a0.Addr a0.Act e0.Entries)
 else
 if a0.Kind=2 then
  (qL e0.Entries (GEntry.mk a0.Addr a0.Val a0.Deps false (w64 (e0.Serial+1)))).bind fun r5=>
  some (GState.mk (w64 (e0.Serial+1)) e0.Open [] 0 r5)
 else
 if a0.Kind=3 then
  (zn r1).bind fun i6=>
  (qK e0.Entries none (some i6)).bind fun s7=>
  if zC 152 (0+s7.length)then
  (zn (w64 (r1+1))).bind fun i9=>
  (qK e0.Entries (some i9) none).bind fun s10=>
  if zC 152 (s7.length+s10.length)then
  some (GState.mk (w64 (e0.Serial+1)) e0.Open [] 0 (s7++s10))
  else none
  else none
 else
 if a0.Kind=4 then
  if(e0.Pending.length:Int)=0 then
   some (GState.mk (w64 (e0.Serial+1)) e0.Open [] 0 e0.Entries)
  else
  if 0<=r1 then
   if zC 152 (0+e0.Entries.length)then
   (zn r1).bind fun i10=>
   (e0.Entries[i10]?).bind fun x11=>
   ((e0.Entries.set i10 (GEntry.mk x11.Addr x11.Val x11.Deps true x11.Turned))[i10]?).bind fun x12=>
   some (GState.mk (w64 (e0.Serial+1)) e0.Open [] 0 ((e0.Entries.set i10 (GEntry.mk x11.Addr x11.Val x11.Deps true x11.Turned)).set i10 (GEntry.mk x12.Addr x12.Val x12.Deps x12.Taint (w64 (e0.Serial+1)))))
   else none
  else
  some (GState.mk (w64 (e0.Serial+1)) e0.Open [] 0 e0.Entries)
 else
 if a0.Kind=6 then
  if(e0.Pending.length:Int)=0 then
   some (GState.mk (w64 (e0.Serial+1)) false [] 0 e0.Entries)
  else
  if 0<=r1 then
   if zC 152 (0+e0.Entries.length)then
   (zn r1).bind fun i11=>
   (e0.Entries[i11]?).bind fun x12=>
   ((e0.Entries.set i11 (GEntry.mk x12.Addr x12.Val x12.Deps true x12.Turned))[i11]?).bind fun x13=>
   some (GState.mk (w64 (e0.Serial+1)) false [] 0 ((e0.Entries.set i11 (GEntry.mk x12.Addr x12.Val x12.Deps true x12.Turned)).set i11 (GEntry.mk x13.Addr x13.Val x13.Deps x13.Taint (w64 (e0.Serial+1)))))
   else none
  else
  (qL e0.Entries (GEntry.mk e0.Pending (GValue.mk 5 0 [] [] []) [] true (w64 (e0.Serial+1)))).bind fun r10=>
  some (GState.mk (w64 (e0.Serial+1)) false [] 0 r10)
 else
 if a0.Kind=5 then
  some (GState.mk (w64 (e0.Serial+1)) false [] 0 e0.Entries)
 else
 some (GState.mk (w64 (e0.Serial+1)) e0.Open [] 0 e0.Entries)
theorem E3 (a0:GEvent) (e0:GState):Oc (k7 a0 e0) 75 [.var (y9 e0)] [vp 0 0,.val true (ve a0)] fun r=>(.tup [],[.var (y9 r)]):=tc (
 .cl (Xh (GState.mk (w64 (e0.Serial+1)) e0.Open e0.Pending e0.Act e0.Entries) e0.Pending) fun r1=>.eI a0.Kind 0 (fun c2=>.ret (GState.mk (w64 (e0.Serial+1)) true e0.Pending e0.Act e0.Entries)) fun c2=>.eI a0.Kind 1 (fun c3=>.ret (GState.mk (w64 (e0.Serial+1)) e0.Open a0.Addr a0.Act e0.Entries)) fun c3=>.eI a0.Kind 2 (fun c4=>.cl (RE e0.Entries (GEntry.mk a0.Addr a0.Val a0.Deps false (w64 (e0.Serial+1)))) fun r5=>.ret (GState.mk (w64 (e0.Serial+1)) e0.Open [] 0 r5)) fun c4=>.eI a0.Kind 3 (fun c5=>.na r1 fun i6=>.ct zq e0.Entries none (some i6) fun s7=>.un xl e0.Entries<|.ap 152 xl [] s7 fun n8=>.na (w64 (r1+1)) fun i9=>.ct zq e0.Entries (some i9) none fun s10=>.un xl e0.Entries<|.ap 152 xl s7 s10 fun n11=>.vw xl (s7++s10)<|.ret (GState.mk (w64 (e0.Serial+1)) e0.Open [] 0 (s7++s10))) fun c5=>.eI a0.Kind 4 (fun c6=>.le za e0.Pending<|.eI (e0.Pending.length:Int) 0 (fun c7=>.q (.eFo a0.Kind 6 (by omega))<|.ret (GState.mk (w64 (e0.Serial+1)) e0.Open [] 0 e0.Entries)) fun c7=>.gI 0 r1 (fun c8=>.ap 152 xl [] e0.Entries fun n9=>.na r1 fun i10=>.ix ym e0.Entries i10 fun x11=>.ag 0<|.sl (ym (GEntry.mk x11.Addr x11.Val x11.Deps true x11.Turned)) e0.Entries i10<|.ag 1<|.ix ym (e0.Entries.set i10 (GEntry.mk x11.Addr x11.Val x11.Deps true x11.Turned)) i10 fun x12=>.ag 0<|.sl (ym (GEntry.mk x12.Addr x12.Val x12.Deps x12.Taint (w64 (e0.Serial+1)))) (e0.Entries.set i10 (GEntry.mk x11.Addr x11.Val x11.Deps true x11.Turned)) i10<|.q (.eFo a0.Kind 6 (by omega))<|.vw xl ((e0.Entries.set i10 (GEntry.mk x11.Addr x11.Val x11.Deps true x11.Turned)).set i10 (GEntry.mk x12.Addr x12.Val x12.Deps x12.Taint (w64 (e0.Serial+1))))<|.ret (GState.mk (w64 (e0.Serial+1)) e0.Open [] 0 ((e0.Entries.set i10 (GEntry.mk x11.Addr x11.Val x11.Deps true x11.Turned)).set i10 (GEntry.mk x12.Addr x12.Val x12.Deps x12.Taint (w64 (e0.Serial+1)))))) fun c8=>.q (.eFo a0.Kind 6 (by omega))<|.q (.eFo a0.Kind 6 (by omega))<|.ret (GState.mk (w64 (e0.Serial+1)) e0.Open [] 0 e0.Entries)) fun c6=>.eI a0.Kind 6 (fun c7=>.le za e0.Pending<|.eI (e0.Pending.length:Int) 0 (fun c8=>.q (.eT c7)<|.ret (GState.mk (w64 (e0.Serial+1)) false [] 0 e0.Entries)) fun c8=>.gI 0 r1 (fun c9=>.ap 152 xl [] e0.Entries fun n10=>.na r1 fun i11=>.ix ym e0.Entries i11 fun x12=>.ag 0<|.sl (ym (GEntry.mk x12.Addr x12.Val x12.Deps true x12.Turned)) e0.Entries i11<|.ag 1<|.ix ym (e0.Entries.set i11 (GEntry.mk x12.Addr x12.Val x12.Deps true x12.Turned)) i11 fun x13=>.ag 0<|.sl (ym (GEntry.mk x13.Addr x13.Val x13.Deps x13.Taint (w64 (e0.Serial+1)))) (e0.Entries.set i11 (GEntry.mk x12.Addr x12.Val x12.Deps true x12.Turned)) i11<|.q (.eT c7)<|.vw xl ((e0.Entries.set i11 (GEntry.mk x12.Addr x12.Val x12.Deps true x12.Turned)).set i11 (GEntry.mk x13.Addr x13.Val x13.Deps x13.Taint (w64 (e0.Serial+1))))<|.ret (GState.mk (w64 (e0.Serial+1)) false [] 0 ((e0.Entries.set i11 (GEntry.mk x12.Addr x12.Val x12.Deps true x12.Turned)).set i11 (GEntry.mk x13.Addr x13.Val x13.Deps x13.Taint (w64 (e0.Serial+1)))))) fun c9=>.q (.eT c7)<|.cl (RE e0.Entries (GEntry.mk e0.Pending (GValue.mk 5 0 [] [] []) [] true (w64 (e0.Serial+1)))) fun r10=>.q (.eT c7)<|.ret (GState.mk (w64 (e0.Serial+1)) false [] 0 r10)) fun c7=>.eI a0.Kind 5 (fun c8=>.ret (GState.mk (w64 (e0.Serial+1)) false [] 0 e0.Entries)) fun c8=>.ret (GState.mk (w64 (e0.Serial+1)) e0.Open [] 0 e0.Entries)) (zf Tryz.func75)
def RF (F:GHistory→Int→Option (GState×Bool)):Prop:=∀(a0:GHistory) (a1:Int),Oc (F a0 a1) 35 [] [.val true (xv a0),vi a1] fun r=>(.tup [(true,(y9 r.1)),(false,[.bool r.2])],[])
def jt (a1:Int) (a0:GHistory) (v3:Int) (v4:Bool) (v5:Int) (v7:(List UInt8)) (v8:(List GEntry)):Nat→Int→GState→Option ((Bool×GState)⊕(Int×GState))
 |0,_,_=>none
 |m+1,v1,v6=>
 if v1<a1 then
  (zn v1).bind fun i2=>
  (a0.Events[i2]?).bind fun x3=>
  (WF v6 x3).bind fun r4=>
  match r4 with
  |true=>
   (k7 x3 v6).bind fun r5=>
   jt a1 a0 v3 v4 v5 v7 v8 m (w64 (v1+1)) r5
  |false=>
   some (.inl (false,v6))
 else
 some (.inr (v1,v6))
theorem Pn (a1:Int) (a0:GHistory) (v3:Int) (v4:Bool) (v5:Int) (v7:(List UInt8)) (v8:(List GEntry)) (m:Nat):∀(v1:Int) (v6:GState),Ol (jt a1 a0 v3 v4 v5 v7 v8 m v1 v6) 35 (zD Tryz.f35 0) ⟨[(1,vi a1),(2,vp 0 0),(4,vp 1 0),(6,vp 2 0),(7,vi v1)],[.var (xv a0),.var [ci v3,.bool v4,.ref 3,ci v5,.ref 4],.var (y9 v6),.obj 1 (eL za v7),.obj 9 (eL zq v8)],0⟩ fun o=>match o with | .inl ⟨o_0_0,o_0_1⟩=>(.ret,⟨[(4,vp 0 0),(5,vb o_0_0)],[.var (y9 o_0_1)],0⟩)| .inr (⟨o_1_0,o_1_1⟩)=>(.exit 0,⟨[(1,vi a1),(2,vp 0 0),(4,vp 1 0),(6,vp 2 0),(7,vi o_1_0),(12,vb false)],[.var (xv a0),.var [ci v3,.bool v4,.ref 3,ci v5,.ref 4],.var (y9 o_1_1),.obj 1 (eL za v7),.obj 9 (eL zq v8)],0⟩):=by
 induction m with
 |zero=>intro v1 v6 o h;cases h
 |succ m ih=>exact fun v1 v6=>tlp (
  .lI v1 a1 (fun c1=>.na v1 fun i2=>.ix ZO a0.Events i2 fun x3=>.cl (GK v6 x3) fun r4=>.vN 0 r4 (
    .ag 3<|.ag 2<|.cl (E3 x3 v6) fun r5=>.go (ih (w64 (v1+1)) r5))<|.ret (.inl (false,v6))) fun c1=>.ret (.inr (v1,v6)))
def Yf (n:Nat) (a0:GHistory) (a1:Int):Option (GState×Bool):=
 (jt a1 a0 0 false 0 [] [] n 0 a0.Base).bind fun o1=>
 match o1 with
 | .inl ⟨o1_0_0,o1_0_1⟩=>
  some (o1_0_1,o1_0_0)
 | .inr (⟨o1_1_0,o1_1_1⟩)=>
  some (o1_1_1,true)
theorem GL (n:Nat):RF (Yf n):=fun a0 a1=>tc (
 .l2 (Pn a1 a0 0 false 0 [] [] n 0 a0.Base) (fun⟨o1_0_0,o1_0_1⟩=>.ret (o1_0_1,o1_0_0)) fun⟨o1_1_0,o1_1_1⟩=>.ret (o1_1_1,true)) (zf Tryz.func35)
def wY (a0:GHistory) (a1:Int):Option (GState×Bool):=Yf (a0.Events.length+5) a0 a1
theorem Oj (a0:GHistory) (a1:Int) (r:(GState×Bool)) (h:wY a0 a1=some r):∃n,Yf n a0 a1=some r:=⟨_,h⟩
theorem Qp:RF wY:=fun a0 a1 r h=>(Oj a0 a1 r h).elim fun n hn=>GL n a0 a1 r hn
def RG (F:GHistory→Option Bool):Prop:=∀(a0:GHistory),Oc (F a0) 73 [] [.val true (xv a0)] fun r=>(vb r,[])
def ju (a0:GHistory):Nat→Int→Option (Bool⊕Int)
 |0,_=>none
 |m+1,v0=>
 if v0<(a0.Events.length:Int)then
  (zn v0).bind fun i2=>
  (a0.Events[i2]?).bind fun x3=>
  (Xk x3).bind fun r4=>
  match r4 with
  |true=>
   ju a0 m (w64 (v0+1))
  |false=>
   some (.inl false)
 else
 some (.inr v0)
theorem Po (a0:GHistory) (m:Nat):∀(v0:Int),Ol (ju a0 m v0) 73 (zD Tryz.f73 0) ⟨[(1,vp 0 0),(3,vi v0)],[.var (xv a0)],0⟩ fun o=>match o with | .inl o_0=>(.ret,⟨[(2,vb o_0)],[],0⟩)| .inr (o_1)=>(.exit 0,⟨[(1,vp 0 0),(3,vi o_1),(33,vb false)],[.var (xv a0)],0⟩):=by
 induction m with
 |zero=>intro v0 o h;cases h
 |succ m ih=>exact fun v0=>tlp (
  .le zN a0.Events<|.lI v0 (a0.Events.length:Int) (fun c1=>.na v0 fun i2=>.ix ZO a0.Events i2 fun x3=>.cl (LI x3) fun r4=>.vN 0 r4 (
    .go (ih (w64 (v0+1))))<|.ret (.inl false)) fun c1=>.ret (.inr v0))
def XH (n:Nat) (a0:GHistory):Option Bool:=
 (Z1 a0.Base).bind fun r1=>
 match r1 with
 |true=>
  if 300<(a0.Events.length:Int)then
   some false
  else
  if a0.Safe<0 then
   some false
  else
  if(a0.Events.length:Int)<a0.Safe then
   some false
  else
  (ju a0 n 0).bind fun o5=>
  match o5 with
  | .inl o5_0=>
   some o5_0
  | .inr (o5_1)=>
   (wY a0 (a0.Events.length:Int)).bind fun⟨r6_0,r6_1⟩=>
   some r6_1
 |false=>
  some false
theorem GM (n:Nat):RG (XH n):=fun a0=>tc (
 .cl (LG a0.Base) fun r1=>.vN 0 r1 (
  .an 0 0<|.an 0 0<|.le zN a0.Events<|.an 0 0<|.lI 300 (a0.Events.length:Int) (fun c2=>.an 0 0<|.ret false) fun c2=>.an 0 0<|.lI a0.Safe 0 (fun c3=>.ret false) fun c3=>.le zN a0.Events<|.lI (a0.Events.length:Int) a0.Safe (fun c4=>.ret false) fun c4=>.l2 (Po a0 n 0) (fun o5_0=>.ret o5_0) fun o5_1=>.le zN a0.Events<|.cl (Qp a0 (a0.Events.length:Int)) fun⟨r6_0,r6_1⟩=>.ret r6_1)<|.an 0 0<|.an 0 0<|.an 0 0<|.an 0 0<|.ret false) (zf Tryz.func73)
def Yg (a0:GHistory):Option Bool:=XH (a0.Events.length+5) a0
theorem Ok (a0:GHistory) (r:Bool) (h:Yg a0=some r):∃n,XH n a0=some r:=⟨_,h⟩
theorem Nq:RG Yg:=fun a0 r h=>(Ok a0 r h).elim fun n hn=>GM n a0 r hn
def Ze (a0:GHistory) (a1:Int):Option Bool:=
 (Yg a0).bind fun r1=>
 match r1 with
 |true=>
  if a0.Base.Serial<=a1 then
   some (decide (a1<=(w64 (a0.Base.Serial+(a0.Events.length:Int)))))
  else
  some false
 |false=>
  some false
theorem TT (a0:GHistory) (a1:Int):Oc (Ze a0 a1) 34 [] [.val true (xv a0),vi a1] fun r=>(vb r,[]):=tc (
 .cl (Nq a0) fun r1=>.vM 0 r1 (
  .az 0 0<|.az 0 0<|.az 0 0<|.az 0 0<|.gI a0.Base.Serial a1 (fun c2=>.az 0 0<|.le zN a0.Events<|.gD a1 (w64 (a0.Base.Serial+(a0.Events.length:Int)))<|.ret (decide (a1<=(w64 (a0.Base.Serial+(a0.Events.length:Int)))))) fun c2=>.az 0 0<|.ret false)<|.az 0 0<|.az 0 0<|.az 0 0<|.az 0 0<|.az 0 0<|.ret false) (zf Tryz.func34)
def RH (F:GValue→(List UInt8)→Option Int):Prop:=∀(a0:GValue) (a1:(List UInt8)),Oc (F a0 a1) 129 [] [.val true (zi a0),vq za a1] fun r=>(vi r,[])
def jv (a1:(List UInt8)) (a0:GValue):Nat→Int→Option (Int⊕Int)
 |0,_=>none
 |m+1,v1=>
 if v1<(a0.K.length:Int)then
  (zn v1).bind fun i2=>
  (a0.K[i2]?).bind fun x3=>
  if x3=a1 then
   some (.inl v1)
  else
  jv a1 a0 m (w64 (v1+1))
 else
 some (.inr v1)
theorem Pp (a1:(List UInt8)) (a0:GValue) (m:Nat):∀(v1:Int),Ol (jv a1 a0 m v1) 129 (zD Tryz.f129 0) ⟨[(1,vq za a1),(2,vp 0 0),(5,vi v1)],[.var (zi a0)],0⟩ fun o=>match o with | .inl o_0=>(.ret,⟨[(4,vi o_0)],[],0⟩)| .inr (o_1)=>(.exit 0,⟨[(1,vq za a1),(2,vp 0 0),(5,vi o_1),(10,vb false)],[.var (zi a0)],0⟩):=by
 induction m with
 |zero=>intro v1 o h;cases h
 |succ m ih=>exact fun v1=>tlp (
  .le (zl za) a0.K<|.lI v1 (a0.K.length:Int) (fun c1=>.na v1 fun i2=>.ix0 (zl za) a0.K i2 fun x3=>.bt x3<|.bt a1<|.sI x3 a1 (fun c4=>.ret (.inl v1)) fun c4=>.go (ih (w64 (v1+1)))) fun c1=>.ret (.inr v1))
def Jd (n:Nat) (a0:GValue) (a1:(List UInt8)):Option Int:=
 (jv a1 a0 n 0).bind fun o1=>
 match o1 with
 | .inl o1_0=>
  some o1_0
 | .inr (o1_1)=>
  some (-1)
theorem GN (n:Nat):RH (Jd n):=fun a0 a1=>tc (
 .l2 (Pp a1 a0 n 0) (fun o1_0=>.ret o1_0) fun o1_1=>.ret (-1)) (zf Tryz.func129)
def ixB:List (List UInt8)→List UInt8→Nat→Int
 |[],_,_=> -1
 |y::l,x,i=>if y=x then(i:Int)else ixB l x (i+1)
theorem zir:∀(l:List (List UInt8)) (x:List UInt8) (i:Nat),(0<=ixB l x i)=(x∈l)
 |[],x,i=>by simp[ixB]
 |y::l,x,i=>by
  simp only[ixB]
  by_cases h:y=x
  ·rw[if_pos h];simp[h]
  ·have hn:¬x=y:=fun e=>h e.symm
   rw[if_neg h,zir l];simp[hn]
theorem Bc:∀(l:List (List UInt8)) (x:List UInt8) (i:Nat),x∉l→ixB l x i= -1
 |[],x,i,_=>rfl
 |y::l,x,i,h=>by
  simp only[List.mem_cons,not_or]at h
  rw[ixB,if_neg (fun e=>h.1 e.symm),Bc l x _ h.2]
theorem D8 {a:GValue} {x:List UInt8} (ha:a.K.length<=2 ^ 40):∀(l p:List (List UInt8)) (m:Nat),a.K=p++l→l.length<m→∃z,jv x a m (p.length:Int)=some (if x∈l then .inl (ixB l x p.length)else .inr z):=by
 intro l
 induction l with
 |nil=>
  intro p m he hm
  obtain⟨m,rfl,_⟩:=zg hm
  exact⟨_,by rw[jv,he,if_neg (xF p),if_neg (by simp)]⟩
 |cons y l ih=>
  intro p m he hm
  obtain⟨m,rfl,hm'⟩:=zg hm
  have hlen:a.K.length=p.length+(l.length+1):=by rw[he];simp
  rw[jv,if_pos (by omega),zb,oB,show a.K[p.length]? =some y by rw[he];exact zp p y l,oB,ye p y (by omega)]
  by_cases hxy:y=x
  ·exact⟨0,by rw[if_pos hxy,if_pos (by simp[hxy]),ixB,if_pos hxy]⟩
  ·obtain⟨z,hz⟩:=ih (p++[y]) m (by rw[he];simp) (by simp only[List.length_cons]at hm';omega)
   refine⟨z,?_⟩
   rw[if_neg hxy,hz,ixB,if_neg hxy]
   by_cases hm:x∈l
   ·rw[if_pos hm,if_pos (by simp[hm])];simp
   ·have hn:¬x=y:=fun e=>hxy e.symm
    rw[if_neg hm,if_neg (by simp[hm,hn])]
def XI (a0:GValue) (a1:(List UInt8)):Option Int:=if a0.K.length<=2 ^ 40 then some (ixB a0.K a1 0)else none
theorem Om (a0:GValue) (a1:(List UInt8)) (r:Int) (h:XI a0 a1=some r):∃n,Jd n a0 a1=some r:=by
 unfold XI at h
 obtain⟨ha,h⟩:=zB h
 obtain⟨z,hz⟩:=D8 (x:=a1) ha a0.K [] (a0.K.length+1) rfl (by omega)
 refine⟨a0.K.length+1,?_⟩
 unfold Jd
 simp only[List.length_nil,Int.natCast_zero]at hz
 rw[hz,oB,<-h]
 by_cases hc:a1∈a0.K
 ·rw[if_pos hc]
 ·rw[if_neg hc,Bc _ _ _ hc]
theorem Nr:RH XI:=fun a0 a1 r h=>(Om a0 a1 r h).elim fun n hn=>GN n a0 a1 r hn
def TU (a0:GValue) (a1:GStep):Option Int:=
 if a1.Kind=0 then
  if a0.Kind=5 then
   (XI a0 a1.Key).bind fun r3=>
   some r3
  else
  some (-1)
 else
 if a1.Kind=1 then
  if a0.Kind=4 then
   if a1.I<(a0.L.length:Int)then
    some a1.I
   else
   some (-1)
  else
  some (-1)
 else
 some (-1)
theorem GO (a0:GValue) (a1:GStep):Oc (TU a0 a1) 77 [] [.val true (zi a0),.val true (V9 a1)] fun r=>(vi r,[]):=tc (
 .eI a1.Kind 0 (fun c1=>.eI a0.Kind 5 (fun c2=>.cl (Nr a0 a1.Key) fun r3=>.ret r3) fun c2=>.q (.eFo a1.Kind 1 (by omega))<|.ret (-1)) fun c1=>.eI a1.Kind 1 (fun c2=>.eI a0.Kind 4 (fun c3=>.le zd a0.L<|.lI a1.I (a0.L.length:Int) (fun c4=>.ret a1.I) fun c4=>.ret (-1)) fun c3=>.ret (-1)) fun c2=>.ret (-1)) (zf Tryz.func77)
def Vr (F:GState→(List UInt8)→(List GStep)→Option (GValue×Bool)):Prop:=∀(a0:GState) (a1:(List UInt8)) (a2:(List GStep)),Oc (F a0 a1 a2) 36 [] [.val true (y9 a0),vq za a1,vq zU a2] fun r=>(.tup [(true,(zi r.1)),(false,[.bool r.2])],[])
def Zo (a2:(List GStep)) (v2:Int) (v3:Int) (v5:(List UInt8)) (v6:(List (List UInt8))) (v7:(List GValue)):Nat→Int→GValue→Option ((Bool×Int×(List UInt8)×(List (List UInt8))×(List GValue))⊕(Int×GValue))
 |0,_,_=>none
 |m+1,v1,v4=>
 if v1<(a2.length:Int)then
  (zn v1).bind fun i2=>
  (a2[i2]?).bind fun x3=>
  (TU v4 x3).bind fun r4=>
  if r4<0 then
   some (.inl (false,0,[],[],[]))
  else
  (zn r4).bind fun i6=>
  (v4.L[i6]?).bind fun x7=>
  Zo a2 v2 v3 v5 v6 v7 m (w64 (v1+1)) x7
 else
 some (.inr (v1,v4))
theorem TV (a2:(List GStep)) (v2:Int) (v3:Int) (v5:(List UInt8)) (v6:(List (List UInt8))) (v7:(List GValue)) (m:Nat):∀(v1:Int) (v4:GValue),Ol (Zo a2 v2 v3 v5 v6 v7 m v1 v4) 36 (zD Tryz.f36 0) ⟨[(2,vq zU a2),(6,vp 0 0),(9,vp 1 0),(10,vi v1)],[.var [ci v2,ci v3,.ref 2,.ref 3,.ref 4],.var (zi v4),.obj 1 (eL za v5),.obj 1 (eL (zl za) v6),.obj 5 (eL zd v7)],0⟩ fun o=>match o with | .inl ⟨o_0_0,o_0_1,o_0_2,o_0_3,o_0_4⟩=>(.ret,⟨[(6,vp 0 0),(7,vb o_0_0)],[.var [ci o_0_1,ci o_0_1,.ref 1,.ref 2,.ref 3],.obj 1 (eL za o_0_2),.obj 1 (eL (zl za) o_0_3),.obj 5 (eL zd o_0_4)],0⟩)| .inr (⟨o_1_0,o_1_1⟩)=>(.exit 0,⟨[(2,vq zU a2),(6,vp 0 0),(9,vp 1 0),(10,vi o_1_0),(27,vb false)],[.var [ci v2,ci v3,.ref 2,.ref 3,.ref 4],.var (zi o_1_1),.obj 1 (eL za v5),.obj 1 (eL (zl za) v6),.obj 5 (eL zd v7)],0⟩):=by
 induction m with
 |zero=>intro v1 v4 o h;cases h
 |succ m ih=>exact fun v1 v4=>tlp (
  .le zU a2<|.lI v1 (a2.length:Int) (fun c1=>.na v1 fun i2=>.ix Ya a2 i2 fun x3=>.cl (GO v4 x3) fun r4=>.lI r4 0 (fun c5=>.ret (.inl (false,0,[],[],[]))) fun c5=>.na r4 fun i6=>.ix zr v4.L i6 fun x7=>.go (ih (w64 (v1+1)) x7)) fun c1=>.ret (.inr (v1,v4)))
def Xm (n:Nat) (a0:GState) (a1:(List UInt8)) (a2:(List GStep)):Option (GValue×Bool):=
 (xK a0 a1).bind fun r1=>
 if r1<0 then
  some ((GValue.mk 0 0 [] [] []),false)
 else
 (zn r1).bind fun i3=>
 (a0.Entries[i3]?).bind fun x4=>
 (Zo a2 0 0 [] [] [] n 0 x4.Val).bind fun o5=>
 match o5 with
 | .inl ⟨o5_0_0,o5_0_1,o5_0_2,o5_0_3,o5_0_4⟩=>
  some ((GValue.mk o5_0_1 o5_0_1 o5_0_2 o5_0_3 o5_0_4),o5_0_0)
 | .inr (⟨o5_1_0,o5_1_1⟩)=>
  some (o5_1_1,true)
theorem Ns (n:Nat):Vr (Xm n):=fun a0 a1 a2=>tc (
 .cl (Xh a0 a1) fun r1=>.lI r1 0 (fun c2=>.vw zH []<|.vw (W4 za) []<|.vw qQ []<|.ret ((GValue.mk 0 0 [] [] []),false)) fun c2=>.na r1 fun i3=>.ix ym a0.Entries i3 fun x4=>.l2 (TV a2 0 0 [] [] [] n 0 x4.Val) (fun⟨o5_0_0,o5_0_1,o5_0_2,o5_0_3,o5_0_4⟩=>.vw zH o5_0_2<|.vw (W4 za) o5_0_3<|.vw qQ o5_0_4<|.ret ((GValue.mk o5_0_1 o5_0_1 o5_0_2 o5_0_3 o5_0_4),o5_0_0)) fun⟨o5_1_0,o5_1_1⟩=>.ret (o5_1_1,true)) (zf Tryz.func36)
def jw (a0:GState) (a1:(List UInt8)) (a2:(List GStep)):Option (GValue×Bool):=Xm (a2.length+5) a0 a1 a2
theorem Pq (a0:GState) (a1:(List UInt8)) (a2:(List GStep)) (r:(GValue×Bool)) (h:jw a0 a1 a2=some r):∃n,Xm n a0 a1 a2=some r:=⟨_,h⟩
theorem KM:Vr jw:=fun a0 a1 a2 r h=>(Pq a0 a1 a2 r h).elim fun n hn=>Ns n a0 a1 a2 r hn
def yQ (a0:(List GStep)) (a1:GStep):Option (List GStep):=
 if zC 40 (0+a0.length)then
 if zC 40 (a0.length+[a1].length)then
 some (a0++[a1])
 else none
 else none
theorem xz (a0:(List GStep)) (a1:GStep):Oc (yQ a0 a1) 80 [] [vq zU a0,.val true (V9 a1)] fun r=>(vq zU r,[]):=tc (
 .ap 40 vB [] a0 fun n1=>.pl vB [a1]<|.ap 40 vB a0 [a1] fun n2=>.vw vB (a0++[a1])<|.ret (a0++[a1])) (zf Tryz.func80)
def vA (F:GValue→GValue→(List GStep)→Option (List GChange)):Prop:=∀(a0:GValue) (a1:GValue) (a2:(List GStep)),Oc (F a0 a1 a2) 38 [] [.val true (zi a0),.val true (zi a1),vq zU a2] fun r=>(vq yg r,[])
def jx (G_spec_l3diff:GValue→GValue→(List GStep)→Option (List GChange)) (a2:(List GStep)) (a0:GValue) (a1:GValue):Nat→Int→(List GChange)→Option (Int×(List GChange))
 |0,_,_=>none
 |m+1,v1,v4=>
 if v1<(a0.L.length:Int)then
  (zn v1).bind fun i2=>
  (a0.L[i2]?).bind fun x3=>
  (a1.L[i2]?).bind fun x4=>
  (yQ a2 (GStep.mk 1 [] v1)).bind fun r5=>
  (G_spec_l3diff x3 x4 r5).bind fun r6=>
  if zC 216 (v4.length+r6.length)then
  jx G_spec_l3diff a2 a0 a1 m (w64 (v1+1)) (v4++r6)
  else none
 else
 some (v1,v4)
theorem Pr (G_spec_l3diff:GValue→GValue→(List GStep)→Option (List GChange)) (H_spec_l3diff:vA G_spec_l3diff) (a2:(List GStep)) (a0:GValue) (a1:GValue) (m:Nat):∀(v1:Int) (v4:(List GChange)),Ol (jx G_spec_l3diff a2 a0 a1 m v1 v4) 38 (zD Tryz.f38 0) ⟨[(2,vq zU a2),(3,vp 0 0),(4,vp 1 0),(7,vr 2),(8,vi v1)],[.var (zi a0),.var (zi a1),.obj 13 (eL yg v4)],0⟩ fun o=>match o with |⟨o_0,o_1⟩=>(.exit 0,⟨[(2,vq zU a2),(3,vp 0 0),(4,vp 1 0),(7,vr 2),(8,vi o_0),(37,vb false)],[.var (zi a0),.var (zi a1),.obj 13 (eL yg o_1)],0⟩):=by
 induction m with
 |zero=>intro v1 v4 o h;cases h
 |succ m ih=>exact fun v1 v4=>tlp (
  .le zd a0.L<|.lI v1 (a0.L.length:Int) (fun c1=>.na v1 fun i2=>.ix zr a0.L i2 fun x3=>.ag 1<|.ix zr a1.L i2 fun x4=>.vw zH []<|.cl (xz a2 (GStep.mk 1 [] v1)) fun r5=>.cl (H_spec_l3diff x3 x4 r5) fun r6=>.ap 216 yp v4 r6 fun n7=>.go (ih (w64 (v1+1)) (v4++r6))) fun c1=>.ret (v1,v4))
def zz (G_spec_l3diff:GValue→GValue→(List GStep)→Option (List GChange)) (a2:(List GStep)) (a0:GValue) (a1:GValue):Nat→Int→Int→(List GChange)→Option (Int×Int×(List GChange))
 |0,_,_,_=>none
 |m+1,v1,v2,v5=>
 if v1<(a0.K.length:Int)then
  if(a0.K.length:Int)<=v1 then
   (zn v2).bind fun i3=>
   (a1.K[i3]?).bind fun x4=>
   (yQ a2 (GStep.mk 0 x4 0)).bind fun r5=>
   (a1.L[i3]?).bind fun x6=>
   if zC 216 (v5.length+[(GChange.mk r5 false (GValue.mk 0 0 [] [] []) true x6)].length)then
   zz G_spec_l3diff a2 a0 a1 m v1 (w64 (v2+1)) (v5++[(GChange.mk r5 false (GValue.mk 0 0 [] [] []) true x6)])
   else none
  else
  if(a1.K.length:Int)<=v2 then
   (zn v1).bind fun i4=>
   (a0.K[i4]?).bind fun x5=>
   (yQ a2 (GStep.mk 0 x5 0)).bind fun r6=>
   (a0.L[i4]?).bind fun x7=>
   if zC 216 (v5.length+[(GChange.mk r6 true x7 false (GValue.mk 0 0 [] [] []))].length)then
   zz G_spec_l3diff a2 a0 a1 m (w64 (v1+1)) v2 (v5++[(GChange.mk r6 true x7 false (GValue.mk 0 0 [] [] []))])
   else none
  else
  (zn v1).bind fun i4=>
  (a0.K[i4]?).bind fun x5=>
  (zn v2).bind fun i6=>
  (a1.K[i6]?).bind fun x7=>
  (xy x5 x7).bind fun r8=>
  if r8<0 then
   (yQ a2 (GStep.mk 0 x5 0)).bind fun r10=>
   (a0.L[i4]?).bind fun x11=>
   if zC 216 (v5.length+[(GChange.mk r10 true x11 false (GValue.mk 0 0 [] [] []))].length)then
   zz G_spec_l3diff a2 a0 a1 m (w64 (v1+1)) v2 (v5++[(GChange.mk r10 true x11 false (GValue.mk 0 0 [] [] []))])
   else none
  else
  if 0<r8 then
   (yQ a2 (GStep.mk 0 x7 0)).bind fun r11=>
   (a1.L[i6]?).bind fun x12=>
   if zC 216 (v5.length+[(GChange.mk r11 false (GValue.mk 0 0 [] [] []) true x12)].length)then
   zz G_spec_l3diff a2 a0 a1 m v1 (w64 (v2+1)) (v5++[(GChange.mk r11 false (GValue.mk 0 0 [] [] []) true x12)])
   else none
  else
  (a0.L[i4]?).bind fun x11=>
  (a1.L[i6]?).bind fun x12=>
  (yQ a2 (GStep.mk 0 x5 0)).bind fun r13=>
  (G_spec_l3diff x11 x12 r13).bind fun r14=>
  if zC 216 (v5.length+r14.length)then
  zz G_spec_l3diff a2 a0 a1 m (w64 (v1+1)) (w64 (v2+1)) (v5++r14)
  else none
 else
 if v2<(a1.K.length:Int)then
  if(a0.K.length:Int)<=v1 then
   (zn v2).bind fun i4=>
   (a1.K[i4]?).bind fun x5=>
   (yQ a2 (GStep.mk 0 x5 0)).bind fun r6=>
   (a1.L[i4]?).bind fun x7=>
   if zC 216 (v5.length+[(GChange.mk r6 false (GValue.mk 0 0 [] [] []) true x7)].length)then
   zz G_spec_l3diff a2 a0 a1 m v1 (w64 (v2+1)) (v5++[(GChange.mk r6 false (GValue.mk 0 0 [] [] []) true x7)])
   else none
  else
  if(a1.K.length:Int)<=v2 then
   (zn v1).bind fun i5=>
   (a0.K[i5]?).bind fun x6=>
   (yQ a2 (GStep.mk 0 x6 0)).bind fun r7=>
   (a0.L[i5]?).bind fun x8=>
   if zC 216 (v5.length+[(GChange.mk r7 true x8 false (GValue.mk 0 0 [] [] []))].length)then
   zz G_spec_l3diff a2 a0 a1 m (w64 (v1+1)) v2 (v5++[(GChange.mk r7 true x8 false (GValue.mk 0 0 [] [] []))])
   else none
  else
  (zn v1).bind fun i5=>
  (a0.K[i5]?).bind fun x6=>
  (zn v2).bind fun i7=>
  (a1.K[i7]?).bind fun x8=>
  (xy x6 x8).bind fun r9=>
  if r9<0 then
   (yQ a2 (GStep.mk 0 x6 0)).bind fun r11=>
   (a0.L[i5]?).bind fun x12=>
   if zC 216 (v5.length+[(GChange.mk r11 true x12 false (GValue.mk 0 0 [] [] []))].length)then
   zz G_spec_l3diff a2 a0 a1 m (w64 (v1+1)) v2 (v5++[(GChange.mk r11 true x12 false (GValue.mk 0 0 [] [] []))])
   else none
  else
  if 0<r9 then
   (yQ a2 (GStep.mk 0 x8 0)).bind fun r12=>
   (a1.L[i7]?).bind fun x13=>
   if zC 216 (v5.length+[(GChange.mk r12 false (GValue.mk 0 0 [] [] []) true x13)].length)then
   zz G_spec_l3diff a2 a0 a1 m v1 (w64 (v2+1)) (v5++[(GChange.mk r12 false (GValue.mk 0 0 [] [] []) true x13)])
   else none
  else
  (a0.L[i5]?).bind fun x12=>
  (a1.L[i7]?).bind fun x13=>
  (yQ a2 (GStep.mk 0 x6 0)).bind fun r14=>
  (G_spec_l3diff x12 x13 r14).bind fun r15=>
  if zC 216 (v5.length+r15.length)then
  zz G_spec_l3diff a2 a0 a1 m (w64 (v1+1)) (w64 (v2+1)) (v5++r15)
  else none
 else
 some (v1,v2,v5)
theorem Ps (G_spec_l3diff:GValue→GValue→(List GStep)→Option (List GChange)) (H_spec_l3diff:vA G_spec_l3diff) (a2:(List GStep)) (a0:GValue) (a1:GValue) (m:Nat):∀(v1:Int) (v2:Int) (v5:(List GChange)),Ol (zz G_spec_l3diff a2 a0 a1 m v1 v2 v5) 38 (zD Tryz.f38 1) ⟨[(2,vq zU a2),(3,vp 0 0),(4,vp 1 0),(7,vr 2),(9,vi v1),(10,vi v2)],[.var (zi a0),.var (zi a1),.obj 13 (eL yg v5)],0⟩ fun o=>match o with |⟨o_0,o_1,o_2⟩=>(.exit 2,⟨[(2,vq zU a2),(3,vp 0 0),(4,vp 1 0),(7,vr 2),(9,vi o_0),(10,vi o_1),(84,vb false)],[.var (zi a0),.var (zi a1),.obj 13 (eL yg o_2)],0⟩):=by
 induction m with
 |zero=>intro v1 v2 v5 o h;cases h
 |succ m ih=>exact fun v1 v2 v5=>tlp (
  .le (zl za) a0.K<|.lI v1 (a0.K.length:Int) (fun c1=>.le (zl za) a0.K<|.gI (a0.K.length:Int) v1 (fun c2=>.q (.lFo 1 0 (by omega))<|.q (.lTo 0 1 (by omega))<|.na v2 fun i3=>.ix0 (zl za) a1.K i3 fun x4=>.cl (xz a2 (GStep.mk 0 x4 0)) fun r5=>.ag 2<|.ix zr a1.L i3 fun x6=>.vw zH []<|.vw (W4 za) []<|.vw qQ []<|.pl yp [(GChange.mk r5 false (GValue.mk 0 0 [] [] []) true x6)]<|.ap 216 yp v5 [(GChange.mk r5 false (GValue.mk 0 0 [] [] []) true x6)] fun n7=>.go (ih v1 (w64 (v2+1)) (v5++[(GChange.mk r5 false (GValue.mk 0 0 [] [] []) true x6)]))) fun c2=>.le (zl za) a1.K<|.gI (a1.K.length:Int) v2 (fun c3=>.q (.lTo (-1) 0 (by omega))<|.na v1 fun i4=>.ix0 (zl za) a0.K i4 fun x5=>.cl (xz a2 (GStep.mk 0 x5 0)) fun r6=>.ag 2<|.ix zr a0.L i4 fun x7=>.vw zH []<|.vw (W4 za) []<|.vw qQ []<|.pl yp [(GChange.mk r6 true x7 false (GValue.mk 0 0 [] [] []))]<|.ap 216 yp v5 [(GChange.mk r6 true x7 false (GValue.mk 0 0 [] [] []))] fun n8=>.go (ih (w64 (v1+1)) v2 (v5++[(GChange.mk r6 true x7 false (GValue.mk 0 0 [] [] []))]))) fun c3=>.na v1 fun i4=>.ix0 (zl za) a0.K i4 fun x5=>.na v2 fun i6=>.ix0 (zl za) a1.K i6 fun x7=>.cl (vO x5 x7) fun r8=>.lI r8 0 (fun c9=>.ag 4<|.ag 3<|.cl (xz a2 (GStep.mk 0 x5 0)) fun r10=>.ag 5<|.ix zr a0.L i4 fun x11=>.vw zH []<|.vw (W4 za) []<|.vw qQ []<|.pl yp [(GChange.mk r10 true x11 false (GValue.mk 0 0 [] [] []))]<|.ap 216 yp v5 [(GChange.mk r10 true x11 false (GValue.mk 0 0 [] [] []))] fun n12=>.go (ih (w64 (v1+1)) v2 (v5++[(GChange.mk r10 true x11 false (GValue.mk 0 0 [] [] []))]))) fun c9=>.lI 0 r8 (fun c10=>.ag 2<|.ag 1<|.cl (xz a2 (GStep.mk 0 x7 0)) fun r11=>.ag 3<|.ix zr a1.L i6 fun x12=>.vw zH []<|.vw (W4 za) []<|.vw qQ []<|.pl yp [(GChange.mk r11 false (GValue.mk 0 0 [] [] []) true x12)]<|.ap 216 yp v5 [(GChange.mk r11 false (GValue.mk 0 0 [] [] []) true x12)] fun n13=>.go (ih v1 (w64 (v2+1)) (v5++[(GChange.mk r11 false (GValue.mk 0 0 [] [] []) true x12)]))) fun c10=>.ag 4<|.ix zr a0.L i4 fun x11=>.ag 3<|.ix zr a1.L i6 fun x12=>.ag 6<|.ag 5<|.cl (xz a2 (GStep.mk 0 x5 0)) fun r13=>.cl (H_spec_l3diff x11 x12 r13) fun r14=>.ap 216 yp v5 r14 fun n15=>.go (ih (w64 (v1+1)) (w64 (v2+1)) (v5++r14))) fun c1=>.le (zl za) a1.K<|.lI v2 (a1.K.length:Int) (fun c2=>.le (zl za) a0.K<|.gI (a0.K.length:Int) v1 (fun c3=>.q (.lFo 1 0 (by omega))<|.q (.lTo 0 1 (by omega))<|.na v2 fun i4=>.ix0 (zl za) a1.K i4 fun x5=>.cl (xz a2 (GStep.mk 0 x5 0)) fun r6=>.ag 2<|.ix zr a1.L i4 fun x7=>.vw zH []<|.vw (W4 za) []<|.vw qQ []<|.pl yp [(GChange.mk r6 false (GValue.mk 0 0 [] [] []) true x7)]<|.ap 216 yp v5 [(GChange.mk r6 false (GValue.mk 0 0 [] [] []) true x7)] fun n8=>.go (ih v1 (w64 (v2+1)) (v5++[(GChange.mk r6 false (GValue.mk 0 0 [] [] []) true x7)]))) fun c3=>.le (zl za) a1.K<|.gI (a1.K.length:Int) v2 (fun c4=>.q (.lTo (-1) 0 (by omega))<|.na v1 fun i5=>.ix0 (zl za) a0.K i5 fun x6=>.cl (xz a2 (GStep.mk 0 x6 0)) fun r7=>.ag 2<|.ix zr a0.L i5 fun x8=>.vw zH []<|.vw (W4 za) []<|.vw qQ []<|.pl yp [(GChange.mk r7 true x8 false (GValue.mk 0 0 [] [] []))]<|.ap 216 yp v5 [(GChange.mk r7 true x8 false (GValue.mk 0 0 [] [] []))] fun n9=>.go (ih (w64 (v1+1)) v2 (v5++[(GChange.mk r7 true x8 false (GValue.mk 0 0 [] [] []))]))) fun c4=>.na v1 fun i5=>.ix0 (zl za) a0.K i5 fun x6=>.na v2 fun i7=>.ix0 (zl za) a1.K i7 fun x8=>.cl (vO x6 x8) fun r9=>.lI r9 0 (fun c10=>.ag 4<|.ag 3<|.cl (xz a2 (GStep.mk 0 x6 0)) fun r11=>.ag 5<|.ix zr a0.L i5 fun x12=>.vw zH []<|.vw (W4 za) []<|.vw qQ []<|.pl yp [(GChange.mk r11 true x12 false (GValue.mk 0 0 [] [] []))]<|.ap 216 yp v5 [(GChange.mk r11 true x12 false (GValue.mk 0 0 [] [] []))] fun n13=>.go (ih (w64 (v1+1)) v2 (v5++[(GChange.mk r11 true x12 false (GValue.mk 0 0 [] [] []))]))) fun c10=>.lI 0 r9 (fun c11=>.ag 2<|.ag 1<|.cl (xz a2 (GStep.mk 0 x8 0)) fun r12=>.ag 3<|.ix zr a1.L i7 fun x13=>.vw zH []<|.vw (W4 za) []<|.vw qQ []<|.pl yp [(GChange.mk r12 false (GValue.mk 0 0 [] [] []) true x13)]<|.ap 216 yp v5 [(GChange.mk r12 false (GValue.mk 0 0 [] [] []) true x13)] fun n14=>.go (ih v1 (w64 (v2+1)) (v5++[(GChange.mk r12 false (GValue.mk 0 0 [] [] []) true x13)]))) fun c11=>.ag 4<|.ix zr a0.L i5 fun x12=>.ag 3<|.ix zr a1.L i7 fun x13=>.ag 6<|.ag 5<|.cl (xz a2 (GStep.mk 0 x6 0)) fun r14=>.cl (H_spec_l3diff x12 x13 r14) fun r15=>.ap 216 yp v5 r15 fun n16=>.go (ih (w64 (v1+1)) (w64 (v2+1)) (v5++r15))) fun c2=>.ret (v1,v2,v5))
def XJ (G_spec_l3diff:GValue→GValue→(List GStep)→Option (List GChange)) (n:Nat) (a0:GValue) (a1:GValue) (a2:(List GStep)):Option (List GChange):=
 (kR a0 a1).bind fun r1=>
 if r1=0 then
  some []
 else
 if a0.Kind=4 then
  if a1.Kind=4 then
   if(a0.L.length:Int)=(a1.L.length:Int)then
    (jx G_spec_l3diff a2 a0 a1 n 0 []).bind fun⟨o6_0,o6_1⟩=>
    some o6_1
   else
   if zC 40 (0+a2.length)then
   some [(GChange.mk a2 true a0 true a1)]
   else none
  else
  if zC 40 (0+a2.length)then
  some [(GChange.mk a2 true a0 true a1)]
  else none
 else
 if a0.Kind=5 then
  if a1.Kind=5 then
   (zz G_spec_l3diff a2 a0 a1 n 0 0 []).bind fun⟨o6_0,o6_1,o6_2⟩=>
   some o6_2
  else
  if zC 40 (0+a2.length)then
  some [(GChange.mk a2 true a0 true a1)]
  else none
 else
 if zC 40 (0+a2.length)then
 some [(GChange.mk a2 true a0 true a1)]
 else none
theorem GP (G_spec_l3diff:GValue→GValue→(List GStep)→Option (List GChange)) (H_spec_l3diff:vA G_spec_l3diff) (n:Nat):vA (XJ G_spec_l3diff n):=fun a0 a1 a2=>tc (
 .cl (RD a0 a1) fun r1=>.eI r1 0 (fun c2=>.vw yp []<|.ret []) fun c2=>.eI a0.Kind 4 (fun c3=>.eI a1.Kind 4 (fun c4=>.le zd a0.L<|.le zd a1.L<|.eI (a0.L.length:Int) (a1.L.length:Int) (fun c5=>.lp (Pr G_spec_l3diff H_spec_l3diff a2 a0 a1 n 0 []) fun⟨o6_0,o6_1⟩=>.vw yp o6_1<|.ret o6_1) fun c5=>.q (.eFo a0.Kind 5 (by omega))<|.ap 40 vB [] a2 fun n6=>.vw vB a2<|.vw yp [(GChange.mk a2 true a0 true a1)]<|.ret [(GChange.mk a2 true a0 true a1)]) fun c4=>.q (.eFo a0.Kind 5 (by omega))<|.ap 40 vB [] a2 fun n5=>.vw vB a2<|.vw yp [(GChange.mk a2 true a0 true a1)]<|.ret [(GChange.mk a2 true a0 true a1)]) fun c3=>.eI a0.Kind 5 (fun c4=>.eI a1.Kind 5 (fun c5=>.lp (Ps G_spec_l3diff H_spec_l3diff a2 a0 a1 n 0 0 []) fun⟨o6_0,o6_1,o6_2⟩=>.vw yp o6_2<|.ret o6_2) fun c5=>.ap 40 vB [] a2 fun n6=>.vw vB a2<|.vw yp [(GChange.mk a2 true a0 true a1)]<|.ret [(GChange.mk a2 true a0 true a1)]) fun c4=>.ap 40 vB [] a2 fun n5=>.vw vB a2<|.vw yp [(GChange.mk a2 true a0 true a1)]<|.ret [(GChange.mk a2 true a0 true a1)]) (zf Tryz.func38)
def xL:Nat→GValue→GValue→(List GStep)→Option (List GChange)
 |0,_,_,_=>none
 |n+1,a0,a1,a2=>XJ (xL n) n a0 a1 a2
theorem LK (n:Nat):vA (xL n):=by
 induction n with
 |zero=>exact fun _ _ _ _ h=>(by rw[xL]at h;cases h)
 |succ n ih=>
  have ih_spec_l3diff:=ih
  exact fun a0 a1 a2 r h=>GP (xL n) ih_spec_l3diff n a0 a1 a2 r (by rw[xL]at h;exact h)
def xM (a0:GValue) (a1:GValue) (a2:(List GStep)):Option (List GChange):=xL (vsz a0+vsz a1+4) a0 a1 a2
theorem On (a0:GValue) (a1:GValue) (a2:(List GStep)) (r:(List GChange)) (h:xM a0 a1 a2=some r):∃n,xL n a0 a1 a2=some r:=⟨_,h⟩
theorem Xn:vA xM:=by
 intro a0 a1 a2 r h
 obtain⟨n,hn⟩:=On a0 a1 a2 r h
 exact(LK n) a0 a1 a2 r hn
def Z3 (F:GValue→Option GValue):Prop:=∀(a0:GValue),Oc (F a0) 78 [] [.val true (zi a0)] fun r=>(.val true (xT r),[])
def jU (G_spec_l2own:GValue→Option GValue) (a0:GValue) (v2:Int) (v3:Int) (v4:Int) (v5:Int) (v6:(List UInt8)) (v7:(List (List UInt8))) (v8:(List GValue)) (v9:(List UInt8)) (v11:(List GValue)):Nat→Int→(List (List UInt8))→Option (Int×(List (List UInt8)))
 |0,_,_=>none
 |m+1,v0,v10=>
 if v0<(a0.K.length:Int)then
  (zn v0).bind fun i2=>
  (a0.K[i2]?).bind fun x3=>
  if zC 1 (0+x3.length)then
  if zC 24 (v10.length+[x3].length)then
  jU G_spec_l2own a0 v2 v3 v4 v5 v6 v7 v8 v9 v11 m (w64 (v0+1)) (v10++[x3])
  else none
  else none
 else
 some (v0,v10)
theorem Oo (G_spec_l2own:GValue→Option GValue) (H_spec_l2own:Z3 G_spec_l2own) (a0:GValue) (v2:Int) (v3:Int) (v4:Int) (v5:Int) (v6:(List UInt8)) (v7:(List (List UInt8))) (v8:(List GValue)) (v9:(List UInt8)) (v11:(List GValue)) (m:Nat):∀(v0:Int) (v10:(List (List UInt8))),Ol (jU G_spec_l2own a0 v2 v3 v4 v5 v6 v7 v8 v9 v11 m v0 v10) 78 (zD Tryz.f78 0) ⟨[(1,vp 0 0),(2,vp 1 0),(3,vp 2 0),(4,vi v0)],[.var (zi a0),.var [ci v2,ci v3,.ref 3,.ref 4,.ref 5],.var [ci v4,ci v5,.ref 6,.ref 7,.ref 8],.obj 1 (eL za v6),.obj 1 (eL (yn 1 za) v7),.obj 5 (eL zt v8),.obj 1 (eL za v9),.obj 1 (eL (yn 1 za) v10),.obj 5 (eL zt v11)],0⟩ fun o=>match o with |⟨o_0,o_1⟩=>(.exit 0,⟨[(1,vp 0 0),(2,vp 1 0),(3,vp 2 0),(4,vi o_0),(19,vb false)],[.var (zi a0),.var [ci v2,ci v3,.ref 3,.ref 4,.ref 5],.var [ci v4,ci v5,.ref 6,.ref 7,.ref 8],.obj 1 (eL za v6),.obj 1 (eL (yn 1 za) v7),.obj 5 (eL zt v8),.obj 1 (eL za v9),.obj 1 (eL (yn 1 za) o_1),.obj 5 (eL zt v11)],0⟩):=by
 induction m with
 |zero=>intro v0 v10 o h;cases h
 |succ m ih=>exact fun v0 v10=>tlp (
  .le (zl za) a0.K<|.lI v0 (a0.K.length:Int) (fun c1=>.na v0 fun i2=>.ix0 (zl za) a0.K i2 fun x3=>.ap 1 zH [] x3 fun n4=>.ao 24 (W5 1 kh) v10 [x3] fun n5=>.go (ih (w64 (v0+1)) (v10++[x3]))) fun c1=>.ret (v0,v10))
def jV (G_spec_l2own:GValue→Option GValue) (a0:GValue) (v2:Int) (v3:Int) (v4:Int) (v5:Int) (v6:(List UInt8)) (v7:(List (List UInt8))) (v8:(List GValue)) (v9:(List UInt8)) (v10:(List (List UInt8))):Nat→Int→(List GValue)→Option (Int×(List GValue))
 |0,_,_=>none
 |m+1,v0,v11=>
 if v0<(a0.L.length:Int)then
  (zn v0).bind fun i2=>
  (a0.L[i2]?).bind fun x3=>
  (G_spec_l2own x3).bind fun r4=>
  if zC 88 (v11.length+[r4].length)then
  jV G_spec_l2own a0 v2 v3 v4 v5 v6 v7 v8 v9 v10 m (w64 (v0+1)) (v11++[r4])
  else none
 else
 some (v0,v11)
theorem Oq (G_spec_l2own:GValue→Option GValue) (H_spec_l2own:Z3 G_spec_l2own) (a0:GValue) (v2:Int) (v3:Int) (v4:Int) (v5:Int) (v6:(List UInt8)) (v7:(List (List UInt8))) (v8:(List GValue)) (v9:(List UInt8)) (v10:(List (List UInt8))) (m:Nat):∀(v0:Int) (v11:(List GValue)),Ol (jV G_spec_l2own a0 v2 v3 v4 v5 v6 v7 v8 v9 v10 m v0 v11) 78 (zD Tryz.f78 1) ⟨[(1,vp 0 0),(2,vp 1 0),(3,vp 2 0),(5,vi v0)],[.var (zi a0),.var [ci v2,ci v3,.ref 3,.ref 4,.ref 5],.var [ci v4,ci v5,.ref 6,.ref 7,.ref 8],.obj 1 (eL za v6),.obj 1 (eL (yn 1 za) v7),.obj 5 (eL zt v8),.obj 1 (eL za v9),.obj 1 (eL (yn 1 za) v10),.obj 5 (eL zt v11)],0⟩ fun o=>match o with |⟨o_0,o_1⟩=>(.exit 2,⟨[(1,vp 0 0),(2,vp 1 0),(3,vp 2 0),(5,vi o_0),(38,vb false)],[.var (zi a0),.var [ci v2,ci v3,.ref 3,.ref 4,.ref 5],.var [ci v4,ci v5,.ref 6,.ref 7,.ref 8],.obj 1 (eL za v6),.obj 1 (eL (yn 1 za) v7),.obj 5 (eL zt v8),.obj 1 (eL za v9),.obj 1 (eL (yn 1 za) v10),.obj 5 (eL zt o_1)],0⟩):=by
 induction m with
 |zero=>intro v0 v11 o h;cases h
 |succ m ih=>exact fun v0 v11=>tlp (
  .le zd a0.L<|.lI v0 (a0.L.length:Int) (fun c1=>.na v0 fun i2=>.ix zr a0.L i2 fun x3=>.cl (H_spec_l2own x3) fun r4=>.nd (zC 88 (v11.length+[r4].length)) fun n5=>.q ⟨.room 88 (eL zt v11) ([(xT r4)]:List (List C)),.b true,by rw[(show([(xT r4)]:List (List C))=eL zt [r4]from(Qx (yJ r4) JD))];exact(A.room n5)⟩<|.q ⟨.uni 5 ([(xT r4)]:List (List C)),.b true,by rw[(show([(xT r4)]:List (List C))=eL zt [r4]from(Qx (yJ r4) JD))];exact(A.uniO Zg)⟩<|.q ⟨.app (eL zt v11) ([(xT r4)]:List (List C)),.l (eL zt (v11++[r4])),by rw[(show([(xT r4)]:List (List C))=eL zt [r4]from(Qx (yJ r4) JD))];exact A.app⟩<|.go (ih (w64 (v0+1)) (v11++[r4]))) fun c1=>.ret (v0,v11))
def JU (G_spec_l2own:GValue→Option GValue) (n:Nat) (a0:GValue):Option GValue:=
 if zC 1 (0+a0.S.length)then
 (jU G_spec_l2own a0 0 0 a0.Kind a0.N [] [] [] a0.S [] n 0 []).bind fun⟨o2_0,o2_1⟩=>
 (jV G_spec_l2own a0 0 0 a0.Kind a0.N [] [] [] a0.S o2_1 n 0 []).bind fun⟨o3_0,o3_1⟩=>
 some (GValue.mk a0.Kind a0.N a0.S o2_1 o3_1)
 else none
theorem E4 (G_spec_l2own:GValue→Option GValue) (H_spec_l2own:Z3 G_spec_l2own) (n:Nat):Z3 (JU G_spec_l2own n):=fun a0=>tc (
 .ap 1 zH [] a0.S fun n1=>.lp (Oo G_spec_l2own H_spec_l2own a0 0 0 a0.Kind a0.N [] [] [] a0.S [] n 0 []) fun⟨o2_0,o2_1⟩=>.lp (Oq G_spec_l2own H_spec_l2own a0 0 0 a0.Kind a0.N [] [] [] a0.S o2_1 n 0 []) fun⟨o3_0,o3_1⟩=>.ret (GValue.mk a0.Kind a0.N a0.S o2_1 o3_1)) (zf Tryz.func78)
def wV:Nat→GValue→Option GValue
 |0,_=>none
 |n+1,a0=>JU (wV n) n a0
theorem Nt (n:Nat):Z3 (wV n):=by
 induction n with
 |zero=>exact fun _ _ h=>(by rw[wV]at h;cases h)
 |succ n ih=>
  have ih_spec_l2own:=ih
  exact fun a0 r h=>E4 (wV n) ih_spec_l2own n a0 r (by rw[wV]at h;exact h)
theorem D9 {G:GValue→Option GValue} {a:GValue} {v2 v3 v4 v5:Int} {v6:List UInt8} {v7:List (List UInt8)} {v8:List GValue} {v9:List UInt8} {v11:List GValue} (ha:bsz a.K<=2 ^ 39):∀(l p:List (List UInt8)) (m:Nat),a.K=p++l→l.length<m→∃z,jU G a v2 v3 v4 v5 v6 v7 v8 v9 v11 m (p.length:Int) p=some (z,a.K):=by
 have hl:=wT a.K
 intro l
 induction l with
 |nil=>
  intro p m he hm
  obtain⟨m,rfl,_⟩:=zg hm
  exact⟨_,by rw[jU,he,if_neg (xF p)];simp;rfl⟩
 |cons x l ih=>
  intro p m he hm
  obtain⟨m,rfl,hm'⟩:=zg hm
  have hx:1+x.length<=bsz a.K:=ZD (by rw[he];simp)
  have hlen:a.K.length=p.length+(l.length+1):=by rw[he];simp
  obtain⟨z,hz⟩:=ih (p++[x]) m (by rw[he];simp) (by simp only[List.length_cons]at hm';omega)
  refine⟨z,?_⟩
  rw[jU,if_pos (by rw[he];exact ZE p x l),zb,oB,show a.K[p.length]? =some x by rw[he];exact zp p x l,oB,if_pos (xc (by decide) (by omega)),if_pos (xc (by decide) (by simp only[List.length_cons,List.length_nil];omega)),ye p x (by omega),hz]
theorem DA {G:GValue→Option GValue} {a:GValue} {v2 v3 v4 v5:Int} {v6:List UInt8} {v7:List (List UInt8)} {v8:List GValue} {v9:List UInt8} {v10:List (List UInt8)} (ha:yX a.L<=2 ^ 39):∀(l p:List GValue) (m:Nat),a.L=p++l→(∀x∈l,G x=some x)→l.length<m→∃z,jV G a v2 v3 v4 v5 v6 v7 v8 v9 v10 m (p.length:Int) p=some (z,a.L):=by
 have hl:=yS a.L
 intro l
 induction l with
 |nil=>
  intro p m he _ hm
  obtain⟨m,rfl,_⟩:=zg hm
  exact⟨_,by rw[jV,he,if_neg (xF p)];simp;rfl⟩
 |cons x l ih=>
  intro p m he hG hm
  obtain⟨m,rfl,hm'⟩:=zg hm
  have hlen:a.L.length=p.length+(l.length+1):=by rw[he];simp
  obtain⟨z,hz⟩:=ih (p++[x]) m (by rw[he];simp) (fun y hy=>hG y (List.mem_cons_of_mem _ hy)) (by simp only[List.length_cons]at hm';omega)
  refine⟨z,?_⟩
  rw[jV,if_pos (by omega),zb,oB,show a.L[p.length]? =some x by rw[he];exact zp p x l,oB,hG x List.mem_cons_self,oB,if_pos (xc (by decide) (by simp only[List.length_cons,List.length_nil];omega)),ye p x (by omega),hz]
theorem zis:∀(N:Nat) (v:GValue),vsz v<N→vsz v<=2 ^ 39→∀f:Nat,vsz v+2<=f→wV f v=some v:=by
 intro N
 induction N with
 |zero=>intro v hv;omega
 |succ N ih=>
  intro v hv hs f hf
  obtain⟨f,rfl,_⟩:=zg (show 0<f by omega)
  have he:=yT v
  have hl:=yS v.L
  have hb:=wT v.K
  rw[wV]
  unfold JU
  rw[if_pos (xc (by decide) (by omega))]
  obtain⟨y,hy⟩:=D9 (G:=wV f) (a:=v) (v2:=0) (v3:=0) (v4:=v.Kind) (v5:=v.N) (v6:=[]) (v7:=[]) (v8:=[]) (v9:=v.S) (v11:=[]) (by omega) v.K [] f rfl (by omega)
  simp only[List.length_nil,Int.natCast_zero]at hy
  rw[hy,oB]
  dsimp only
  obtain⟨z,hz⟩:=DA (G:=wV f) (a:=v) (v2:=0) (v3:=0) (v4:=v.Kind) (v5:=v.N) (v6:=[]) (v7:=[]) (v8:=[]) (v9:=v.S) (v10:=v.K) (by omega) v.L [] f rfl (fun x hx=>by
   have:=yN hx
   exact ih x (by omega) (by omega) f (by omega)) (by omega)
  simp only[List.length_nil,Int.natCast_zero]at hz
  rw[hz]
  exact congrArg some (GValue.eta v)
def kU (a0:GValue):Option GValue:=if vsz a0<=2 ^ 39 then some a0 else none
theorem LL (a0:GValue) (r:GValue) (h:kU a0=some r):∃n,wV n a0=some r:=by
 unfold kU at h
 obtain⟨ha,h⟩:=zB h
 exact⟨vsz a0+2,by rw[<-h];exact zis _ a0 (Nat.lt_succ_self _) ha _ (Nat.le_refl _)⟩
theorem RI:Z3 kU:=by
 intro a0 r h
 obtain⟨n,hn⟩:=LL a0 r h
 exact(Nt n) a0 r hn
def TW (F:(List GChange)→Option (List GChange)):Prop:=∀(a0:(List GChange)),Oc (F a0) 37 [] [vq yg a0] fun r=>(.val false [.own 13 (eL yO r)],[])
def jW (a0:(List GChange)) (v1:Int) (v3:(List GChange)) (v4:Bool) (v5:Int) (v6:Int) (v7:Bool) (v8:Int) (v9:Int) (v11:(List UInt8)) (v12:(List (List UInt8))) (v13:(List GValue)) (v14:(List UInt8)) (v15:(List (List UInt8))) (v16:(List GValue)):Nat→Int→(List GStep)→Option (Int×(List GStep))
 |0,_,_=>none
 |m+1,v2,v10=>
 (zn v1).bind fun i1=>
 (a0[i1]?).bind fun x2=>
 if v2<(x2.Path.length:Int)then
  (zn v2).bind fun i4=>
  (x2.Path[i4]?).bind fun x5=>
  if zC 1 (0+x5.Key.length)then
  if zC 40 (v10.length+[x5].length)then
  jW a0 v1 v3 v4 v5 v6 v7 v8 v9 v11 v12 v13 v14 v15 v16 m (w64 (v2+1)) (v10++[x5])
  else none
  else none
 else
 some (v2,v10)
theorem Ot (a0:(List GChange)) (v1:Int) (v3:(List GChange)) (v4:Bool) (v5:Int) (v6:Int) (v7:Bool) (v8:Int) (v9:Int) (v11:(List UInt8)) (v12:(List (List UInt8))) (v13:(List GValue)) (v14:(List UInt8)) (v15:(List (List UInt8))) (v16:(List GValue)) (m:Nat):∀(v2:Int) (v10:(List GStep)),Ol (jW a0 v1 v3 v4 v5 v6 v7 v8 v9 v11 v12 v13 v14 v15 v16 m v2 v10) 37 (zD Tryz.f37 1) ⟨[(0,vq yg a0),(3,vr 0),(4,vi v1),(5,vp 1 0),(6,vi v2)],[.obj 13 (eL yO v3),.var [.ref 2,.bool v4,ci v5,ci v6,.ref 3,.ref 4,.ref 5,.bool v7,ci v8,ci v9,.ref 6,.ref 7,.ref 8],.obj 3 (eL qY v10),.obj 1 (eL za v11),.obj 1 (eL (yn 1 za) v12),.obj 5 (eL zt v13),.obj 1 (eL za v14),.obj 1 (eL (yn 1 za) v15),.obj 5 (eL zt v16)],0⟩ fun o=>match o with |⟨o_0,o_1⟩=>(.exit 2,⟨[(0,vq yg a0),(3,vr 0),(4,vi v1),(5,vp 1 0),(6,vi o_0),(44,vb false)],[.obj 13 (eL yO v3),.var [.ref 2,.bool v4,ci v5,ci v6,.ref 3,.ref 4,.ref 5,.bool v7,ci v8,ci v9,.ref 6,.ref 7,.ref 8],.obj 3 (eL qY o_1),.obj 1 (eL za v11),.obj 1 (eL (yn 1 za) v12),.obj 5 (eL zt v13),.obj 1 (eL za v14),.obj 1 (eL (yn 1 za) v15),.obj 5 (eL zt v16)],0⟩):=by
 induction m with
 |zero=>intro v2 v10 o h;cases h
 |succ m ih=>exact fun v2 v10=>tlp (
  .na v1 fun i1=>.ix vV a0 i1 fun x2=>.le zU x2.Path<|.lI v2 (x2.Path.length:Int) (fun c3=>.ag 1<|.ag 0<|.na v2 fun i4=>.ix Ya x2.Path i4 fun x5=>.ap 1 zH [] x5.Key fun n6=>.ao 40 Wr v10 [x5] fun n7=>.go (ih (w64 (v2+1)) (v10++[x5]))) fun c3=>.ret (v2,v10))
def jX (n:Nat) (a0:(List GChange)):Nat→Int→(List GChange)→Option (Int×(List GChange))
 |0,_,_=>none
 |m+1,v1,v2=>
 if v1<(a0.length:Int)then
  (zn v1).bind fun i2=>
  (a0[i2]?).bind fun x3=>
  (kU x3.Old).bind fun r4=>
  (kU x3.New).bind fun r5=>
  (jW a0 v1 v2 x3.Had r4.Kind r4.N x3.Has r5.Kind r5.N r4.S r4.K r4.L r5.S r5.K r5.L n 0 []).bind fun⟨o6_0,o6_1⟩=>
  if zC 216 (v2.length+[(GChange.mk o6_1 x3.Had r4 x3.Has r5)].length)then
  jX n a0 m (w64 (v1+1)) (v2++[(GChange.mk o6_1 x3.Had r4 x3.Has r5)])
  else none
 else
 some (v1,v2)
theorem Ou (n:Nat) (a0:(List GChange)) (m:Nat):∀(v1:Int) (v2:(List GChange)),Ol (jX n a0 m v1 v2) 37 (zD Tryz.f37 0) ⟨[(0,vq yg a0),(3,vr 0),(4,vi v1)],[.obj 13 (eL yO v2)],0⟩ fun o=>match o with |⟨o_0,o_1⟩=>(.exit 0,⟨[(0,vq yg a0),(3,vr 0),(4,vi o_0),(11,vb false)],[.obj 13 (eL yO o_1)],0⟩):=by
 induction m with
 |zero=>intro v1 v2 o h;cases h
 |succ m ih=>exact fun v1 v2=>tlp (
  .le yg a0<|.lI v1 (a0.length:Int) (fun c1=>.na v1 fun i2=>.ix vV a0 i2 fun x3=>.ag 1<|.ag 0<|.cl (RI x3.Old) fun r4=>.ag 2<|.ag 1<|.ag 2<|.ag 1<|.cl (RI x3.New) fun r5=>.lp (Ot a0 v1 v2 x3.Had r4.Kind r4.N x3.Has r5.Kind r5.N r4.S r4.K r4.L r5.S r5.K r5.L n 0 []) fun⟨o6_0,o6_1⟩=>.ao 216 zZ v2 [(GChange.mk o6_1 x3.Had r4 x3.Has r5)] fun n7=>.go (ih (w64 (v1+1)) (v2++[(GChange.mk o6_1 x3.Had r4 x3.Has r5)]))) fun c1=>.ret (v1,v2))
def JV (n:Nat) (a0:(List GChange)):Option (List GChange):=
 (jX n a0 n 0 []).bind fun⟨o1_0,o1_1⟩=>
 some o1_1
theorem E5 (n:Nat):TW (JV n):=fun a0=>tc (
 .lp (Ou n a0 n 0 []) fun⟨o1_0,o1_1⟩=>.ret o1_1) (zf Tryz.func37)
theorem zej {a:List GChange} {i:Nat} {v1:Int} {v3:List GChange} {v4 v7:Bool} {v5 v6 v8 v9:Int} {v11:List UInt8} {v12:List (List UInt8)} {v13:List GValue} {v14:List UInt8} {v15:List (List UInt8)} {v16:List GValue} {x:GChange} (h1:zn v1=some i) (h2:a[i]? =some x) (ha:yu x.Path<=2 ^ 38):∀(l p:List GStep) (m:Nat),x.Path=p++l→l.length<m→∃z,jW a v1 v3 v4 v5 v6 v7 v8 v9 v11 v12 v13 v14 v15 v16 m (p.length:Int) p=some (z,x.Path):=by
 have hl:=k8 x.Path
 intro l
 induction l with
 |nil=>
  intro p m he hm
  obtain⟨m,rfl,_⟩:=zg hm
  exact⟨_,by rw[jW,h1,oB,h2,oB,he,List.append_nil,if_neg (by omega)]⟩
 |cons y l ih=>
  intro p m he hm
  obtain⟨m,rfl,hm'⟩:=zg hm
  have hx:1+Wh y<=yu x.Path:=UA (by rw[he];simp)
  unfold Wh at hx
  have hlen:x.Path.length=p.length+(l.length+1):=by rw[he];simp
  obtain⟨z,hz⟩:=ih (p++[y]) m (by rw[he];simp) (by simp only[List.length_cons]at hm';omega)
  refine⟨z,?_⟩
  rw[jW,h1,oB,h2,oB,if_pos (by omega),zb,oB,show x.Path[p.length]? =some y by rw[he];exact zp p y l,oB,if_pos (xc (by decide) (by omega)),if_pos (xc (by decide) (by simp only[List.length_cons,List.length_nil];omega)),ye p y (by omega),hz]
theorem Aq {a:List GChange} {n:Nat} (ha:zY a<=2 ^ 38) (hn:zY a<n):∀(l p:List GChange) (m:Nat),a=p++l→l.length<m→∃z,jX n a m (p.length:Int) p=some (z,a):=by
 have hl:=k9 a
 intro l
 induction l with
 |nil=>
  intro p m he hm
  subst he
  obtain⟨m,rfl,_⟩:=zg hm
  exact⟨_,by rw[jX,if_neg (xF p)];simp;rfl⟩
 |cons x l ih=>
  intro p m he hm
  obtain⟨m,rfl,hm'⟩:=zg hm
  have hx:1+X7 x<=zY a:=Gx (by rw[he];simp)
  unfold X7 at hx
  have hlp:=k8 x.Path
  have hlen:a.length=p.length+(l.length+1):=by rw[he];simp
  have hg:a[p.length]? =some x:=by rw[he];exact zp p x l
  obtain⟨z,hz⟩:=ih (p++[x]) m (by rw[he];simp) (by simp only[List.length_cons]at hm';omega)
  refine⟨z,?_⟩
  obtain⟨y,hy⟩:=zej (v3:=p) (v4:=x.Had) (v5:=x.Old.Kind) (v6:=x.Old.N) (v7:=x.Has) (v8:=x.New.Kind) (v9:=x.New.N) (v11:=x.Old.S) (v12:=x.Old.K) (v13:=x.Old.L) (v14:=x.New.S) (v15:=x.New.K) (v16:=x.New.L) (zb p.length) hg (by omega) x.Path [] n rfl (by omega)
  simp only[List.length_nil,Int.natCast_zero]at hy
  have ex:GChange.mk x.Path x.Had x.Old x.Has x.New=x:=by cases x;rfl
  rw[jX,if_pos (by omega),zb,oB,hg,oB,show kU x.Old=some x.Old from if_pos (by omega),oB,show kU x.New=some x.New from if_pos (by omega),oB,hy,oB]
  dsimp only
  rw[ex,if_pos (vC (by simp only[List.length_cons,List.length_nil];omega)),ye p x (by omega),hz]
def jL (a0:(List GChange)):Option (List GChange):=if zY a0<=2 ^ 38 then some a0 else none
theorem LM (a0:(List GChange)) (r:(List GChange)) (h:jL a0=some r):∃n,JV n a0=some r:=by
 unfold jL at h
 obtain⟨ha,h⟩:=zB h
 have hl:=k9 a0
 refine⟨zY a0+1,?_⟩
 unfold JV
 obtain⟨z,hz⟩:=Aq (n:=zY a0+1) ha (Nat.lt_succ_self _) a0 [] (zY a0+1) rfl (by omega)
 simp only[List.length_nil,Int.natCast_zero]at hz
 rw[hz,<-h];rfl
theorem XK:TW jL:=fun a0 r h=>(LM a0 r h).elim fun n hn=>E5 n a0 r hn
def Xo (a0:GHistory) (a1:Int) (a2:Int) (a3:(List UInt8)):Option ((List GChange)×Bool):=
 (Ze a0 a1).bind fun r1=>
 match r1 with
 |true=>
  (Ze a0 a2).bind fun r2=>
  match r2 with
  |true=>
   (wY a0 (w64 (a1 - a0.Base.Serial))).bind fun⟨r3_0,r3_1⟩=>
   (wY a0 (w64 (a2 - a0.Base.Serial))).bind fun⟨r4_0,r4_1⟩=>
   (jw r3_0 a3 []).bind fun⟨r5_0,r5_1⟩=>
   (jw r4_0 a3 []).bind fun⟨r6_0,r6_1⟩=>
   match r5_1 with
   |true=>
    match r6_1 with
    |true=>
     (xM r5_0 r6_0 []).bind fun r7=>
     (jL r7).bind fun r8=>
     some (r8,true)
    |false=>
     (xM r5_0 (GValue.mk 5 0 [] [] []) []).bind fun r7=>
     (jL r7).bind fun r8=>
     some (r8,true)
   |false=>
    match r6_1 with
    |true=>
     (xM (GValue.mk 5 0 [] [] []) r6_0 []).bind fun r7=>
     (jL r7).bind fun r8=>
     some (r8,true)
    |false=>
     (xM (GValue.mk 5 0 [] [] []) (GValue.mk 5 0 [] [] []) []).bind fun r7=>
     (jL r7).bind fun r8=>
     some (r8,true)
  |false=>
   some ([],false)
 |false=>
  some ([],false)
theorem LN (a0:GHistory) (a1:Int) (a2:Int) (a3:(List UInt8)):Oc (Xo a0 a1 a2 a3) 7 [] [.val true (xv a0),vi a1,vi a2,vq za a3] fun r=>(.tup [(false,[.own 13 (eL yO r.1)]),(false,[.bool r.2])],[]):=tc (
 .cl (TT a0 a1) fun r1=>.vN 0 r1 (
  .an 0 0<|.an 0 0<|.cl (TT a0 a2) fun r2=>.an 0 1<|.an 0 1<|.vN 0 r2 (
   .cl (Qp a0 (w64 (a1 - a0.Base.Serial))) fun⟨r3_0,r3_1⟩=>.cl (Qp a0 (w64 (a2 - a0.Base.Serial))) fun⟨r4_0,r4_1⟩=>.cl (KM r3_0 a3 []) fun⟨r5_0,r5_1⟩=>.cl (KM r4_0 a3 []) fun⟨r6_0,r6_1⟩=>.vN 0 r5_1 (
    .vN 0 r6_1 (
     .cl (Xn r5_0 r6_0 []) fun r7=>.cl (XK r7) fun r8=>.ret (r8,true))<|.vw zH []<|.vw (W4 za) []<|.vw qQ []<|.cl (Xn r5_0 (GValue.mk 5 0 [] [] []) []) fun r7=>.cl (XK r7) fun r8=>.ret (r8,true))<|.vN 0 r6_1 (
    .vw zH []<|.vw (W4 za) []<|.vw qQ []<|.cl (Xn (GValue.mk 5 0 [] [] []) r6_0 []) fun r7=>.cl (XK r7) fun r8=>.ret (r8,true))<|.vw zH []<|.vw (W4 za) []<|.vw qQ []<|.vw zH []<|.vw (W4 za) []<|.vw qQ []<|.cl (Xn (GValue.mk 5 0 [] [] []) (GValue.mk 5 0 [] [] []) []) fun r7=>.cl (XK r7) fun r8=>.ret (r8,true))<|.ret ([],false))<|.an 0 0<|.an 0 0<|.an 0 0<|.an 0 0<|.ret ([],false)) (zf Tryz.func7)
def xg (a0:Int) (a1:Int) (a2:Int):Option Bool:=
 if a1<=a0 then
  some (decide (a0<=a2))
 else
 some false
theorem wZ (a0:Int) (a1:Int) (a2:Int):Oc (xg a0 a1 a2) 42 [] [vi a0,vi a1,vi a2] fun r=>(vb r,[]):=tc (
 .gI a1 a0 (fun c1=>.gD a0 a2<|.ret (decide (a0<=a2))) fun c1=>.ret false) (zf Tryz.func42)
def Xy (a0:(List UInt8)) (a1:UInt8):Option Int:=
 (jB a0 a1).bind fun r1=>
 some r1
theorem TX (a0:(List UInt8)) (a1:UInt8):Oc (Xy a0 a1) 286 [] [vq za a0,.val false [.int .u8 ((a1.toNat:Nat):Int)]] fun r=>(vi r,[]):=tc (
 .cl (WZ a0 a1) fun r1=>.ret r1) (zf Tryz.func286)
def wn (a0:(List UInt8)) (a1:(List UInt8)):Option Bool:=
 some (decide (a0=a1))
theorem kG (a0:(List UInt8)) (a1:(List UInt8)):Oc (wn a0 a1) 64 [] [vq za a0,vq za a1] fun r=>(vb r,[]):=tc (
 .bt a0<|.bt a1<|.sD a0 a1<|.ret (decide (a0=a1))) (zf Tryz.func64)
def Yh (a0:(List UInt8)) (a1:(List UInt8)):Option Int:=
 if(a1.length:Int)=0 then
  some 0
 else
 if(a1.length:Int)=1 then
  (a1[0]?).bind fun x3=>
  (Xy a0 x3).bind fun r4=>
  some r4
 else
 if(a1.length:Int)=(a0.length:Int)then
  (wn a1 a0).bind fun r4=>
  match r4 with
  |true=>
   some 0
  |false=>
   some (-1)
 else
 if(a0.length:Int)<(a1.length:Int)then
  some (-1)
 else
 none
theorem Nu (a0:(List UInt8)) (a1:(List UInt8)):Oc (Yh a0 a1) 253 [] [vq za a0,vq za a1] fun r=>(vi r,[]):=tc (
 .le za a1<|.eI (a1.length:Int) 0 (fun c1=>.ret 0) fun c1=>.eI (a1.length:Int) 1 (fun c2=>.nl 0<|.ix0 za a1 0 fun x3=>.cl (TX a0 x3) fun r4=>.ret r4) fun c2=>.le za a0<|.eI (a1.length:Int) (a0.length:Int) (fun c3=>.cl (kG a1 a0) fun r4=>.vM 0 r4 (
   .ret 0)<|.ret (-1)) fun c3=>.le za a0<|.lI (a0.length:Int) (a1.length:Int) (fun c4=>.ret (-1)) fun c4=>.no) (zf Tryz.func253)
def QB (a0:(List UInt8)) (a1:(List UInt8)):Option ((List UInt8)×(List UInt8)×Bool):=
 (Yh a0 a1).bind fun r1=>
 if 0<=r1 then
  (zn r1).bind fun i3=>
  (qK a0 none (some i3)).bind fun s4=>
  (zn (w64 (r1+(a1.length:Int)))).bind fun i5=>
  (qK a0 (some i5) none).bind fun s6=>
  some (s4,s6,true)
 else
 some (a0,[],false)
theorem E6 (a0:(List UInt8)) (a1:(List UInt8)):Oc (QB a0 a1) 191 [] [vq za a0,vq za a1] fun r=>(.tup [(false,[cq za r.1]),(false,[cq za r.2.1]),(false,[.bool r.2.2])],[]):=tc (
 .cl (Nu a0 a1) fun r1=>.gI 0 r1 (fun c2=>.na r1 fun i3=>.ct za a0 none (some i3) fun s4=>.un zH a0<|.le za a1<|.na (w64 (r1+(a1.length:Int))) fun i5=>.ct za a0 (some i5) none fun s6=>.un zH a0<|.ret (s4,s6,true)) fun c2=>.vw zH []<|.ret (a0,[],false)) (zf Tryz.func191)
def RJ (F:(List UInt8)→Option Bool):Prop:=∀(a0:(List UInt8)),Oc (F a0) 192 [] [vq za a0] fun r=>(vb r,[])
def jy (a0:(List UInt8)) (v1:Int):Nat→Int→Option (Bool⊕Int)
 |0,_=>none
 |m+1,v2=>
 if v2<v1 then
  (zn v2).bind fun i2=>
  (a0[i2]?).bind fun x3=>
  if((x3.toNat:Nat):Int)<97 then
   some (.inl false)
  else
  if 122<((x3.toNat:Nat):Int)then
   some (.inl false)
  else
  jy a0 v1 m (w64 (v2+1))
 else
 some (.inr v2)
theorem Pt (a0:(List UInt8)) (v1:Int) (m:Nat):∀(v2:Int),Ol (jy a0 v1 m v2) 192 (zD Tryz.f192 0) ⟨[(0,vq za a0),(5,vq za a0),(6,vi v1),(7,vi v2)],[],0⟩ fun o=>match o with | .inl o_0=>(.ret,⟨[(2,vb o_0)],[],0⟩)| .inr (o_1)=>(.exit 0,⟨[(0,vq za a0),(5,vq za a0),(6,vi v1),(7,vi o_1),(8,vb false)],[],0⟩):=by
 induction m with
 |zero=>intro v2 o h;cases h
 |succ m ih=>exact fun v2=>tlp (
  .lI v2 v1 (fun c1=>.na v2 fun i2=>.ix0 za a0 i2 fun x3=>.lI ((x3.toNat:Nat):Int) 97 (fun c4=>.ret (.inl false)) fun c4=>.lI 122 ((x3.toNat:Nat):Int) (fun c5=>.ret (.inl false)) fun c5=>.go (ih (w64 (v2+1)))) fun c1=>.ret (.inr v2))
def Je (n:Nat) (a0:(List UInt8)):Option Bool:=
 (jy a0 (a0.length:Int) n 0).bind fun o1=>
 match o1 with
 | .inl o1_0=>
  some o1_0
 | .inr (o1_1)=>
  (xg (a0.length:Int) 1 8).bind fun r2=>
  some r2
theorem GQ (n:Nat):RJ (Je n):=fun a0=>tc (
 .le za a0<|.l2 (Pt a0 (a0.length:Int) n 0) (fun o1_0=>.ret o1_0) fun o1_1=>.le za a0<|.cl (wZ (a0.length:Int) 1 8) fun r2=>.ret r2) (zf Tryz.func192)
theorem Ov {a:List UInt8} (ha:a.length<=2 ^ 20):∀(d i m:Nat),i+d=a.length→d<m→∃z,jy a (a.length:Int) m (i:Int)=some (if(a.drop i).all (inB 97 122)=true then .inr z else .inl false):=by
 intro d
 induction d with
 |zero=>
  intro i m hi hm
  obtain⟨m,rfl,_⟩:=zg hm
  exact⟨_,by rw[jy,if_neg (by omega),List.drop_eq_nil_of_le (by omega)];rfl⟩
 |succ d ih=>
  intro i m hi hm
  obtain⟨m,rfl,hm'⟩:=zg hm
  have hil:i<a.length:=by omega
  rw[jy,if_pos (by omega),zb,oB,zj hil,oB,zG (by omega),wb hil,List.all_cons]
  by_cases h1:((a[i].toNat:Nat):Int)<97
  ·exact⟨0,by rw[if_pos h1,if_neg];simp[inB];omega⟩
  ·rw[if_neg h1]
   by_cases h2:(122:Int)<((a[i].toNat:Nat):Int)
   ·exact⟨0,by rw[if_pos h2,if_neg];simp[inB];omega⟩
   ·rw[if_neg h2,show inB 97 122 a[i]=true by simp[inB];omega,Bool.true_and]
    exact ih (i+1) m (by omega) (by omega)
theorem QC (a b c:Int):xg a b c=some (decide (b<=a∧a<=c)):=by
 unfold xg
 by_cases h:b<=a
 ·rw[if_pos h];simp[h]
 ·rw[if_neg h];simp[h]
def jb (a0:(List UInt8)):Option Bool:=if a0.length<=2 ^ 20 then some (vW a0)else none
theorem Ow (a0:(List UInt8)) (r:Bool) (h:jb a0=some r):∃n,Je n a0=some r:=by
 unfold jb at h
 obtain⟨ha,h⟩:=zB h
 refine⟨a0.length+1,?_⟩
 obtain⟨z,hz⟩:=Ov ha a0.length 0 (a0.length+1) (by omega) (by omega)
 rw[show((0:Nat):Int)=0 from rfl,List.drop_zero]at hz
 unfold Je
 rw[<-h,hz]
 unfold vW
 have hd:decide (1<=a0.length∧a0.length<=8)=decide ((1:Int)<=(a0.length:Int)∧(a0.length:Int)<=8):=decide_eq_decide.2 (by omega)
 rw[hd]
 cases a0.all (inB 97 122)
 ·rw[Bool.and_false];rfl
 ·rw[Bool.and_true]
  simp only[if_true,oB,QC]
theorem Qq:RJ jb:=fun a0 r h=>(Ow a0 r h).elim fun n hn=>GQ n a0 r hn
def Zp (a0:(List UInt8)) (a1:(List UInt8)):Option Bool:=
 if(a1.length:Int)<=(a0.length:Int)then
  (zn (w64 ((a0.length:Int) - (a1.length:Int)))).bind fun i2=>
  (qK a0 (some i2) none).bind fun s3=>
  (wn s3 a1).bind fun r4=>
  some r4
 else
 some false
theorem TY (a0:(List UInt8)) (a1:(List UInt8)):Oc (Zp a0 a1) 254 [] [vq za a0,vq za a1] fun r=>(vb r,[]):=tc (
 .le za a0<|.le za a1<|.gI (a1.length:Int) (a0.length:Int) (fun c1=>.le za a0<|.le za a1<|.na (w64 ((a0.length:Int) - (a1.length:Int))) fun i2=>.ct za a0 (some i2) none fun s3=>.un zH a0<|.cl (kG s3 a1) fun r4=>.ret r4) fun c1=>.ret false) (zf Tryz.func254)
def kl (a0:(List UInt8)) (a1:(List UInt8)):Option ((List UInt8)×Bool):=
 (Zp a0 a1).bind fun r1=>
 match r1 with
 |true=>
  (zn (w64 ((a0.length:Int) - (a1.length:Int)))).bind fun i2=>
  (qK a0 none (some i2)).bind fun s3=>
  some (s3,true)
 |false=>
  some (a0,false)
theorem QL (a0:(List UInt8)) (a1:(List UInt8)):Oc (kl a0 a1) 193 [] [vq za a0,vq za a1] fun r=>(.tup [(false,[cq za r.1]),(false,[.bool r.2])],[]):=tc (
 .cl (TY a0 a1) fun r1=>.vN 0 r1 (
  .le za a0<|.le za a1<|.na (w64 ((a0.length:Int) - (a1.length:Int))) fun i2=>.ct za a0 none (some i2) fun s3=>.un zH a0<|.ret (s3,true))<|.ret (a0,false)) (zf Tryz.func193)
def Xz (a0:(List UInt8)) (a1:(List UInt8)):Option Bool:=
 if(a1.length:Int)<=(a0.length:Int)then
  (zn (a1.length:Int)).bind fun i2=>
  (qK a0 none (some i2)).bind fun s3=>
  (wn s3 a1).bind fun r4=>
  some r4
 else
 some false
theorem TZ (a0:(List UInt8)) (a1:(List UInt8)):Oc (Xz a0 a1) 255 [] [vq za a0,vq za a1] fun r=>(vb r,[]):=tc (
 .le za a0<|.le za a1<|.gI (a1.length:Int) (a0.length:Int) (fun c1=>.le za a1<|.na (a1.length:Int) fun i2=>.ct za a0 none (some i2) fun s3=>.un zH a0<|.cl (kG s3 a1) fun r4=>.ret r4) fun c1=>.ret false) (zf Tryz.func255)
def Zq (a0:(List UInt8)) (a1:(List UInt8)):Option ((List UInt8)×Bool):=
 (Xz a0 a1).bind fun r1=>
 match r1 with
 |true=>
  (zn (a1.length:Int)).bind fun i2=>
  (qK a0 (some i2) none).bind fun s3=>
  some (s3,true)
 |false=>
  some (a0,false)
theorem Ua (a0:(List UInt8)) (a1:(List UInt8)):Oc (Zq a0 a1) 194 [] [vq za a0,vq za a1] fun r=>(.tup [(false,[cq za r.1]),(false,[.bool r.2])],[]):=tc (
 .cl (TZ a0 a1) fun r1=>.vN 0 r1 (
  .le za a1<|.na (a1.length:Int) fun i2=>.ct za a0 (some i2) none fun s3=>.un zH a0<|.ret (s3,true))<|.ret (a0,false)) (zf Tryz.func194)
end
end Go.Am.Try
