
/- The functions of the program in plain Lean, and that the machine answers as they do; conditions at each theorem. -/
import Derived.Test.YtklelfbkffbceaaGreatDoorBG2
set_option linter.unusedVariables false
set_option linter.unusedSimpArgs false
namespace Go.Am.Try
open Go.Am Go.Proofs
set_option linter.unusedVariables false
set_option maxRecDepth 20000
set_option maxHeartbeats 2000000
noncomputable section
def kV (a0:Int):Option (List UInt8):=
 if a0<10 then
  (zn a0).bind fun i2=>
  (zn (w64 (a0+1))).bind fun i3=>
  (qK [48,49,50,51,52,53,54,55,56,57,97,98,99,100,101,102,103,104,105,106,107,108,109,110,111,112,113,114,115,116,117,118,119,120,121,122] (some i2) (some i3)).bind fun s4=>
  some s4
 else
 (zn (w64 (a0*2))).bind fun i2=>
 (zn (w64 ((w64 (a0*2))+2))).bind fun i3=>
 (qK [48,48,48,49,48,50,48,51,48,52,48,53,48,54,48,55,48,56,48,57,49,48,49,49,49,50,49,51,49,52,49,53,49,54,49,55,49,56,49,57,50,48,50,49,50,50,50,51,50,52,50,53,50,54,50,55,50,56,50,57,51,48,51,49,51,50,51,51,51,52,51,53,51,54,51,55,51,56,51,57,52,48,52,49,52,50,52,51,52,52,52,53,52,54,52,55,52,56,52,57,53,48,53,49,53,50,53,51,53,52,53,53,53,54,53,55,53,56,53,57,54,48,54,49,54,50,54,51,54,52,54,53,54,54,54,55,54,56,54,57,55,48,55,49,55,50,55,51,55,52,55,53,55,54,55,55,55,56,55,57,56,48,56,49,56,50,56,51,56,52,56,53,56,54,56,55,56,56,56,57,57,48,57,49,57,50,57,51,57,52,57,53,57,54,57,55,57,56,57,57] (some i2) (some i3)).bind fun s4=>
 some s4
theorem J4 (a0:Int):Oc (kV a0) 310 [] [vi a0] fun r=>(vs r,[]):=tc (
 .lI a0 10 (fun c1=>.na a0 fun i2=>.na (w64 (a0+1)) fun i3=>.cs [48,49,50,51,52,53,54,55,56,57,97,98,99,100,101,102,103,104,105,106,107,108,109,110,111,112,113,114,115,116,117,118,119,120,121,122] (some i2) (some i3) fun s4=>.ret s4) fun c1=>.na (w64 (a0*2)) fun i2=>.na (w64 ((w64 (a0*2))+2)) fun i3=>.cs [48,48,48,49,48,50,48,51,48,52,48,53,48,54,48,55,48,56,48,57,49,48,49,49,49,50,49,51,49,52,49,53,49,54,49,55,49,56,49,57,50,48,50,49,50,50,50,51,50,52,50,53,50,54,50,55,50,56,50,57,51,48,51,49,51,50,51,51,51,52,51,53,51,54,51,55,51,56,51,57,52,48,52,49,52,50,52,51,52,52,52,53,52,54,52,55,52,56,52,57,53,48,53,49,53,50,53,51,53,52,53,53,53,54,53,55,53,56,53,57,54,48,54,49,54,50,54,51,54,52,54,53,54,54,54,55,54,56,54,57,55,48,55,49,55,50,55,51,55,52,55,53,55,54,55,55,55,56,55,57,56,48,56,49,56,50,56,51,56,52,56,53,56,54,56,55,56,56,56,57,57,48,57,49,57,50,57,51,57,52,57,53,57,54,57,55,57,56,57,57] (some i2) (some i3) fun s4=>.ret s4) (zf Tryz.func310)
def Zl (a0:(List UInt8)) (a1:Int) (a2:Int) (a3:Bool) (a4:Bool):Option ((List UInt8)×(List UInt8)):=
 none
theorem WG (a0:(List UInt8)) (a1:Int) (a2:Int) (a3:Bool) (a4:Bool):Oc (Zl a0 a1 a2 a3 a4) 313 [] [vq za a0,.val false [.int .u64 a1],vi a2,vb a3,vb a4] fun r=>(.tup [(false,[.own 1 (eL za r.1)]),(false,[.str r.2])],[]):=tc (
 .no) (zf Tryz.func313)
def jz (a0:Int) (a1:Int):Option (List UInt8):=
 if a1=10 then
  if 0<=a0 then
   if a0<100 then
    (kV a0).bind fun r4=>
    some r4
   else
   none
  else
  none
 else
 (Zl [] (IntKind.u64.wrap a0) a1 (decide (a0<0)) false).bind fun⟨r2_0,r2_1⟩=>
 some r2_1
theorem WY (a0:Int) (a1:Int):Oc (jz a0 a1) 295 [] [vi a0,vi a1] fun r=>(vs r,[]):=tc (
 .eI a1 10 (fun c1=>.gI 0 a0 (fun c2=>.lI a0 100 (fun c3=>.cl (J4 a0) fun r4=>.ret r4) fun c3=>.no) fun c2=>.no) fun c1=>.lD a0 0<|.cl (WG [] (IntKind.u64.wrap a0) a1 (decide (a0<0)) false) fun⟨r2_0,r2_1⟩=>.ret r2_1) (zf Tryz.func295)
def vm (a0:Int):Option (List UInt8):=
 (jz a0 10).bind fun r1=>
 some r1
theorem JW (a0:Int):Oc (vm a0) 258 [] [vi a0] fun r=>(vs r,[]):=tc (
 .cl (WY a0 10) fun r1=>.ret r1) (zf Tryz.func258)
def Z4 (a0:Int):Option (List UInt8):=
 (vm a0).bind fun r1=>
 some r1
theorem LO (a0:Int):Oc (Z4 a0) 196 [] [vi a0] fun r=>(vs r,[]):=tc (
 .cl (JW a0) fun r1=>.ret r1) (zf Tryz.func196)
def wo (a0:(List UInt8)):Option Bool:=
 (QB a0 [(91:UInt8)]).bind fun⟨r1_0,r1_1,r1_2⟩=>
 (jb r1_0).bind fun r2=>
 match r2 with
 |true=>
  match r1_2 with
  |true=>
   (kl r1_1 [(93:UInt8)]).bind fun⟨r3_0,r3_1⟩=>
   (Zq r3_0 [(34:UInt8)]).bind fun⟨r4_0,r4_1⟩=>
   (kl r4_0 [(34:UInt8)]).bind fun⟨r5_0,r5_1⟩=>
   match r4_1 with
   |true=>
    match r3_1 with
    |true=>
     match r5_1 with
     |true=>
      (jb r5_0).bind fun r6=>
      some r6
     |false=>
      some false
    |false=>
     some false
   |false=>
    match r5_1 with
    |true=>
     match r3_1 with
     |true=>
      some false
     |false=>
      some false
    |false=>
     (kL r3_0).bind fun⟨r6_0,r6_1⟩=>
     match r6_1 with
     |true=>
      match r3_1 with
      |true=>
       some false
      |false=>
       some false
     |false=>
      match r3_1 with
      |true=>
       (xg r6_0 0 99).bind fun r7=>
       match r7 with
       |true=>
        (Z4 r6_0).bind fun r8=>
        some (decide (r8=r3_0))
       |false=>
        some false
      |false=>
       some false
  |false=>
   some true
 |false=>
  some false
theorem j0 (a0:(List UInt8)):Oc (wo a0) 133 [] [vq za a0] fun r=>(vb r,[]):=tc (
 .le za [(91:UInt8)]<|.q (.lTo 0 (([(91:UInt8)].length:Nat):Int) (by decide))<|.vw zH [(91:UInt8)]<|.cl (E6 a0 [(91:UInt8)]) fun⟨r1_0,r1_1,r1_2⟩=>.cl (Qq r1_0) fun r2=>.vN 0 r2 (
  .vN 0 r1_2 (
   .le za [(93:UInt8)]<|.q (.lTo 0 (([(93:UInt8)].length:Nat):Int) (by decide))<|.vw zH [(93:UInt8)]<|.cl (QL r1_1 [(93:UInt8)]) fun⟨r3_0,r3_1⟩=>.le za [(34:UInt8)]<|.q (.lTo 0 (([(34:UInt8)].length:Nat):Int) (by decide))<|.vw zH [(34:UInt8)]<|.cl (Ua r3_0 [(34:UInt8)]) fun⟨r4_0,r4_1⟩=>.le za [(34:UInt8)]<|.q (.lTo 0 (([(34:UInt8)].length:Nat):Int) (by decide))<|.vw zH [(34:UInt8)]<|.cl (QL r4_0 [(34:UInt8)]) fun⟨r5_0,r5_1⟩=>.vM 0 r4_1 (
    .az 0 0<|.vM 1 r3_1 (
     .az 0 0<|.az 0 1<|.az 0 1<|.vM 0 r5_1 (
      .az 0 0<|.cl (Qq r5_0) fun r6=>.az 0 1<|.ret r6)<|.az 0 0<|.az 0 0<|.ret false)<|.az 0 0<|.ret false)<|.az 0 0<|.vM 0 r5_1 (
    .vM 0 r3_1 (
     .az 0 0<|.az 0 2<|.az 0 2<|.ret false)<|.az 0 0<|.ret false)<|.bt r3_0<|.ae (M1 r3_0) (fun r6_0=>.vM 0 r3_1 (
     .az 0 0<|.az 0 0<|.ret false)<|.az 0 0<|.az 0 0<|.ret false) fun r6_0=>.vM 0 r3_1 (
    .az 0 0<|.az 0 0<|.cl (wZ r6_0 0 99) fun r7=>.vM 1 r7 (
     .az 0 0<|.cl (LO r6_0) fun r8=>.az 0 1<|.az 0 1<|.bt r3_0<|.az 0 1<|.sD r8 r3_0<|.az 0 1<|.ret (decide (r8=r3_0)))<|.az 0 0<|.az 0 0<|.az 0 0<|.az 0 0<|.az 0 0<|.ret false)<|.az 0 0<|.az 0 0<|.ret false)<|.ret true)<|.ret false) (zf Tryz.func133)
def yr (a0:(List UInt8)) (a1:(List UInt8)):Option Int:=
 (xd a0 a1).bind fun r1=>
 some r1
theorem wd (a0:(List UInt8)) (a1:(List UInt8)):Oc (yr a0 a1) 94 [] [vq za a0,vq za a1] fun r=>(vi r,[]):=tc (
 .cl (QQ a0 a1) fun r1=>.ret r1) (zf Tryz.func94)
def RK (F:(List UInt8)→Option Bool):Prop:=∀(a0:(List UInt8)),Oc (F a0) 282 [] [vq za a0] fun r=>(vb r,[])
def j6 (a0:(List UInt8)) (v1:Int):Nat→Int→Option (Bool⊕Int)
 |0,_=>none
 |m+1,v2=>
 if v2<v1 then
  (zn v2).bind fun i2=>
  (a0[i2]?).bind fun x3=>
  if((x3.toNat:Nat):Int)<32 then
   some (.inl false)
  else
  if 126<((x3.toNat:Nat):Int)then
   some (.inl false)
  else
  j6 a0 v1 m (w64 (v2+1))
 else
 some (.inr v2)
theorem Pu (a0:(List UInt8)) (v1:Int) (m:Nat):∀(v2:Int),Ol (j6 a0 v1 m v2) 282 (zD Tryz.f282 0) ⟨[(0,vq za a0),(5,vq za a0),(6,vi v1),(7,vi v2)],[],0⟩ fun o=>match o with | .inl o_0=>(.ret,⟨[(2,vb o_0)],[],0⟩)| .inr (o_1)=>(.exit 0,⟨[(0,vq za a0),(5,vq za a0),(6,vi v1),(7,vi o_1),(8,vb false)],[],0⟩):=by
 induction m with
 |zero=>intro v2 o h;cases h
 |succ m ih=>exact fun v2=>tlp (
  .lI v2 v1 (fun c1=>.na v2 fun i2=>.ix0 za a0 i2 fun x3=>.lI ((x3.toNat:Nat):Int) 32 (fun c4=>.ret (.inl false)) fun c4=>.lI 126 ((x3.toNat:Nat):Int) (fun c5=>.ret (.inl false)) fun c5=>.go (ih (w64 (v2+1)))) fun c1=>.ret (.inr v2))
def Jf (n:Nat) (a0:(List UInt8)):Option Bool:=
 (j6 a0 (a0.length:Int) n 0).bind fun o1=>
 match o1 with
 | .inl o1_0=>
  some o1_0
 | .inr (o1_1)=>
  some (decide ((a0.length:Int)<=20))
theorem GR (n:Nat):RK (Jf n):=fun a0=>tc (
 .le za a0<|.l2 (Pu a0 (a0.length:Int) n 0) (fun o1_0=>.ret o1_0) fun o1_1=>.le za a0<|.gD (a0.length:Int) 20<|.ret (decide ((a0.length:Int)<=20))) (zf Tryz.func282)
theorem Ox {a:List UInt8} (ha:a.length<=2 ^ 20):∀(d i m:Nat),i+d=a.length→d<m→∃z,j6 a (a.length:Int) m (i:Int)=some (if(a.drop i).all (inB 32 126)=true then .inr z else .inl false):=by
 intro d
 induction d with
 |zero=>
  intro i m hi hm
  obtain⟨m,rfl,_⟩:=zg hm
  exact⟨_,by rw[j6,if_neg (by omega),List.drop_eq_nil_of_le (by omega)];rfl⟩
 |succ d ih=>
  intro i m hi hm
  obtain⟨m,rfl,hm'⟩:=zg hm
  have hil:i<a.length:=by omega
  rw[j6,if_pos (by omega),zb,oB,zj hil,oB,zG (by omega),wb hil,List.all_cons]
  by_cases h1:((a[i].toNat:Nat):Int)<32
  ·exact⟨0,by rw[if_pos h1,if_neg];simp[inB];omega⟩
  ·rw[if_neg h1]
   by_cases h2:(126:Int)<((a[i].toNat:Nat):Int)
   ·exact⟨0,by rw[if_pos h2,if_neg];simp[inB];omega⟩
   ·rw[if_neg h2,show inB 32 126 a[i]=true by simp[inB];omega,Bool.true_and]
    exact ih (i+1) m (by omega) (by omega)
def Yi (a0:(List UInt8)):Option Bool:=if a0.length<=2 ^ 20 then some (WS a0)else none
theorem Oy (a0:(List UInt8)) (r:Bool) (h:Yi a0=some r):∃n,Jf n a0=some r:=by
 unfold Yi at h
 obtain⟨ha,h⟩:=zB h
 refine⟨a0.length+1,?_⟩
 obtain⟨z,hz⟩:=Ox ha a0.length 0 (a0.length+1) (by omega) (by omega)
 rw[show((0:Nat):Int)=0 from rfl,List.drop_zero]at hz
 unfold Jf
 rw[<-h,hz]
 unfold WS
 by_cases hl:a0.length<=20
 ·rw[decide_eq_true hl]
  cases a0.all (inB 32 126)
  ·rfl
  ·show some (decide _)=_;rw[decide_eq_true (by omega)];rfl
 ·rw[decide_eq_false hl]
  cases a0.all (inB 32 126)
  ·rfl
  ·show some (decide _)=_;rw[decide_eq_false (by omega)];rfl
theorem Nv:RK Yi:=fun a0 r h=>(Oy a0 r h).elim fun n hn=>GR n a0 r hn
def km (F:GValue→Int→Option Bool):Prop:=∀(a0:GValue) (e0:Int),Oc (F a0 e0) 283 [.var [ci e0]] [.val true (zi a0),vp 0 0] fun r=>(vb r,[.var [ci e0]])
def xo (F:(List GValue)→Int→Option Int):Prop:=∀(a0:(List GValue)) (e0:Int),Oc (F a0 e0) 296 [.var [ci e0]] [vq zd a0,.val false [.fn 283 [.ptr 0 0]]] fun r=>(vi r,[.var [ci e0]])
def y4 (F:(List GValue)→Int→Option Bool):Prop:=∀(a0:(List GValue)) (e0:Int),Oc (F a0 e0) 259 [.var [ci e0]] [vq zd a0,.val false [.fn 283 [.ptr 0 0]]] fun r=>(vb r,[.var [ci e0]])
def Y6 (F:GValue→Int→Option Bool):Prop:=∀(a0:GValue) (a1:Int),Oc (F a0 a1) 244 [] [.val true (zi a0),vi a1] fun r=>(vb r,[])
def X0 (G_impl_isShaped:GValue→Int→Option Bool) (a0:GValue) (e0:Int):Option Bool:=
 (G_impl_isShaped a0 (w64 (e0 - 1))).bind fun r1=>
 some (!r1)
theorem Pv (G_impl_isShaped:GValue→Int→Option Bool) (H_impl_isShaped:Y6 G_impl_isShaped):km (X0 G_impl_isShaped):=fun a0 e0=>tc (
 .cl (H_impl_isShaped a0 (w64 (e0 - 1))) fun r1=>.ret (!r1)) (zf Tryz.func283)
def yc (G_impl_isShaped_1:GValue→Int→Option Bool) (a0:(List GValue)) (v1:Int) (e0:Int):Nat→Int→Option (Int⊕Int)
 |0,_=>none
 |m+1,v2=>
 if v2<v1 then
  (zn v2).bind fun i2=>
  (a0[i2]?).bind fun x3=>
  (G_impl_isShaped_1 x3 e0).bind fun r4=>
  match r4 with
  |true=>
   some (.inl v2)
  |false=>
   yc G_impl_isShaped_1 a0 v1 e0 m (w64 (v2+1))
 else
 some (.inr v2)
theorem Yj (G_impl_isShaped_1:GValue→Int→Option Bool) (H_impl_isShaped_1:km G_impl_isShaped_1) (a0:(List GValue)) (v1:Int) (e0:Int) (m:Nat):∀(v2:Int),Ol (yc G_impl_isShaped_1 a0 v1 e0 m v2) 296 (zD Tryz.f296 0) ⟨[(0,vq zd a0),(1,.val false [.fn 283 [.ptr 0 0]]),(7,vi v1),(8,vi v2)],[.var [ci e0]],1⟩ fun o=>match o with | .inl o_0=>(.ret,⟨[(4,vi o_0)],[.var [ci e0]],1⟩)| .inr (o_1)=>(.exit 0,⟨[(0,vq zd a0),(1,.val false [.fn 283 [.ptr 0 0]]),(7,vi v1),(8,vi o_1),(9,vb false)],[.var [ci e0]],1⟩):=by
 induction m with
 |zero=>intro v2 o h;cases h
 |succ m ih=>exact fun v2=>tlp (
  .lI v2 v1 (fun c1=>.na v2 fun i2=>.ix zr a0 i2 fun x3=>.cl (H_impl_isShaped_1 x3 e0) fun r4=>.vM 0 r4 (
    .ret (.inl v2))<|.go (ih (w64 (v2+1)))) fun c1=>.ret (.inr v2))
def xp (G_impl_isShaped_1:GValue→Int→Option Bool) (n:Nat) (a0:(List GValue)) (e0:Int):Option Int:=
 (yc G_impl_isShaped_1 a0 (a0.length:Int) e0 n 0).bind fun o1=>
 match o1 with
 | .inl o1_0=>
  some o1_0
 | .inr (o1_1)=>
  some (-1)
theorem Xp (G_impl_isShaped_1:GValue→Int→Option Bool) (H_impl_isShaped_1:km G_impl_isShaped_1) (n:Nat):xo (xp G_impl_isShaped_1 n):=fun a0 e0=>tc (
 .le zd a0<|.l2 (Yj G_impl_isShaped_1 H_impl_isShaped_1 a0 (a0.length:Int) e0 n 0) (fun o1_0=>.ret o1_0) fun o1_1=>.ret (-1)) (zf Tryz.func296)
def xR (G_slices_IndexFunc_Value_isShaped_1:(List GValue)→Int→Option Int) (a0:(List GValue)) (e0:Int):Option Bool:=
 (G_slices_IndexFunc_Value_isShaped_1 a0 e0).bind fun r1=>
 some (decide (0<=r1))
theorem Ys (G_slices_IndexFunc_Value_isShaped_1:(List GValue)→Int→Option Int) (H_slices_IndexFunc_Value_isShaped_1:xo G_slices_IndexFunc_Value_isShaped_1):y4 (xR G_slices_IndexFunc_Value_isShaped_1):=fun a0 e0=>tc (
 .cl (H_slices_IndexFunc_Value_isShaped_1 a0 e0) fun r1=>.gD 0 r1<|.ret (decide (0<=r1))) (zf Tryz.func259)
def we (G_slices_ContainsFunc_Value_isShaped_1:(List GValue)→Int→Option Bool) (v0:Bool) (v1:Bool) (v2:(List (List UInt8))) (v3:Int) (a0:GValue) (a1:Int):Nat→Int→Option (Bool⊕Int)
 |0,_=>none
 |m+1,v4=>
 if v4<v3 then
  (zn v4).bind fun i2=>
  (v2[i2]?).bind fun x3=>
  (jb x3).bind fun r4=>
  match r4 with
  |true=>
   if 0<v4 then
    (zn (w64 (v4 - 1))).bind fun i6=>
    (a0.K[i6]?).bind fun x7=>
    (yr x7 x3).bind fun r8=>
    if 0<=r8 then
     some (.inl false)
    else
    we G_slices_ContainsFunc_Value_isShaped_1 v0 v1 v2 v3 a0 a1 m (w64 (v4+1))
   else
   we G_slices_ContainsFunc_Value_isShaped_1 v0 v1 v2 v3 a0 a1 m (w64 (v4+1))
  |false=>
   some (.inl false)
 else
 some (.inr v4)
theorem RW (G_slices_ContainsFunc_Value_isShaped_1:(List GValue)→Int→Option Bool) (H_slices_ContainsFunc_Value_isShaped_1:y4 G_slices_ContainsFunc_Value_isShaped_1) (v0:Bool) (v1:Bool) (v2:(List (List UInt8))) (v3:Int) (a0:GValue) (a1:Int) (m:Nat):∀(v4:Int),Ol (we G_slices_ContainsFunc_Value_isShaped_1 v0 v1 v2 v3 a0 a1 m v4) 244 (zD Tryz.f244 0) ⟨[(2,vp 0 0),(3,vp 1 0),(5,vb v0),(6,vb v1),(99,vq (zl za) v2),(100,vi v3),(101,vi v4)],[.var (zi a0),.var [ci a1]],0⟩ fun o=>match o with | .inl o_0=>(.ret,⟨[(4,vb o_0)],[],0⟩)| .inr (o_1)=>(.exit 1,⟨[(2,vp 0 0),(3,vp 1 0),(5,vb v0),(6,vb v1),(99,vq (zl za) v2),(100,vi v3),(101,vi o_1),(102,vb false)],[.var (zi a0),.var [ci a1]],0⟩):=by
 induction m with
 |zero=>intro v4 o h;cases h
 |succ m ih=>exact fun v4=>tlp (
  .lI v4 v3 (fun c1=>.na v4 fun i2=>.ix0 (zl za) v2 i2 fun x3=>.cl (Qq x3) fun r4=>.vN 0 r4 (
    .an 0 0<|.lI 0 v4 (fun c5=>.an 0 0<|.na (w64 (v4 - 1)) fun i6=>.ix0 (zl za) a0.K i6 fun x7=>.cl (wd x7 x3) fun r8=>.gI 0 r8 (fun c9=>.an 0 3<|.an 1 3<|.ret (.inl false)) fun c9=>.an 0 3<|.an 1 3<|.go (ih (w64 (v4+1)))) fun c5=>.an 0 0<|.an 9 0<|.an 1 0<|.go (ih (w64 (v4+1))))<|.an 0 0<|.an 0 0<|.an 0 0<|.an 0 0<|.ret (.inl false)) fun c1=>.ret (.inr v4))
def vP (G_slices_ContainsFunc_Value_isShaped_1:(List GValue)→Int→Option Bool) (n:Nat) (a0:GValue) (a1:Int):Option Bool:=
 if a1=0 then
  some false
 else
 if a0.Kind=0 then
  if a0.N=0 then
   if(a0.S.length:Int)=0 then
    if(a0.K.length:Int)=0 then
     some (decide ((a0.L.length:Int)=0))
    else
    some false
   else
   some false
  else
  some false
 else
 if a0.Kind=6 then
  if a0.N=0 then
   if(a0.S.length:Int)=0 then
    if(a0.K.length:Int)=0 then
     some (decide ((a0.L.length:Int)=0))
    else
    some false
   else
   some false
  else
  some false
 else
 if a0.Kind=1 then
  (xg a0.N 0 1).bind fun r5=>
  match r5 with
  |true=>
   if(a0.S.length:Int)=0 then
    if(a0.K.length:Int)=0 then
     some (decide ((a0.L.length:Int)=0))
    else
    some false
   else
   some false
  |false=>
   some false
 else
 if a0.Kind=2 then
  (xg a0.N (-1000000000000) 1000000000000).bind fun r6=>
  match r6 with
  |true=>
   if(a0.S.length:Int)=0 then
    if(a0.K.length:Int)=0 then
     some (decide ((a0.L.length:Int)=0))
    else
    some false
   else
   some false
  |false=>
   some false
 else
 if a0.Kind=3 then
  (Yi a0.S).bind fun r7=>
  match r7 with
  |true=>
   if a0.N=0 then
    if(a0.K.length:Int)=0 then
     some (decide ((a0.L.length:Int)=0))
    else
    some false
   else
   some false
  |false=>
   some false
 else
 if a0.Kind=4 then
  if(a0.K.length:Int)=0 then
   if a0.N=0 then
    if(a0.S.length:Int)=0 then
     if(a0.L.length:Int)<=40 then
     (G_slices_ContainsFunc_Value_isShaped_1 a0.L a1).bind fun r12=>
     some (!r12)
     else
     some false
    else
    some false
   else
   some false
  else
  some false
 else
 if a0.Kind=5 then
  if(a0.K.length:Int)=(a0.L.length:Int)then
   (we G_slices_ContainsFunc_Value_isShaped_1 (decide (a0.N=0)) (decide ((a0.S.length:Int)=0)) a0.K (a0.K.length:Int) a0 a1 n 0).bind fun o10=>
   match o10 with
   | .inl o10_0=>
    some o10_0
   | .inr (o10_1)=>
    if a0.N=0 then
     if(a0.S.length:Int)=0 then
     if(a0.L.length:Int)<=40 then
      (G_slices_ContainsFunc_Value_isShaped_1 a0.L a1).bind fun r14=>
      some (!r14)
     else
     some false
     else
     some false
    else
    some false
  else
  some false
 else
 some false
theorem LP (G_slices_ContainsFunc_Value_isShaped_1:(List GValue)→Int→Option Bool) (H_slices_ContainsFunc_Value_isShaped_1:y4 G_slices_ContainsFunc_Value_isShaped_1) (n:Nat):Y6 (vP G_slices_ContainsFunc_Value_isShaped_1 n):=fun a0 a1=>tc (
 .eI a1 0 (fun c1=>.ret false) fun c1=>.eD a0.N 0<|.le za a0.S<|.eD (a0.S.length:Int) 0<|.le (zl za) a0.K<|.eD (a0.K.length:Int) 0<|.le zd a0.L<|.eD (a0.L.length:Int) 0<|.eI a0.Kind 0 (fun c2=>.cI 2 (a0.N=0) (fun c3=>.kT 0 (dT c3)<|.cI 0 ((a0.S.length:Int)=0) (fun c4=>.kT 0 (dT c4)<|.cI 0 ((a0.K.length:Int)=0) (fun c5=>.kT 0 (dT c5)<|.ret (decide ((a0.L.length:Int)=0))) fun c5=>.kF 0 (dF c5)<|.ret false) fun c4=>.kF 0 (dF c4)<|.ret false) fun c3=>.kF 0 (dF c3)<|.ret false) fun c2=>.eI a0.Kind 6 (fun c3=>.cI 1 (a0.N=0) (fun c4=>.kT 0 (dT c4)<|.cI 0 ((a0.S.length:Int)=0) (fun c5=>.kT 0 (dT c5)<|.cI 0 ((a0.K.length:Int)=0) (fun c6=>.kT 0 (dT c6)<|.ret (decide ((a0.L.length:Int)=0))) fun c6=>.kF 0 (dF c6)<|.ret false) fun c5=>.kF 0 (dF c5)<|.ret false) fun c4=>.kF 0 (dF c4)<|.ret false) fun c3=>.eI a0.Kind 1 (fun c4=>.cl (wZ a0.N 0 1) fun r5=>.vM 0 r5 (
   .az 0 0<|.cI 0 ((a0.S.length:Int)=0) (fun c6=>.kT 0 (dT c6)<|.cI 0 ((a0.K.length:Int)=0) (fun c7=>.kT 0 (dT c7)<|.ret (decide ((a0.L.length:Int)=0))) fun c7=>.kF 0 (dF c7)<|.ret false) fun c6=>.kF 0 (dF c6)<|.ret false)<|.az 0 0<|.ret false) fun c4=>.eI a0.Kind 2 (fun c5=>.cl (wZ a0.N (-1000000000000) 1000000000000) fun r6=>.vM 0 r6 (
   .az 0 0<|.cI 0 ((a0.S.length:Int)=0) (fun c7=>.kT 0 (dT c7)<|.cI 0 ((a0.K.length:Int)=0) (fun c8=>.kT 0 (dT c8)<|.ret (decide ((a0.L.length:Int)=0))) fun c8=>.kF 0 (dF c8)<|.ret false) fun c7=>.kF 0 (dF c7)<|.ret false)<|.az 0 0<|.ret false) fun c5=>.eI a0.Kind 3 (fun c6=>.cl (Nv a0.S) fun r7=>.vM 0 r7 (
   .az 0 0<|.cI 0 (a0.N=0) (fun c8=>.kT 0 (dT c8)<|.cI 0 ((a0.K.length:Int)=0) (fun c9=>.kT 0 (dT c9)<|.ret (decide ((a0.L.length:Int)=0))) fun c9=>.kF 0 (dF c9)<|.ret false) fun c8=>.kF 0 (dF c8)<|.ret false)<|.az 0 0<|.ret false) fun c6=>.eI a0.Kind 4 (fun c7=>.cN 1 ((a0.K.length:Int)=0) (fun c8=>.cI 0 (a0.N=0) (fun c9=>.kT 0 (dT c9)<|.cI 0 ((a0.S.length:Int)=0) (fun c10=>.kT 0 (dT c10)<|.kT 0 (dT c10)<|.le zd a0.L<|.kT 0 (dT c10)<|.gI (a0.L.length:Int) 40 (fun c11=>.kT 0 (dT c10)<|.cl (H_slices_ContainsFunc_Value_isShaped_1 a0.L a1) fun r12=>.ret (!r12)) fun c11=>.kT 0 (dT c10)<|.ret false) fun c10=>.kF 0 (dF c10)<|.kF 0 (dF c10)<|.kF 0 (dF c10)<|.kF 0 (dF c10)<|.ret false) fun c9=>.kF 0 (dF c9)<|.ret false) fun c8=>.ret false) fun c7=>.eI a0.Kind 5 (fun c8=>.le (zl za) a0.K<|.le zd a0.L<|.eI (a0.K.length:Int) (a0.L.length:Int) (fun c9=>.le (zl za) a0.K<|.l2 (RW G_slices_ContainsFunc_Value_isShaped_1 H_slices_ContainsFunc_Value_isShaped_1 (decide (a0.N=0)) (decide ((a0.S.length:Int)=0)) a0.K (a0.K.length:Int) a0 a1 n 0) (fun o10_0=>.ret o10_0) fun o10_1=>.cI 0 (a0.N=0) (fun c11=>.kT 0 (dT c11)<|.cI 0 ((a0.S.length:Int)=0) (fun c12=>.kT 0 (dT c12)<|.kT 0 (dT c12)<|.le zd a0.L<|.kT 0 (dT c12)<|.gI (a0.L.length:Int) 40 (fun c13=>.kT 0 (dT c12)<|.cl (H_slices_ContainsFunc_Value_isShaped_1 a0.L a1) fun r14=>.ret (!r14)) fun c13=>.kT 0 (dT c12)<|.ret false) fun c12=>.kF 0 (dF c12)<|.kF 0 (dF c12)<|.kF 0 (dF c12)<|.kF 0 (dF c12)<|.ret false) fun c11=>.kF 0 (dF c11)<|.ret false) fun c9=>.ret false) fun c8=>.ret false) (zf Tryz.func244)
mutual
def xO:Nat→GValue→Int→Option Bool
 |0,_,_=>none
 |n+1,a0,e0=>X0 (wH n) a0 e0
def zW:Nat→(List GValue)→Int→Option Int
 |0,_,_=>none
 |n+1,a0,e0=>xp (xO n) n a0 e0
def zL:Nat→(List GValue)→Int→Option Bool
 |0,_,_=>none
 |n+1,a0,e0=>xR (zW n) a0 e0
def wH:Nat→GValue→Int→Option Bool
 |0,_,_=>none
 |n+1,a0,a1=>vP (zL n) n a0 a1
end
theorem vj (n:Nat):km (xO n)∧xo (zW n)∧y4 (zL n)∧Y6 (wH n):=by
 induction n with
 |zero=>exact⟨fun _ _ _ h=>(by rw[xO]at h;cases h),fun _ _ _ h=>(by rw[zW]at h;cases h),fun _ _ _ h=>(by rw[zL]at h;cases h),fun _ _ _ h=>(by rw[wH]at h;cases h)⟩
 |succ n ih=>
  obtain⟨ih_impl_isShaped_1,ih_slices_IndexFunc_Value_isShaped_1,ih_slices_ContainsFunc_Value_isShaped_1,ih_impl_isShaped⟩:=ih
  exact⟨fun a0 e0 r h=>Pv (wH n) ih_impl_isShaped a0 e0 r (by rw[xO]at h;exact h),
   fun a0 e0 r h=>Xp (xO n) ih_impl_isShaped_1 n a0 e0 r (by rw[zW]at h;exact h),
   fun a0 e0 r h=>Ys (zW n) ih_slices_IndexFunc_Value_isShaped_1 a0 e0 r (by rw[zL]at h;exact h),
   fun a0 a1 r h=>LP (zL n) ih_slices_ContainsFunc_Value_isShaped_1 n a0 a1 r (by rw[wH]at h;exact h)⟩
theorem zit (a b:List UInt8):yr a b=some (Lib.compareBytes a b):=rfl
theorem zbh {a:List UInt8} (h:a.length<=2 ^ 20):jb a=some (vW a):=if_pos h
theorem zbi {a:List UInt8} (h:a.length<=2 ^ 20):Yi a=some (WS a):=if_pos h
theorem Yt {G:GValue→Int→Option Bool} {a:List GValue} {f:Nat} {e:Int} {p:GValue→Bool} (ha:a.length<=2 ^ 20) (hf:a.length<f) (hG:∀x∈a,G x e=some (!p x)):∃r:Int,xp G f a e=some r∧decide (0<=r)= !(a.all p):=by
 have loop:∀(d i m:Nat),i+d=a.length→d<m→∃(q:Nat) (z:Int),yc G a (a.length:Int) e m (i:Int)=some (if(a.drop i).all p=true then .inr z else .inl (q:Int)):=by
  intro d
  induction d with
  |zero=>
   intro i m hi hm
   obtain⟨m,rfl,_⟩:=zg hm
   exact⟨0,_,by rw[yc,if_neg (by omega),List.drop_eq_nil_of_le (by omega)];rfl⟩
  |succ d ih=>
   intro i m hi hm
   obtain⟨m,rfl,hm'⟩:=zg hm
   have hil:i<a.length:=by omega
   rw[yc,if_pos (by omega),zb,oB,zj hil,oB,hG _ (List.getElem_mem hil),oB,zG (by omega),wb hil,List.all_cons]
   cases hp:p a[i]with
   |false=>exact⟨i,0,rfl⟩
   |true=>
    obtain⟨q,z,hz⟩:=ih (i+1) m (by omega) (by omega)
    exact⟨q,z,by rw[Bool.true_and];exact hz⟩
 obtain⟨q,z,hz⟩:=loop a.length 0 f (by omega) (by omega)
 rw[show((0:Nat):Int)=0 from rfl,List.drop_zero]at hz
 unfold xp
 rw[hz,oB]
 cases hp:a.all p with
 |true=>exact⟨-1,rfl,rfl⟩
 |false=>exact⟨(q:Int),rfl,by simp⟩
theorem GS {G:List GValue→Int→Option Bool} {v:GValue} {v0 v1:Bool} {a1:Int} (hs:vsz v<=2 ^ 20):∀(d i m:Nat),i+d=v.K.length→d<m→∃z,we G v0 v1 v.K (v.K.length:Int) v a1 m (i:Int)=some (if vx v.K i d=true then .inr z else .inl false):=by
 have he:=yT v
 have hl:=wT v.K
 intro d
 induction d with
 |zero=>
  intro i m hi hm
  obtain⟨m,rfl,_⟩:=zg hm
  exact⟨_,by rw[we,if_neg (by omega)];rfl⟩
 |succ d ih=>
  intro i m hi hm
  obtain⟨m,rfl,hm'⟩:=zg hm
  have hil:i<v.K.length:=by omega
  have hx:=ZD (List.getElem_mem hil)
  rw[we,if_pos (by omega),zb,oB,zj hil,oB,zbh (by omega),oB,zG (by omega),KS]
  obtain⟨z,hz⟩:=ih (i+1) m (by omega) (by omega)
  cases hnm:vW v.K[i]with
  |false=>
   refine⟨0,?_⟩
   have:kOk v.K i=false:=by
    by_cases h0:i=0
    ·subst h0;rw[Rz hil,hnm]
    ·rw[Kn hil (by omega),hnm];rfl
   rw[this];rfl
  |true=>
   dsimp only
   by_cases h0:0<i
   ·rw[if_pos (by omega),Zd (by omega) h0,zb,oB,zj (show i - 1<v.K.length by omega),oB,zit,oB]
    by_cases hb:Op.bytesLess (v.K[i - 1]'(by omega)) v.K[i]=true
    ·rw[if_neg (by rw[Qy];exact fun h=>h hb),Kn hil h0,hnm,hb]
     exact⟨z,hz⟩
    ·rw[if_pos (by rw[Qy];exact hb),Kn hil h0,hnm,show Op.bytesLess (v.K[i - 1]'(by omega)) v.K[i]=false by simpa using hb]
     exact⟨0,rfl⟩
   ·have:i=0:=by omega
    subst this
    rw[if_neg (by omega),Rz hil,hnm]
    exact⟨z,hz⟩
theorem Ar {G:List GValue→Int→Option Bool} {v:GValue} {f d:Nat} (hs:vsz v<=2 ^ 20) (hf:v.K.length<f) (hd:0<d) (hG:G v.L (d:Int)=some (!(v.L.all (shV (d - 1))))):vP G f v (d:Int)=some (shV d v):=by
 obtain⟨e,rfl⟩:∃e,d=e+1:=⟨d - 1,by omega⟩
 have he:=yT v
 have hl:=yS v.L
 have hb:=wT v.K
 rw[show e+1 - 1=e by omega]at hG
 unfold vP
 rw[if_neg (by omega)]
 simp only[shV]
 have nil:v.L.length=0→v.L.all (shV e)=true:=fun h=>by rw[List.eq_nil_of_length_eq_zero h];rfl
 have c0:∀n:Nat,(((n:Nat):Int)=0)=(n=0):=fun n=>by simp
 simp only[c0]
 have leaf:∀{b:Bool},xj v=(b&&decide (v.L.length=0))→b=true→some (decide (v.L.length=0))=some (xj v&&v.L.all (shV e)):=fun h hb'=>by
  rw[h,hb',Bool.true_and]
  by_cases hz:v.L.length=0
  ·rw[decide_eq_true hz,nil hz];rfl
  ·rw[decide_eq_false hz];rfl
 have no:xj v=false→some false=some (xj v&&v.L.all (shV e)):=fun h=>by rw[h];rfl
 have four:∀{p:Prop} [Decidable p],xj v=decide (p∧v.S.length=0∧v.K.length=0∧v.L.length=0)→p→(if v.S.length=0 then if v.K.length=0 then some (decide (v.L.length=0))else some false else some false)=some (xj v&&v.L.all (shV e)):=fun h hp=>by
  by_cases h1:v.S.length=0
  ·rw[if_pos h1]
   by_cases h2:v.K.length=0
   ·rw[if_pos h2]
    exact leaf (b:=true) (by rw[h];simp[hp,h1,h2]) rfl
   ·rw[if_neg h2];exact no (by rw[h,decide_eq_false (fun h=>h2 h.2.2.1)])
  ·rw[if_neg h1];exact no (by rw[h,decide_eq_false (fun h=>h1 h.2.1)])
 by_cases k0:v.Kind=0
 ·rw[if_pos k0]
  have hv:xj v=decide (v.N=0∧v.S.length=0∧v.K.length=0∧v.L.length=0):=by unfold xj;rw[if_pos (.inl k0)]
  by_cases a1:v.N=0
  ·rw[if_pos a1];exact four hv a1
  ·rw[if_neg a1];exact no (by rw[hv,decide_eq_false (fun h=>a1 h.1)])
 rw[if_neg k0]
 by_cases k6:v.Kind=6
 ·rw[if_pos k6]
  have hv:xj v=decide (v.N=0∧v.S.length=0∧v.K.length=0∧v.L.length=0):=by unfold xj;rw[if_pos (.inr k6)]
  by_cases a1:v.N=0
  ·rw[if_pos a1];exact four hv a1
  ·rw[if_neg a1];exact no (by rw[hv,decide_eq_false (fun h=>a1 h.1)])
 rw[if_neg k6]
 have n06:¬(v.Kind=0∨v.Kind=6):=by omega
 by_cases k1:v.Kind=1
 ·rw[if_pos k1,QC,oB]
  have hv:xj v=decide ((0<=v.N∧v.N<=1)∧v.S.length=0∧v.K.length=0∧v.L.length=0):=by unfold xj;rw[if_neg n06,if_pos k1]
  by_cases a1:0<=v.N∧v.N<=1
  ·rw[decide_eq_true a1];exact four hv a1
  ·rw[decide_eq_false a1];exact no (by rw[hv,decide_eq_false (fun h=>a1 h.1)])
 rw[if_neg k1]
 by_cases k2:v.Kind=2
 ·rw[if_pos k2,QC,oB]
  have hv:xj v=decide ((-1000000000000<=v.N∧v.N<=1000000000000)∧v.S.length=0∧v.K.length=0∧v.L.length=0):=by unfold xj;rw[if_neg n06,if_neg k1,if_pos k2]
  by_cases a1: -1000000000000<=v.N∧v.N<=1000000000000
  ·rw[decide_eq_true a1];exact four hv a1
  ·rw[decide_eq_false a1];exact no (by rw[hv,decide_eq_false (fun h=>a1 h.1)])
 rw[if_neg k2]
 by_cases k3:v.Kind=3
 ·rw[if_pos k3,zbi (by omega),oB]
  have hv:xj v=(WS v.S&&decide (v.N=0∧v.K.length=0∧v.L.length=0)):=by unfold xj;rw[if_neg n06,if_neg k1,if_neg k2,if_pos k3]
  cases ht:WS v.S with
  |false=>exact no (by rw[hv,ht];rfl)
  |true=>
   rw[ht,Bool.true_and]at hv
   dsimp only
   by_cases a1:v.N=0
   ·rw[if_pos a1]
    by_cases a2:v.K.length=0
    ·rw[if_pos a2];exact leaf (b:=true) (by rw[hv];simp[a1,a2]) rfl
    ·rw[if_neg a2];exact no (by rw[hv,decide_eq_false (fun h=>a2 h.2.1)])
   ·rw[if_neg a1];exact no (by rw[hv,decide_eq_false (fun h=>a1 h.1)])
 rw[if_neg k3]
 have ends:∀{b:Bool},xj v=(b&&decide (v.L.length<=40))→b=true→(if(v.L.length:Int)<=40 then(G v.L ((e+1:Nat):Int)).bind fun r12=>some (!r12)else some false)=some (xj v&&v.L.all (shV e)):=fun h hb'=>by
  by_cases h4:v.L.length<=40
  ·rw[if_pos (by omega),hG,oB,h,hb',decide_eq_true h4,Bool.not_not];rfl
  ·rw[if_neg (by omega)];exact no (by rw[h,decide_eq_false h4,Bool.and_false])
 by_cases k4:v.Kind=4
 ·rw[if_pos k4]
  have hv:xj v=decide (v.N=0∧v.S.length=0∧v.K.length=0∧v.L.length<=40):=by unfold xj;rw[if_neg n06,if_neg k1,if_neg k2,if_neg k3,if_pos k4]
  by_cases a1:v.K.length=0
  ·rw[if_pos a1]
   by_cases a2:v.N=0
   ·rw[if_pos a2]
    by_cases a3:v.S.length=0
    ·rw[if_pos a3];exact ends (b:=true) (by rw[hv];simp[a1,a2,a3]) rfl
    ·rw[if_neg a3];exact no (by rw[hv,decide_eq_false (fun h=>a3 h.2.1)])
   ·rw[if_neg a2];exact no (by rw[hv,decide_eq_false (fun h=>a2 h.1)])
  ·rw[if_neg a1];exact no (by rw[hv,decide_eq_false (fun h=>a1 h.2.2.1)])
 rw[if_neg k4]
 by_cases k5:v.Kind=5
 ·rw[if_pos k5]
  have hv:xj v=(decide (v.K.length=v.L.length∧v.N=0∧v.S.length=0∧v.L.length<=40)&&vx v.K 0 v.K.length):=by unfold xj;rw[if_neg n06,if_neg k1,if_neg k2,if_neg k3,if_neg k4,if_pos k5]
  by_cases a1:(v.K.length:Int)=(v.L.length:Int)
  ·rw[if_pos a1]
   have keys:=fun(v0 v1:Bool)=>GS (G:=G) (v0:=v0) (v1:=v1) (a1:=((e+1:Nat):Int)) hs v.K.length 0 f (by omega) (by omega)
   simp only[show((0:Nat):Int)=0 from rfl]at keys
   obtain⟨z,hz⟩:=keys (decide (v.N=0)) (decide (v.S.length=0))
   rw[hz,oB]
   cases hk:vx v.K 0 v.K.length with
   |false=>exact no (by rw[hv,hk,Bool.and_false])
   |true=>
    rw[if_pos rfl]
    dsimp only
    by_cases a2:v.N=0
    ·rw[if_pos a2]
     by_cases a3:v.S.length=0
     ·rw[if_pos a3]
      exact ends (b:=true) (by rw[hv,hk];simp[a2,a3,show v.K.length=v.L.length by omega]) rfl
     ·rw[if_neg a3]
      exact no (by rw[hv,decide_eq_false (fun h=>a3 h.2.2.1)];rfl)
    ·rw[if_neg a2]
     exact no (by rw[hv,decide_eq_false (fun h=>a2 h.2.1)];rfl)
  ·rw[if_neg a1];exact no (by rw[hv,decide_eq_false (fun h=>a1 (by omega))];rfl)
 rw[if_neg k5]
 exact no (by unfold xj;simp only[k0,k1,k2,k3,k4,k5,k6,or_self,if_false])
theorem As:∀(N:Nat) (v:GValue),vsz v<N→vsz v<=2 ^ 20→∀(f d:Nat),4*vsz v+6<=f→d<=2 ^ 20→wH f v (d:Int)=some (shV d v):=by
 intro N
 induction N with
 |zero=>intro v hv;omega
 |succ N ih=>
  intro v hv hs f d hf hd
  have he:=yT v
  have hl:=yS v.L
  have hb:=wT v.K
  obtain⟨f,rfl,_⟩:=zg (show 0<f by omega)
  rw[wH]
  by_cases h0:d=0
  ·subst h0;unfold vP;rw[if_pos (show((0:Nat):Int)=0 from rfl)];rfl
  refine Ar hs (by omega) (by omega) ?_
  obtain⟨f,rfl,_⟩:=zg (show 0<f by omega)
  obtain⟨f,rfl,_⟩:=zg (show 0<f by omega)
  obtain⟨f,rfl,_⟩:=zg (show 0<f by omega)
  rw[zL]
  unfold xR
  rw[zW]
  obtain⟨r,hr,hr2⟩:=Yt (G:=xO (f+1)) (a:=v.L) (f:=f+1) (e:=(d:Int)) (p:=shV (d - 1)) (by omega) (by omega) fun x hx=>by
   have:=yN hx
   rw[xO]
   unfold X0
   rw[Zd (by omega) (by omega),ih x (by omega) (by omega) f (d - 1) (by omega) (by omega)]
   rfl
  rw[hr,oB,hr2]
def Jm (a0:GValue) (e0:Int):Option Bool:=none
theorem VY (a0:GValue) (e0:Int) (r:Bool) (h:Jm a0 e0=some r):∃n,xO n a0 e0=some r:=by cases h
def jY (a0:(List GValue)) (e0:Int):Option Int:=none
theorem Yu (a0:(List GValue)) (e0:Int) (r:Int) (h:jY a0 e0=some r):∃n,zW n a0 e0=some r:=by cases h
def jf (a0:(List GValue)) (e0:Int):Option Bool:=none
theorem ZH (a0:(List GValue)) (e0:Int) (r:Bool) (h:jf a0 e0=some r):∃n,zL n a0 e0=some r:=by cases h
def jZ (a0:GValue) (a1:Int):Option Bool:=if vsz a0<=2 ^ 20∧0<=a1∧a1<=2 ^ 20 then some (shV a1.toNat a0)else none
theorem Ub (a0:GValue) (a1:Int) (r:Bool) (h:jZ a0 a1=some r):∃n,wH n a0 a1=some r:=by
 unfold jZ at h
 obtain⟨⟨hs,h0,h1⟩,h⟩:=zB h
 refine⟨4*vsz a0+6,?_⟩
 have:=As _ a0 (Nat.lt_succ_self _) hs _ a1.toNat (Nat.le_refl _) (by omega)
 rw[show((a1.toNat:Nat):Int)=a1 by omega]at this
 rw[this];exact h
theorem zbj:km Jm:=by
 intro a0 e0 r h
 obtain⟨n,hn⟩:=VY a0 e0 r h
 exact(vj n).1 a0 e0 r hn
theorem Uc:xo jY:=by
 intro a0 e0 r h
 obtain⟨n,hn⟩:=Yu a0 e0 r h
 exact(vj n).2.1 a0 e0 r hn
theorem RL:y4 jf:=by
 intro a0 e0 r h
 obtain⟨n,hn⟩:=ZH a0 e0 r h
 exact(vj n).2.2.1 a0 e0 r hn
theorem Oz:Y6 jZ:=by
 intro a0 a1 r h
 obtain⟨n,hn⟩:=Ub a0 a1 r h
 exact(vj n).2.2.2 a0 a1 r hn
def jM (F:GValue→Option Int):Prop:=∀(a0:GValue),Oc (F a0) 245 [] [.val true (zi a0)] fun r=>(vi r,[])
def xZ (G_impl_Value_parts:GValue→Option Int) (v1:(List GValue)) (v2:Int):Nat→Int→Int→Option (Int×Int)
 |0,_,_=>none
 |m+1,v0,v3=>
 if v3<v2 then
  (zn v3).bind fun i2=>
  (v1[i2]?).bind fun x3=>
  (G_impl_Value_parts x3).bind fun r4=>
  xZ G_impl_Value_parts v1 v2 m (w64 (v0+r4)) (w64 (v3+1))
 else
 some (v0,v3)
theorem KX (G_impl_Value_parts:GValue→Option Int) (H_impl_Value_parts:jM G_impl_Value_parts) (v1:(List GValue)) (v2:Int) (m:Nat):∀(v0:Int) (v3:Int),Ol (xZ G_impl_Value_parts v1 v2 m v0 v3) 245 (zD Tryz.f245 0) ⟨[(3,vi v0),(7,vq zd v1),(8,vi v2),(9,vi v3)],[],0⟩ fun o=>match o with |⟨o_0,o_1⟩=>(.exit 0,⟨[(3,vi o_0),(7,vq zd v1),(8,vi v2),(9,vi o_1),(10,vb false)],[],0⟩):=by
 induction m with
 |zero=>intro v0 v3 o h;cases h
 |succ m ih=>exact fun v0 v3=>tlp (
  .lI v3 v2 (fun c1=>.na v3 fun i2=>.ix zr v1 i2 fun x3=>.cl (H_impl_Value_parts x3) fun r4=>.go (ih (w64 (v0+r4)) (w64 (v3+1)))) fun c1=>.ret (v0,v3))
def vQ (G_impl_Value_parts:GValue→Option Int) (n:Nat) (a0:GValue):Option Int:=
 (xZ G_impl_Value_parts a0.L (a0.L.length:Int) n 1 0).bind fun⟨o1_0,o1_1⟩=>
 some o1_0
theorem Ud (G_impl_Value_parts:GValue→Option Int) (H_impl_Value_parts:jM G_impl_Value_parts) (n:Nat):jM (vQ G_impl_Value_parts n):=fun a0=>tc (
 .le zd a0.L<|.lp (KX G_impl_Value_parts H_impl_Value_parts a0.L (a0.L.length:Int) n 1 0) fun⟨o1_0,o1_1⟩=>.ret o1_0) (zf Tryz.func245)
def xD:Nat→GValue→Option Int
 |0,_=>none
 |n+1,a0=>vQ (xD n) n a0
theorem VZ (n:Nat):jM (xD n):=by
 induction n with
 |zero=>exact fun _ _ h=>(by rw[xD]at h;cases h)
 |succ n ih=>
  have ih_impl_Value_parts:=ih
  exact fun a0 r h=>Ud (xD n) ih_impl_Value_parts n a0 r (by rw[xD]at h;exact h)
theorem Ue {G:GValue→Option Int} {v:GValue} {f:Nat} (hs:vsz v<=2 ^ 20) (hf:v.L.length<f) (hG:∀x∈v.L,G x=some (((ptV x):Nat):Int)):vQ G f v=some (((ptV v):Nat):Int):=by
 have he:=yT v
 have hl:=yS v.L
 have loop:∀(d i m:Nat) (r:Int),i+d=v.L.length→d<m→0<=r→r<=2 ^ 21 - yo (v.L.drop i)→∃z,xZ G v.L (v.L.length:Int) m r (i:Int)=some (r+yo (v.L.drop i),z):=by
  intro d
  induction d with
  |zero=>
   intro i m r hi hm h0 h1
   obtain⟨m,rfl,_⟩:=zg hm
   exact⟨_,by rw[xZ,if_neg (by omega),List.drop_eq_nil_of_le (by omega)];simp[yo];rfl⟩
  |succ d ih=>
   intro i m r hi hm h0 h1
   obtain⟨m,rfl,hm'⟩:=zg hm
   have hil:i<v.L.length:=by omega
   have hp:yo (v.L.drop i)=ptV v.L[i]+yo (v.L.drop (i+1)):=by rw[wb hil];simp only[yo]
   rw[hp]at h1 ⊢
   rw[xZ,if_pos (by omega),zb,oB,zj hil,oB,hG _ (List.getElem_mem hil),oB,zG (by omega),zR (by omega) (by omega)]
   obtain⟨z,hz⟩:=ih (i+1) m (r+ptV v.L[i]) (by omega) (by omega) (by omega) (by omega)
   exact⟨z,by rw[hz];congr 2;omega⟩
 have hle:=NI v.L
 obtain⟨z,hz⟩:=loop v.L.length 0 f 1 (by omega) (by omega) (by omega) (by rw[List.drop_zero];omega)
 rw[show((0:Nat):Int)=0 from rfl,List.drop_zero]at hz
 unfold vQ
 rw[hz,VA]
 simp only[oB]
 congr 1
theorem Uf:∀(N:Nat) (v:GValue),vsz v<N→vsz v<=2 ^ 20→∀f:Nat,vsz v+2<=f→xD f v=some (((ptV v):Nat):Int):=by
 intro N
 induction N with
 |zero=>intro v hv;omega
 |succ N ih=>
  intro v hv hs f hf
  obtain⟨f,rfl,_⟩:=zg (show 0<f by omega)
  have he:=yT v
  have hl:=yS v.L
  rw[xD]
  refine Ue hs (by omega) fun x hx=> ?_
  have:=yN hx
  exact ih x (by omega) (by omega) f (by omega)
def qy (a0:GValue):Option Int:=if vsz a0<=2 ^ 20 then some (((ptV a0):Nat):Int)else none
theorem Vs (a0:GValue) (r:Int) (h:qy a0=some r):∃n,xD n a0=some r:=by
 unfold qy at h
 obtain⟨ha,h⟩:=zB h
 exact⟨vsz a0+2,by rw[<-h];exact Uf _ a0 (Nat.lt_succ_self _) ha _ (Nat.le_refl _)⟩
theorem RX:jM qy:=by
 intro a0 r h
 obtain⟨n,hn⟩:=Vs a0 r h
 exact(VZ n) a0 r hn
def kH (a0:GValue):Option Bool:=
 (jZ a0 5).bind fun r1=>
 match r1 with
 |true=>
  (qy a0).bind fun r2=>
  some (decide (r2<=40))
 |false=>
  some false
theorem LQ (a0:GValue):Oc (kH a0) 178 [] [.val true (zi a0)] fun r=>(vb r,[]):=tc (
 .cl (Oz a0 5) fun r1=>.vM 0 r1 (
  .az 0 0<|.cl (RX a0) fun r2=>.az 0 1<|.gD r2 40<|.az 0 1<|.ret (decide (r2<=40)))<|.az 0 0<|.az 0 0<|.az 0 0<|.ret false) (zf Tryz.func178)
def WH (a0:GValue):Option Bool:=
 if a0.Kind=5 then
  (kH a0).bind fun r2=>
  some r2
 else
 some false
theorem GT (a0:GValue):Oc (WH a0) 197 [] [.val true (zi a0)] fun r=>(vb r,[]):=tc (
 .eI a0.Kind 5 (fun c1=>.cl (LQ a0) fun r2=>.ret r2) fun c1=>.ret false) (zf Tryz.func197)
def qM (F:GValue→Option Bool):Prop:=∀(a0:GValue),Oc (F a0) 260 [] [.val true (zi a0)] fun r=>(vb r,[])
def yU (F:(List GValue)→Option Int):Prop:=∀(a0:(List GValue)),Oc (F a0) 296 [] [vq zd a0,.val false [.fn 260 []]] fun r=>(vi r,[])
def yK (F:(List GValue)→Option Bool):Prop:=∀(a0:(List GValue)),Oc (F a0) 259 [] [vq zd a0,.val false [.fn 260 []]] fun r=>(vb r,[])
def vR (F:GValue→Option Bool):Prop:=∀(a0:GValue),Oc (F a0) 198 [] [.val true (zi a0)] fun r=>(vb r,[])
def ZX (G_impl_Value_known:GValue→Option Bool) (a0:GValue):Option Bool:=
 (G_impl_Value_known a0).bind fun r1=>
 some (!r1)
theorem Ra (G_impl_Value_known:GValue→Option Bool) (H_impl_Value_known:vR G_impl_Value_known):qM (ZX G_impl_Value_known):=fun a0=>tc (
 .cl (H_impl_Value_known a0) fun r1=>.ret (!r1)) (zf Tryz.func260)
def zT (G_impl_Value_known_1:GValue→Option Bool) (a0:(List GValue)) (v1:Int):Nat→Int→Option (Int⊕Int)
 |0,_=>none
 |m+1,v2=>
 if v2<v1 then
  (zn v2).bind fun i2=>
  (a0[i2]?).bind fun x3=>
  (G_impl_Value_known_1 x3).bind fun r4=>
  match r4 with
  |true=>
   some (.inl v2)
  |false=>
   zT G_impl_Value_known_1 a0 v1 m (w64 (v2+1))
 else
 some (.inr v2)
theorem Z5 (G_impl_Value_known_1:GValue→Option Bool) (H_impl_Value_known_1:qM G_impl_Value_known_1) (a0:(List GValue)) (v1:Int) (m:Nat):∀(v2:Int),Ol (zT G_impl_Value_known_1 a0 v1 m v2) 296 (zD Tryz.f296 0) ⟨[(0,vq zd a0),(1,.val false [.fn 260 []]),(7,vi v1),(8,vi v2)],[],0⟩ fun o=>match o with | .inl o_0=>(.ret,⟨[(4,vi o_0)],[],0⟩)| .inr (o_1)=>(.exit 0,⟨[(0,vq zd a0),(1,.val false [.fn 260 []]),(7,vi v1),(8,vi o_1),(9,vb false)],[],0⟩):=by
 induction m with
 |zero=>intro v2 o h;cases h
 |succ m ih=>exact fun v2=>tlp (
  .lI v2 v1 (fun c1=>.na v2 fun i2=>.ix zr a0 i2 fun x3=>.cl (H_impl_Value_known_1 x3) fun r4=>.vM 0 r4 (
    .ret (.inl v2))<|.go (ih (w64 (v2+1)))) fun c1=>.ret (.inr v2))
def yV (G_impl_Value_known_1:GValue→Option Bool) (n:Nat) (a0:(List GValue)):Option Int:=
 (zT G_impl_Value_known_1 a0 (a0.length:Int) n 0).bind fun o1=>
 match o1 with
 | .inl o1_0=>
  some o1_0
 | .inr (o1_1)=>
  some (-1)
theorem Yv (G_impl_Value_known_1:GValue→Option Bool) (H_impl_Value_known_1:qM G_impl_Value_known_1) (n:Nat):yU (yV G_impl_Value_known_1 n):=fun a0=>tc (
 .le zd a0<|.l2 (Z5 G_impl_Value_known_1 H_impl_Value_known_1 a0 (a0.length:Int) n 0) (fun o1_0=>.ret o1_0) fun o1_1=>.ret (-1)) (zf Tryz.func296)
def xB (G_slices_IndexFunc_Value_Value_known_1:(List GValue)→Option Int) (a0:(List GValue)):Option Bool:=
 (G_slices_IndexFunc_Value_Value_known_1 a0).bind fun r1=>
 some (decide (0<=r1))
theorem ZI (G_slices_IndexFunc_Value_Value_known_1:(List GValue)→Option Int) (H_slices_IndexFunc_Value_Value_known_1:yU G_slices_IndexFunc_Value_Value_known_1):yK (xB G_slices_IndexFunc_Value_Value_known_1):=fun a0=>tc (
 .cl (H_slices_IndexFunc_Value_Value_known_1 a0) fun r1=>.gD 0 r1<|.ret (decide (0<=r1))) (zf Tryz.func259)
def YK (G_slices_ContainsFunc_Value_Value_known_1:(List GValue)→Option Bool) (a0:GValue):Option Bool:=
 if a0.Kind=6 then
  some false
 else
 (G_slices_ContainsFunc_Value_Value_known_1 a0.L).bind fun r2=>
 some (!r2)
theorem Ug (G_slices_ContainsFunc_Value_Value_known_1:(List GValue)→Option Bool) (H_slices_ContainsFunc_Value_Value_known_1:yK G_slices_ContainsFunc_Value_Value_known_1):vR (YK G_slices_ContainsFunc_Value_Value_known_1):=fun a0=>tc (
 .eI a0.Kind 6 (fun c1=>.ret false) fun c1=>.cl (H_slices_ContainsFunc_Value_Value_known_1 a0.L) fun r2=>.ret (!r2)) (zf Tryz.func198)
mutual
def xh:Nat→GValue→Option Bool
 |0,_=>none
 |n+1,a0=>ZX (xE n) a0
def zM:Nat→(List GValue)→Option Int
 |0,_=>none
 |n+1,a0=>yV (xh n) n a0
def zI:Nat→(List GValue)→Option Bool
 |0,_=>none
 |n+1,a0=>xB (zM n) a0
def xE:Nat→GValue→Option Bool
 |0,_=>none
 |n+1,a0=>YK (zI n) a0
end
theorem jD (n:Nat):qM (xh n)∧yU (zM n)∧yK (zI n)∧vR (xE n):=by
 induction n with
 |zero=>exact⟨fun _ _ h=>(by rw[xh]at h;cases h),fun _ _ h=>(by rw[zM]at h;cases h),fun _ _ h=>(by rw[zI]at h;cases h),fun _ _ h=>(by rw[xE]at h;cases h)⟩
 |succ n ih=>
  obtain⟨ih_impl_Value_known_1,ih_slices_IndexFunc_Value_Value_known_1,ih_slices_ContainsFunc_Value_Value_known_1,ih_impl_Value_known⟩:=ih
  exact⟨fun a0 r h=>Ra (xE n) ih_impl_Value_known a0 r (by rw[xh]at h;exact h),
   fun a0 r h=>Yv (xh n) ih_impl_Value_known_1 n a0 r (by rw[zM]at h;exact h),
   fun a0 r h=>ZI (zM n) ih_slices_IndexFunc_Value_Value_known_1 a0 r (by rw[zI]at h;exact h),
   fun a0 r h=>Ug (zI n) ih_slices_ContainsFunc_Value_Value_known_1 a0 r (by rw[xE]at h;exact h)⟩
def WI (a0:GValue):Option Bool:=none
theorem Kp (a0:GValue) (r:Bool) (h:WI a0=some r):∃n,xh n a0=some r:=by cases h
def jg (a0:(List GValue)):Option Int:=none
theorem ZJ (a0:(List GValue)) (r:Int) (h:jg a0=some r):∃n,zM n a0=some r:=by cases h
def qI (a0:(List GValue)):Option Bool:=none
theorem Zf (a0:(List GValue)) (r:Bool) (h:qI a0=some r):∃n,zI n a0=some r:=by cases h
theorem zek {G:GValue→Option Bool} {a:List GValue} {f:Nat} (ha:a.length<=2 ^ 40) (hf:a.length<f) (hG:∀x∈a,G x=some (!knV x)):∃r:Int,yV G f a=some r∧decide (0<=r)= !(Jh a):=by
 have loop:∀(l p:List GValue) (m:Nat),a=p++l→l.length<m→∃(q:Nat) (z:Int),zT G a (a.length:Int) m (p.length:Int)=some (if Jh l=true then .inr z else .inl (q:Int)):=by
  intro l
  induction l with
  |nil=>
   intro p m he hm
   subst he
   obtain⟨m,rfl,_⟩:=zg hm
   exact⟨0,_,by rw[zT,if_neg (xF p)];rfl⟩
  |cons x l ih=>
   intro p m he hm
   obtain⟨m,rfl,hm'⟩:=zg hm
   have hlen:a.length=p.length+(l.length+1):=by rw[he];simp
   rw[zT,if_pos (by omega),zb,oB,show a[p.length]? =some x by rw[he];exact zp p x l,oB,hG x (by rw[he];simp),oB,ye p x (by omega)]
   rw[show Jh (x::l)=(knV x&&Jh l) by simp only[Jh]]
   by_cases hp:knV x=true
   ·obtain⟨q,z,hz⟩:=ih (p++[x]) m (by rw[he];simp) (by simp only[List.length_cons]at hm';omega)
    exact⟨q,z,by rw[hp,Bool.true_and];exact hz⟩
   ·rw[Bool.eq_false_iff.2 hp]
    exact⟨p.length,0,rfl⟩
 obtain⟨q,z,hz⟩:=loop a [] f rfl (by omega)
 simp only[List.length_nil,Int.natCast_zero]at hz
 unfold yV
 rw[hz,oB]
 cases hp:Jh a with
 |true=>exact⟨-1,rfl,rfl⟩
 |false=>exact⟨(q:Int),rfl,by simp⟩
theorem ziu:∀(N:Nat) (v:GValue),vsz v<N→vsz v<=2 ^ 39→∀f:Nat,4*vsz v+5<=f→xE f v=some (knV v):=by
 intro N
 induction N with
 |zero=>intro v hv;omega
 |succ N ih=>
  intro v hv hs f hf
  have he:=yT v
  have hl:=yS v.L
  obtain⟨f,rfl,_⟩:=zg (show 0<f by omega)
  obtain⟨f,rfl,_⟩:=zg (show 0<f by omega)
  obtain⟨f,rfl,_⟩:=zg (show 0<f by omega)
  obtain⟨f,rfl,_⟩:=zg (show 0<f by omega)
  obtain⟨r,hr,hd⟩:=zek (G:=xh (f+1)) (a:=v.L) (f:=f+1) (by omega) (by omega) (fun x hx=>by
   have:=yN hx
   rw[xh]
   unfold ZX
   rw[ih x (by omega) (by omega) f (by omega),oB])
  rw[xE]
  unfold YK
  rw[zI]
  unfold xB
  rw[zM,hr,oB,oB,hd,zcb]
  by_cases h6:v.Kind=6
  ·rw[if_pos h6,h6];rfl
  ·rw[if_neg h6];simp[h6]
def qz (a0:GValue):Option Bool:=if vsz a0<=2 ^ 39 then some (knV a0)else none
theorem Vt (a0:GValue) (r:Bool) (h:qz a0=some r):∃n,xE n a0=some r:=by
 unfold qz at h
 obtain⟨ha,h⟩:=zB h
 exact⟨4*vsz a0+5,by rw[<-h];exact ziu _ a0 (Nat.lt_succ_self _) ha _ (Nat.le_refl _)⟩
theorem Bd:qM WI:=by
 intro a0 r h
 obtain⟨n,hn⟩:=Kp a0 r h
 exact(jD n).1 a0 r hn
theorem RM:yU jg:=by
 intro a0 r h
 obtain⟨n,hn⟩:=ZJ a0 r h
 exact(jD n).2.1 a0 r hn
theorem Vu:yK qI:=by
 intro a0 r h
 obtain⟨n,hn⟩:=Zf a0 r h
 exact(jD n).2.2.1 a0 r hn
theorem RY:vR qz:=by
 intro a0 r h
 obtain⟨n,hn⟩:=Vt a0 r h
 exact(jD n).2.2.2 a0 r hn
def xP (a0:GValue):Option Bool:=
 (WH a0).bind fun r1=>
 match r1 with
 |true=>
  (qz a0).bind fun r2=>
  some r2
 |false=>
  some false
theorem YL (a0:GValue):Oc (xP a0) 134 [] [.val true (zi a0)] fun r=>(vb r,[]):=tc (
 .cl (GT a0) fun r1=>.vM 0 r1 (
  .az 0 0<|.cl (RY a0) fun r2=>.az 0 1<|.ret r2)<|.az 0 0<|.az 0 0<|.ret false) (zf Tryz.func134)
def KN (F:(List (List UInt8))→Option Bool):Prop:=∀(a0:(List (List UInt8))),Oc (F a0) 135 [] [vq (zl za) a0] fun r=>(vb r,[])
def wg (a0:(List (List UInt8))) (v1:Int):Nat→Int→Option (Bool⊕Int)
 |0,_=>none
 |m+1,v2=>
 if v2<v1 then
  (zn v2).bind fun i2=>
  (a0[i2]?).bind fun x3=>
  (wo x3).bind fun r4=>
  match r4 with
  |true=>
   if 0<v2 then
    (zn (w64 (v2 - 1))).bind fun i6=>
    (a0[i6]?).bind fun x7=>
    (yr x7 x3).bind fun r8=>
    if 0<=r8 then
     some (.inl false)
    else
    wg a0 v1 m (w64 (v2+1))
   else
   wg a0 v1 m (w64 (v2+1))
  |false=>
   some (.inl false)
 else
 some (.inr v2)
theorem RZ (a0:(List (List UInt8))) (v1:Int) (m:Nat):∀(v2:Int),Ol (wg a0 v1 m v2) 135 (zD Tryz.f135 0) ⟨[(0,vq (zl za) a0),(5,vq (zl za) a0),(6,vi v1),(7,vi v2)],[],0⟩ fun o=>match o with | .inl o_0=>(.ret,⟨[(2,vb o_0)],[],0⟩)| .inr (o_1)=>(.exit 0,⟨[(0,vq (zl za) a0),(5,vq (zl za) a0),(6,vi v1),(7,vi o_1),(8,vb false)],[],0⟩):=by
 induction m with
 |zero=>intro v2 o h;cases h
 |succ m ih=>exact fun v2=>tlp (
  .lI v2 v1 (fun c1=>.na v2 fun i2=>.ix0 (zl za) a0 i2 fun x3=>.cl (j0 x3) fun r4=>.vN 0 r4 (
    .an 0 0<|.lI 0 v2 (fun c5=>.an 0 0<|.na (w64 (v2 - 1)) fun i6=>.ix0 (zl za) a0 i6 fun x7=>.cl (wd x7 x3) fun r8=>.gI 0 r8 (fun c9=>.an 0 3<|.an 1 3<|.ret (.inl false)) fun c9=>.an 0 3<|.an 1 3<|.go (ih (w64 (v2+1)))) fun c5=>.an 0 0<|.an 8 0<|.an 1 0<|.go (ih (w64 (v2+1))))<|.an 0 0<|.an 0 0<|.an 0 0<|.an 0 0<|.ret (.inl false)) fun c1=>.ret (.inr v2))
def WJ (n:Nat) (a0:(List (List UInt8))):Option Bool:=
 (wg a0 (a0.length:Int) n 0).bind fun o1=>
 match o1 with
 | .inl o1_0=>
  some o1_0
 | .inr (o1_1)=>
  some (decide ((a0.length:Int)<=8))
theorem LR (n:Nat):KN (WJ n):=fun a0=>tc (
 .le (zl za) a0<|.l2 (RZ a0 (a0.length:Int) n 0) (fun o1_0=>.ret o1_0) fun o1_1=>.le (zl za) a0<|.gD (a0.length:Int) 8<|.ret (decide ((a0.length:Int)<=8))) (zf Tryz.func135)
theorem zbk (c:UInt8):∀b:List UInt8,Lib.indexByte b c=if b.dropWhile (fun x=>decide (x≠c))=[]then -1 else(((b.takeWhile fun x=>decide (x≠c)).length:Nat):Int)
 |[]=>rfl
 |x::b=>by
  have ih:=zbk c b
  rw[Lib.indexByte,List.dropWhile_cons,List.takeWhile_cons]
  by_cases h:x=c
  ·subst h;simp
  ·have hb:(x==c)=false:=by simpa using h
   have hd:decide (x≠c)=true:=decide_eq_true h
   rw[hb,if_neg (by simp),if_pos hd,if_pos hd,ih]
   by_cases hd:b.dropWhile (fun x=>decide (x≠c))=[]
   ·rw[if_pos hd,if_pos hd];rfl
   ·rw[if_neg hd,if_neg hd,if_neg (by simp),List.length_cons];omega
theorem zbl (a:List UInt8) (c:UInt8):Yh a [c]=some (Lib.indexByte a c):=by
 unfold Yh Xy jB
 rw[if_neg (by simp),if_pos (by simp)]
 rfl
theorem zm9 {a:List UInt8} (h:a.length<=2 ^ 20):QB a [91]=some (Yx a,(Zj a).drop 1,decide (Zj a≠[])):=by
 have hix:Yh a [91]=some (if Zj a=[]then -1 else((Yx a).length:Int)):=by rw[zbl,zbk];rfl
 unfold QB
 have hlen:=Dh a
 by_cases hr:Zj a=[]
 ·have hn:=Mz a
  rw[hr,List.append_nil]at hn
  rw[hix,if_pos hr,oB,if_neg (by omega),hr,hn];rfl
 ·obtain⟨t,ht⟩:=Bv hr
  have e:w64 (((Yx a).length:Int)+(([91]:List UInt8).length:Int))=(((Yx a).length+1:Nat):Int):=by
   show w64 (((Yx a).length:Int)+1)=_
   exact zG (by omega)
  have hl2:=hlen
  rw[ht,List.length_cons]at hl2
  rw[hix,if_neg hr,oB,if_pos (by omega),zb,oB,My (by omega),oB,Bt,e,zb,oB,R2 (by omega),oB,decide_eq_true hr,<-List.drop_drop,Bu]
theorem zmb (s:List UInt8) (c:UInt8) (h:s.length<=2 ^ 20):Zp s [c]=some (decide (s.getLast? =some c)):=by
 unfold Zp
 rw[show(([c]:List UInt8).length:Int)=1 from rfl]
 rcases List.eq_nil_or_concat s with rfl|⟨l,x,rfl⟩
 ·rw[if_neg (by simp)];rfl
 ·simp only[List.concat_eq_append,List.length_append,List.length_cons,List.length_nil]at h ⊢
  rw[if_pos (by omega),show w64 (((l.length+(0+1):Nat):Int) - 1)=(l.length:Int) by rw[zR (by omega) (by omega)];omega,zb,oB,R2 (by simp),oB,List.drop_left]
  unfold wn
  rw[oB,List.getLast?_concat]
  congr 1
  exact decide_eq_decide.2 (by simp)
theorem Uh (s:List UInt8) (c:UInt8) (h:s.length<=2 ^ 20):kl s [c]=some (if s.getLast? =some c then(s.dropLast,true)else(s,false)):=by
 unfold kl
 rw[zmb s c h,oB]
 by_cases hc:s.getLast? =some c
 ·rw[decide_eq_true hc,if_pos hc]
  dsimp only
  have h0:0<s.length:=by
   cases s with
   |nil=>simp at hc
   |cons x s=>simp
  rw[show(([c]:List UInt8).length:Int)=1 from rfl,Zd (by omega) h0,zb,oB,My (by omega),oB,List.dropLast_eq_take]
 ·rw[decide_eq_false hc,if_neg hc]
theorem zbm (s:List UInt8) (c:UInt8):Zq s [c]=some (if s[0]? =some c then(s.drop 1,true)else(s,false)):=by
 unfold Zq Xz wn
 rw[show(([c]:List UInt8).length:Int)=((1:Nat):Int)from rfl]
 cases s with
 |nil=>rw[if_neg (by simp)];rfl
 |cons x s=>
  rw[if_pos (by simp;omega),zb,oB,My (by simp),oB,oB,oB]
  show(match decide ([x]=[c])with |true=>_|false=>_)=_
  by_cases hc:x=c
  ·subst hc
   rw[decide_eq_true rfl]
   dsimp only
   rw[oB,R2 (by simp),oB]
   simp
  ·rw[decide_eq_false (by simpa using hc),if_neg (by simpa using hc)]
theorem Be:∀n:Fin 100,Z4 ((n.val:Nat):Int)=some (KT n.val):=by
 have h1:∀n:Fin 100,kV ((n.val:Nat):Int)=some (KT n.val):=by decide+kernel
 intro n
 unfold Z4 vm jz
 rw[if_pos rfl,if_pos (by omega),if_pos (by omega),h1];rfl
theorem zbn:∀n:Fin 100,Lib.atoiAll (KT n.val)= .ok ((n.val:Nat):Int):=by decide+kernel
theorem zel:∀n:Fin 100,R3 (KT n.val)=true:=by decide+kernel
theorem zbo {l:List UInt8} (h:R3 l=true):∃n:Fin 100,l=KT n.val:=by
 unfold R3 at h
 simp only[Bool.and_eq_true,Bool.not_eq_true',decide_eq_true_eq]at h
 obtain⟨⟨⟨h1,h2⟩,h3⟩,h4⟩:=h
 match l,h1,h2 with
 |[x],_,_=>
  simp only[List.all_cons,List.all_nil,Bool.and_true,inB,Bool.and_eq_true,decide_eq_true_eq]at h4
  refine⟨⟨x.toNat - 48,by omega⟩,?_⟩
  unfold KT
  rw[if_pos (by simp only;omega)]
  simp only[List.cons.injEq,and_true]
  refine UInt8.toNat_inj.1 ?_
  rw[UInt8.toNat_ofNat_of_lt' (by show _<256;omega)];omega
 |[x,y],_,_=>
  simp only[List.all_cons,List.all_nil,Bool.and_true,inB,Bool.and_eq_true,decide_eq_true_eq]at h4
  have hx:x.toNat≠48:=fun e=>by
   have:x=48:=UInt8.toNat_inj.1 e
   subst this
   simp at h3
  refine⟨⟨(x.toNat - 48)*10+(y.toNat - 48),by omega⟩,?_⟩
  unfold KT
  rw[if_neg (by simp only;omega)]
  simp only[List.cons.injEq,and_true]
  constructor
  ·refine UInt8.toNat_inj.1 ?_
   rw[UInt8.toNat_ofNat_of_lt' (by show _<256;omega)];omega
  ·refine UInt8.toNat_inj.1 ?_
   rw[UInt8.toNat_ofNat_of_lt' (by show _<256;omega)];omega
theorem Bf {a:List UInt8} (h:a.length<=2 ^ 20):jb a=some (vW a):=if_pos h
theorem At {l:List UInt8} (hl:l.length<=2 ^ 20):((kL l).bind fun⟨n,e⟩=>
 match e with
 |true=>some false
 |false=>(xg n 0 99).bind fun r13=>
  match r13 with
  |true=>(Z4 n).bind fun r15=>some (decide (r15=l))
  |false=>some false)=some (R3 l):=by
 unfold kL
 rw[if_pos (by omega),oB]
 cases hd:R3 l with
 |true=>
  obtain⟨n,rfl⟩:=zbo hd
  have hr:xe (KT n.val)=(((n.val:Nat):Int),false):=by unfold xe;rw[zbn n]
  have hn:=n.isLt
  rw[hr]
  dsimp only
  rw[QC,oB,decide_eq_true (show(0:Int)<=((n.val:Nat):Int)∧((n.val:Nat):Int)<=99 by omega)]
  dsimp only
  rw[Be n,oB,decide_eq_true rfl]
 |false=>
  obtain⟨n,e⟩:=xe l
  cases e with
  |true=>rfl
  |false=>
   dsimp only
   rw[QC,oB]
   by_cases hn:(0:Int)<=n∧n<=99
   ·rw[decide_eq_true hn]
    dsimp only
    have:=Be ⟨n.toNat,by omega⟩
    rw[show(((⟨n.toNat,by omega⟩:Fin 100).val:Nat):Int)=n by simp only;omega]at this
    rw[this,oB]
    congr 1
    refine decide_eq_false fun e=> ?_
    rw[<-e,zel]at hd;cases hd
   ·rw[decide_eq_false hn]
theorem YM {a:List UInt8} (h:a.length<=2 ^ 20):wo a=some (y5 a):=by
 unfold wo
 have hlen:=Dh a
 rw[zm9 h,oB]
 dsimp only
 rw[Bf (by omega),oB]
 unfold y5
 cases hn:vW (Yx a)with
 |false=>rfl
 |true=>
  dsimp only
  by_cases hr:Zj a=[]
  ·rw[decide_eq_false (fun h=>h hr),if_pos hr];rfl
  rw[decide_eq_true hr,if_neg hr]
  dsimp only
  have ht:((Zj a).drop 1).length<=2 ^ 20:=by rw[List.length_drop];omega
  generalize (Zj a).drop 1=t at ht ⊢
  rw[Uh t 93 ht,oB]
  by_cases h93:t.getLast? =some 93
  ·rw[if_pos h93,if_pos h93]
   dsimp only
   have hl:t.dropLast.length<=2 ^ 20:=by rw[List.length_dropLast];omega
   generalize t.dropLast=l at hl ⊢
   rw[zbm,oB]
   unfold A8
   by_cases h34:l[0]? =some 34
   ·rw[if_pos h34,if_pos h34]
    dsimp only
    rw[Uh _ 34 (by rw[List.length_drop];omega),oB]
    by_cases h2:(l.drop 1).getLast? =some 34
    ·rw[if_pos h2,if_pos h2]
     dsimp only
     rw[Bf (by rw[List.length_dropLast,List.length_drop];omega),oB];rfl
    ·rw[if_neg h2,if_neg h2];rfl
   ·rw[if_neg h34,if_neg h34]
    dsimp only
    rw[Uh _ 34 hl,oB]
    by_cases h2:l.getLast? =some 34
    ·rw[if_pos h2]
     dsimp only
     have hd:R3 l=false:=by
      unfold R3
      have:l.all (inB 48 57)=false:=by
       rcases List.eq_nil_or_concat l with rfl|⟨k,x,rfl⟩
       ·simp at h2
       ·rw[List.concat_eq_append,List.getLast?_concat]at h2
        injection h2 with h2
        subst h2
        simp[inB]
      rw[this,Bool.and_false]
     rw[hd];rfl
    ·rw[if_neg h2]
     dsimp only
     exact At hl
  ·rw[if_neg h93,if_neg h93]
   dsimp only
   rw[zbm,oB]
   by_cases h34:t[0]? =some 34
   ·rw[if_pos h34]
    dsimp only
    rw[Uh _ 34 (by rw[List.length_drop];omega),oB]
    rfl
   ·rw[if_neg h34]
    dsimp only
    rw[Uh _ 34 ht,oB]
    by_cases h2:t.getLast? =some 34
    ·rw[if_pos h2];rfl
    ·rw[if_neg h2]
     dsimp only
     unfold kL
     rw[if_pos (by omega),oB]
     obtain⟨n,e⟩:=xe t
     cases e <;> rfl
theorem GU {a:List (List UInt8)} (hs:∀x∈a,x.length<=2 ^ 20) (ha:a.length<=2 ^ 40):∀(d i m:Nat),i+d=a.length→d<m→∃z,wg a (a.length:Int) m (i:Int)=some (if Zk y5 id a i d=true then .inr z else .inl false):=by
 intro d
 induction d with
 |zero=>
  intro i m hi hm
  obtain⟨m,rfl,_⟩:=zg hm
  exact⟨_,by rw[wg,if_neg (by omega)];rfl⟩
 |succ d ih=>
  intro i m hi hm
  obtain⟨m,rfl,hm'⟩:=zg hm
  have hil:i<a.length:=by omega
  rw[wg,if_pos (by omega),zb,oB,zj hil,oB,YM (hs _ (List.getElem_mem hil)),oB,KU]
  obtain⟨z,hz⟩:=ih (i+1) m (by omega) (by omega)
  cases hx:y5 a[i]with
  |false=>
   refine⟨0,?_⟩
   have:gOk y5 id a i=false:=by
    unfold gOk;rw[zj hil];simp[hx]
   rw[this];rfl
  |true=>
   dsimp only
   by_cases h0:0<i
   ·rw[if_pos (by omega),Zd (by omega) h0,zb,oB,zj (show i - 1<a.length by omega),oB,U8 hil h0,hx,Bool.true_and,zG (by omega),hz]
    unfold yr xd
    simp only[oB]
    by_cases hl:Op.bytesLess a[i - 1] a[i]=true
    ·rw[if_neg (by rw[Qy];exact fun h=>h hl),show Op.bytesLess (id a[i - 1]) (id a[i])=true from hl,Bool.true_and];exact⟨z,rfl⟩
    ·rw[if_pos (by rw[Qy];exact hl),show Op.bytesLess (id a[i - 1]) (id a[i])=false from Bool.eq_false_iff.2 hl];exact⟨z,rfl⟩
   ·obtain rfl:i=0:=by omega
    rw[if_neg (by omega),R4 hil,hx,Bool.true_and,zG (by omega),hz]
    exact⟨z,rfl⟩
def wI (a0:(List (List UInt8))):Option Bool:=if bsz a0<=2 ^ 20 then some (vY a0)else none
theorem Ui (a0:(List (List UInt8))) (r:Bool) (h:wI a0=some r):∃n,WJ n a0=some r:=by
 unfold wI at h
 obtain⟨ha,h⟩:=zB h
 have hl:=wT a0
 obtain⟨z,hz⟩:=GU (a:=a0) (fun x hx=>by have:=ZD hx;omega) (by omega) a0.length 0 (a0.length+1) (by omega) (by omega)
 refine⟨a0.length+1,?_⟩
 unfold WJ
 rw[show((0:Nat):Int)=0 from rfl]at hz
 rw[<-h,hz,oB]
 unfold vY
 cases Zk y5 id a0 0 a0.length
 ·rw[Bool.and_false];rfl
 ·rw[Bool.and_true]
  show some (decide ((a0.length:Int)<=8))=_
  congr 1
  exact decide_eq_decide.2 (by omega)
theorem XR:KN wI:=fun a0 r h=>(Ui a0 r h).elim fun n hn=>LR n a0 r hn
def jE (a0:GEntry) (a1:(List UInt8)):Option Int:=
 (yr a0.Addr a1).bind fun r1=>
 some r1
theorem Xx (a0:GEntry) (a1:(List UInt8)):Oc (jE a0 a1) 143 [] [.val true (Zh a0),vq za a1] fun r=>(vi r,[]):=tc (
 .cl (wd a0.Addr a1) fun r1=>.ret r1) (zf Tryz.func143)
def w9 (F:(List GEntry)→(List UInt8)→Option (Int×Bool)):Prop:=∀(a0:(List GEntry)) (a1:(List UInt8)),Oc (F a0 a1) 142 [] [vq zq a0,vq za a1,.val false [.fn 143 []]] fun r=>(.tup [(false,[ci r.1]),(false,[.bool r.2])],[])
def zh (a0:(List GEntry)) (a1:(List UInt8)) (v2:Int):Nat→Int→Int→Option (Int×Int)
 |0,_,_=>none
 |m+1,v3,v4=>
 if v3<v4 then
  (zn (w64 (Yq .shr .u64 (IntKind.u64.wrap (w64 (v3+v4))) 1))).bind fun i2=>
  (a0[i2]?).bind fun x3=>
  (jE x3 a1).bind fun r4=>
  if r4<0 then
   zh a0 a1 v2 m (w64 ((w64 (Yq .shr .u64 (IntKind.u64.wrap (w64 (v3+v4))) 1))+1)) v4
  else
  zh a0 a1 v2 m v3 (w64 (Yq .shr .u64 (IntKind.u64.wrap (w64 (v3+v4))) 1))
 else
 some (v3,v4)
theorem kw (a0:(List GEntry)) (a1:(List UInt8)) (v2:Int) (m:Nat):∀(v3:Int) (v4:Int),Ol (zh a0 a1 v2 m v3 v4) 142 (zD Tryz.f142 0) ⟨[(0,vq zq a0),(1,vq za a1),(2,.val false [.fn 143 []]),(8,vi v2),(9,vi v3),(10,vi v4)],[],0⟩ fun o=>match o with |⟨o_0,o_1⟩=>(.exit 0,⟨[(0,vq zq a0),(1,vq za a1),(2,.val false [.fn 143 []]),(8,vi v2),(9,vi o_0),(10,vi o_1),(17,vb false)],[],0⟩):=by
 induction m with
 |zero=>intro v3 v4 o h;cases h
 |succ m ih=>exact fun v3 v4=>tlp (
  .lI v3 v4 (fun c1=>.q (.gTo 0 1 (by decide))<|.cw (Yq .shr .u64 (IntKind.u64.wrap (w64 (v3+v4))) 1)<|.na (w64 (Yq .shr .u64 (IntKind.u64.wrap (w64 (v3+v4))) 1)) fun i2=>.ix ym a0 i2 fun x3=>.cl (Xx x3 a1) fun r4=>.lI r4 0 (fun c5=>.go (ih (w64 ((w64 (Yq .shr .u64 (IntKind.u64.wrap (w64 (v3+v4))) 1))+1)) v4)) fun c5=>.go (ih v3 (w64 (Yq .shr .u64 (IntKind.u64.wrap (w64 (v3+v4))) 1)))) fun c1=>.ret (v3,v4))
def ya (n:Nat) (a0:(List GEntry)) (a1:(List UInt8)):Option (Int×Bool):=
 (zh a0 a1 (a0.length:Int) n 0 (a0.length:Int)).bind fun⟨o1_0,o1_1⟩=>
 if o1_0<(a0.length:Int)then
  (zn o1_0).bind fun i3=>
  (a0[i3]?).bind fun x4=>
  (jE x4 a1).bind fun r5=>
  some (o1_0,(decide (r5=0)))
 else
 some (o1_0,false)
theorem vt (n:Nat):w9 (ya n):=fun a0 a1=>tc (
 .le zq a0<|.lp (kw a0 a1 (a0.length:Int) n 0 (a0.length:Int)) fun⟨o1_0,o1_1⟩=>.lI o1_0 (a0.length:Int) (fun c2=>.na o1_0 fun i3=>.ix ym a0 i3 fun x4=>.cl (Xx x4 a1) fun r5=>.eD r5 0<|.ret (o1_0,(decide (r5=0)))) fun c2=>.ret (o1_0,false)) (zf Tryz.func142)
theorem UT (e:GEntry) (x:List UInt8):jE e x=some (Lib.compareBytes e.Addr x):=rfl
theorem ziv {a:List GEntry} {x:List UInt8} {v2:Int} (ha:a.length<=2 ^ 40):∀(d i j m:Nat),j - i<=d→i<=j→j<=a.length→d<m→∃c c':Nat,c<=a.length∧zh a x v2 m (i:Int) (j:Int)=some ((c:Int),(c':Int)):=by
 intro d
 induction d with
 |zero=>
  intro i j m hd h1 h3 hm
  obtain⟨m,rfl,_⟩:=zg hm
  exact⟨i,j,by omega,by rw[zh,if_neg (by omega)]⟩
 |succ d ih=>
  intro i j m hd h1 h3 hm
  obtain⟨m,rfl,hm'⟩:=zg hm
  by_cases hij:i<j
  ·have hk:(i+j) / 2<a.length:=by omega
   rw[zh,if_pos (by omega),Dd (by omega),zb,oB,zj hk,oB,UT,oB]
   split
   ·rw[zG (by omega)]
    exact ih _ _ m (by omega) (by omega) h3 (by omega)
   ·exact ih _ _ m (by omega) (by omega) (by omega) (by omega)
  ·exact⟨i,j,by omega,by rw[zh,if_neg (by omega)]⟩
theorem zem {a:List GEntry} {x:List UInt8} {c:Nat} {v2:Int} (hp:j9 (a.map GEntry.Addr) x c) (ha:a.length<=2 ^ 40):∀(d i j m:Nat),j - i<=d→i<=c→c<=j→j<=a.length→d<m→zh a x v2 m (i:Int) (j:Int)=some ((c:Int),(c:Int)):=by
 intro d
 induction d with
 |zero=>
  intro i j m hd h1 h2 h3 hm
  obtain⟨m,rfl,_⟩:=zg hm
  rw[zh,if_neg (by omega),show i=c by omega,show j=c by omega]
 |succ d ih=>
  intro i j m hd h1 h2 h3 hm
  obtain⟨m,rfl,hm'⟩:=zg hm
  by_cases hij:i<j
  ·have hk:(i+j) / 2<a.length:=by omega
   rw[zh,if_pos (by omega),Dd (by omega),zb,oB,zj hk,oB,UT,oB]
   have hq:=hp.2 ((i+j) / 2) (by rw[List.length_map];exact hk)
   rw[List.getElem_map]at hq
   by_cases hl:Op.bytesLess a[(i+j) / 2].Addr x=true
   ·rw[if_pos (by rw[VB];exact hl),zG (by omega)]
    have:=hq.2 hl
    exact ih _ _ m (by omega) (by omega) h2 h3 (by omega)
   ·rw[if_neg (by rw[VB];exact hl)]
    have:¬(i+j) / 2<c:=fun h=>hl (hq.1 h)
    exact ih _ _ m (by omega) h1 (by omega) (by omega) (by omega)
  ·rw[zh,if_neg (by omega),show i=c by omega,show j=c by omega]
def z8 (a0:(List GEntry)) (a1:(List UInt8)):Option (Int×Bool):=ya (a0.length+5) a0 a1
theorem kI (a0:(List GEntry)) (a1:(List UInt8)) (r:(Int×Bool)) (h:z8 a0 a1=some r):∃n,ya n a0 a1=some r:=⟨_,h⟩
theorem znn {a:List GEntry} {x:List UInt8} (ha:a.length<=2 ^ 40):∃(c:Nat) (b:Bool),z8 a x=some ((c:Int),b):=by
 unfold z8 ya
 obtain⟨c,c',hc,hl⟩:=ziv (x:=x) (v2:=(a.length:Int)) ha a.length 0 a.length (a.length+5) (by omega) (by omega) (Nat.le_refl _) (by omega)
 rw[show((0:Nat):Int)=0 from rfl]at hl
 rw[hl,oB]
 dsimp only
 by_cases h:c<a.length
 ·rw[if_pos (by omega),zb,oB,zj h,oB,UT,oB]
  exact⟨c,_,rfl⟩
 ·rw[if_neg (by omega)]
  exact⟨c,_,rfl⟩
theorem XS {l:List GEntry} {a:List UInt8}:xm l a=true ↔ a∈l.map GEntry.Addr:=by
 unfold xm
 rw[List.any_eq_true,List.mem_map]
 constructor
 ·rintro⟨e,he,h⟩;exact⟨e,he,of_decide_eq_true h⟩
 ·rintro⟨e,he,rfl⟩;exact⟨e,he,decide_eq_true rfl⟩
theorem zbp {a:List GEntry} {x:List UInt8} (ha:a.length<=2 ^ 40) (h:Asc (a.map GEntry.Addr)):∃c:Nat,j9 (a.map GEntry.Addr) x c∧z8 a x=some ((c:Int),xm a x):=by
 obtain⟨c,hp⟩:=j9.of h x
 refine⟨c,hp,?_⟩
 have hm:=j9.mem h hp
 have hcl:c<=a.length:=by have:=hp.1;rwa [List.length_map]at this
 unfold z8 ya
 have hl:=zem (v2:=(a.length:Int)) hp ha a.length 0 a.length (a.length+5) (by omega) (by omega) hcl (Nat.le_refl _) (by omega)
 rw[show((0:Nat):Int)=0 from rfl]at hl
 rw[hl,oB]
 dsimp only
 have hb:xm a x=decide ((a.map GEntry.Addr)[c]? =some x):=by
  cases hx:xm a x with
  |true=>exact(decide_eq_true (hm.2 (XS.1 hx))).symm
  |false=>exact(decide_eq_false fun h'=>by rw[XS.2 (hm.1 h')]at hx;cases hx).symm
 rw[hb,List.getElem?_map]
 by_cases hc:c<a.length
 ·rw[if_pos (by omega),zb,oB,zj hc,oB,UT,oB]
  congr 2
  exact decide_eq_decide.2 ((OL _ _).trans (by simp))
 ·rw[if_neg (by omega),List.getElem?_eq_none (by omega)]
  simp
theorem vl:w9 z8:=fun a0 a1 r h=>(kI a0 a1 r h).elim fun n hn=>vt n a0 a1 r hn
def yt (a0:GState) (a1:(List UInt8)):Option (Int×Bool):=
 (z8 a0.Entries a1).bind fun⟨r1_0,r1_1⟩=>
 some (r1_0,r1_1)
theorem q4 (a0:GState) (a1:(List UInt8)):Oc (yt a0 a1) 88 [] [.val true (y9 a0),vq za a1] fun r=>(.tup [(false,[ci r.1]),(false,[.bool r.2])],[]):=tc (
 .cl (vl a0.Entries a1) fun⟨r1_0,r1_1⟩=>.ret (r1_0,r1_1)) (zf Tryz.func88)
def Vv (F:GState→Option Bool):Prop:=∀(a0:GState),Oc (F a0) 84 [] [.val true (y9 a0)] fun r=>(vb r,[])
def wC (v0:(List GEntry)) (v1:Int) (a0:GState):Nat→Int→Option (Bool⊕Int)
 |0,_=>none
 |m+1,v2=>
 if v2<v1 then
  (zn v2).bind fun i2=>
  (v0[i2]?).bind fun x3=>
  (wo x3.Addr).bind fun r4=>
  match r4 with
  |true=>
   if 0<v2 then
    (zn (w64 (v2 - 1))).bind fun i6=>
    (a0.Entries[i6]?).bind fun x7=>
    (yr x7.Addr x3.Addr).bind fun r8=>
    if 0<=r8 then
     some (.inl false)
    else
    (xP x3.Val).bind fun r10=>
    match r10 with
    |true=>
     (wI x3.Deps).bind fun r11=>
     match r11 with
     |true=>
      (xg x3.Turned 1 a0.Serial).bind fun r12=>
      match r12 with
      |true=>
        wC v0 v1 a0 m (w64 (v2+1))
      |false=>
        some (.inl false)
     |false=>
      some (.inl false)
    |false=>
     some (.inl false)
   else
   (xP x3.Val).bind fun r6=>
   match r6 with
   |true=>
    (wI x3.Deps).bind fun r7=>
    match r7 with
    |true=>
     (xg x3.Turned 1 a0.Serial).bind fun r8=>
     match r8 with
     |true=>
      wC v0 v1 a0 m (w64 (v2+1))
     |false=>
      some (.inl false)
    |false=>
     some (.inl false)
   |false=>
    some (.inl false)
  |false=>
   some (.inl false)
 else
 some (.inr v2)
theorem Uj (v0:(List GEntry)) (v1:Int) (a0:GState) (m:Nat):∀(v2:Int),Ol (wC v0 v1 a0 m v2) 84 (zD Tryz.f84 0) ⟨[(1,vp 0 0),(18,vq zq v0),(19,vi v1),(20,vi v2)],[.var (y9 a0)],0⟩ fun o=>match o with | .inl o_0=>(.ret,⟨[(2,vb o_0)],[],0⟩)| .inr (o_1)=>(.exit 0,⟨[(1,vp 0 0),(18,vq zq v0),(19,vi v1),(20,vi o_1),(21,vb false)],[.var (y9 a0)],0⟩):=by
 induction m with
 |zero=>intro v2 o h;cases h
 |succ m ih=>exact fun v2=>tlp (
  .lI v2 v1 (fun c1=>.na v2 fun i2=>.ix ym v0 i2 fun x3=>.cl (j0 x3.Addr) fun r4=>.vN 0 r4 (
    .an 0 0<|.lI 0 v2 (fun c5=>.an 0 0<|.na (w64 (v2 - 1)) fun i6=>.ix ym a0.Entries i6 fun x7=>.cl (wd x7.Addr x3.Addr) fun r8=>.gI 0 r8 (fun c9=>.an 0 3<|.an 1 3<|.ret (.inl false)) fun c9=>.an 0 3<|.an 1 3<|.cl (YL x3.Val) fun r10=>.vN 2 r10 (
      .an 0 0<|.an 0 0<|.cl (XR x3.Deps) fun r11=>.an 0 1<|.an 0 1<|.vN 0 r11 (
       .an 0 0<|.an 0 0<|.an 0 0<|.an 0 0<|.cl (wZ x3.Turned 1 a0.Serial) fun r12=>.an 0 1<|.an 0 1<|.vN 0 r12 (
        .go (ih (w64 (v2+1))))<|.ret (.inl false))<|.an 0 0<|.an 0 0<|.an 0 0<|.an 0 0<|.an 0 0<|.an 0 0<|.ret (.inl false))<|.an 0 0<|.an 0 0<|.an 0 0<|.an 0 0<|.ret (.inl false)) fun c5=>.an 0 0<|.an 11 0<|.an 1 0<|.cl (YL x3.Val) fun r6=>.vN 2 r6 (
     .an 0 0<|.an 0 0<|.cl (XR x3.Deps) fun r7=>.an 0 1<|.an 0 1<|.vN 0 r7 (
      .an 0 0<|.an 0 0<|.an 0 0<|.an 0 0<|.cl (wZ x3.Turned 1 a0.Serial) fun r8=>.an 0 1<|.an 0 1<|.vN 0 r8 (
       .go (ih (w64 (v2+1))))<|.ret (.inl false))<|.an 0 0<|.an 0 0<|.an 0 0<|.an 0 0<|.an 0 0<|.an 0 0<|.ret (.inl false))<|.an 0 0<|.an 0 0<|.an 0 0<|.an 0 0<|.ret (.inl false))<|.an 0 0<|.an 0 0<|.an 0 0<|.an 0 0<|.ret (.inl false)) fun c1=>.ret (.inr v2))
def Xq (n:Nat) (a0:GState):Option Bool:=
 (xg a0.Serial 0 1000000).bind fun r1=>
 match r1 with
 |true=>
  if 16<(a0.Entries.length:Int)then
   some false
  else
  (wC a0.Entries (a0.Entries.length:Int) a0 n 0).bind fun o3=>
  match o3 with
  | .inl o3_0=>
   some o3_0
  | .inr (o3_1)=>
   if(a0.Pending.length:Int)=0 then
    some (decide (a0.Act=0))
   else
   (yt a0 a0.Pending).bind fun⟨r5_0,r5_1⟩=>
   match a0.Open with
   |true=>
    (wo a0.Pending).bind fun r6=>
    match r6 with
    |true=>
     (xg a0.Act 1 4).bind fun r7=>
     match r7 with
     |true=>
      if r5_1=true then
       if a0.Act=1 then
        some false
       else
       some true
      else
      if a0.Act=1 then
       some true
      else
      some false
     |false=>
      some false
    |false=>
     some false
   |false=>
    some false
 |false=>
  some false
theorem Nw (n:Nat):Vv (Xq n):=fun a0=>tc (
 .cl (wZ a0.Serial 0 1000000) fun r1=>.vN 0 r1 (
  .an 0 0<|.an 0 0<|.le zq a0.Entries<|.an 0 0<|.lI 16 (a0.Entries.length:Int) (fun c2=>.an 0 0<|.ret false) fun c2=>.an 0 0<|.le zq a0.Entries<|.l2 (Uj a0.Entries (a0.Entries.length:Int) a0 n 0) (fun o3_0=>.ret o3_0) fun o3_1=>.le za a0.Pending<|.eI (a0.Pending.length:Int) 0 (fun c4=>.eD a0.Act 0<|.ret (decide (a0.Act=0))) fun c4=>.cl (q4 a0 a0.Pending) fun⟨r5_0,r5_1⟩=>.vM 0 a0.Open (
   .az 0 0<|.az 0 0<|.cl (j0 a0.Pending) fun r6=>.az 0 1<|.vM 0 r6 (
    .az 0 0<|.az 0 0<|.cl (wZ a0.Act 1 4) fun r7=>.az 0 1<|.vM 0 r7 (
     .az 0 0<|.az 0 0<|.az 0 0<|.eD a0.Act 1<|.az 0 0<|.sp (r5_1=true) (fun c8=>.sp (a0.Act=1) (fun c9=>.eb c8 (nT (dT c9))<|.az 0 0<|.ret false) fun c9=>.eb c8 (nF (dF c9))<|.az 0 0<|.ret true) fun c8=>.sp (a0.Act=1) (fun c9=>.eb (bF c8) (nT (dT c9))<|.az 0 0<|.ret true) fun c9=>.eb (bF c8) (nF (dF c9))<|.az 0 0<|.ret false)<|.az 0 0<|.az 0 0<|.az 0 0<|.az 0 0<|.az 0 0<|.ret false)<|.az 0 0<|.az 0 0<|.az 0 0<|.ret false)<|.az 0 0<|.az 0 0<|.az 0 0<|.ret false)<|.an 0 0<|.an 0 0<|.an 0 0<|.an 0 0<|.ret false) (zf Tryz.func84)
theorem zna {v:GValue} (h:vsz v<=2 ^ 20):kH v=some (jd v):=by
 unfold kH jZ qy jd
 rw[if_pos ⟨h,by decide,by decide⟩,oB]
 rw[show(5:Int).toNat=5 from rfl]
 cases hs:shV 5 v
 ·simp
 ·dsimp only
  rw[if_pos h,oB]
  simp
theorem zbq {v:GValue} (h:vsz v<=2 ^ 20):xP v=some (vk v):=by
 unfold xP WH vk
 by_cases h5:v.Kind=5
 ·rw[if_pos h5,zna h,oB,decide_eq_true h5,Bool.true_and]
  cases hv:jd v with
  |false=>rfl
  |true=>
   simp only[Bool.true_and]
   unfold qz
   rw[if_pos (by omega)];rfl
 ·rw[if_neg h5,decide_eq_false h5];rfl
theorem Au {l:List (List UInt8)} (h:bsz l<=2 ^ 20):wI l=some (vY l):=if_pos h
theorem E7 {s:GState} (hs:yG s.Entries<=2 ^ 20):∀(d i m:Nat),i+d=s.Entries.length→d<m→∃z,wC s.Entries (s.Entries.length:Int) s m (i:Int)=some (if Zk (Ji s.Serial) GEntry.Addr s.Entries i d=true then .inr z else .inl false):=by
 have hlen:=kj s.Entries
 intro d
 induction d with
 |zero=>
  intro i m hi hm
  obtain⟨m,rfl,_⟩:=zg hm
  exact⟨_,by rw[wC,if_neg (by omega)];rfl⟩
 |succ d ih=>
  intro i m hi hm
  obtain⟨m,rfl,hm'⟩:=zg hm
  have hil:i<s.Entries.length:=by omega
  have hz0:=Wg (List.getElem_mem hil)
  obtain⟨z,hz⟩:=ih (i+1) m (by omega) (by omega)
  rw[wC,if_pos (by omega),zb,oB,zj hil,oB,KU]
  unfold esz at hz0
  rw[YM (by omega),oB,zbq (by omega),oB,Au (by omega),oB,QC,oB,zG (by omega),hz]
  generalize Zk _ GEntry.Addr s.Entries (i+1) d=g
  by_cases h0:0<i
  ·rw[U8 hil h0]
   unfold Ji
   cases y5 s.Entries[i].Addr with
   |false=>exact⟨0,rfl⟩
   |true=>
    dsimp only
    rw[if_pos (by omega),Zd (by omega) h0,zb,oB,zj (show i - 1<s.Entries.length by omega),oB]
    unfold yr xd
    simp only[oB]
    have hc:=Qy s.Entries[i - 1].Addr s.Entries[i].Addr
    generalize Lib.compareBytes s.Entries[i - 1].Addr s.Entries[i].Addr=q at hc ⊢
    generalize Op.bytesLess s.Entries[i - 1].Addr s.Entries[i].Addr=b at hc ⊢
    refine⟨z,?_⟩
    cases b with
    |true=>
     rw[if_neg (by rw[hc];exact fun h=>h rfl)]
     cases vk s.Entries[i].Val <;> cases vY s.Entries[i].Deps <;> cases decide (1<=s.Entries[i].Turned∧s.Entries[i].Turned<=s.Serial) <;> simp
    |false=>
     rw[if_pos (by rw[hc];simp)]
     simp
  ·obtain rfl:i=0:=by omega
   rw[R4 hil]
   unfold Ji
   cases y5 s.Entries[0].Addr with
   |false=>exact⟨0,rfl⟩
   |true=>
    dsimp only
    rw[if_neg (by omega)]
    refine⟨z,?_⟩
    cases vk s.Entries[0].Val <;> cases vY s.Entries[0].Deps <;> cases decide (1<=s.Entries[0].Turned∧s.Entries[0].Turned<=s.Serial) <;> simp
def Z6 (a0:GState):Option Bool:=if ssz a0<=2 ^ 20 then some (stB a0)else none
theorem zbr {s:GState} (h:ssz s<=2 ^ 20):Z6 s=some (stB s):=if_pos h
theorem DC {s:GState} (h:ssz s<=2 ^ 20):Xq (s.Entries.length+1) s=some (stB s):=by
 have hlen:=kj s.Entries
 unfold ssz at h
 obtain⟨z,hz⟩:=E7 (s:=s) (by omega) s.Entries.length 0 (s.Entries.length+1) (by omega) (by omega)
 rw[show((0:Nat):Int)=0 from rfl]at hz
 unfold Xq
 rw[QC,oB]
 unfold stB
 by_cases h1:(0:Int)<=s.Serial∧s.Serial<=1000000
 ·rw[decide_eq_true h1]
  dsimp only
  by_cases h2:(16:Int)<(s.Entries.length:Int)
  ·rw[if_pos h2,decide_eq_false (p:=0<=s.Serial∧s.Serial<=1000000∧s.Entries.length<=16) (by omega)];rfl
  rw[if_neg h2,hz,decide_eq_true (p:=0<=s.Serial∧s.Serial<=1000000∧s.Entries.length<=16) (by omega),Bool.true_and]
  have he:M0 s=Zk (Ji s.Serial) GEntry.Addr s.Entries 0 s.Entries.length:=rfl
  cases hg:Zk (Ji s.Serial) GEntry.Addr s.Entries 0 s.Entries.length with
  |false=>rw[he,hg];rfl
  |true=>
   rw[he,hg,Bool.true_and]
   simp only[if_true,oB]
   unfold Hq
   by_cases hp:s.Pending=[]
   ·rw[if_pos (by rw[hp];rfl),if_pos hp]
   ·have hp0:¬(s.Pending.length:Int)=0:=fun e=>hp (List.eq_nil_of_length_eq_zero (by omega))
    rw[if_neg hp0,if_neg hp]
    unfold yt
    obtain⟨c,_,hc⟩:=zbp (x:=s.Pending) (a:=s.Entries) (by omega) (Di hg)
    rw[hc,oB,oB]
    dsimp only
    rw[YM (by omega),oB,QC,oB]
    cases s.Open
    ·rfl
    cases y5 s.Pending
    ·rfl
    by_cases ha:(1:Int)<=s.Act∧s.Act<=4
    ·rw[decide_eq_true ha]
     by_cases h1:s.Act=1 <;> cases xm s.Entries s.Pending <;> simp[h1]
    ·rw[decide_eq_false ha];rfl
 ·rw[decide_eq_false h1,decide_eq_false (p:=0<=s.Serial∧s.Serial<=1000000∧s.Entries.length<=16) (fun h=>h1 ⟨h.1,h.2.1⟩)];rfl
theorem Pw (a0:GState) (r:Bool) (h:Z6 a0=some r):∃n,Xq n a0=some r:=by
 unfold Z6 at h
 obtain⟨ha,h⟩:=zB h
 exact⟨_,by rw[<-h];exact DC ha⟩
theorem LS:Vv Z6:=fun a0 r h=>(Pw a0 r h).elim fun n hn=>Nw n a0 r hn
def zS (a0:(List UInt8)):Option (List UInt8):=
 if zC 1 (0+a0.length)then
 some a0
 else none
theorem xq (a0:(List UInt8)):Oc (zS a0) 96 [] [vq za a0] fun r=>(.val false [.own 1 (eL za r)],[]):=tc (
 .ap 1 zH [] a0 fun n1=>.ret a0) (zf Tryz.func96)
def JX (F:(List (List UInt8))→Option (List (List UInt8))):Prop:=∀(a0:(List (List UInt8))),Oc (F a0) 92 [] [vq (zl za) a0] fun r=>(.val false [.own 1 (eL (yn 1 za) r)],[])
def wL (a0:(List (List UInt8))) (v1:Int):Nat→Int→(List (List UInt8))→Option (Int×(List (List UInt8)))
 |0,_,_=>none
 |m+1,v2,v3=>
 if v2<v1 then
  (zn v2).bind fun i2=>
  (a0[i2]?).bind fun x3=>
  (zS x3).bind fun r4=>
  if zC 24 (v3.length+[r4].length)then
  wL a0 v1 m (w64 (v2+1)) (v3++[r4])
  else none
 else
 some (v2,v3)
theorem Rb (a0:(List (List UInt8))) (v1:Int) (m:Nat):∀(v2:Int) (v3:(List (List UInt8))),Ol (wL a0 v1 m v2 v3) 92 (zD Tryz.f92 0) ⟨[(3,vr 0),(7,vq (zl za) a0),(8,vi v1),(9,vi v2)],[.obj 1 (eL (yn 1 za) v3)],0⟩ fun o=>match o with |⟨o_0,o_1⟩=>(.exit 0,⟨[(3,vr 0),(7,vq (zl za) a0),(8,vi v1),(9,vi o_0),(10,vb false)],[.obj 1 (eL (yn 1 za) o_1)],0⟩):=by
 induction m with
 |zero=>intro v2 v3 o h;cases h
 |succ m ih=>exact fun v2 v3=>tlp (
  .lI v2 v1 (fun c1=>.na v2 fun i2=>.ix0 (zl za) a0 i2 fun x3=>.cl (xq x3) fun r4=>.ao 24 (W5 1 kh) v3 [r4] fun n5=>.go (ih (w64 (v2+1)) (v3++[r4]))) fun c1=>.ret (v2,v3))
def XT (n:Nat) (a0:(List (List UInt8))):Option (List (List UInt8)):=
 (wL a0 (a0.length:Int) n 0 []).bind fun⟨o1_0,o1_1⟩=>
 some o1_1
theorem O0 (n:Nat):JX (XT n):=fun a0=>tc (
 .le (zl za) a0<|.lp (Rb a0 (a0.length:Int) n 0 []) fun⟨o1_0,o1_1⟩=>.ret o1_1) (zf Tryz.func92)
theorem YN {a:List UInt8} (h:a.length<=2 ^ 39):zS a=some a:=if_pos (xc (by decide) (by omega))
theorem Nx {a:List (List UInt8)} (ha:bsz a<=2 ^ 39):∀(l p:List (List UInt8)) (m:Nat),a=p++l→l.length<m→∃z,wL a (a.length:Int) m (p.length:Int) p=some (z,a):=by
 have hl:=wT a
 intro l
 induction l with
 |nil=>
  intro p m he hm
  subst he
  obtain⟨m,rfl,_⟩:=zg hm
  exact⟨_,by rw[wL,if_neg (xF p)];simp;rfl⟩
 |cons x l ih=>
  intro p m he hm
  obtain⟨m,rfl,hm'⟩:=zg hm
  have hx:1+x.length<=bsz a:=ZD (by rw[he];simp)
  have hlen:a.length=p.length+(l.length+1):=by rw[he];simp
  obtain⟨z,hz⟩:=ih (p++[x]) m (by rw[he];simp) (by simp only[List.length_cons]at hm';omega)
  refine⟨z,?_⟩
  rw[wL,if_pos (by omega),zb,oB,show a[p.length]? =some x by rw[he];exact zp p x l,oB,YN (by omega),oB,if_pos (xc (by decide) (by simp only[List.length_cons,List.length_nil];omega)),ye p x (by omega),hz]
def yR (a0:(List (List UInt8))):Option (List (List UInt8)):=if bsz a0<=2 ^ 39 then some a0 else none
theorem JY {a:List (List UInt8)} (h:bsz a<=2 ^ 39):yR a=some a:=if_pos h
theorem Ta (a0:(List (List UInt8))) (r:(List (List UInt8))) (h:yR a0=some r):∃n,XT n a0=some r:=by
 unfold yR at h
 obtain⟨ha,h⟩:=zB h
 obtain⟨z,hz⟩:=Nx ha a0 [] (a0.length+1) rfl (by omega)
 refine⟨a0.length+1,?_⟩
 unfold XT
 simp only[List.length_nil,Int.natCast_zero]at hz
 rw[hz];exact h
theorem kn:JX yR:=fun a0 r h=>(Ta a0 r h).elim fun n hn=>O0 n a0 r hn
def kW (F:GValue→Option GValue):Prop:=∀(a0:GValue),Oc (F a0) 89 [] [.val true (zi a0)] fun r=>(.val true (xT r),[])
def wM (G_impl_copyValue:GValue→Option GValue) (v0:(List GValue)) (v1:Int) (v3:Int) (v4:Int) (v5:Int) (v6:Int) (v7:(List UInt8)) (v8:(List (List UInt8))) (v9:(List GValue)) (v10:(List UInt8)) (v11:(List (List UInt8))):Nat→Int→(List GValue)→Option (Int×(List GValue))
 |0,_,_=>none
 |m+1,v2,v12=>
 if v2<v1 then
  (zn v2).bind fun i2=>
  (v0[i2]?).bind fun x3=>
  (G_impl_copyValue x3).bind fun r4=>
  if zC 88 (v12.length+[r4].length)then
  wM G_impl_copyValue v0 v1 v3 v4 v5 v6 v7 v8 v9 v10 v11 m (w64 (v2+1)) (v12++[r4])
  else none
 else
 some (v2,v12)
theorem Rc (G_impl_copyValue:GValue→Option GValue) (H_impl_copyValue:kW G_impl_copyValue) (v0:(List GValue)) (v1:Int) (v3:Int) (v4:Int) (v5:Int) (v6:Int) (v7:(List UInt8)) (v8:(List (List UInt8))) (v9:(List GValue)) (v10:(List UInt8)) (v11:(List (List UInt8))) (m:Nat):∀(v2:Int) (v12:(List GValue)),Ol (wM G_impl_copyValue v0 v1 v3 v4 v5 v6 v7 v8 v9 v10 v11 m v2 v12) 89 (zD Tryz.f89 0) ⟨[(2,vp 0 0),(3,vp 1 0),(18,vq zd v0),(19,vi v1),(20,vi v2)],[.var [ci v3,ci v4,.ref 2,.ref 3,.ref 4],.var [ci v5,ci v6,.ref 5,.ref 6,.ref 7],.obj 1 (eL za v7),.obj 1 (eL (yn 1 za) v8),.obj 5 (eL zt v9),.obj 1 (eL za v10),.obj 1 (eL (yn 1 za) v11),.obj 5 (eL zt v12)],0⟩ fun o=>match o with |⟨o_0,o_1⟩=>(.exit 0,⟨[(2,vp 0 0),(3,vp 1 0),(18,vq zd v0),(19,vi v1),(20,vi o_0),(21,vb false)],[.var [ci v3,ci v4,.ref 2,.ref 3,.ref 4],.var [ci v5,ci v6,.ref 5,.ref 6,.ref 7],.obj 1 (eL za v7),.obj 1 (eL (yn 1 za) v8),.obj 5 (eL zt v9),.obj 1 (eL za v10),.obj 1 (eL (yn 1 za) v11),.obj 5 (eL zt o_1)],0⟩):=by
 induction m with
 |zero=>intro v2 v12 o h;cases h
 |succ m ih=>exact fun v2 v12=>tlp (
  .lI v2 v1 (fun c1=>.na v2 fun i2=>.ix zr v0 i2 fun x3=>.cl (H_impl_copyValue x3) fun r4=>.nd (zC 88 (v12.length+[r4].length)) fun n5=>.q ⟨.room 88 (eL zt v12) ([(xT r4)]:List (List C)),.b true,by rw[(show([(xT r4)]:List (List C))=eL zt [r4]from(Qx (yJ r4) JD))];exact(A.room n5)⟩<|.q ⟨.uni 5 ([(xT r4)]:List (List C)),.b true,by rw[(show([(xT r4)]:List (List C))=eL zt [r4]from(Qx (yJ r4) JD))];exact(A.uniO Zg)⟩<|.q ⟨.app (eL zt v12) ([(xT r4)]:List (List C)),.l (eL zt (v12++[r4])),by rw[(show([(xT r4)]:List (List C))=eL zt [r4]from(Qx (yJ r4) JD))];exact A.app⟩<|.go (ih (w64 (v2+1)) (v12++[r4]))) fun c1=>.ret (v2,v12))
def XU (G_impl_copyValue:GValue→Option GValue) (n:Nat) (a0:GValue):Option GValue:=
 (zS a0.S).bind fun r1=>
 (yR a0.K).bind fun r2=>
 (wM G_impl_copyValue a0.L (a0.L.length:Int) 0 0 a0.Kind a0.N [] [] [] r1 r2 n 0 []).bind fun⟨o3_0,o3_1⟩=>
 some (GValue.mk a0.Kind a0.N r1 r2 o3_1)
theorem O1 (G_impl_copyValue:GValue→Option GValue) (H_impl_copyValue:kW G_impl_copyValue) (n:Nat):kW (XU G_impl_copyValue n):=fun a0=>tc (
 .cl (xq a0.S) fun r1=>.cl (kn a0.K) fun r2=>.le zd a0.L<|.lp (Rc G_impl_copyValue H_impl_copyValue a0.L (a0.L.length:Int) 0 0 a0.Kind a0.N [] [] [] r1 r2 n 0 []) fun⟨o3_0,o3_1⟩=>.ret (GValue.mk a0.Kind a0.N r1 r2 o3_1)) (zf Tryz.func89)
def xG:Nat→GValue→Option GValue
 |0,_=>none
 |n+1,a0=>XU (xG n) n a0
theorem Uk (n:Nat):kW (xG n):=by
 induction n with
 |zero=>exact fun _ _ h=>(by rw[xG]at h;cases h)
 |succ n ih=>
  have ih_impl_copyValue:=ih
  exact fun a0 r h=>O1 (xG n) ih_impl_copyValue n a0 r (by rw[xG]at h;exact h)
theorem Ny {G:GValue→Option GValue} {a:List GValue} {v3 v4 v5 v6:Int} {v7:List UInt8} {v8:List (List UInt8)} {v9:List GValue} {v10:List UInt8} {v11:List (List UInt8)} (ha:a.length<=2 ^ 39):∀(l p:List GValue) (m:Nat),a=p++l→(∀x∈l,G x=some x)→l.length<m→∃z,wM G a (a.length:Int) v3 v4 v5 v6 v7 v8 v9 v10 v11 m (p.length:Int) p=some (z,a):=by
 intro l
 induction l with
 |nil=>
  intro p m he _ hm
  subst he
  obtain⟨m,rfl,_⟩:=zg hm
  exact⟨_,by rw[wM,if_neg (xF p)];simp;rfl⟩
 |cons x l ih=>
  intro p m he hG hm
  obtain⟨m,rfl,hm'⟩:=zg hm
  have hlen:a.length=p.length+(l.length+1):=by rw[he];simp
  obtain⟨z,hz⟩:=ih (p++[x]) m (by rw[he];simp) (fun y hy=>hG y (List.mem_cons_of_mem _ hy)) (by simp only[List.length_cons]at hm';omega)
  refine⟨z,?_⟩
  rw[wM,if_pos (by omega),zb,oB,show a[p.length]? =some x by rw[he];exact zp p x l,oB,hG x List.mem_cons_self,oB,if_pos (xc (by decide) (by simp only[List.length_cons,List.length_nil];omega)),ye p x (by omega),hz]
theorem DD:∀(N:Nat) (v:GValue),vsz v<N→vsz v<=2 ^ 39→∀f:Nat,vsz v+2<=f→xG f v=some v:=by
 intro N
 induction N with
 |zero=>intro v hv;omega
 |succ N ih=>
  intro v hv hs f hf
  obtain⟨f,rfl,_⟩:=zg (show 0<f by omega)
  have he:=yT v
  have hl:=yS v.L
  rw[xG]
  unfold XU
  rw[YN (by omega),JY (by omega)]
  simp only[oB]
  obtain⟨z,hz⟩:=Ny (G:=xG f) (a:=v.L) (v3:=0) (v4:=0) (v5:=v.Kind) (v6:=v.N) (v7:=[]) (v8:=[]) (v9:=[]) (v10:=v.S) (v11:=v.K) (by omega) v.L [] f rfl (fun x hx=>by
   have:=yN hx
   exact ih x (by omega) (by omega) f (by omega)) (by omega)
  simp only[List.length_nil,Int.natCast_zero]at hz
  rw[hz]
  exact congrArg some (GValue.eta v)
def z6 (a0:GValue):Option GValue:=if vsz a0<=2 ^ 39 then some a0 else none
theorem Tb (a0:GValue) (r:GValue) (h:z6 a0=some r):∃n,xG n a0=some r:=by
 unfold z6 at h
 obtain⟨ha,h⟩:=zB h
 exact⟨vsz a0+2,by rw[<-h];exact DD _ a0 (Nat.lt_succ_self _) ha _ (Nat.le_refl _)⟩
theorem yv:kW z6:=by
 intro a0 r h
 obtain⟨n,hn⟩:=Tb a0 r h
 exact(Uk n) a0 r hn
def ZY (a0:GEntry):Option GEntry:=
 (zS a0.Addr).bind fun r1=>
 (z6 a0.Val).bind fun r2=>
 (yR a0.Deps).bind fun r3=>
 some (GEntry.mk r1 r2 r3 a0.Taint a0.Turned)
theorem Px (a0:GEntry):Oc (ZY a0) 136 [] [.val true (Zh a0)] fun r=>(.val true (OK r),[]):=tc (
 .cl (xq a0.Addr) fun r1=>.cl (yv a0.Val) fun r2=>.cl (kn a0.Deps) fun r3=>.ret (GEntry.mk r1 r2 r3 a0.Taint a0.Turned)) (zf Tryz.func136)
def JZ (F:GState→Option GState):Prop:=∀(a0:GState),Oc (F a0) 85 [] [.val true (y9 a0)] fun r=>(.val true (Ry r),[])
def wN (v0:(List GEntry)) (v1:Int) (v3:Int) (v4:Bool) (v5:Int) (v6:Int) (v7:Bool) (v8:Int) (v9:(List UInt8)) (v10:(List GEntry)) (v11:(List UInt8)):Nat→Int→(List GEntry)→Option (Int×(List GEntry))
 |0,_,_=>none
 |m+1,v2,v12=>
 if v2<v1 then
  (zn v2).bind fun i2=>
  (v0[i2]?).bind fun x3=>
  (ZY x3).bind fun r4=>
  if zC 152 (v12.length+[r4].length)then
  wN v0 v1 v3 v4 v5 v6 v7 v8 v9 v10 v11 m (w64 (v2+1)) (v12++[r4])
  else none
 else
 some (v2,v12)
theorem Re (v0:(List GEntry)) (v1:Int) (v3:Int) (v4:Bool) (v5:Int) (v6:Int) (v7:Bool) (v8:Int) (v9:(List UInt8)) (v10:(List GEntry)) (v11:(List UInt8)) (m:Nat):∀(v2:Int) (v12:(List GEntry)),Ol (wN v0 v1 v3 v4 v5 v6 v7 v8 v9 v10 v11 m v2 v12) 85 (zD Tryz.f85 0) ⟨[(2,vp 0 0),(3,vp 1 0),(17,vq zq v0),(18,vi v1),(19,vi v2)],[.var [ci v3,.bool v4,.ref 2,ci v5,.ref 3],.var [ci v6,.bool v7,.ref 4,ci v8,.ref 5],.obj 1 (eL za v9),.obj 9 (eL zQ v10),.obj 1 (eL za v11),.obj 9 (eL zQ v12)],0⟩ fun o=>match o with |⟨o_0,o_1⟩=>(.exit 0,⟨[(2,vp 0 0),(3,vp 1 0),(17,vq zq v0),(18,vi v1),(19,vi o_0),(20,vb false)],[.var [ci v3,.bool v4,.ref 2,ci v5,.ref 3],.var [ci v6,.bool v7,.ref 4,ci v8,.ref 5],.obj 1 (eL za v9),.obj 9 (eL zQ v10),.obj 1 (eL za v11),.obj 9 (eL zQ o_1)],0⟩):=by
 induction m with
 |zero=>intro v2 v12 o h;cases h
 |succ m ih=>exact fun v2 v12=>tlp (
  .lI v2 v1 (fun c1=>.na v2 fun i2=>.ix ym v0 i2 fun x3=>.cl (Px x3) fun r4=>.ao 152 j8 v12 [r4] fun n5=>.go (ih (w64 (v2+1)) (v12++[r4]))) fun c1=>.ret (v2,v12))
def XV (n:Nat) (a0:GState):Option GState:=
 (zS a0.Pending).bind fun r1=>
 (wN a0.Entries (a0.Entries.length:Int) 0 false 0 a0.Serial a0.Open a0.Act [] [] r1 n 0 []).bind fun⟨o2_0,o2_1⟩=>
 some (GState.mk a0.Serial a0.Open r1 a0.Act o2_1)
theorem O2 (n:Nat):JZ (XV n):=fun a0=>tc (
 .cl (xq a0.Pending) fun r1=>.le zq a0.Entries<|.lp (Re a0.Entries (a0.Entries.length:Int) 0 false 0 a0.Serial a0.Open a0.Act [] [] r1 n 0 []) fun⟨o2_0,o2_1⟩=>.ret (GState.mk a0.Serial a0.Open r1 a0.Act o2_1)) (zf Tryz.func85)
theorem zbs {e:GEntry} (h:esz e<=2 ^ 38):ZY e=some e:=by
 unfold esz at h
 unfold ZY zS z6 yR
 rw[if_pos (xc (by decide) (by omega)),oB,if_pos (by omega),oB,if_pos (by omega),oB]
 cases e;rfl
theorem Av {a:List GEntry} {v3:Int} {v4:Bool} {v5 v6:Int} {v7:Bool} {v8:Int} {v9:List UInt8} {v10:List GEntry} {v11:List UInt8} (ha:yG a<=2 ^ 38):∀(l p:List GEntry) (m:Nat),a=p++l→l.length<m→∃z,wN a (a.length:Int) v3 v4 v5 v6 v7 v8 v9 v10 v11 m (p.length:Int) p=some (z,a):=by
 have hl:=kj a
 intro l
 induction l with
 |nil=>
  intro p m he hm
  obtain⟨m,rfl,_⟩:=zg hm
  exact⟨_,by rw[wN,he,List.append_nil,if_neg (by omega)]⟩
 |cons x l ih=>
  intro p m he hm
  obtain⟨m,rfl,hm'⟩:=zg hm
  have hx:1+esz x<=yG a:=Wg (by rw[he];simp)
  have hlen:a.length=p.length+(l.length+1):=by rw[he];simp
  obtain⟨z,hz⟩:=ih (p++[x]) m (by rw[he];simp) (by simp only[List.length_cons]at hm';omega)
  refine⟨z,?_⟩
  rw[wN,if_pos (by omega),zb,oB,show a[p.length]? =some x by rw[he];exact zp p x l,oB,zbs (by omega),oB,if_pos (Xl (by simp only[List.length_cons,List.length_nil];omega)),ye p x (by omega),hz]
def wh (a0:GState):Option GState:=if ssz a0<=2 ^ 38 then some a0 else none
theorem Td (a0:GState) (r:GState) (h:wh a0=some r):∃n,XV n a0=some r:=by
 unfold wh at h
 obtain⟨ha,h⟩:=zB h
 unfold ssz at ha
 refine⟨a0.Entries.length+1,?_⟩
 unfold XV zS
 obtain⟨z,hz⟩:=Av (a:=a0.Entries) (v3:=0) (v4:=false) (v5:=0) (v6:=a0.Serial) (v7:=a0.Open) (v8:=a0.Act) (v9:=[]) (v10:=[]) (v11:=a0.Pending) (by omega) a0.Entries [] (a0.Entries.length+1) rfl (by omega)
 simp only[List.length_nil,Int.natCast_zero]at hz
 rw[if_pos (xc (by decide) (by omega)),oB,hz,<-h]
 cases a0;rfl
theorem Jn:JZ wh:=fun a0 r h=>(Td a0 r h).elim fun n hn=>O2 n a0 r hn
def XL (a0:GValue):Option Bool:=
 if a0.Kind=0 then
  if a0.N=0 then
   if(a0.S.length:Int)=0 then
    if(a0.K.length:Int)=0 then
     some (decide ((a0.L.length:Int)=0))
    else
    some false
   else
   some false
  else
  some false
 else
 some false
theorem Nz (a0:GValue):Oc (XL a0) 137 [] [.val true (zi a0)] fun r=>(vb r,[]):=tc (
 .eI a0.Kind 0 (fun c1=>.eI a0.N 0 (fun c2=>.le za a0.S<|.eI (a0.S.length:Int) 0 (fun c3=>.le (zl za) a0.K<|.eI (a0.K.length:Int) 0 (fun c4=>.le zd a0.L<|.eD (a0.L.length:Int) 0<|.ret (decide ((a0.L.length:Int)=0))) fun c4=>.ret false) fun c3=>.ret false) fun c2=>.ret false) fun c1=>.ret false) (zf Tryz.func137)
end
end Go.Am.Try
