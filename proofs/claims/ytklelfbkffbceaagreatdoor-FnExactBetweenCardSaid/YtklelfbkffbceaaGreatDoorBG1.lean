
/- The functions of the program in plain Lean, and that the machine answers as they do; conditions at each theorem. -/
import Derived.Test.YtklelfbkffbceaaGreatDoorBP1
set_option linter.unusedVariables false
set_option linter.unusedSimpArgs false
namespace Go.Am.Try
open Go.Am Go.Proofs
set_option linter.unusedVariables false
set_option maxRecDepth 20000
set_option maxHeartbeats 2000000
noncomputable section
def qj (a0:(List UInt8)) (a1:Int):Option Int:=
 if(w64 (a1 - (a0.length:Int)))<0 then
  some (-1)
 else
 some (w64 (a1 - (a0.length:Int)))
theorem vH (a0:(List UInt8)) (a1:Int):Oc (qj a0 a1) 70 [] [vq za a0,vi a1] fun r=>(vi r,[]):=tc (
 .le za a0<|.lI (w64 (a1 - (a0.length:Int))) 0 (fun c1=>.ret (-1)) fun c1=>.ret (w64 (a1 - (a0.length:Int)))) (zf Tryz.func70)
def KA (F:(List (List UInt8))→Int→Option Int):Prop:=∀(a0:(List (List UInt8))) (a1:Int),Oc (F a0 a1) 104 [] [vq (zl za) a0,vi a1] fun r=>(vi r,[])
def qk (a0:(List (List UInt8))):Nat→Int→Int→Option (Int⊕(Int×Int))
 |0,_,_=>none
 |m+1,v1,v2=>
 if v2<(a0.length:Int)then
  (zn v2).bind fun i2=>
  (a0[i2]?).bind fun x3=>
  (qj x3 v1).bind fun r4=>
  if r4<0 then
   some (.inl (-1))
  else
  qk a0 m r4 (w64 (v2+1))
 else
 some (.inr (v1,v2))
theorem RO (a0:(List (List UInt8))) (m:Nat):∀(v1:Int) (v2:Int),Ol (qk a0 m v1 v2) 104 (zD Tryz.f104 0) ⟨[(0,vq (zl za) a0),(1,vi v1),(5,vi v2)],[],0⟩ fun o=>match o with | .inl o_0=>(.ret,⟨[(4,vi o_0)],[],0⟩)| .inr (⟨o_1_0,o_1_1⟩)=>(.exit 0,⟨[(0,vq (zl za) a0),(1,vi o_1_0),(5,vi o_1_1),(15,vb false)],[],0⟩):=by
 induction m with
 |zero=>intro v1 v2 o h;cases h
 |succ m ih=>exact fun v1 v2=>tlp (
  .le (zl za) a0<|.lI v2 (a0.length:Int) (fun c1=>.na v2 fun i2=>.ix0 (zl za) a0 i2 fun x3=>.cl (vH x3 v1) fun r4=>.lI r4 0 (fun c5=>.ret (.inl (-1))) fun c5=>.go (ih r4 (w64 (v2+1)))) fun c1=>.ret (.inr (v1,v2)))
def Y1 (n:Nat) (a0:(List (List UInt8))) (a1:Int):Option Int:=
 if(w64 (a1 - (a0.length:Int)))<0 then
  some (-1)
 else
 (qk a0 n (w64 (a1 - (a0.length:Int))) 0).bind fun o2=>
 match o2 with
 | .inl o2_0=>
  some o2_0
 | .inr (⟨o2_1_0,o2_1_1⟩)=>
  some o2_1_0
theorem Lx (n:Nat):KA (Y1 n):=fun a0 a1=>tc (
 .le (zl za) a0<|.lI (w64 (a1 - (a0.length:Int))) 0 (fun c1=>.ret (-1)) fun c1=>.l2 (RO a0 n (w64 (a1 - (a0.length:Int))) 0) (fun o2_0=>.ret o2_0) fun⟨o2_1_0,o2_1_1⟩=>.ret o2_1_0) (zf Tryz.func104)
def MdB (k:List (List UInt8)):Prop:=k.length<=2 ^ 63 - 1∧∀b∈k,b.length<=2 ^ 63 - 1
theorem W6 {a:List UInt8} {n:Int} (h:a.length<=2 ^ 63 - 1) (h0:0<=n) (h1:n<=2 ^ 20):qj a n=some (if(a.length:Int)<=n then n - a.length else -1):=by
 unfold qj
 rw[zR (by omega) (by omega)]
 by_cases hc:(a.length:Int)<=n
 ·rw[if_neg (by omega),if_pos hc]
 ·rw[if_pos (by omega),if_neg hc]
theorem G8 {a:List (List UInt8)} (ha:a.length<=2 ^ 20) (hb:∀b∈a,b.length<=2 ^ 63 - 1):∀(d i m:Nat) (r:Int),i+d=a.length→d<m→0<=r→r<=2 ^ 20→
 ∃z,qk a m r (i:Int)=some (if(((a.drop i).map List.length).sum:Int)<=r then .inr (r - ((a.drop i).map List.length).sum,z)else .inl (-1)):=by
 intro d
 induction d with
 |zero=>
  intro i m r hi hm h0 h1
  obtain⟨m,rfl,_⟩:=zg hm
  refine⟨(i:Int),?_⟩
  rw[qk,if_neg (by omega),List.drop_eq_nil_of_le (by omega)]
  rw[List.map_nil,List.sum_nil,if_pos (by simpa using h0)];simp
 |succ d ih=>
  intro i m r hi hm h0 h1
  obtain⟨m,rfl,hm'⟩:=zg hm
  have hil:i<a.length:=by omega
  have hx:=hb a[i] (List.getElem_mem hil)
  rw[qk,if_pos (by omega),zb,oB,zj hil,oB,W6 hx h0 h1,oB]
  rw[wb hil,List.map_cons,List.sum_cons]
  by_cases hc:((a[i]).length:Int)<=r
  ·rw[if_pos hc,if_neg (by omega),zG (by omega)]
   obtain⟨z,hz⟩:=ih (i+1) m (r - (a[i]).length) (by omega) (by omega) (by omega) (by omega)
   refine⟨z,?_⟩
   rw[hz]
   by_cases hd:(((a.drop (i+1)).map List.length).sum:Int)<=r - (a[i]).length
   ·rw[if_pos hd,if_pos (by omega)];congr 3;omega
   ·rw[if_neg hd,if_neg (by omega)]
  ·refine⟨0,?_⟩
   rw[if_neg hc,if_pos (by omega),if_neg (by omega)]
theorem Eo {a:List (List UInt8)} {n:Int} (h:MdB a∧0<=n∧n<=2 ^ 20):Y1 (a.length+1) a n=some (if(bsz a:Int)<=n then n - bsz a else -1):=by
 obtain⟨⟨ha,hb⟩,h0,h1⟩:=h
 unfold Y1
 rw[zR (by omega) (by omega)]
 unfold bsz
 by_cases hc:(a.length:Int)<=n
 ·rw[if_neg (by omega)]
  obtain⟨z,hz⟩:=G8 (by omega) hb a.length 0 (a.length+1) (n - a.length) (by omega) (by omega) (by omega) (by omega)
  rw[show((0:Nat):Int)=0 from rfl]at hz
  rw[hz]
  simp only[List.drop_zero]
  by_cases hd:((a.map List.length).sum:Int)<=n - a.length
  ·rw[if_pos hd,if_pos (by omega)]
   simp only[oB];congr 1;omega
  ·rw[if_neg hd,if_neg (by omega)];rfl
 ·rw[if_pos (by omega),if_neg (by omega)]
open Classical in
noncomputable def xU (a0:(List (List UInt8))) (a1:Int):Option Int:=if MdB a0∧0<=a1∧a1<=2 ^ 20 then some (if(bsz a0:Int)<=a1 then a1 - bsz a0 else -1)else none
theorem TC (a0:(List (List UInt8))) (a1:Int) (r:Int) (h:xU a0 a1=some r):∃n,Y1 n a0 a1=some r:=by
 unfold xU at h
 obtain⟨hp,h⟩:=zB h
 exact⟨_,by rw[<-h];exact Eo hp⟩
theorem XP:KA xU:=fun a0 a1 r h=>(TC a0 a1 r h).elim fun n hn=>Lx n a0 a1 r hn
def Y2 (F:(List GValue)→Int→Option Int):Prop:=∀(a0:(List GValue)) (a1:Int),Oc (F a0 a1) 185 [] [vq zd a0,vi a1] fun r=>(vi r,[])
def Zu (F:GValue→Int→Option Int):Prop:=∀(a0:GValue) (a1:Int),Oc (F a0 a1) 125 [] [.val true (zi a0),vi a1] fun r=>(vi r,[])
def ql (G_laws_szValue:GValue→Int→Option Int) (a0:(List GValue)):Nat→Int→Int→Option (Int⊕(Int×Int))
 |0,_,_=>none
 |m+1,v1,v2=>
 if v2<(a0.length:Int)then
  (zn v2).bind fun i2=>
  (a0[i2]?).bind fun x3=>
  (G_laws_szValue x3 v1).bind fun r4=>
  if r4<0 then
   some (.inl (-1))
  else
  ql G_laws_szValue a0 m r4 (w64 (v2+1))
 else
 some (.inr (v1,v2))
theorem RP (G_laws_szValue:GValue→Int→Option Int) (H_laws_szValue:Zu G_laws_szValue) (a0:(List GValue)) (m:Nat):∀(v1:Int) (v2:Int),Ol (ql G_laws_szValue a0 m v1 v2) 185 (zD Tryz.f185 0) ⟨[(0,vq zd a0),(1,vi v1),(5,vi v2)],[],0⟩ fun o=>match o with | .inl o_0=>(.ret,⟨[(4,vi o_0)],[],0⟩)| .inr (⟨o_1_0,o_1_1⟩)=>(.exit 0,⟨[(0,vq zd a0),(1,vi o_1_0),(5,vi o_1_1),(15,vb false)],[],0⟩):=by
 induction m with
 |zero=>intro v1 v2 o h;cases h
 |succ m ih=>exact fun v1 v2=>tlp (
  .le zd a0<|.lI v2 (a0.length:Int) (fun c1=>.na v2 fun i2=>.ix zr a0 i2 fun x3=>.cl (H_laws_szValue x3 v1) fun r4=>.lI r4 0 (fun c5=>.ret (.inl (-1))) fun c5=>.go (ih r4 (w64 (v2+1)))) fun c1=>.ret (.inr (v1,v2)))
def Y3 (G_laws_szValue:GValue→Int→Option Int) (n:Nat) (a0:(List GValue)) (a1:Int):Option Int:=
 if(w64 (a1 - (a0.length:Int)))<0 then
  some (-1)
 else
 (ql G_laws_szValue a0 n (w64 (a1 - (a0.length:Int))) 0).bind fun o2=>
 match o2 with
 | .inl o2_0=>
  some o2_0
 | .inr (⟨o2_1_0,o2_1_1⟩)=>
  some o2_1_0
theorem Ly (G_laws_szValue:GValue→Int→Option Int) (H_laws_szValue:Zu G_laws_szValue) (n:Nat):Y2 (Y3 G_laws_szValue n):=fun a0 a1=>tc (
 .le zd a0<|.lI (w64 (a1 - (a0.length:Int))) 0 (fun c1=>.ret (-1)) fun c1=>.l2 (RP G_laws_szValue H_laws_szValue a0 n (w64 (a1 - (a0.length:Int))) 0) (fun o2_0=>.ret o2_0) fun⟨o2_1_0,o2_1_1⟩=>.ret o2_1_0) (zf Tryz.func185)
def Qj (G_laws_szValueS:(List GValue)→Int→Option Int) (a0:GValue) (a1:Int):Option Int:=
 (qj a0.S a1).bind fun r1=>
 if r1<0 then
  some (-1)
 else
 (xU a0.K r1).bind fun r3=>
 if r3<0 then
  some (-1)
 else
 (G_laws_szValueS a0.L r3).bind fun r5=>
 if r5<0 then
  some (-1)
 else
 some r5
theorem Nf (G_laws_szValueS:(List GValue)→Int→Option Int) (H_laws_szValueS:Y2 G_laws_szValueS):Zu (Qj G_laws_szValueS):=fun a0 a1=>tc (
 .cl (vH a0.S a1) fun r1=>.lI r1 0 (fun c2=>.ret (-1)) fun c2=>.cl (XP a0.K r1) fun r3=>.lI r3 0 (fun c4=>.ret (-1)) fun c4=>.cl (H_laws_szValueS a0.L r3) fun r5=>.lI r5 0 (fun c6=>.ret (-1)) fun c6=>.ret r5) (zf Tryz.func125)
mutual
def wF:Nat→(List GValue)→Int→Option Int
 |0,_,_=>none
 |n+1,a0,a1=>Y3 (qm n) n a0 a1
def qm:Nat→GValue→Int→Option Int
 |0,_,_=>none
 |n+1,a0,a1=>Qj (wF n) a0 a1
end
theorem Jk (n:Nat):Y2 (wF n)∧Zu (qm n):=by
 induction n with
 |zero=>exact⟨fun _ _ _ h=>(by rw[wF]at h;cases h),fun _ _ _ h=>(by rw[qm]at h;cases h)⟩
 |succ n ih=>
  obtain⟨ih_laws_szValueS,ih_laws_szValue⟩:=ih
  exact⟨fun a0 a1 r h=>Ly (qm n) ih_laws_szValue n a0 a1 r (by rw[wF]at h;exact h),
   fun a0 a1 r h=>Nf (wF n) ih_laws_szValueS a0 a1 r (by rw[qm]at h;exact h)⟩
mutual
def MdV:GValue→Prop
 | .mk _ _ s k l=>s.length<=2 ^ 63 - 1∧MdB k∧l.length<=2 ^ 63 - 1∧VX l
def VX:List GValue→Prop
 |[]=>True
 |v::l=>MdV v∧VX l
end
theorem Ep {l:List GValue} (h:VX l) {v:GValue} (hv:v∈l):MdV v:=by
 induction l with
 |nil=>cases hv
 |cons x l ih=>
  simp only[VX]at h
  rcases List.mem_cons.1 hv with rfl|hv
  ·exact h.1
  ·exact ih h.2 hv
theorem za8 (v:GValue):MdV v=(v.S.length<=2 ^ 63 - 1∧MdB v.K∧v.L.length<=2 ^ 63 - 1∧VX v.L):=by cases v;simp only[MdV,GValue.S,GValue.K,GValue.L]
def vin (l:List GValue):Nat:=(l.map vsz).sum
theorem zec (l:List GValue):yX l=l.length+vin l:=by
 unfold vin
 induction l with
 |nil=>rfl
 |cons v l ih=>simp only[yX,ih,List.length_cons,List.map_cons,List.sum_cons];omega
theorem G9 {G:GValue→Int→Option Int} {a:List GValue} (ha:a.length<=2 ^ 20) (hG:∀v∈a,∀n:Int,0<=n→n<=2 ^ 20→G v n=some (xH (vsz v) n)):∀(d i m:Nat) (r:Int),i+d=a.length→d<m→0<=r→r<=2 ^ 20→
 ∃z,ql G a m r (i:Int)=some (if(vin (a.drop i):Int)<=r then .inr (r - vin (a.drop i),z)else .inl (-1)):=by
 intro d
 induction d with
 |zero=>
  intro i m r hi hm h0 h1
  obtain⟨m,rfl,_⟩:=zg hm
  refine⟨(i:Int),?_⟩
  rw[ql,if_neg (by omega),List.drop_eq_nil_of_le (by omega)]
  simp only[vin,List.map_nil,List.sum_nil]
  rw[if_pos (by simpa using h0)];simp
 |succ d ih=>
  intro i m r hi hm h0 h1
  obtain⟨m,rfl,hm'⟩:=zg hm
  have hil:i<a.length:=by omega
  rw[ql,if_pos (by omega),zb,oB,zj hil,oB,hG _ (List.getElem_mem hil) r h0 h1,oB]
  have hv:vin (a.drop i)=vsz a[i]+vin (a.drop (i+1)):=by simp only[vin,wb hil,List.map_cons,List.sum_cons]
  rw[hv]
  unfold xH
  by_cases hc:(vsz a[i]:Int)<=r
  ·rw[if_pos hc,if_neg (by omega),zG (by omega)]
   obtain⟨z,hz⟩:=ih (i+1) m (r - vsz a[i]) (by omega) (by omega) (by omega) (by omega)
   refine⟨z,?_⟩
   rw[hz]
   by_cases hd:(vin (a.drop (i+1)):Int)<=r - vsz a[i]
   ·rw[if_pos hd,if_pos (by omega)];congr 3;omega
   ·rw[if_neg hd,if_neg (by omega)]
  ·refine⟨0,?_⟩
   rw[if_neg hc,if_pos (by omega),if_neg (by omega)]
theorem Lz {G:GValue→Int→Option Int} {a:List GValue} {f:Nat} {n:Int} (ha:a.length<=2 ^ 63 - 1) (h0:0<=n) (h1:n<=2 ^ 20) (hf:a.length<f∨n<a.length) (hG:∀v∈a,∀n:Int,0<=n→n<=2 ^ 20→G v n=some (xH (vsz v) n)):
 Y3 G f a n=some (xH (yX a) n):=by
 unfold Y3
 rw[zR (by omega) (by omega),zec]
 unfold xH
 by_cases hc:(a.length:Int)<=n
 ·rw[if_neg (by omega)]
  obtain⟨z,hz⟩:=G9 (G:=G) (by omega) hG a.length 0 f (n - a.length) (by omega) (by omega) (by omega) (by omega)
  rw[show((0:Nat):Int)=0 from rfl]at hz
  rw[hz]
  simp only[List.drop_zero]
  by_cases hd:(vin a:Int)<=n - a.length
  ·rw[if_pos hd,if_pos (by omega)]
   simp only[oB];congr 1;omega
  ·rw[if_neg hd,if_neg (by omega)];rfl
 ·rw[if_pos (by omega),if_neg (by omega)]
theorem Gi:∀(N:Nat) (v:GValue),vsz v<N→MdV v→∀(f:Nat) (n:Int),2*vsz v+3<=f→0<=n→n<=2 ^ 20→qm f v n=some (xH (vsz v) n):=by
 intro N
 induction N with
 |zero=>intro v hv;omega
 |succ N ih=>
  intro v hv hmd f n hf h0 h1
  obtain⟨f,rfl,_⟩:=zg (show 0<f by omega)
  rw[za8]at hmd
  have he:=yT v
  have hl:=yS v.L
  obtain⟨f,rfl,_⟩:=zg (show 0<f by omega)
  rw[qm]
  unfold Qj
  rw[W6 hmd.1 h0 h1,oB]
  unfold xH
  by_cases c1:(v.S.length:Int)<=n
  ·rw[if_pos c1,if_neg (by omega)]
   unfold xU
   rw[if_pos ⟨hmd.2.1,by omega,by omega⟩,oB]
   by_cases c2:(bsz v.K:Int)<=n - v.S.length
   ·rw[if_pos c2,if_neg (by omega)]
    rw[wF,Lz hmd.2.2.1 (by omega) (by omega) (.inl (by omega)) (fun x hx m g0 g1=> ?_),oB]
    ·unfold xH
     by_cases c3:(yX v.L:Int)<=n - v.S.length - bsz v.K
     ·rw[if_pos c3,if_neg (by omega),if_pos (by omega)];congr 1;omega
     ·rw[if_neg c3,if_pos (by omega),if_neg (by omega)]
    ·have:=yN hx
     exact ih x (by omega) (Ep hmd.2.2.2 hx) f m (by omega) g0 g1
   ·rw[if_neg c2,if_pos (by omega),if_neg (by omega)]
  ·rw[if_neg c1,if_pos (by omega),if_neg (by omega)]
open Classical in
noncomputable def W7 (a0:(List GValue)) (a1:Int):Option Int:=if a0.length<=2 ^ 63 - 1∧VX a0∧0<=a1∧a1<=2 ^ 20 then some (xH (yX a0) a1)else none
theorem TE (a0:(List GValue)) (a1:Int) (r:Int) (h:W7 a0 a1=some r):∃n,wF n a0 a1=some r:=by
 unfold W7 at h
 obtain⟨⟨hl,hm,h0,h1⟩,h⟩:=zB h
 refine⟨2*yX a0+5,?_⟩
 have:=yS a0
 rw[wF,Lz hl h0 h1 (.inl (by omega)) fun x hx m g0 g1=> ?_,h]
 have:=yN hx
 exact Gi _ x (Nat.lt_succ_self _) (Ep hm hx) _ m (by omega) g0 g1
open Classical in
noncomputable def jl (a0:GValue) (a1:Int):Option Int:=if MdV a0∧0<=a1∧a1<=2 ^ 20 then some (xH (vsz a0) a1)else none
theorem Pb (a0:GValue) (a1:Int) (r:Int) (h:jl a0 a1=some r):∃n,qm n a0 a1=some r:=by
 unfold jl at h
 obtain⟨⟨hm,h0,h1⟩,h⟩:=zB h
 exact⟨2*vsz a0+3,by rw[<-h];exact Gi _ a0 (Nat.lt_succ_self _) hm _ a1 (Nat.le_refl _) h0 h1⟩
theorem zed:Y2 W7:=by
 intro a0 a1 r h
 obtain⟨n,hn⟩:=TE a0 a1 r h
 exact(Jk n).1 a0 a1 r hn
theorem KB:Zu jl:=by
 intro a0 a1 r h
 obtain⟨n,hn⟩:=Pb a0 a1 r h
 exact(Jk n).2 a0 a1 r hn
def Zv (a0:GEntry) (a1:Int):Option Int:=
 (qj a0.Addr a1).bind fun r1=>
 if r1<0 then
  some (-1)
 else
 (jl a0.Val r1).bind fun r3=>
 if r3<0 then
  some (-1)
 else
 (xU a0.Deps r3).bind fun r5=>
 if r5<0 then
  some (-1)
 else
 some r5
theorem L0 (a0:GEntry) (a1:Int):Oc (Zv a0 a1) 124 [] [.val true (Zh a0),vi a1] fun r=>(vi r,[]):=tc (
 .cl (vH a0.Addr a1) fun r1=>.lI r1 0 (fun c2=>.ret (-1)) fun c2=>.cl (KB a0.Val r1) fun r3=>.lI r3 0 (fun c4=>.ret (-1)) fun c4=>.cl (XP a0.Deps r3) fun r5=>.lI r5 0 (fun c6=>.ret (-1)) fun c6=>.ret r5) (zf Tryz.func124)
def KC (F:(List GEntry)→Int→Option Int):Prop:=∀(a0:(List GEntry)) (a1:Int),Oc (F a0 a1) 71 [] [vq zq a0,vi a1] fun r=>(vi r,[])
def qn (a0:(List GEntry)):Nat→Int→Int→Option (Int⊕(Int×Int))
 |0,_,_=>none
 |m+1,v1,v2=>
 if v2<(a0.length:Int)then
  (zn v2).bind fun i2=>
  (a0[i2]?).bind fun x3=>
  (Zv x3 v1).bind fun r4=>
  if r4<0 then
   some (.inl (-1))
  else
  qn a0 m r4 (w64 (v2+1))
 else
 some (.inr (v1,v2))
theorem RQ (a0:(List GEntry)) (m:Nat):∀(v1:Int) (v2:Int),Ol (qn a0 m v1 v2) 71 (zD Tryz.f71 0) ⟨[(0,vq zq a0),(1,vi v1),(5,vi v2)],[],0⟩ fun o=>match o with | .inl o_0=>(.ret,⟨[(4,vi o_0)],[],0⟩)| .inr (⟨o_1_0,o_1_1⟩)=>(.exit 0,⟨[(0,vq zq a0),(1,vi o_1_0),(5,vi o_1_1),(15,vb false)],[],0⟩):=by
 induction m with
 |zero=>intro v1 v2 o h;cases h
 |succ m ih=>exact fun v1 v2=>tlp (
  .le zq a0<|.lI v2 (a0.length:Int) (fun c1=>.na v2 fun i2=>.ix ym a0 i2 fun x3=>.cl (L0 x3 v1) fun r4=>.lI r4 0 (fun c5=>.ret (.inl (-1))) fun c5=>.go (ih r4 (w64 (v2+1)))) fun c1=>.ret (.inr (v1,v2)))
def W8 (n:Nat) (a0:(List GEntry)) (a1:Int):Option Int:=
 if(w64 (a1 - (a0.length:Int)))<0 then
  some (-1)
 else
 (qn a0 n (w64 (a1 - (a0.length:Int))) 0).bind fun o2=>
 match o2 with
 | .inl o2_0=>
  some o2_0
 | .inr (⟨o2_1_0,o2_1_1⟩)=>
  some o2_1_0
theorem L1 (n:Nat):KC (W8 n):=fun a0 a1=>tc (
 .le zq a0<|.lI (w64 (a1 - (a0.length:Int))) 0 (fun c1=>.ret (-1)) fun c1=>.l2 (RQ a0 n (w64 (a1 - (a0.length:Int))) 0) (fun o2_0=>.ret o2_0) fun⟨o2_1_0,o2_1_1⟩=>.ret o2_1_0) (zf Tryz.func71)
def Er (e:GEntry):Prop:=e.Addr.length<=2 ^ 63 - 1∧MdV e.Val∧MdB e.Deps
def J1:List GEntry→Prop
 |[]=>True
 |v::l=>Er v∧J1 l
theorem za9 {l:List GEntry} (h:J1 l) {v:GEntry} (hv:v∈l):Er v:=by
 induction l with
 |nil=>cases hv
 |cons x l ih=>
  simp only[J1]at h
  rcases List.mem_cons.1 hv with rfl|hv
  ·exact h.1
  ·exact ih h.2 hv
def Q9 (l:List GEntry):Nat:=(l.map esz).sum
theorem zip (l:List GEntry):yG l=l.length+Q9 l:=by
 unfold Q9
 induction l with
 |nil=>rfl
 |cons v l ih=>simp only[yG,ih,List.length_cons,List.map_cons,List.sum_cons];omega
theorem GA {a:List GEntry} (ha:a.length<=2 ^ 20) (hG:∀v∈a,∀n:Int,0<=n→n<=2 ^ 20→Zv v n=some (xH (esz v) n)):∀(d i m:Nat) (r:Int),i+d=a.length→d<m→0<=r→r<=2 ^ 20→
 ∃z,qn a m r (i:Int)=some (if(Q9 (a.drop i):Int)<=r then .inr (r - Q9 (a.drop i),z)else .inl (-1)):=by
 intro d
 induction d with
 |zero=>
  intro i m r hi hm h0 h1
  obtain⟨m,rfl,_⟩:=zg hm
  refine⟨(i:Int),?_⟩
  rw[qn,if_neg (by omega),List.drop_eq_nil_of_le (by omega)]
  simp only[Q9,List.map_nil,List.sum_nil]
  rw[if_pos (by simpa using h0)];simp
 |succ d ih=>
  intro i m r hi hm h0 h1
  obtain⟨m,rfl,hm'⟩:=zg hm
  have hil:i<a.length:=by omega
  rw[qn,if_pos (by omega),zb,oB,zj hil,oB,hG _ (List.getElem_mem hil) r h0 h1,oB]
  have hv:Q9 (a.drop i)=esz a[i]+Q9 (a.drop (i+1)):=by simp only[Q9,wb hil,List.map_cons,List.sum_cons]
  rw[hv]
  unfold xH
  by_cases hc:(esz a[i]:Int)<=r
  ·rw[if_pos hc,if_neg (by omega),zG (by omega)]
   obtain⟨z,hz⟩:=ih (i+1) m (r - esz a[i]) (by omega) (by omega) (by omega) (by omega)
   refine⟨z,?_⟩
   rw[hz]
   by_cases hd:(Q9 (a.drop (i+1)):Int)<=r - esz a[i]
   ·rw[if_pos hd,if_pos (by omega)];congr 3;omega
   ·rw[if_neg hd,if_neg (by omega)]
  ·refine⟨0,?_⟩
   rw[if_neg hc,if_pos (by omega),if_neg (by omega)]
theorem Ai {v:GEntry} {n:Int} (h:Er v) (h0:0<=n) (h1:n<=2 ^ 20):Zv v n=some (xH (esz v) n):=by
 unfold Zv
 rw[W6 h.1 h0 h1,oB]
 unfold xH esz
 by_cases c1:(v.Addr.length:Int)<=n
 ·rw[if_pos c1,if_neg (by omega)]
  unfold jl
  rw[if_pos ⟨h.2.1,by omega,by omega⟩,oB]
  unfold xH
  by_cases c2:(vsz v.Val:Int)<=n - v.Addr.length
  ·rw[if_pos c2,if_neg (by omega)]
   unfold xU
   rw[if_pos ⟨h.2.2,by omega,by omega⟩,oB]
   by_cases c3:(bsz v.Deps:Int)<=n - v.Addr.length - vsz v.Val
   ·rw[if_pos c3,if_neg (by omega),if_pos (by omega)];congr 1;omega
   ·rw[if_neg c3,if_pos (by omega),if_neg (by omega)]
  ·rw[if_neg c2,if_pos (by omega),if_neg (by omega)]
 ·rw[if_neg c1,if_pos (by omega),if_neg (by omega)]
open Classical in
noncomputable def vI (a0:(List GEntry)) (a1:Int):Option Int:=if a0.length<=2 ^ 63 - 1∧J1 a0∧0<=a1∧a1<=2 ^ 20 then some (xH (yG a0) a1)else none
theorem TF (a0:(List GEntry)) (a1:Int) (r:Int) (h:vI a0 a1=some r):∃n,W8 n a0 a1=some r:=by
 unfold vI at h
 obtain⟨⟨hl,hm,h0,h1⟩,h⟩:=zB h
 refine⟨a0.length+5,?_⟩
 unfold W8
 rw[<-h,zR (by omega) (by omega),zip]
 unfold xH
 by_cases hc:(a0.length:Int)<=a1
 ·rw[if_neg (by omega)]
  obtain⟨z,hz⟩:=GA (a:=a0) (by omega) (fun v hv n h0 h1=>Ai (za9 hm hv) h0 h1) a0.length 0 (a0.length+5) (a1 - a0.length) (by omega) (by omega) (by omega) (by omega)
  rw[show((0:Nat):Int)=0 from rfl]at hz
  rw[hz]
  simp only[List.drop_zero]
  by_cases hd:(Q9 a0:Int)<=a1 - a0.length
  ·rw[if_pos hd,if_pos (by omega)]
   simp only[oB];congr 1;omega
  ·rw[if_neg hd,if_neg (by omega)];rfl
 ·rw[if_pos (by omega),if_neg (by omega)]
theorem PW:KC vI:=fun a0 a1 r h=>(TF a0 a1 r h).elim fun n hn=>L1 n a0 a1 r hn
def Xe (a0:GState) (a1:Int):Option Int:=
 (qj a0.Pending a1).bind fun r1=>
 if r1<0 then
  some (-1)
 else
 (vI a0.Entries r1).bind fun r3=>
 if r3<0 then
  some (-1)
 else
 some r3
theorem L2 (a0:GState) (a1:Int):Oc (Xe a0 a1) 32 [] [.val true (y9 a0),vi a1] fun r=>(vi r,[]):=tc (
 .cl (vH a0.Pending a1) fun r1=>.lI r1 0 (fun c2=>.ret (-1)) fun c2=>.cl (PW a0.Entries r1) fun r3=>.lI r3 0 (fun c4=>.ret (-1)) fun c4=>.ret r3) (zf Tryz.func32)
def Zw (a0:GEvent) (a1:Int):Option Int:=
 (qj a0.Addr a1).bind fun r1=>
 if r1<0 then
  some (-1)
 else
 (jl a0.Val r1).bind fun r3=>
 if r3<0 then
  some (-1)
 else
 (xU a0.Deps r3).bind fun r5=>
 if r5<0 then
  some (-1)
 else
 some r5
theorem L3 (a0:GEvent) (a1:Int):Oc (Zw a0 a1) 72 [] [.val true (ve a0),vi a1] fun r=>(vi r,[]):=tc (
 .cl (vH a0.Addr a1) fun r1=>.lI r1 0 (fun c2=>.ret (-1)) fun c2=>.cl (KB a0.Val r1) fun r3=>.lI r3 0 (fun c4=>.ret (-1)) fun c4=>.cl (XP a0.Deps r3) fun r5=>.lI r5 0 (fun c6=>.ret (-1)) fun c6=>.ret r5) (zf Tryz.func72)
def KD (F:(List GEvent)→Int→Option Int):Prop:=∀(a0:(List GEvent)) (a1:Int),Oc (F a0 a1) 33 [] [vq zN a0,vi a1] fun r=>(vi r,[])
def qp (a0:(List GEvent)):Nat→Int→Int→Option (Int⊕(Int×Int))
 |0,_,_=>none
 |m+1,v1,v2=>
 if v2<(a0.length:Int)then
  (zn v2).bind fun i2=>
  (a0[i2]?).bind fun x3=>
  (Zw x3 v1).bind fun r4=>
  if r4<0 then
   some (.inl (-1))
  else
  qp a0 m r4 (w64 (v2+1))
 else
 some (.inr (v1,v2))
theorem RR (a0:(List GEvent)) (m:Nat):∀(v1:Int) (v2:Int),Ol (qp a0 m v1 v2) 33 (zD Tryz.f33 0) ⟨[(0,vq zN a0),(1,vi v1),(5,vi v2)],[],0⟩ fun o=>match o with | .inl o_0=>(.ret,⟨[(4,vi o_0)],[],0⟩)| .inr (⟨o_1_0,o_1_1⟩)=>(.exit 0,⟨[(0,vq zN a0),(1,vi o_1_0),(5,vi o_1_1),(15,vb false)],[],0⟩):=by
 induction m with
 |zero=>intro v1 v2 o h;cases h
 |succ m ih=>exact fun v1 v2=>tlp (
  .le zN a0<|.lI v2 (a0.length:Int) (fun c1=>.na v2 fun i2=>.ix ZO a0 i2 fun x3=>.cl (L3 x3 v1) fun r4=>.lI r4 0 (fun c5=>.ret (.inl (-1))) fun c5=>.go (ih r4 (w64 (v2+1)))) fun c1=>.ret (.inr (v1,v2)))
def W9 (n:Nat) (a0:(List GEvent)) (a1:Int):Option Int:=
 if(w64 (a1 - (a0.length:Int)))<0 then
  some (-1)
 else
 (qp a0 n (w64 (a1 - (a0.length:Int))) 0).bind fun o2=>
 match o2 with
 | .inl o2_0=>
  some o2_0
 | .inr (⟨o2_1_0,o2_1_1⟩)=>
  some o2_1_0
theorem L4 (n:Nat):KD (W9 n):=fun a0 a1=>tc (
 .le zN a0<|.lI (w64 (a1 - (a0.length:Int))) 0 (fun c1=>.ret (-1)) fun c1=>.l2 (RR a0 n (w64 (a1 - (a0.length:Int))) 0) (fun o2_0=>.ret o2_0) fun⟨o2_1_0,o2_1_1⟩=>.ret o2_1_0) (zf Tryz.func33)
def Es (e:GEvent):Prop:=e.Addr.length<=2 ^ 63 - 1∧MdV e.Val∧MdB e.Deps
def J2:List GEvent→Prop
 |[]=>True
 |v::l=>Es v∧J2 l
theorem zba {l:List GEvent} (h:J2 l) {v:GEvent} (hv:v∈l):Es v:=by
 induction l with
 |nil=>cases hv
 |cons x l ih=>
  simp only[J2]at h
  rcases List.mem_cons.1 hv with rfl|hv
  ·exact h.1
  ·exact ih h.2 hv
def XB (l:List GEvent):Nat:=(l.map jA).sum
theorem zee (l:List GEvent):y3 l=l.length+XB l:=by
 unfold XB
 induction l with
 |nil=>rfl
 |cons v l ih=>simp only[y3,ih,List.length_cons,List.map_cons,List.sum_cons];omega
theorem GB {a:List GEvent} (ha:a.length<=2 ^ 20) (hG:∀v∈a,∀n:Int,0<=n→n<=2 ^ 20→Zw v n=some (xH (jA v) n)):∀(d i m:Nat) (r:Int),i+d=a.length→d<m→0<=r→r<=2 ^ 20→
 ∃z,qp a m r (i:Int)=some (if(XB (a.drop i):Int)<=r then .inr (r - XB (a.drop i),z)else .inl (-1)):=by
 intro d
 induction d with
 |zero=>
  intro i m r hi hm h0 h1
  obtain⟨m,rfl,_⟩:=zg hm
  refine⟨(i:Int),?_⟩
  rw[qp,if_neg (by omega),List.drop_eq_nil_of_le (by omega)]
  simp only[XB,List.map_nil,List.sum_nil]
  rw[if_pos (by simpa using h0)];simp
 |succ d ih=>
  intro i m r hi hm h0 h1
  obtain⟨m,rfl,hm'⟩:=zg hm
  have hil:i<a.length:=by omega
  rw[qp,if_pos (by omega),zb,oB,zj hil,oB,hG _ (List.getElem_mem hil) r h0 h1,oB]
  have hv:XB (a.drop i)=jA a[i]+XB (a.drop (i+1)):=by simp only[XB,wb hil,List.map_cons,List.sum_cons]
  rw[hv]
  unfold xH
  by_cases hc:(jA a[i]:Int)<=r
  ·rw[if_pos hc,if_neg (by omega),zG (by omega)]
   obtain⟨z,hz⟩:=ih (i+1) m (r - jA a[i]) (by omega) (by omega) (by omega) (by omega)
   refine⟨z,?_⟩
   rw[hz]
   by_cases hd:(XB (a.drop (i+1)):Int)<=r - jA a[i]
   ·rw[if_pos hd,if_pos (by omega)];congr 3;omega
   ·rw[if_neg hd,if_neg (by omega)]
  ·refine⟨0,?_⟩
   rw[if_neg hc,if_pos (by omega),if_neg (by omega)]
theorem Aj {v:GEvent} {n:Int} (h:Es v) (h0:0<=n) (h1:n<=2 ^ 20):Zw v n=some (xH (jA v) n):=by
 unfold Zw
 rw[W6 h.1 h0 h1,oB]
 unfold xH jA
 by_cases c1:(v.Addr.length:Int)<=n
 ·rw[if_pos c1,if_neg (by omega)]
  unfold jl
  rw[if_pos ⟨h.2.1,by omega,by omega⟩,oB]
  unfold xH
  by_cases c2:(vsz v.Val:Int)<=n - v.Addr.length
  ·rw[if_pos c2,if_neg (by omega)]
   unfold xU
   rw[if_pos ⟨h.2.2,by omega,by omega⟩,oB]
   by_cases c3:(bsz v.Deps:Int)<=n - v.Addr.length - vsz v.Val
   ·rw[if_pos c3,if_neg (by omega),if_pos (by omega)];congr 1;omega
   ·rw[if_neg c3,if_pos (by omega),if_neg (by omega)]
  ·rw[if_neg c2,if_pos (by omega),if_neg (by omega)]
 ·rw[if_neg c1,if_pos (by omega),if_neg (by omega)]
open Classical in
noncomputable def vJ (a0:(List GEvent)) (a1:Int):Option Int:=if a0.length<=2 ^ 63 - 1∧J2 a0∧0<=a1∧a1<=2 ^ 20 then some (xH (y3 a0) a1)else none
theorem TG (a0:(List GEvent)) (a1:Int) (r:Int) (h:vJ a0 a1=some r):∃n,W9 n a0 a1=some r:=by
 unfold vJ at h
 obtain⟨⟨hl,hm,h0,h1⟩,h⟩:=zB h
 refine⟨a0.length+5,?_⟩
 unfold W9
 rw[<-h,zR (by omega) (by omega),zee]
 unfold xH
 by_cases hc:(a0.length:Int)<=a1
 ·rw[if_neg (by omega)]
  obtain⟨z,hz⟩:=GB (a:=a0) (by omega) (fun v hv n h0 h1=>Aj (zba hm hv) h0 h1) a0.length 0 (a0.length+5) (a1 - a0.length) (by omega) (by omega) (by omega) (by omega)
  rw[show((0:Nat):Int)=0 from rfl]at hz
  rw[hz]
  simp only[List.drop_zero]
  by_cases hd:(XB a0:Int)<=a1 - a0.length
  ·rw[if_pos hd,if_pos (by omega)]
   simp only[oB];congr 1;omega
  ·rw[if_neg hd,if_neg (by omega)];rfl
 ·rw[if_pos (by omega),if_neg (by omega)]
theorem PX:KD vJ:=fun a0 a1 r h=>(TG a0 a1 r h).elim fun n hn=>L4 n a0 a1 r hn
def ZU (a0:GHistory) (a1:Int):Option Int:=
 (Xe a0.Base a1).bind fun r1=>
 if r1<0 then
  some (-1)
 else
 (vJ a0.Events r1).bind fun r3=>
 if r3<0 then
  some (-1)
 else
 some r3
theorem Pc (a0:GHistory) (a1:Int):Oc (ZU a0 a1) 6 [] [.val true (xv a0),vi a1] fun r=>(vi r,[]):=tc (
 .cl (L2 a0.Base a1) fun r1=>.lI r1 0 (fun c2=>.ret (-1)) fun c2=>.cl (PX a0.Events r1) fun r3=>.lI r3 0 (fun c4=>.ret (-1)) fun c4=>.ret r3) (zf Tryz.func6)
def Vn (F:(List UInt8)→Option (List UInt8)):Prop:=∀(a0:(List UInt8)),Oc (F a0) 9 [] [vq za a0] fun r=>(.val false [.own 1 (eL za r)],[])
def qS (a0:(List UInt8)):Nat→Int→(List UInt8)→Option (Int×(List UInt8))
 |0,_,_=>none
 |m+1,v1,v2=>
 if v1<(a0.length:Int)then
  (zn v1).bind fun i2=>
  (a0[i2]?).bind fun x3=>
  (v2[i2]?).bind fun x4=>
  qS a0 m (w64 (v1+1)) (v2.set i2 x3)
 else
 some (v1,v2)
theorem TH (a0:(List UInt8)) (m:Nat):∀(v1:Int) (v2:(List UInt8)),Ol (qS a0 m v1 v2) 9 (zD Tryz.f9 0) ⟨[(0,vq za a0),(3,vr 0),(4,vi v1)],[.obj 1 (eL za v2)],0⟩ fun o=>match o with |⟨o_0,o_1⟩=>(.exit 0,⟨[(0,vq za a0),(3,vr 0),(4,vi o_0),(11,vb false)],[.obj 1 (eL za o_1)],0⟩):=by
 induction m with
 |zero=>intro v1 v2 o h;cases h
 |succ m ih=>exact fun v1 v2=>tlp (
  .le za a0<|.lI v1 (a0.length:Int) (fun c1=>.na v1 fun i2=>.ix0 za a0 i2 fun x3=>.ag 1<|.ix0 za v2 i2 fun x4=>.ag 0<|.sl (e:=za) (x:=x3) (c:=[.int .u8 ((x3.toNat:Nat):Int)]) rfl v2 i2<|.go (ih (w64 (v1+1)) (v2.set i2 x3))) fun c1=>.ret (v1,v2))
def Qk (n:Nat) (a0:(List UInt8)):Option (List UInt8):=
 (Q6 1 (a0.length:Int)).bind fun k1=>
 (qS a0 n 0 (List.replicate k1 0)).bind fun⟨o2_0,o2_1⟩=>
 some o2_1
theorem Ng (n:Nat):Vn (Qk n):=fun a0=>tc (
 .le za a0<|.q (.eTo (a0.length:Int) (a0.length:Int) rfl)<|.md 1 (a0.length:Int) fun k1=>.q ⟨.rep k1 [.int .u8 0],.l (eL za (List.replicate k1 0)),A.rep rfl⟩<|.lp (TH a0 n 0 (List.replicate k1 0)) fun⟨o2_0,o2_1⟩=>.ret o2_1) (zf Tryz.func9)
theorem Et {a:List UInt8} (ha:a.length<=2 ^ 20):∀(d i m:Nat) (v:List UInt8),i+d=a.length→d<m→Pre a v i→∃z,qS a m (i:Int) v=some (z,a):=by
 intro d
 induction d with
 |zero=>
  intro i m v hi hm hp
  obtain⟨m,rfl,_⟩:=zg hm
  exact⟨_,by rw[qS,if_neg (by omega),hp.done (by omega)]⟩
 |succ d ih=>
  intro i m v hi hm hp
  obtain⟨m,rfl,hm'⟩:=zg hm
  have hil:i<a.length:=by omega
  rw[qS,if_pos (by omega),zb,oB,zj hil,oB,zj (by rw[hp.1];exact hil),oB,zG (by omega)]
  exact ih (i+1) m _ (by omega) (by omega) (hp.step hil)
def y7 (a0:(List UInt8)):Option (List UInt8):=if a0.length<=2 ^ 20 then some a0 else none
theorem Pd (a0:(List UInt8)) (r:(List UInt8)) (h:y7 a0=some r):∃n,Qk n a0=some r:=by
 unfold y7 at h
 obtain⟨ha,h⟩:=zB h
 refine⟨a0.length+1,?_⟩
 obtain⟨z,hz⟩:=Et ha a0.length 0 (a0.length+1) (List.replicate a0.length 0) (by omega) (by omega) (Pre.start (by simp))
 unfold Qk
 rw[Vm ha (by decide),oB,show(0:Int)=((0:Nat):Int)from rfl,hz]
 exact h
theorem jT:Vn y7:=fun a0 r h=>(Pd a0 r h).elim fun n hn=>Ng n a0 r hn
def KE (F:(List (List UInt8))→Option (List (List UInt8))):Prop:=∀(a0:(List (List UInt8))),Oc (F a0) 113 [] [vq (zl za) a0] fun r=>(.val false [.own 1 (eL (yn 1 za) r)],[])
def qq (a0:(List (List UInt8))):Nat→Int→(List (List UInt8))→Option (Int×(List (List UInt8)))
 |0,_,_=>none
 |m+1,v1,v2=>
 if v1<(a0.length:Int)then
  (zn v1).bind fun i2=>
  (a0[i2]?).bind fun x3=>
  (y7 x3).bind fun r4=>
  (v2[i2]?).bind fun x5=>
  qq a0 m (w64 (v1+1)) (v2.set i2 r4)
 else
 some (v1,v2)
theorem RS (a0:(List (List UInt8))) (m:Nat):∀(v1:Int) (v2:(List (List UInt8))),Ol (qq a0 m v1 v2) 113 (zD Tryz.f113 0) ⟨[(0,vq (zl za) a0),(3,vr 0),(4,vi v1)],[.obj 1 (eL (yn 1 za) v2)],0⟩ fun o=>match o with |⟨o_0,o_1⟩=>(.exit 0,⟨[(0,vq (zl za) a0),(3,vr 0),(4,vi o_0),(11,vb false)],[.obj 1 (eL (yn 1 za) o_1)],0⟩):=by
 induction m with
 |zero=>intro v1 v2 o h;cases h
 |succ m ih=>exact fun v1 v2=>tlp (
  .le (zl za) a0<|.lI v1 (a0.length:Int) (fun c1=>.na v1 fun i2=>.ix0 (zl za) a0 i2 fun x3=>.cl (jT x3) fun r4=>.ag 2<|.ix0 (yn 1 za) v2 i2 fun x5=>.ag 0<|.sl (e:=(yn 1 za)) (x:=r4) (c:=[.own 1 (eL za r4)]) rfl v2 i2<|.go (ih (w64 (v1+1)) (v2.set i2 r4))) fun c1=>.ret (v1,v2))
def WA (n:Nat) (a0:(List (List UInt8))):Option (List (List UInt8)):=
 (Q6 24 (a0.length:Int)).bind fun k1=>
 (qq a0 n 0 (List.replicate k1 [])).bind fun⟨o2_0,o2_1⟩=>
 some o2_1
theorem L5 (n:Nat):KE (WA n):=fun a0=>tc (
 .le (zl za) a0<|.q (.eTo (a0.length:Int) (a0.length:Int) rfl)<|.md 24 (a0.length:Int) fun k1=>.q ⟨.rep k1 [.own 1 []],.l (eL (yn 1 za) (List.replicate k1 [])),A.rep rfl⟩<|.lp (RS a0 n 0 (List.replicate k1 [])) fun⟨o2_0,o2_1⟩=>.ret o2_1) (zf Tryz.func113)
theorem GC {a:List (List UInt8)} (ha:bsz a<=2 ^ 20):∀(d i m:Nat) (v:List (List UInt8)),i+d=a.length→d<m→Pre a v i→∃z,qq a m (i:Int) v=some (z,a):=by
 have hl:=wT a
 intro d
 induction d with
 |zero=>
  intro i m v hi hm hp
  obtain⟨m,rfl,_⟩:=zg hm
  exact⟨_,by rw[qq,if_neg (by omega),hp.done (by omega)]⟩
 |succ d ih=>
  intro i m v hi hm hp
  obtain⟨m,rfl,hm'⟩:=zg hm
  have hil:i<a.length:=by omega
  have hx:=ZD (List.getElem_mem hil)
  rw[qq,if_pos (by omega),zb,oB,zj hil,oB]
  unfold y7
  rw[if_pos (by omega),oB,zj (by rw[hp.1];exact hil),oB,zG (by omega)]
  exact ih (i+1) m _ (by omega) (by omega) (hp.step hil)
def xV (a0:(List (List UInt8))):Option (List (List UInt8)):=if bsz a0<=2 ^ 20 then some a0 else none
theorem TJ (a0:(List (List UInt8))) (r:(List (List UInt8))) (h:xV a0=some r):∃n,WA n a0=some r:=by
 unfold xV at h
 obtain⟨ha,h⟩:=zB h
 have hl:=wT a0
 refine⟨a0.length+1,?_⟩
 obtain⟨z,hz⟩:=GC ha a0.length 0 (a0.length+1) (List.replicate a0.length []) (by omega) (by omega) (Pre.start (by simp))
 unfold WA
 rw[Vm (by omega) (by decide),oB,show(0:Int)=((0:Nat):Int)from rfl,hz]
 exact h
theorem XQ:KE xV:=fun a0 r h=>(TJ a0 r h).elim fun n hn=>L5 n a0 r hn
def Y4 (F:(List GValue)→Option (List GValue)):Prop:=∀(a0:(List GValue)),Oc (F a0) 190 [] [vq zd a0] fun r=>(.val false [.own 5 (eL zt r)],[])
def Zx (F:GValue→Option GValue):Prop:=∀(a0:GValue),Oc (F a0) 132 [] [.val true (zi a0)] fun r=>(.val true (xT r),[])
def qu (G_laws_toValue:GValue→Option GValue) (a0:(List GValue)):Nat→Int→(List GValue)→Option (Int×(List GValue))
 |0,_,_=>none
 |m+1,v1,v2=>
 if v1<(a0.length:Int)then
  (zn v1).bind fun i2=>
  (a0[i2]?).bind fun x3=>
  (G_laws_toValue x3).bind fun r4=>
  (v2[i2]?).bind fun x5=>
  qu G_laws_toValue a0 m (w64 (v1+1)) (v2.set i2 r4)
 else
 some (v1,v2)
theorem RT (G_laws_toValue:GValue→Option GValue) (H_laws_toValue:Zx G_laws_toValue) (a0:(List GValue)) (m:Nat):∀(v1:Int) (v2:(List GValue)),Ol (qu G_laws_toValue a0 m v1 v2) 190 (zD Tryz.f190 0) ⟨[(0,vq zd a0),(3,vr 0),(4,vi v1)],[.obj 5 (eL zt v2)],0⟩ fun o=>match o with |⟨o_0,o_1⟩=>(.exit 0,⟨[(0,vq zd a0),(3,vr 0),(4,vi o_0),(11,vb false)],[.obj 5 (eL zt o_1)],0⟩):=by
 induction m with
 |zero=>intro v1 v2 o h;cases h
 |succ m ih=>exact fun v1 v2=>tlp (
  .le zd a0<|.lI v1 (a0.length:Int) (fun c1=>.na v1 fun i2=>.ix zr a0 i2 fun x3=>.cl (H_laws_toValue x3) fun r4=>.ag 2<|.ix yJ v2 i2 fun x5=>.ag 0<|.sl (yJ r4) v2 i2<|.go (ih (w64 (v1+1)) (v2.set i2 r4))) fun c1=>.ret (v1,v2))
def Y5 (G_laws_toValue:GValue→Option GValue) (n:Nat) (a0:(List GValue)):Option (List GValue):=
 (Q6 88 (a0.length:Int)).bind fun k1=>
 (qu G_laws_toValue a0 n 0 (List.replicate k1 (GValue.mk 0 0 [] [] []))).bind fun⟨o2_0,o2_1⟩=>
 some o2_1
theorem L6 (G_laws_toValue:GValue→Option GValue) (H_laws_toValue:Zx G_laws_toValue) (n:Nat):Y4 (Y5 G_laws_toValue n):=fun a0=>tc (
 .le zd a0<|.q (.eTo (a0.length:Int) (a0.length:Int) rfl)<|.md 88 (a0.length:Int) fun k1=>.q ⟨.rep k1 [.int .i64 0,.int .i64 0,.own 1 [],.own 1 [],.own 5 []],.l (eL zt (List.replicate k1 (GValue.mk 0 0 [] [] []))),A.rep (yJ (GValue.mk 0 0 [] [] []))⟩<|.lp (RT G_laws_toValue H_laws_toValue a0 n 0 (List.replicate k1 (GValue.mk 0 0 [] [] []))) fun⟨o2_0,o2_1⟩=>.ret o2_1) (zf Tryz.func190)
def Ql (G_laws_toValueS:(List GValue)→Option (List GValue)) (a0:GValue):Option GValue:=
 (y7 a0.S).bind fun r1=>
 (xV a0.K).bind fun r2=>
 (G_laws_toValueS a0.L).bind fun r3=>
 some (GValue.mk a0.Kind a0.N r1 r2 r3)
theorem Nh (G_laws_toValueS:(List GValue)→Option (List GValue)) (H_laws_toValueS:Y4 G_laws_toValueS):Zx (Ql G_laws_toValueS):=fun a0=>tc (
 .cl (jT a0.S) fun r1=>.cl (XQ a0.K) fun r2=>.cl (H_laws_toValueS a0.L) fun r3=>.ret (GValue.mk a0.Kind a0.N r1 r2 r3)) (zf Tryz.func132)
mutual
def wG:Nat→(List GValue)→Option (List GValue)
 |0,_=>none
 |n+1,a0=>Y5 (qv n) n a0
def qv:Nat→GValue→Option GValue
 |0,_=>none
 |n+1,a0=>Ql (wG n) a0
end
theorem Jl (n:Nat):Y4 (wG n)∧Zx (qv n):=by
 induction n with
 |zero=>exact⟨fun _ _ h=>(by rw[wG]at h;cases h),fun _ _ h=>(by rw[qv]at h;cases h)⟩
 |succ n ih=>
  obtain⟨ih_laws_toValueS,ih_laws_toValue⟩:=ih
  exact⟨fun a0 r h=>L6 (qv n) ih_laws_toValue n a0 r (by rw[wG]at h;exact h),
   fun a0 r h=>Nh (wG n) ih_laws_toValueS a0 r (by rw[qv]at h;exact h)⟩
theorem L7 {G:GValue→Option GValue} {a:List GValue} {f:Nat} (ha:a.length<=2 ^ 20) (hf:a.length<f) (hG:∀v∈a,G v=some v):Y5 G f a=some a:=by
 have loop:∀(d i m:Nat) (v:List GValue),i+d=a.length→d<m→Pre a v i→∃z,qu G a m (i:Int) v=some (z,a):=by
  intro d
  induction d with
  |zero=>
   intro i m v hi hm hp
   obtain⟨m,rfl,_⟩:=zg hm
   exact⟨_,by rw[qu,if_neg (by omega),hp.done (by omega)]⟩
  |succ d ih=>
   intro i m v hi hm hp
   obtain⟨m,rfl,hm'⟩:=zg hm
   have hil:i<a.length:=by omega
   rw[qu,if_pos (by omega),zb,oB,zj hil,oB,hG _ (List.getElem_mem hil),oB,zj (by rw[hp.1];exact hil),oB,zG (by omega)]
   exact ih (i+1) m _ (by omega) (by omega) (hp.step hil)
 obtain⟨z,hz⟩:=loop a.length 0 f (List.replicate a.length (GValue.mk 0 0 [] [] [])) (by omega) (by omega) (Pre.start (by simp))
 rw[show((0:Nat):Int)=0 from rfl]at hz
 unfold Y5
 rw[Vm ha (by decide),oB,hz];rfl
theorem Gj:∀(N:Nat) (v:GValue),vsz v<N→vsz v<=2 ^ 20→∀f:Nat,2*vsz v+3<=f→qv f v=some v:=by
 intro N
 induction N with
 |zero=>intro v hv;omega
 |succ N ih=>
  intro v hv hs f hf
  obtain⟨f,rfl,_⟩:=zg (show 0<f by omega)
  obtain⟨f,rfl,_⟩:=zg (show 0<f by omega)
  have he:=yT v
  have hl:=yS v.L
  rw[qv]
  unfold Ql y7 xV
  rw[if_pos (by omega),oB,if_pos (by omega),oB,wG,L7 (by omega) (by omega) fun x hx=> ?_,oB,GValue.eta]
  have:=yN hx
  exact ih x (by omega) (by omega) f (by omega)
def WB (a0:(List GValue)):Option (List GValue):=if yX a0<=2 ^ 20 then some a0 else none
theorem TK (a0:(List GValue)) (r:(List GValue)) (h:WB a0=some r):∃n,wG n a0=some r:=by
 unfold WB at h
 obtain⟨ha,h⟩:=zB h
 have hl:=yS a0
 refine⟨2*yX a0+5,?_⟩
 rw[wG,L7 (by omega) (by omega) fun x hx=> ?_,h]
 have:=yN hx
 exact Gj _ x (Nat.lt_succ_self _) (by omega) _ (by omega)
def jm (a0:GValue):Option GValue:=if vsz a0<=2 ^ 20 then some a0 else none
theorem Pe (a0:GValue) (r:GValue) (h:jm a0=some r):∃n,qv n a0=some r:=by
 unfold jm at h
 obtain⟨ha,h⟩:=zB h
 exact⟨2*vsz a0+3,by rw[<-h];exact Gj _ a0 (Nat.lt_succ_self _) ha _ (Nat.le_refl _)⟩
theorem zef:Y4 WB:=by
 intro a0 r h
 obtain⟨n,hn⟩:=TK a0 r h
 exact(Jl n).1 a0 r hn
theorem KF:Zx jm:=by
 intro a0 r h
 obtain⟨n,hn⟩:=Pe a0 r h
 exact(Jl n).2 a0 r hn
def Zy (a0:GEntry):Option GEntry:=
 (y7 a0.Addr).bind fun r1=>
 (jm a0.Val).bind fun r2=>
 (xV a0.Deps).bind fun r3=>
 some (GEntry.mk r1 r2 r3 a0.Taint a0.Turned)
theorem L8 (a0:GEntry):Oc (Zy a0) 131 [] [.val true (Zh a0)] fun r=>(.val true (OK r),[]):=tc (
 .cl (jT a0.Addr) fun r1=>.cl (KF a0.Val) fun r2=>.cl (XQ a0.Deps) fun r3=>.ret (GEntry.mk r1 r2 r3 a0.Taint a0.Turned)) (zf Tryz.func131)
def KG (F:(List GEntry)→Option (List GEntry)):Prop:=∀(a0:(List GEntry)),Oc (F a0) 82 [] [vq zq a0] fun r=>(.val false [.own 9 (eL zQ r)],[])
def qw (a0:(List GEntry)):Nat→Int→(List GEntry)→Option (Int×(List GEntry))
 |0,_,_=>none
 |m+1,v1,v2=>
 if v1<(a0.length:Int)then
  (zn v1).bind fun i2=>
  (a0[i2]?).bind fun x3=>
  (Zy x3).bind fun r4=>
  (v2[i2]?).bind fun x5=>
  qw a0 m (w64 (v1+1)) (v2.set i2 r4)
 else
 some (v1,v2)
theorem RU (a0:(List GEntry)) (m:Nat):∀(v1:Int) (v2:(List GEntry)),Ol (qw a0 m v1 v2) 82 (zD Tryz.f82 0) ⟨[(0,vq zq a0),(3,vr 0),(4,vi v1)],[.obj 9 (eL zQ v2)],0⟩ fun o=>match o with |⟨o_0,o_1⟩=>(.exit 0,⟨[(0,vq zq a0),(3,vr 0),(4,vi o_0),(11,vb false)],[.obj 9 (eL zQ o_1)],0⟩):=by
 induction m with
 |zero=>intro v1 v2 o h;cases h
 |succ m ih=>exact fun v1 v2=>tlp (
  .le zq a0<|.lI v1 (a0.length:Int) (fun c1=>.na v1 fun i2=>.ix ym a0 i2 fun x3=>.cl (L8 x3) fun r4=>.ag 2<|.ix zJ v2 i2 fun x5=>.ag 0<|.sl (zJ r4) v2 i2<|.go (ih (w64 (v1+1)) (v2.set i2 r4))) fun c1=>.ret (v1,v2))
def WC (n:Nat) (a0:(List GEntry)):Option (List GEntry):=
 (Q6 152 (a0.length:Int)).bind fun k1=>
 (qw a0 n 0 (List.replicate k1 (GEntry.mk [] (GValue.mk 0 0 [] [] []) [] false 0))).bind fun⟨o2_0,o2_1⟩=>
 some o2_1
theorem L9 (n:Nat):KG (WC n):=fun a0=>tc (
 .le zq a0<|.q (.eTo (a0.length:Int) (a0.length:Int) rfl)<|.md 152 (a0.length:Int) fun k1=>.q ⟨.rep k1 [.own 1 [],.int .i64 0,.int .i64 0,.own 1 [],.own 1 [],.own 5 [],.own 1 [],.bool false,.int .i64 0],.l (eL zQ (List.replicate k1 (GEntry.mk [] (GValue.mk 0 0 [] [] []) [] false 0))),A.rep (zJ (GEntry.mk [] (GValue.mk 0 0 [] [] []) [] false 0))⟩<|.lp (RU a0 n 0 (List.replicate k1 (GEntry.mk [] (GValue.mk 0 0 [] [] []) [] false 0))) fun⟨o2_0,o2_1⟩=>.ret o2_1) (zf Tryz.func82)
theorem GD {a:List GEntry} (ha:a.length<=2 ^ 20) (hG:∀v∈a,Zy v=some v):∀(d i m:Nat) (v:List GEntry),i+d=a.length→d<m→Pre a v i→∃z,qw a m (i:Int) v=some (z,a):=by
 intro d
 induction d with
 |zero=>
  intro i m v hi hm hp
  obtain⟨m,rfl,_⟩:=zg hm
  exact⟨_,by rw[qw,if_neg (by omega),hp.done (by omega)]⟩
 |succ d ih=>
  intro i m v hi hm hp
  obtain⟨m,rfl,hm'⟩:=zg hm
  have hil:i<a.length:=by omega
  rw[qw,if_pos (by omega),zb,oB,zj hil,oB,hG _ (List.getElem_mem hil),oB,zj (by rw[hp.1];exact hil),oB,zG (by omega)]
  exact ih (i+1) m _ (by omega) (by omega) (hp.step hil)
theorem Ak {v:GEntry} (h:esz v<=2 ^ 20):Zy v=some v:=by
 unfold esz at h
 unfold Zy y7 jm xV
 rw[if_pos (by omega),oB,if_pos (by omega),oB,if_pos (by omega),oB]
 cases v;rfl
def vK (a0:(List GEntry)):Option (List GEntry):=if yG a0<=2 ^ 20 then some a0 else none
theorem TM (a0:(List GEntry)) (r:(List GEntry)) (h:vK a0=some r):∃n,WC n a0=some r:=by
 unfold vK at h
 obtain⟨ha,h⟩:=zB h
 have hl:=kj a0
 refine⟨a0.length+1,?_⟩
 obtain⟨z,hz⟩:=GD (a:=a0) (by omega) (fun v hv=>Ak (by have:=Wg hv;omega)) a0.length 0 (a0.length+1) (List.replicate a0.length (GEntry.mk [] (GValue.mk 0 0 [] [] []) [] false 0)) (by omega) (by omega) (Pre.start (by simp))
 unfold WC
 rw[Vm (by omega) (by decide),oB,show(0:Int)=((0:Nat):Int)from rfl]
 exact(congrArg (fun x=>Option.bind x _) hz).trans h
theorem PY:KG vK:=fun a0 r h=>(TM a0 r h).elim fun n hn=>L9 n a0 r hn
def Xf (a0:GState):Option GState:=
 (y7 a0.Pending).bind fun r1=>
 (vK a0.Entries).bind fun r2=>
 some (GState.mk a0.Serial a0.Open r1 a0.Act r2)
theorem LA (a0:GState):Oc (Xf a0) 39 [] [.val true (y9 a0)] fun r=>(.val true (Ry r),[]):=tc (
 .cl (jT a0.Pending) fun r1=>.cl (PY a0.Entries) fun r2=>.ret (GState.mk a0.Serial a0.Open r1 a0.Act r2)) (zf Tryz.func39)
def Zz (a0:GEvent):Option GEvent:=
 (y7 a0.Addr).bind fun r1=>
 (jm a0.Val).bind fun r2=>
 (xV a0.Deps).bind fun r3=>
 some (GEvent.mk a0.Kind r1 a0.Act r2 r3)
theorem LB (a0:GEvent):Oc (Zz a0) 83 [] [.val true (ve a0)] fun r=>(.val true (Db r),[]):=tc (
 .cl (jT a0.Addr) fun r1=>.cl (KF a0.Val) fun r2=>.cl (XQ a0.Deps) fun r3=>.ret (GEvent.mk a0.Kind r1 a0.Act r2 r3)) (zf Tryz.func83)
def KH (F:(List GEvent)→Option (List GEvent)):Prop:=∀(a0:(List GEvent)),Oc (F a0) 40 [] [vq zN a0] fun r=>(.val false [.own 9 (eL wD r)],[])
def qx (a0:(List GEvent)):Nat→Int→(List GEvent)→Option (Int×(List GEvent))
 |0,_,_=>none
 |m+1,v1,v2=>
 if v1<(a0.length:Int)then
  (zn v1).bind fun i2=>
  (a0[i2]?).bind fun x3=>
  (Zz x3).bind fun r4=>
  (v2[i2]?).bind fun x5=>
  qx a0 m (w64 (v1+1)) (v2.set i2 r4)
 else
 some (v1,v2)
theorem RV (a0:(List GEvent)) (m:Nat):∀(v1:Int) (v2:(List GEvent)),Ol (qx a0 m v1 v2) 40 (zD Tryz.f40 0) ⟨[(0,vq zN a0),(3,vr 0),(4,vi v1)],[.obj 9 (eL wD v2)],0⟩ fun o=>match o with |⟨o_0,o_1⟩=>(.exit 0,⟨[(0,vq zN a0),(3,vr 0),(4,vi o_0),(11,vb false)],[.obj 9 (eL wD o_1)],0⟩):=by
 induction m with
 |zero=>intro v1 v2 o h;cases h
 |succ m ih=>exact fun v1 v2=>tlp (
  .le zN a0<|.lI v1 (a0.length:Int) (fun c1=>.na v1 fun i2=>.ix ZO a0 i2 fun x3=>.cl (LB x3) fun r4=>.ag 2<|.ix yD v2 i2 fun x5=>.ag 0<|.sl (yD r4) v2 i2<|.go (ih (w64 (v1+1)) (v2.set i2 r4))) fun c1=>.ret (v1,v2))
def WD (n:Nat) (a0:(List GEvent)):Option (List GEvent):=
 (Q6 152 (a0.length:Int)).bind fun k1=>
 (qx a0 n 0 (List.replicate k1 (GEvent.mk 0 [] 0 (GValue.mk 0 0 [] [] []) []))).bind fun⟨o2_0,o2_1⟩=>
 some o2_1
theorem LC (n:Nat):KH (WD n):=fun a0=>tc (
 .le zN a0<|.q (.eTo (a0.length:Int) (a0.length:Int) rfl)<|.md 152 (a0.length:Int) fun k1=>.q ⟨.rep k1 [.int .i64 0,.own 1 [],.int .i64 0,.int .i64 0,.int .i64 0,.own 1 [],.own 1 [],.own 5 [],.own 1 []],.l (eL wD (List.replicate k1 (GEvent.mk 0 [] 0 (GValue.mk 0 0 [] [] []) []))),A.rep (yD (GEvent.mk 0 [] 0 (GValue.mk 0 0 [] [] []) []))⟩<|.lp (RV a0 n 0 (List.replicate k1 (GEvent.mk 0 [] 0 (GValue.mk 0 0 [] [] []) []))) fun⟨o2_0,o2_1⟩=>.ret o2_1) (zf Tryz.func40)
theorem GE {a:List GEvent} (ha:a.length<=2 ^ 20) (hG:∀v∈a,Zz v=some v):∀(d i m:Nat) (v:List GEvent),i+d=a.length→d<m→Pre a v i→∃z,qx a m (i:Int) v=some (z,a):=by
 intro d
 induction d with
 |zero=>
  intro i m v hi hm hp
  obtain⟨m,rfl,_⟩:=zg hm
  exact⟨_,by rw[qx,if_neg (by omega),hp.done (by omega)]⟩
 |succ d ih=>
  intro i m v hi hm hp
  obtain⟨m,rfl,hm'⟩:=zg hm
  have hil:i<a.length:=by omega
  rw[qx,if_pos (by omega),zb,oB,zj hil,oB,hG _ (List.getElem_mem hil),oB,zj (by rw[hp.1];exact hil),oB,zG (by omega)]
  exact ih (i+1) m _ (by omega) (by omega) (hp.step hil)
theorem Al {v:GEvent} (h:jA v<=2 ^ 20):Zz v=some v:=by
 unfold jA at h
 unfold Zz y7 jm xV
 rw[if_pos (by omega),oB,if_pos (by omega),oB,if_pos (by omega),oB]
 cases v;rfl
def vL (a0:(List GEvent)):Option (List GEvent):=if y3 a0<=2 ^ 20 then some a0 else none
theorem TN (a0:(List GEvent)) (r:(List GEvent)) (h:vL a0=some r):∃n,WD n a0=some r:=by
 unfold vL at h
 obtain⟨ha,h⟩:=zB h
 have hl:=YT a0
 refine⟨a0.length+1,?_⟩
 obtain⟨z,hz⟩:=GE (a:=a0) (by omega) (fun v hv=>Al (by have:=U9 hv;omega)) a0.length 0 (a0.length+1) (List.replicate a0.length (GEvent.mk 0 [] 0 (GValue.mk 0 0 [] [] []) [])) (by omega) (by omega) (Pre.start (by simp))
 unfold WD
 rw[Vm (by omega) (by decide),oB,show(0:Int)=((0:Nat):Int)from rfl]
 exact(congrArg (fun x=>Option.bind x _) hz).trans h
theorem PZ:KH vL:=fun a0 r h=>(TN a0 r h).elim fun n hn=>LC n a0 r hn
def ZV (a0:GHistory):Option GHistory:=
 (Xf a0.Base).bind fun r1=>
 (vL a0.Events).bind fun r2=>
 some (GHistory.mk r1 r2 a0.Safe)
theorem Pf (a0:GHistory):Oc (ZV a0) 8 [] [.val true (xv a0)] fun r=>(.val true (A6 r),[]):=tc (
 .cl (LA a0.Base) fun r1=>.cl (PZ a0.Events) fun r2=>.ret (GHistory.mk r1 r2 a0.Safe)) (zf Tryz.func8)
def R9 (F:(List UInt8)→Option Bool):Prop:=∀(a0:(List UInt8)),Oc (F a0) 156 [] [vq za a0] fun r=>(vb r,[])
def jn (a0:(List UInt8)):Nat→Int→Option (Bool⊕Int)
 |0,_=>none
 |m+1,v1=>
 if v1<(a0.length:Int)then
  (zn v1).bind fun i2=>
  (a0[i2]?).bind fun x3=>
  if((x3.toNat:Nat):Int)<97 then
   some (.inl false)
  else
  if 122<((x3.toNat:Nat):Int)then
   some (.inl false)
  else
  jn a0 m (w64 (v1+1))
 else
 some (.inr v1)
theorem Pg (a0:(List UInt8)) (m:Nat):∀(v1:Int),Ol (jn a0 m v1) 156 (zD Tryz.f156 0) ⟨[(0,vq za a0),(3,vi v1)],[],0⟩ fun o=>match o with | .inl o_0=>(.ret,⟨[(2,vb o_0)],[],0⟩)| .inr (o_1)=>(.exit 0,⟨[(0,vq za a0),(3,vi o_1),(15,vb false)],[],0⟩):=by
 induction m with
 |zero=>intro v1 o h;cases h
 |succ m ih=>exact fun v1=>tlp (
  .le za a0<|.lI v1 (a0.length:Int) (fun c1=>.na v1 fun i2=>.ix0 za a0 i2 fun x3=>.lI ((x3.toNat:Nat):Int) 97 (fun c4=>.ret (.inl false)) fun c4=>.ag 1<|.ag 0<|.lI 122 ((x3.toNat:Nat):Int) (fun c5=>.ret (.inl false)) fun c5=>.go (ih (w64 (v1+1)))) fun c1=>.ret (.inr v1))
def QZ (n:Nat) (a0:(List UInt8)):Option Bool:=
 if(a0.length:Int)<1 then
  some false
 else
 if 8<(a0.length:Int)then
  some false
 else
 (jn a0 n 0).bind fun o3=>
 match o3 with
 | .inl o3_0=>
  some o3_0
 | .inr (o3_1)=>
  some true
theorem GF (n:Nat):R9 (QZ n):=fun a0=>tc (
 .le za a0<|.lI (a0.length:Int) 1 (fun c1=>.ret false) fun c1=>.le za a0<|.lI 8 (a0.length:Int) (fun c2=>.ret false) fun c2=>.l2 (Pg a0 n 0) (fun o3_0=>.ret o3_0) fun o3_1=>.ret true) (zf Tryz.func156)
theorem Oa {a:List UInt8} (ha:a.length<=2 ^ 20):∀(d i m:Nat),i+d=a.length→d<m→∃z,jn a m (i:Int)=some (if(a.drop i).all (inB 97 122)=true then .inr z else .inl false):=by
 intro d
 induction d with
 |zero=>
  intro i m hi hm
  obtain⟨m,rfl,_⟩:=zg hm
  exact⟨_,by rw[jn,if_neg (by omega),List.drop_eq_nil_of_le (by omega)];rfl⟩
 |succ d ih=>
  intro i m hi hm
  obtain⟨m,rfl,hm'⟩:=zg hm
  have hil:i<a.length:=by omega
  rw[jn,if_pos (by omega),zb,oB,zj hil,oB,zG (by omega),wb hil,List.all_cons]
  by_cases h1:((a[i].toNat:Nat):Int)<97
  ·exact⟨0,by rw[if_pos h1,if_neg];simp[inB];omega⟩
  ·rw[if_neg h1]
   by_cases h2:(122:Int)<((a[i].toNat:Nat):Int)
   ·exact⟨0,by rw[if_pos h2,if_neg];simp[inB];omega⟩
   ·rw[if_neg h2,show inB 97 122 a[i]=true by simp[inB];omega,Bool.true_and]
    exact ih (i+1) m (by omega) (by omega)
def qZ (a0:(List UInt8)):Option Bool:=if a0.length<=2 ^ 20 then some (vW a0)else none
theorem Ob (a0:(List UInt8)) (r:Bool) (h:qZ a0=some r):∃n,QZ n a0=some r:=by
 unfold qZ at h
 obtain⟨ha,h⟩:=zB h
 refine⟨a0.length+1,?_⟩
 obtain⟨z,hz⟩:=Oa ha a0.length 0 (a0.length+1) (by omega) (by omega)
 rw[show((0:Nat):Int)=0 from rfl,List.drop_zero]at hz
 unfold QZ
 rw[<-h,hz]
 unfold vW
 by_cases h1:1<=a0.length
 ·rw[if_neg (by omega)]
  by_cases hl:a0.length<=8
  ·rw[if_neg (by omega),decide_eq_true ⟨h1,hl⟩]
   cases a0.all (inB 97 122) <;> rfl
  ·rw[if_pos (by omega),decide_eq_false (fun h=>hl h.2)];rfl
 ·rw[if_pos (by omega),decide_eq_false (fun h=>h1 h.1)];rfl
theorem Qm:R9 qZ:=fun a0 r h=>(Ob a0 r h).elim fun n hn=>GF n a0 r hn
def Vo (F:(List UInt8)→Option ((List UInt8)×(List UInt8)×Bool)):Prop:=∀(a0:(List UInt8)),Oc (F a0) 251 [] [vq za a0] fun r=>(.tup [(false,[cq za r.1]),(false,[cq za r.2.1]),(false,[.bool r.2.2])],[])
def qT (a0:(List UInt8)):Nat→Int→Option Int
 |0,_=>none
 |m+1,v1=>
 if v1<(a0.length:Int)then
  (zn v1).bind fun i2=>
  (a0[i2]?).bind fun x3=>
  if((x3.toNat:Nat):Int)=91 then
   some v1
  else
  qT a0 m (w64 (v1+1))
 else
 some v1
theorem TO (a0:(List UInt8)) (m:Nat):∀(v1:Int),Ol (qT a0 m v1) 251 (zD Tryz.f251 0) ⟨[(0,vq za a0),(5,vi v1)],[],0⟩ fun o=>(.exit 0,⟨[(0,vq za a0),(5,vi o),(20,vb false)],[],0⟩):=by
 induction m with
 |zero=>intro v1 o h;cases h
 |succ m ih=>exact fun v1=>tlp (
  .le za a0<|.lI v1 (a0.length:Int) (fun c1=>.na v1 fun i2=>.ix0 za a0 i2 fun x3=>.eI ((x3.toNat:Nat):Int) 91 (fun c4=>.ret v1) fun c4=>.go (ih (w64 (v1+1)))) fun c1=>.ret v1)
def wA (a0:(List UInt8)) (v1:Int) (v2:(List UInt8)) (v3:(List UInt8)):Nat→Int→Option ((Bool×(List UInt8))⊕Int)
 |0,_=>none
 |m+1,v4=>
 if v4<(v3.length:Int)then
  (zn v4).bind fun i2=>
  (v3[i2]?).bind fun x3=>
  if((x3.toNat:Nat):Int)<48 then
   some (.inl (false,[]))
  else
  if 57<((x3.toNat:Nat):Int)then
   some (.inl (false,[]))
  else
  wA a0 v1 v2 v3 m (w64 (v4+1))
 else
 some (.inr v4)
theorem QK (a0:(List UInt8)) (v1:Int) (v2:(List UInt8)) (v3:(List UInt8)) (m:Nat):∀(v4:Int),Ol (wA a0 v1 v2 v3 m v4) 251 (zD Tryz.f251 1) ⟨[(0,vq za a0),(5,vi v1),(6,vq za v2),(8,vq za v3),(9,vi v4)],[],0⟩ fun o=>match o with | .inl ⟨o_0_0,o_0_1⟩=>(.ret,⟨[(2,vr 0),(3,vr 1),(4,vb o_0_0)],[.obj 1 (eL za o_0_1),.obj 1 (eL za o_0_1)],0⟩)| .inr (o_1)=>(.exit 2,⟨[(0,vq za a0),(5,vi v1),(6,vq za v2),(8,vq za v3),(9,vi o_1),(98,vb false)],[],0⟩):=by
 induction m with
 |zero=>intro v4 o h;cases h
 |succ m ih=>exact fun v4=>tlp (
  .le za v3<|.lI v4 (v3.length:Int) (fun c1=>.na v4 fun i2=>.ix0 za v3 i2 fun x3=>.lI ((x3.toNat:Nat):Int) 48 (fun c4=>.ret (.inl (false,[]))) fun c4=>.ag 1<|.ag 0<|.lI 57 ((x3.toNat:Nat):Int) (fun c5=>.ret (.inl (false,[]))) fun c5=>.go (ih (w64 (v4+1)))) fun c1=>.ret (.inr v4))
def Xg (n:Nat) (a0:(List UInt8)):Option ((List UInt8)×(List UInt8)×Bool):=
 (qT a0 n 0).bind fun o1=>
 (zn o1).bind fun i2=>
 (qK a0 none (some i2)).bind fun s3=>
 (qZ s3).bind fun r4=>
 match r4 with
 |true=>
  (qK a0 (some i2) none).bind fun s5=>
  if(s5.length:Int)=0 then
   some (a0,s5,true)
  else
  if(s5.length:Int)<3 then
   some ([],[],false)
  else
  (zn (w64 ((s5.length:Int) - 1))).bind fun i8=>
  (s5[i8]?).bind fun x9=>
  if((x9.toNat:Nat):Int)=93 then
   (qK s5 (some 1) (some i8)).bind fun s11=>
   (s11[0]?).bind fun x12=>
   if((x12.toNat:Nat):Int)=34 then
    if(s11.length:Int)<3 then
     some ([],[],false)
    else
    (zn (w64 ((s11.length:Int) - 1))).bind fun i15=>
    (s11[i15]?).bind fun x16=>
    if((x16.toNat:Nat):Int)=34 then
     (qK s11 (some 1) (some i15)).bind fun s18=>
     (qZ s18).bind fun r19=>
     match r19 with
     |true=>
     some (s3,s5,true)
     |false=>
     some ([],[],false)
    else
    some ([],[],false)
   else
   if 2<(s11.length:Int)then
    some ([],[],false)
   else
   if(s11.length:Int)=2 then
    if((x12.toNat:Nat):Int)=48 then
     some ([],[],false)
    else
    (wA a0 o1 s5 s11 n 0).bind fun o17=>
    match o17 with
    | .inl ⟨o17_0_0,o17_0_1⟩=>
     some (o17_0_1,o17_0_1,o17_0_0)
    | .inr (o17_1)=>
     some (s3,s5,true)
   else
   (wA a0 o1 s5 s11 n 0).bind fun o16=>
   match o16 with
   | .inl ⟨o16_0_0,o16_0_1⟩=>
    some (o16_0_1,o16_0_1,o16_0_0)
   | .inr (o16_1)=>
    some (s3,s5,true)
  else
  some ([],[],false)
 |false=>
  some ([],[],false)
theorem Ni (n:Nat):Vo (Xg n):=fun a0=>tc (
 .lp (TO a0 n 0) fun o1=>.na o1 fun i2=>.ct za a0 none (some i2) fun s3=>.un zH a0<|.cl (Qm s3) fun r4=>.vN 0 r4 (
  .ag 3<|.ct za a0 (some i2) none fun s5=>.un zH a0<|.le za s5<|.eI (s5.length:Int) 0 (fun c6=>.ret (a0,s5,true)) fun c6=>.le za s5<|.lI (s5.length:Int) 3 (fun c7=>.vw zH []<|.vw zH []<|.ret ([],[],false)) fun c7=>.na (w64 ((s5.length:Int) - 1)) fun i8=>.ix0 za s5 i8 fun x9=>.eI ((x9.toNat:Nat):Int) 93 (fun c10=>.nl 1<|.ag 1<|.ct za s5 (some 1) (some i8) fun s11=>.un zH s5<|.nl 0<|.ix0 za s11 0 fun x12=>.eI ((x12.toNat:Nat):Int) 34 (fun c13=>.le za s11<|.lI (s11.length:Int) 3 (fun c14=>.vw zH []<|.vw zH []<|.ret ([],[],false)) fun c14=>.le za s11<|.na (w64 ((s11.length:Int) - 1)) fun i15=>.ix0 za s11 i15 fun x16=>.eI ((x16.toNat:Nat):Int) 34 (fun c17=>.le za s11<|.nl 1<|.ag 1<|.ct za s11 (some 1) (some i15) fun s18=>.un zH s11<|.cl (Qm s18) fun r19=>.vN 2 r19 (
      .ag 13<|.ag 12<|.un zH a0<|.ret (s3,s5,true))<|.vw zH []<|.vw zH []<|.ret ([],[],false)) fun c17=>.vw zH []<|.vw zH []<|.ret ([],[],false)) fun c13=>.le za s11<|.lI 2 (s11.length:Int) (fun c14=>.vw zH []<|.vw zH []<|.ret ([],[],false)) fun c14=>.le za s11<|.eI (s11.length:Int) 2 (fun c15=>.nl 0<|.ag 0<|.eI ((x12.toNat:Nat):Int) 48 (fun c16=>.vw zH []<|.vw zH []<|.ret ([],[],false)) fun c16=>.l2 (QK a0 o1 s5 s11 n 0) (fun⟨o17_0_0,o17_0_1⟩=>.vw zH o17_0_1<|.vw zH o17_0_1<|.ret (o17_0_1,o17_0_1,o17_0_0)) fun o17_1=>.ag 9<|.ag 8<|.un zH a0<|.ret (s3,s5,true)) fun c15=>.l2 (QK a0 o1 s5 s11 n 0) (fun⟨o16_0_0,o16_0_1⟩=>.vw zH o16_0_1<|.vw zH o16_0_1<|.ret (o16_0_1,o16_0_1,o16_0_0)) fun o16_1=>.ag 9<|.ag 8<|.un zH a0<|.ret (s3,s5,true)) fun c10=>.vw zH []<|.vw zH []<|.ret ([],[],false))<|.vw zH []<|.vw zH []<|.ret ([],[],false)) (zf Tryz.func251)
theorem zeg {a:List UInt8} (ha:a.length<=2 ^ 20):∀(d i m:Nat),i+d=a.length→d<m→qT a m (i:Int)=some ((i+(Yx (a.drop i)).length:Nat):Int):=by
 intro d
 induction d with
 |zero=>
  intro i m hi hm
  obtain⟨m,rfl,_⟩:=zg hm
  rw[qT,if_neg (by omega),List.drop_eq_nil_of_le (by omega)];rfl
 |succ d ih=>
  intro i m hi hm
  obtain⟨m,rfl,hm'⟩:=zg hm
  have hil:i<a.length:=by omega
  rw[qT,if_pos (by omega),zb,oB,zj hil,oB,wb hil]
  unfold Yx
  rw[List.takeWhile_cons]
  by_cases h:a[i]=91
  ·rw[h,if_pos (by decide),if_neg (by simp)];rfl
  ·have:¬((a[i].toNat:Nat):Int)=91:=fun e=>h (UInt8.toNat_inj.1 (by show a[i].toNat=91;omega))
   rw[if_neg this,if_pos (by simpa using h),zG (by omega),ih (i+1) m (by omega) (by omega)]
   unfold Yx
   rw[List.length_cons]
   congr 2;omega
theorem ziq {a v2 l:List UInt8} {v1:Int} (hl:l.length<=2 ^ 20):∀(d i m:Nat),i+d=l.length→d<m→∃z,wA a v1 v2 l m (i:Int)=some (if(l.drop i).all (inB 48 57)=true then .inr z else .inl (false,[])):=by
 intro d
 induction d with
 |zero=>
  intro i m hi hm
  obtain⟨m,rfl,_⟩:=zg hm
  exact⟨_,by rw[wA,if_neg (by omega),List.drop_eq_nil_of_le (by omega)];rfl⟩
 |succ d ih=>
  intro i m hi hm
  obtain⟨m,rfl,hm'⟩:=zg hm
  have hil:i<l.length:=by omega
  rw[wA,if_pos (by omega),zb,oB,zj hil,oB,zG (by omega),wb hil,List.all_cons]
  by_cases h1:((l[i].toNat:Nat):Int)<48
  ·exact⟨0,by rw[if_pos h1,if_neg];simp[inB];omega⟩
  ·rw[if_neg h1]
   by_cases h2:(57:Int)<((l[i].toNat:Nat):Int)
   ·exact⟨0,by rw[if_pos h2,if_neg];simp[inB];omega⟩
   ·rw[if_neg h2,show inB 48 57 l[i]=true by simp[inB];omega,Bool.true_and]
    exact ih (i+1) m (by omega) (by omega)
def LD (a:List UInt8):(List UInt8)×(List UInt8)×Bool:=if y5 a=true then(Yx a,Zj a,true)else([],[],false)
theorem Ho {x:UInt8} {n:Nat} (hn:n<256):((x.toNat:Nat):Int)=(n:Int) ↔ x=UInt8.ofNat n:=by
 constructor
 ·intro h
  refine UInt8.toNat_inj.1 ?_
  rw[UInt8.toNat_ofNat_of_lt' hn];omega
 ·intro h
  subst h
  rw[UInt8.toNat_ofNat_of_lt' hn]
theorem D4 {a:List UInt8} (ha:a.length<=2 ^ 20):Xg (a.length+5) a=some (LD a):=by
 have hlen:=Dh a
 have h0:=zeg ha a.length 0 (a.length+5) (by omega) (by omega)
 rw[List.drop_zero,Nat.zero_add,show((0:Nat):Int)=0 from rfl]at h0
 unfold Xg
 rw[h0,oB,zb,oB,My (by omega),oB,Bt]
 unfold qZ
 rw[if_pos (by omega),oB]
 unfold LD
 have hfalse:∀{x:(List UInt8)×(List UInt8)×Bool},y5 a=false→some (([]:List UInt8),([]:List UInt8),false)=some (if y5 a=true then x else([],[],false)):=fun h=>by rw[h];rfl
 cases hn:vW (Yx a)with
 |false=>exact hfalse (by unfold y5;rw[hn];rfl)
 |true=>
  dsimp only
  have hA:y5 a=(if Zj a=[]then true else if((Zj a).drop 1).getLast? =some 93 then A8 ((Zj a).drop 1).dropLast else false):=by unfold y5;rw[hn,Bool.true_and]
  rw[R2 (by omega),oB,Bu]
  by_cases hr:Zj a=[]
  ·rw[hr,if_pos (by simp),hA,if_pos hr]
   have:=Mz a
   rw[hr,List.append_nil]at this
   rw[this];rfl
  obtain⟨t,ht⟩:=Bv hr
  rw[ht]at hlen hA ⊢
  rw[if_neg (by simp)]at hA
  simp only[List.drop_succ_cons,List.drop_zero]at hA
  rw[if_neg (by simp;omega)]
  by_cases h3:((91::t:List UInt8).length:Int)<3
  ·rw[if_pos h3]
   refine hfalse ?_
   rw[hA]
   simp only[List.length_cons]at h3
   match t,h3 with
   |[],_=>rfl
   |[x],_=>
    split
    ·rfl
    ·rfl
   |x::y::t,h3=>simp at h3;omega
  rw[if_neg h3]
  simp only[List.length_cons]at h3
  have ht0:0<t.length:=by omega
  rw[show w64 (((91::t:List UInt8).length:Int) - 1)=(((91::t:List UInt8).length - 1:Nat):Int)from Zd (by simp only[List.length_cons]at hlen ⊢;omega) (by simp),zb,oB]
  have hlast:(91::t:List UInt8)[(91::t:List UInt8).length - 1]? =t.getLast? :=by
   rw[Dg (by simp),List.getLast?_cons]
   cases t with
   |nil=>simp at ht0
   |cons x t=>rw[List.getLast?_cons];rfl
  rw[hlast]
  obtain⟨x,hx⟩:∃x,t.getLast? =some x:=by
   cases t with
   |nil=>simp at ht0
   |cons y t=>exact⟨_,List.getLast?_cons⟩
  rw[hx,oB]
  rw[hx]at hA
  have htrue:∀{x:(List UInt8)×(List UInt8)×Bool},y5 a=true→some x=some (if y5 a=true then x else([],[],false)):=fun h=>by rw[h];rfl
  by_cases h93:¬x=93
  ·rw[if_neg (show¬((x.toNat:Nat):Int)=93 from fun h=>h93 ((Ho (n:=93) (by decide)).1 h))]
   refine hfalse ?_
   rw[hA,if_neg (by simpa using h93)]
  have h93:x=93:=Classical.not_not.1 h93
  subst h93
  rw[if_pos (by decide)]
  rw[if_pos rfl]at hA
  have hmid:=Bs (l:=91::t) (by simp;omega)
  rw[List.drop_succ_cons,List.drop_zero]at hmid
  rw[hmid,oB]
  have hdl:t.dropLast.length=t.length - 1:=List.length_dropLast
  generalize t.dropLast=l at hdl hA ⊢
  cases l with
  |nil=>simp at hdl;omega
  |cons c r=>
  rw[show(c::r:List UInt8)[0]? =some c from rfl,oB]
  unfold A8 at hA
  rw[show(c::r:List UInt8)[0]? =some c from rfl,List.drop_succ_cons,List.drop_zero]at hA
  have hcl:(c::r:List UInt8).length<=2 ^ 20:=by simp only[List.length_cons]at hdl hlen ⊢;omega
  by_cases h34:c=34
  ·subst h34
   rw[if_pos (by decide)]
   rw[if_pos rfl]at hA
   by_cases hl3:((34::r:List UInt8).length:Int)<3
   ·rw[if_pos hl3]
    refine hfalse ?_
    rw[hA]
    simp only[List.length_cons]at hl3
    match r,hl3 with
    |[],_=>rfl
    |[y],_=>
     split
     ·rfl
     ·rfl
    |x::y::r,h=>simp at h;omega
   rw[if_neg hl3]
   simp only[List.length_cons]at hl3
   have hr0:0<r.length:=by omega
   rw[show w64 (((34::r:List UInt8).length:Int) - 1)=(((34::r:List UInt8).length - 1:Nat):Int)from Zd (by omega) (by simp),zb,oB]
   have hlast2:(34::r:List UInt8)[(34::r:List UInt8).length - 1]? =r.getLast? :=by
    rw[Dg (by simp),List.getLast?_cons]
    cases r with
    |nil=>simp at hr0
    |cons x r=>rw[List.getLast?_cons];rfl
   obtain⟨y,hy⟩:∃y,r.getLast? =some y:=by
    cases r with
    |nil=>simp at hr0
    |cons y r=>exact⟨_,List.getLast?_cons⟩
   rw[hlast2,hy,oB]
   rw[hy]at hA
   by_cases hy34:y=34
   ·subst hy34
    rw[if_pos (by decide)]
    rw[if_pos rfl]at hA
    have hm2:=Bs (l:=34::r) (by simp;omega)
    rw[List.drop_succ_cons,List.drop_zero]at hm2
    rw[hm2,oB,if_pos (by rw[List.length_dropLast];simp only[List.length_cons]at hcl;omega),oB]
    cases hk:vW r.dropLast with
    |true=>exact htrue (by rw[hA,hk])
    |false=>exact hfalse (by rw[hA,hk])
   ·rw[if_neg (show¬((y.toNat:Nat):Int)=34 from fun h=>hy34 ((Ho (n:=34) (by decide)).1 h))]
    exact hfalse (by rw[hA,if_neg (by simpa using hy34)])
  ·rw[if_neg (show¬((c.toNat:Nat):Int)=34 from fun h=>h34 ((Ho (n:=34) (by decide)).1 h))]
   rw[if_neg (by simpa using h34)]at hA
   unfold R3 at hA
   rw[show(c::r:List UInt8)[0]? =some c from rfl]at hA
   obtain⟨z,hz⟩:=ziq (a:=a) (v2:=91::t) (l:=c::r) (v1:=((Yx a).length:Int)) hcl (c::r).length 0 (a.length+5) (by omega) (by simp only[List.length_cons]at hlen hdl ⊢;omega)
   rw[List.drop_zero,show((0:Nat):Int)=0 from rfl]at hz
   by_cases h2:(2:Int)<((c::r:List UInt8).length:Int)
   ·rw[if_pos h2]
    exact hfalse (by rw[hA,decide_eq_false (by omega)];rfl)
   rw[if_neg h2]
   have h12:decide (1<=(c::r:List UInt8).length∧(c::r:List UInt8).length<=2)=true:=decide_eq_true ⟨by simp,by omega⟩
   rw[h12,Bool.true_and]at hA
   have fin:(decide ((c::r:List UInt8).length=2)&&decide (some c=some 48))=false→y5 a=(c::r:List UInt8).all (inB 48 57):=fun h=>by
    rw[h,Bool.not_false,Bool.true_and]at hA
    exact hA
   by_cases he:((c::r:List UInt8).length:Int)=2
   ·rw[if_pos he]
    by_cases h48:c=48
    ·subst h48
     rw[if_pos (by decide)]
     exact hfalse (by rw[hA,decide_eq_true (by omega)];rfl)
    ·rw[if_neg (show¬((c.toNat:Nat):Int)=48 from fun h=>h48 ((Ho (n:=48) (by decide)).1 h)),hz,oB,fin (by rw[decide_eq_false (p:=some c=some 48) (by simpa using h48),Bool.and_false])]
     cases (c::r:List UInt8).all (inB 48 57) <;> rfl
   ·rw[if_neg he,hz,oB,fin (by rw[decide_eq_false (by omega),Bool.false_and])]
    cases (c::r:List UInt8).all (inB 48 57) <;> rfl
def kD (a0:(List UInt8)):Option ((List UInt8)×(List UInt8)×Bool):=if a0.length<=2 ^ 20 then some (LD a0)else none
theorem Ph (a0:(List UInt8)) (r:((List UInt8)×(List UInt8)×Bool)) (h:kD a0=some r):∃n,Xg n a0=some r:=by
 unfold kD at h
 obtain⟨ha,h⟩:=zB h
 exact⟨a0.length+5,by rw[<-h];exact D4 ha⟩
theorem zeh {a:List UInt8} (h:a.length<=2 ^ 20):(kD a).bind (fun r=>some r.2.2)=some (y5 a):=by
 unfold kD LD
 rw[if_pos h,oB]
 cases y5 a <;> rfl
theorem LE:Vo kD:=fun a0 r h=>(Ph a0 r h).elim fun n hn=>Ni n a0 r hn
def wX (a0:(List UInt8)):Option Bool:=
 (kD a0).bind fun⟨r1_0,r1_1,r1_2⟩=>
 some r1_2
theorem jo (a0:(List UInt8)):Oc (wX a0) 186 [] [vq za a0] fun r=>(vb r,[]):=tc (
 .cl (LE a0) fun⟨r1_0,r1_1,r1_2⟩=>.ret r1_2) (zf Tryz.func186)
def RA (F:GState→(List UInt8)→Option Int):Prop:=∀(a0:GState) (a1:(List UInt8)),Oc (F a0 a1) 76 [] [.val true (y9 a0),vq za a1] fun r=>(vi r,[])
def jq (a1:(List UInt8)) (a0:GState):Nat→Int→Option (Int⊕Int)
 |0,_=>none
 |m+1,v1=>
 if v1<(a0.Entries.length:Int)then
  (zn v1).bind fun i2=>
  (a0.Entries[i2]?).bind fun x3=>
  if x3.Addr=a1 then
   some (.inl v1)
  else
  jq a1 a0 m (w64 (v1+1))
 else
 some (.inr v1)
theorem Pi (a1:(List UInt8)) (a0:GState) (m:Nat):∀(v1:Int),Ol (jq a1 a0 m v1) 76 (zD Tryz.f76 0) ⟨[(1,vq za a1),(2,vp 0 0),(5,vi v1)],[.var (y9 a0)],0⟩ fun o=>match o with | .inl o_0=>(.ret,⟨[(4,vi o_0)],[],0⟩)| .inr (o_1)=>(.exit 0,⟨[(1,vq za a1),(2,vp 0 0),(5,vi o_1),(10,vb false)],[.var (y9 a0)],0⟩):=by
 induction m with
 |zero=>intro v1 o h;cases h
 |succ m ih=>exact fun v1=>tlp (
  .le zq a0.Entries<|.lI v1 (a0.Entries.length:Int) (fun c1=>.na v1 fun i2=>.ix ym a0.Entries i2 fun x3=>.bt x3.Addr<|.bt a1<|.sI x3.Addr a1 (fun c4=>.ret (.inl v1)) fun c4=>.go (ih (w64 (v1+1)))) fun c1=>.ret (.inr v1))
def Ja (n:Nat) (a0:GState) (a1:(List UInt8)):Option Int:=
 (jq a1 a0 n 0).bind fun o1=>
 match o1 with
 | .inl o1_0=>
  some o1_0
 | .inr (o1_1)=>
  some (-1)
theorem GG (n:Nat):RA (Ja n):=fun a0 a1=>tc (
 .l2 (Pi a1 a0 n 0) (fun o1_0=>.ret o1_0) fun o1_1=>.ret (-1)) (zf Tryz.func76)
def ZW:List GEntry→List UInt8→Nat→Int
 |[],_,_=> -1
 |e::l,a,i=>if e.Addr=a then(i:Int)else ZW l a (i+1)
theorem TP:∀(l:List GEntry) (a:List UInt8) (i:Nat),0<=ZW l a i ↔ xm l a=true
 |[],a,i=>by simp[ZW,xm]
 |e::l,a,i=>by
  have ih:=TP l a (i+1)
  unfold xm at ih ⊢
  rw[ZW,List.any_cons]
  by_cases h:e.Addr=a
  ·rw[if_pos h,decide_eq_true h];simp
  ·rw[if_neg h,decide_eq_false h,Bool.false_or,ih]
theorem D5 {s:GState} {a:List UInt8} (ha:s.Entries.length<=2 ^ 40):∀(l p:List GEntry) (m:Nat),s.Entries=p++l→l.length<m→∃z,jq a s m (p.length:Int)=some (if xm l a=true then .inl (ZW l a p.length)else .inr z):=by
 intro l
 induction l with
 |nil=>
  intro p m he hm
  obtain⟨m,rfl,_⟩:=zg hm
  exact⟨_,by rw[jq,if_neg (by rw[he];exact xF p)];rfl⟩
 |cons x l ih=>
  intro p m he hm
  obtain⟨m,rfl,hm'⟩:=zg hm
  have hlen:s.Entries.length=p.length+(l.length+1):=by rw[he];simp
  rw[jq,if_pos (by omega),zb,oB,show s.Entries[p.length]? =some x by rw[he];exact zp p x l,oB]
  unfold xm
  rw[List.any_cons,ZW]
  by_cases h:x.Addr=a
  ·rw[if_pos h,decide_eq_true h,if_pos h]
   exact⟨0,rfl⟩
  ·rw[if_neg h,decide_eq_false h,Bool.false_or,if_neg h,ye p x (by omega)]
   obtain⟨z,hz⟩:=ih (p++[x]) m (by rw[he];simp) (by simp only[List.length_cons]at hm';omega)
   rw[List.length_append,List.length_cons,List.length_nil]at hz
   rw[List.length_append,List.length_cons,List.length_nil]
   exact⟨z,hz⟩
def xK (a0:GState) (a1:(List UInt8)):Option Int:=if a0.Entries.length<=2 ^ 40 then some (ZW a0.Entries a1 0)else none
theorem J3 {l:List GEntry} {a:List UInt8} (h:xm l a=false):∀i,ZW l a i= -1:=by
 induction l with
 |nil=>intro i;rfl
 |cons e l ih=>
  intro i
  unfold xm at h ih
  rw[List.any_cons,Bool.or_eq_false_iff]at h
  rw[ZW,if_neg (of_decide_eq_false h.1),ih h.2]
theorem Od (a0:GState) (a1:(List UInt8)) (r:Int) (h:xK a0 a1=some r):∃n,Ja n a0 a1=some r:=by
 unfold xK at h
 obtain⟨ha,h⟩:=zB h
 obtain⟨z,hz⟩:=D5 (a:=a1) ha a0.Entries [] (a0.Entries.length+1) rfl (by omega)
 refine⟨a0.Entries.length+1,?_⟩
 unfold Ja
 simp only[List.length_nil,Int.natCast_zero]at hz
 rw[hz,oB,<-h]
 cases hb:xm a0.Entries a1 with
 |true=>rfl
 |false=>rw[if_neg (by simp),J3 hb]
theorem Xh:RA xK:=fun a0 a1 r h=>(Od a0 a1 r h).elim fun n hn=>GG n a0 a1 r hn
def RB (F:(List UInt8)→Option Bool):Prop:=∀(a0:(List UInt8)),Oc (F a0) 214 [] [vq za a0] fun r=>(vb r,[])
def jr (a0:(List UInt8)):Nat→Int→Option (Bool⊕Int)
 |0,_=>none
 |m+1,v1=>
 if v1<(a0.length:Int)then
  (zn v1).bind fun i2=>
  (a0[i2]?).bind fun x3=>
  if((x3.toNat:Nat):Int)<32 then
   some (.inl false)
  else
  if 126<((x3.toNat:Nat):Int)then
   some (.inl false)
  else
  jr a0 m (w64 (v1+1))
 else
 some (.inr v1)
theorem Pj (a0:(List UInt8)) (m:Nat):∀(v1:Int),Ol (jr a0 m v1) 214 (zD Tryz.f214 0) ⟨[(0,vq za a0),(3,vi v1)],[],0⟩ fun o=>match o with | .inl o_0=>(.ret,⟨[(2,vb o_0)],[],0⟩)| .inr (o_1)=>(.exit 0,⟨[(0,vq za a0),(3,vi o_1),(10,vb false)],[],0⟩):=by
 induction m with
 |zero=>intro v1 o h;cases h
 |succ m ih=>exact fun v1=>tlp (
  .le za a0<|.lI v1 (a0.length:Int) (fun c1=>.na v1 fun i2=>.ix0 za a0 i2 fun x3=>.lI ((x3.toNat:Nat):Int) 32 (fun c4=>.ret (.inl false)) fun c4=>.ag 1<|.ag 0<|.lI 126 ((x3.toNat:Nat):Int) (fun c5=>.ret (.inl false)) fun c5=>.go (ih (w64 (v1+1)))) fun c1=>.ret (.inr v1))
def Jb (n:Nat) (a0:(List UInt8)):Option Bool:=
 if 20<(a0.length:Int)then
  some false
 else
 (jr a0 n 0).bind fun o2=>
 match o2 with
 | .inl o2_0=>
  some o2_0
 | .inr (o2_1)=>
  some true
theorem GH (n:Nat):RB (Jb n):=fun a0=>tc (
 .le za a0<|.lI 20 (a0.length:Int) (fun c1=>.ret false) fun c1=>.l2 (Pj a0 n 0) (fun o2_0=>.ret o2_0) fun o2_1=>.ret true) (zf Tryz.func214)
theorem Oe {a:List UInt8} (ha:a.length<=2 ^ 20):∀(d i m:Nat),i+d=a.length→d<m→∃z,jr a m (i:Int)=some (if(a.drop i).all (inB 32 126)=true then .inr z else .inl false):=by
 intro d
 induction d with
 |zero=>
  intro i m hi hm
  obtain⟨m,rfl,_⟩:=zg hm
  exact⟨_,by rw[jr,if_neg (by omega),List.drop_eq_nil_of_le (by omega)];rfl⟩
 |succ d ih=>
  intro i m hi hm
  obtain⟨m,rfl,hm'⟩:=zg hm
  have hil:i<a.length:=by omega
  rw[jr,if_pos (by omega),zb,oB,zj hil,oB,zG (by omega),wb hil,List.all_cons]
  by_cases h1:((a[i].toNat:Nat):Int)<32
  ·exact⟨0,by rw[if_pos h1,if_neg];simp[inB];omega⟩
  ·rw[if_neg h1]
   by_cases h2:(126:Int)<((a[i].toNat:Nat):Int)
   ·exact⟨0,by rw[if_pos h2,if_neg];simp[inB];omega⟩
   ·rw[if_neg h2,show inB 32 126 a[i]=true by simp[inB];omega,Bool.true_and]
    exact ih (i+1) m (by omega) (by omega)
def Yd (a0:(List UInt8)):Option Bool:=if a0.length<=2 ^ 20 then some (WS a0)else none
theorem Of (a0:(List UInt8)) (r:Bool) (h:Yd a0=some r):∃n,Jb n a0=some r:=by
 unfold Yd at h
 obtain⟨ha,h⟩:=zB h
 refine⟨a0.length+1,?_⟩
 obtain⟨z,hz⟩:=Oe ha a0.length 0 (a0.length+1) (by omega) (by omega)
 rw[show((0:Nat):Int)=0 from rfl,List.drop_zero]at hz
 unfold Jb
 rw[<-h,hz]
 unfold WS
 by_cases hl:a0.length<=20
 ·rw[if_neg (by omega),decide_eq_true hl]
  cases a0.all (inB 32 126) <;> rfl
 ·rw[if_pos (by omega),decide_eq_false hl];rfl
theorem Nj:RB Yd:=fun a0 r h=>(Of a0 r h).elim fun n hn=>GH n a0 r hn
def WE (a0:Int):Option Bool:=
 if(-1000000000000)<=a0 then
  some (decide (a0<=1000000000000))
 else
 some false
theorem GI (a0:Int):Oc (WE a0) 271 [] [vi a0] fun r=>(vb r,[]):=tc (
 .gI (-1000000000000) a0 (fun c1=>.gD a0 1000000000000<|.ret (decide (a0<=1000000000000))) fun c1=>.ret false) (zf Tryz.func271)
def XC (F:GValue→Int→Int→Option Int):Prop:=∀(a0:GValue) (a1:Int) (a2:Int),Oc (F a0 a1 a2) 225 [] [.val true (zi a0),vi a1,vi a2] fun r=>(vi r,[])
def xx (G_spec_l2ok:GValue→Int→Int→Option Int) (a1:Int) (a0:GValue):Nat→Int→Int→Option (Int⊕(Int×Int))
 |0,_,_=>none
 |m+1,v1,v2=>
 if v2<(a0.L.length:Int)then
  if a0.Kind=5 then
   (zn v2).bind fun i3=>
   (a0.K[i3]?).bind fun x4=>
   (qZ x4).bind fun r5=>
   match r5 with
   |true=>
    if 0<v2 then
     (zn (w64 (v2 - 1))).bind fun i7=>
     (a0.K[i7]?).bind fun x8=>
     if Op.bytesLess x8 x4=true then
      (a0.L[i3]?).bind fun x10=>
      (G_spec_l2ok x10 (w64 (a1+1)) v1).bind fun r11=>
      if r11<0 then
        some (.inl (-1))
      else
      xx G_spec_l2ok a1 a0 m r11 (w64 (v2+1))
     else
     some (.inl (-1))
    else
    (a0.L[i3]?).bind fun x7=>
    (G_spec_l2ok x7 (w64 (a1+1)) v1).bind fun r8=>
    if r8<0 then
     some (.inl (-1))
    else
    xx G_spec_l2ok a1 a0 m r8 (w64 (v2+1))
   |false=>
    some (.inl (-1))
  else
  (zn v2).bind fun i3=>
  (a0.L[i3]?).bind fun x4=>
  (G_spec_l2ok x4 (w64 (a1+1)) v1).bind fun r5=>
  if r5<0 then
   some (.inl (-1))
  else
  xx G_spec_l2ok a1 a0 m r5 (w64 (v2+1))
 else
 some (.inr (v1,v2))
theorem KI (G_spec_l2ok:GValue→Int→Int→Option Int) (H_spec_l2ok:XC G_spec_l2ok) (a1:Int) (a0:GValue) (m:Nat):∀(v1:Int) (v2:Int),Ol (xx G_spec_l2ok a1 a0 m v1 v2) 225 (zD Tryz.f225 0) ⟨[(1,vi a1),(2,vi v1),(3,vp 0 0),(7,vi v2)],[.var (zi a0)],0⟩ fun o=>match o with | .inl o_0=>(.ret,⟨[(6,vi o_0)],[],0⟩)| .inr (⟨o_1_0,o_1_1⟩)=>(.exit 1,⟨[(1,vi a1),(2,vi o_1_0),(3,vp 0 0),(7,vi o_1_1),(117,vb false)],[.var (zi a0)],0⟩):=by
 induction m with
 |zero=>intro v1 v2 o h;cases h
 |succ m ih=>exact fun v1 v2=>tlp (
  .le zd a0.L<|.lI v2 (a0.L.length:Int) (fun c1=>.eI a0.Kind 5 (fun c2=>.na v2 fun i3=>.ix0 (zl za) a0.K i3 fun x4=>.cl (Qm x4) fun r5=>.vN 2 r5 (
     .an 0 0<|.lI 0 v2 (fun c6=>.an 0 0<|.na (w64 (v2 - 1)) fun i7=>.ix0 (zl za) a0.K i7 fun x8=>.bt x8<|.ag 5<|.ag 4<|.bt x4<|.bI x8 x4 (fun c9=>.an 0 2<|.an 2 2<|.ag 5<|.ix zr a0.L i3 fun x10=>.cl (H_spec_l2ok x10 (w64 (a1+1)) v1) fun r11=>.lI r11 0 (fun c12=>.ret (.inl (-1))) fun c12=>.go (ih r11 (w64 (v2+1)))) fun c9=>.an 0 2<|.an 2 2<|.ret (.inl (-1))) fun c6=>.an 0 0<|.an 14 0<|.an 2 0<|.ag 3<|.ix zr a0.L i3 fun x7=>.cl (H_spec_l2ok x7 (w64 (a1+1)) v1) fun r8=>.lI r8 0 (fun c9=>.ret (.inl (-1))) fun c9=>.go (ih r8 (w64 (v2+1))))<|.an 0 0<|.an 0 0<|.an 0 0<|.an 1 0<|.ret (.inl (-1))) fun c2=>.na v2 fun i3=>.ix zr a0.L i3 fun x4=>.cl (H_spec_l2ok x4 (w64 (a1+1)) v1) fun r5=>.lI r5 0 (fun c6=>.ret (.inl (-1))) fun c6=>.go (ih r5 (w64 (v2+1)))) fun c1=>.ret (.inr (v1,v2)))
def QA (G_spec_l2ok:GValue→Int→Int→Option Int) (n:Nat) (a0:GValue) (a1:Int) (a2:Int):Option Int:=
 if(w64 (a2 - 1))<0 then
  some (-1)
 else
 if 5<a1 then
  some (-1)
 else
 if a0.Kind=3 then
  if 0<(a0.K.length:Int)then
   some (-1)
  else
  if a0.N=0 then
   if 0<(a0.L.length:Int)then
    some (-1)
   else
   (Yd a0.S).bind fun r7=>
   match r7 with
   |true=>
    some (w64 (a2 - 1))
   |false=>
    some (-1)
  else
  some (-1)
 else
 if 0<(a0.S.length:Int)then
  some (-1)
 else
 if a0.Kind=5 then
  if a0.N=0 then
   if(a0.K.length:Int)=(a0.L.length:Int)then
    (xx G_spec_l2ok a1 a0 n (w64 (a2 - 1)) 0).bind fun o8=>
    match o8 with
    | .inl o8_0=>
     some o8_0
    | .inr (⟨o8_1_0,o8_1_1⟩)=>
     some o8_1_0
   else
   some (-1)
  else
  some (-1)
 else
 if 0<(a0.K.length:Int)then
  some (-1)
 else
 if a0.Kind=1 then
  if 0<(a0.L.length:Int)then
   some (-1)
  else
  if a0.N<0 then
   some (-1)
  else
  if 1<a0.N then
   some (-1)
  else
  some (w64 (a2 - 1))
 else
 if a0.Kind=2 then
  if 0<(a0.L.length:Int)then
   some (-1)
  else
  (WE a0.N).bind fun r10=>
  match r10 with
  |true=>
   some (w64 (a2 - 1))
  |false=>
   some (-1)
 else
 if a0.N=0 then
  if a0.Kind=4 then
   (xx G_spec_l2ok a1 a0 n (w64 (a2 - 1)) 0).bind fun o11=>
   match o11 with
   | .inl o11_0=>
    some o11_0
   | .inr (⟨o11_1_0,o11_1_1⟩)=>
    some o11_1_0
  else
  if 0<(a0.L.length:Int)then
   some (-1)
  else
  if a0.Kind=0 then
   some (w64 (a2 - 1))
  else
  if a0.Kind=6 then
   some (w64 (a2 - 1))
  else
  some (-1)
 else
 some (-1)
theorem D6 (G_spec_l2ok:GValue→Int→Int→Option Int) (H_spec_l2ok:XC G_spec_l2ok) (n:Nat):XC (QA G_spec_l2ok n):=fun a0 a1 a2=>tc (
 .lI (w64 (a2 - 1)) 0 (fun c1=>.ret (-1)) fun c1=>.lI 5 a1 (fun c2=>.ret (-1)) fun c2=>.eI a0.Kind 3 (fun c3=>.q (.eFo a0.Kind 5 (by omega))<|.le (zl za) a0.K<|.lI 0 (a0.K.length:Int) (fun c4=>.ret (-1)) fun c4=>.q (.eFo a0.Kind 1 (by omega))<|.q (.eFo a0.Kind 2 (by omega))<|.eI a0.N 0 (fun c5=>.q (.eFo a0.Kind 4 (by omega))<|.q (.eFo a0.Kind 5 (by omega))<|.le zd a0.L<|.lI 0 (a0.L.length:Int) (fun c6=>.ret (-1)) fun c6=>.q (.eFo a0.Kind 0 (by omega))<|.q (.eFo a0.Kind 6 (by omega))<|.q (.eFo a0.Kind 1 (by omega))<|.q (.eFo a0.Kind 2 (by omega))<|.q (.eT c3)<|.cl (Nj a0.S) fun r7=>.vN 0 r7 (
    .ret (w64 (a2 - 1)))<|.ret (-1)) fun c5=>.ret (-1)) fun c3=>.le za a0.S<|.lI 0 (a0.S.length:Int) (fun c4=>.ret (-1)) fun c4=>.eI a0.Kind 5 (fun c5=>.q (.eFo a0.Kind 1 (by omega))<|.q (.eFo a0.Kind 2 (by omega))<|.eI a0.N 0 (fun c6=>.q (.eFo a0.Kind 4 (by omega))<|.q (.eT c5)<|.q (.eFo a0.Kind 0 (by omega))<|.q (.eFo a0.Kind 6 (by omega))<|.q (.eFo a0.Kind 1 (by omega))<|.q (.eFo a0.Kind 2 (by omega))<|.q (.eF c3)<|.q (.eFo a0.Kind 4 (by omega))<|.q (.eT c5)<|.q (.eT c5)<|.le (zl za) a0.K<|.le zd a0.L<|.eI (a0.K.length:Int) (a0.L.length:Int) (fun c7=>.l2 (KI G_spec_l2ok H_spec_l2ok a1 a0 n (w64 (a2 - 1)) 0) (fun o8_0=>.ret o8_0) fun⟨o8_1_0,o8_1_1⟩=>.ret o8_1_0) fun c7=>.ret (-1)) fun c6=>.ret (-1)) fun c5=>.le (zl za) a0.K<|.lI 0 (a0.K.length:Int) (fun c6=>.ret (-1)) fun c6=>.eI a0.Kind 1 (fun c7=>.q (.eFo a0.Kind 4 (by omega))<|.q (.eF c5)<|.le zd a0.L<|.lI 0 (a0.L.length:Int) (fun c8=>.ret (-1)) fun c8=>.q (.eFo a0.Kind 0 (by omega))<|.q (.eFo a0.Kind 6 (by omega))<|.q (.eT c7)<|.lI a0.N 0 (fun c9=>.ret (-1)) fun c9=>.lI 1 a0.N (fun c10=>.ret (-1)) fun c10=>.ret (w64 (a2 - 1))) fun c7=>.eI a0.Kind 2 (fun c8=>.q (.eFo a0.Kind 4 (by omega))<|.q (.eF c5)<|.le zd a0.L<|.lI 0 (a0.L.length:Int) (fun c9=>.ret (-1)) fun c9=>.q (.eFo a0.Kind 0 (by omega))<|.q (.eFo a0.Kind 6 (by omega))<|.q (.eF c7)<|.q (.eT c8)<|.cl (GI a0.N) fun r10=>.vN 0 r10 (
   .ret (w64 (a2 - 1)))<|.ret (-1)) fun c8=>.eI a0.N 0 (fun c9=>.eI a0.Kind 4 (fun c10=>.q (.eFo a0.Kind 0 (by omega))<|.q (.eFo a0.Kind 6 (by omega))<|.q (.eF c7)<|.q (.eF c8)<|.q (.eF c3)<|.q (.eT c10)<|.q (.eF c5)<|.l2 (KI G_spec_l2ok H_spec_l2ok a1 a0 n (w64 (a2 - 1)) 0) (fun o11_0=>.ret o11_0) fun⟨o11_1_0,o11_1_1⟩=>.ret o11_1_0) fun c10=>.q (.eF c5)<|.le zd a0.L<|.lI 0 (a0.L.length:Int) (fun c11=>.ret (-1)) fun c11=>.eI a0.Kind 0 (fun c12=>.ret (w64 (a2 - 1))) fun c12=>.eI a0.Kind 6 (fun c13=>.ret (w64 (a2 - 1))) fun c13=>.q (.eF c7)<|.q (.eF c8)<|.q (.eF c3)<|.q (.eF c10)<|.q (.eF c5)<|.ret (-1)) fun c9=>.ret (-1)) (zf Tryz.func225)
def jC:Nat→GValue→Int→Int→Option Int
 |0,_,_,_=>none
 |n+1,a0,a1,a2=>QA (jC n) n a0 a1 a2
theorem GJ (n:Nat):XC (jC n):=by
 induction n with
 |zero=>exact fun _ _ _ _ h=>(by rw[jC]at h;cases h)
 |succ n ih=>
  have ih_spec_l2ok:=ih
  exact fun a0 a1 a2 r h=>D6 (jC n) ih_spec_l2ok n a0 a1 a2 r (by rw[jC]at h;exact h)
def okV (d:Nat) (left:Int) (v:GValue):Int:=if shV d v=true∧(ptV v:Int)<=left then left - ptV v else -1
theorem zbb {a:List UInt8} (h:a.length<=2 ^ 20):qZ a=some (vW a):=if_pos h
theorem zbc {a:List UInt8} (h:a.length<=2 ^ 20):Yd a=some (WS a):=if_pos h
theorem zei (n:Int):WE n=some (decide (-1000000000000<=n∧n<=1000000000000)):=by
 unfold WE
 by_cases h:(-1000000000000:Int)<=n
 ·rw[if_pos h];simp[h]
 ·rw[if_neg h];simp[h]
theorem zbd {G:GValue→Int→Int→Option Int} {v:GValue} {dd:Nat} {deep:Int} (hdd:deep+dd=5) (h1d:1<=deep) (hs:vsz v<=2 ^ 20) (hk:v.Kind=4∨(v.Kind=5∧v.K.length=v.L.length))
 (hG:∀x∈v.L,∀r:Int,0<=r→r<=40→G x (deep+1) r=some (okV dd r x)):∀(d i m:Nat) (r:Int),i+d=v.L.length→d<m→0<=r→r<=40→
 ∃z,xx G deep v m r (i:Int)=some (if((v.Kind=5→vx v.K i d=true)∧(v.L.drop i).all (shV dd)=true)∧(yo (v.L.drop i):Int)<=r then .inr (r - yo (v.L.drop i),z)else .inl (-1)):=by
 have he:=yT v
 have hl:=yS v.L
 intro d
 induction d with
 |zero=>
  intro i m r hi hm h0 h1
  obtain⟨m,rfl,_⟩:=zg hm
  refine⟨(i:Int),?_⟩
  rw[xx,if_neg (by omega),List.drop_eq_nil_of_le (by omega),if_pos ⟨⟨fun _=>rfl,rfl⟩,by simpa [yo] using h0⟩]
  simp[yo]
 |succ d ih=>
  intro i m r hi hm h0 h1
  obtain⟨m,rfl,hm'⟩:=zg hm
  have hil:i<v.L.length:=by omega
  have hp:yo (v.L.drop i)=ptV v.L[i]+yo (v.L.drop (i+1)):=by rw[wb hil];simp only[yo]
  have ha:(v.L.drop i).all (shV dd)=(shV dd v.L[i]&&(v.L.drop (i+1)).all (shV dd)):=by rw[wb hil,List.all_cons]
  have hd1:w64 (deep+1)=deep+1:=zR (by omega) (by omega)
  have tail:(v.Kind=5→kOk v.K i=true)→∃z,((G v.L[i] (w64 (deep+1)) r).bind fun r12=>if r12<0 then some (.inl (-1))else xx G deep v m r12 (w64 ((i:Int)+1)))=
   some (if((v.Kind=5→vx v.K i (d+1)=true)∧(v.L.drop i).all (shV dd)=true)∧(yo (v.L.drop i):Int)<=r then .inr (r - yo (v.L.drop i),z)else .inl (-1)):=by
   intro hki
   rw[hd1,hG _ (List.getElem_mem hil) r h0 h1,oB,zG (by omega),hp,ha]
   unfold okV
   by_cases hc:shV dd v.L[i]=true∧(ptV v.L[i]:Int)<=r
   ·rw[if_pos hc,if_neg (by omega)]
    obtain⟨z,hz⟩:=ih (i+1) m (r - ptV v.L[i]) (by omega) (by omega) (by omega) (by omega)
    refine⟨z,?_⟩
    rw[hz,hc.1,Bool.true_and]
    have hcond:(((v.Kind=5→vx v.K (i+1) d=true)∧(v.L.drop (i+1)).all (shV dd)=true)∧(yo (v.L.drop (i+1)):Int)<=r - ptV v.L[i]) ↔
     (((v.Kind=5→vx v.K i (d+1)=true)∧(v.L.drop (i+1)).all (shV dd)=true)∧((ptV v.L[i]+yo (v.L.drop (i+1)):Nat):Int)<=r):=by
     have hka:(v.Kind=5→vx v.K (i+1) d=true) ↔ (v.Kind=5→vx v.K i (d+1)=true):=by
      constructor
      ·intro h hk;rw[KS,hki hk,h hk];rfl
      ·intro h hk;have:=h hk;rw[KS,hki hk,Bool.true_and]at this;exact this
     rw[hka]
     constructor
     ·rintro⟨h1,h2⟩;exact⟨h1,by omega⟩
     ·rintro⟨h1,h2⟩;exact⟨h1,by omega⟩
    by_cases hd:((v.Kind=5→vx v.K (i+1) d=true)∧(v.L.drop (i+1)).all (shV dd)=true)∧(yo (v.L.drop (i+1)):Int)<=r - ptV v.L[i]
    ·rw[if_pos hd,if_pos (hcond.1 hd)];congr 3;omega
    ·rw[if_neg hd,if_neg (fun h=>hd (hcond.2 h))]
   ·refine⟨0,?_⟩
    rw[if_neg hc,if_pos (by omega),if_neg]
    rintro⟨⟨_,h2⟩,h3⟩
    rw[Bool.and_eq_true]at h2
    exact hc ⟨h2.1,by omega⟩
  have bad:v.Kind=5→kOk v.K i=false→∃z,(some (.inl (-1)):Option (Int⊕(Int×Int)))=some (if((v.Kind=5→vx v.K i (d+1)=true)∧(v.L.drop i).all (shV dd)=true)∧(yo (v.L.drop i):Int)<=r then .inr (r - yo (v.L.drop i),z)else .inl (-1)):=by
   intro hk hki
   refine⟨0,?_⟩
   rw[if_neg]
   rintro⟨⟨h1,_⟩,_⟩
   have:=h1 hk
   rw[KS,hki]at this
   cases this
  rw[xx,if_pos (by omega)]
  rcases hk with hk|⟨hk,hkl⟩
  ·rw[if_neg (by omega),zb,oB,zj hil,oB]
   exact tail fun h=>by omega
  ·have hik:i<v.K.length:=by omega
   have hx:=ZD (List.getElem_mem hik)
   rw[if_pos hk,zb,oB,zj hik,oB,zbb (by omega),oB]
   cases hnm:vW v.K[i]with
   |false=>
    dsimp only
    refine bad hk ?_
    by_cases h0:i=0
    ·subst h0;rw[Rz hik,hnm]
    ·rw[Kn hik (by omega),hnm];rfl
   |true=>
    dsimp only
    by_cases h0:0<i
    ·rw[if_pos (by omega),Zd (by omega) h0,zb,oB,zj (show i - 1<v.K.length by omega),oB]
     by_cases hb:Op.bytesLess (v.K[i - 1]'(by omega)) v.K[i]=true
     ·rw[if_pos hb,zj hil,oB]
      exact tail fun _=>by rw[Kn hik h0,hnm,hb];rfl
     ·rw[if_neg hb]
      refine bad hk ?_
      rw[Kn hik h0,hnm];simpa using hb
    ·have:i=0:=by omega
     subst this
     rw[if_neg (by omega),zj hil,oB]
     exact tail fun _=>by rw[Rz hik,hnm]
theorem zl9 {G:GValue→Int→Int→Option Int} {v:GValue} {f dd:Nat} {deep left:Int} (hdd:deep+dd=5∨(deep=6∧dd=0)) (h1d:1<=deep) (hs:vsz v<=2 ^ 20) (hf:v.L.length<f) (h0:0<=left) (h1:left<=40)
 (hG:deep<=5→∀x∈v.L,∀r:Int,0<=r→r<=40→G x (deep+1) r=some (okV dd r x)):QA G f v deep left=some (okV (if deep<=5 then dd+1 else 0) left v):=by
 have he:=yT v
 have hl:=yS v.L
 have hpt:=VA v
 have hpl:=ze4 v.L
 unfold QA
 rw[zR (by omega) (by omega)]
 by_cases hleft:left - 1<0
 ·rw[if_pos hleft]
  unfold okV;rw[if_neg (by rintro⟨_,h⟩;omega)]
 rw[if_neg hleft]
 by_cases hdeep:5<deep
 ·rw[if_pos hdeep,if_neg (show¬deep<=5 by omega)]
  unfold okV;rw[if_neg (by rintro⟨h,_⟩;simp[shV]at h)]
 rw[if_neg hdeep,if_pos (show deep<=5 by omega)]
 have hdd:deep+dd=5:=by omega
 have hG:=hG (by omega)
 unfold okV
 simp only[shV]
 have fin0:v.L.length=0→(v.L.all (shV dd)=true∧ptV v=1):=fun h=>by
  have:v.L=[]:=List.eq_nil_of_length_eq_zero h
  rw[hpt,this];exact⟨rfl,rfl⟩
 have yes:xj v=true→v.L.length=0→some (left - 1)=some (if(xj v&&v.L.all (shV dd))=true∧(ptV v:Int)<=left then left - ptV v else -1):=fun h1 h2=>by
  obtain⟨a1,a2⟩:=fin0 h2
  rw[h1,a1,a2,if_pos ⟨rfl,by omega⟩];rfl
 have no:xj v=false→some (-1)=some (if(xj v&&v.L.all (shV dd))=true∧(ptV v:Int)<=left then left - ptV v else -1):=fun h1=>by
  rw[h1,if_neg (by rintro⟨h,_⟩;cases h)]
 have lp:v.Kind=4∨(v.Kind=5∧v.K.length=v.L.length)→(∀b:Bool,v.L.length<=40→((v.Kind=5→vx v.K 0 v.L.length=true) ↔ b=true)→xj v=b)→((xx G deep v f (left - 1) 0).bind fun o8=>match o8 with | .inl o8_0=>some o8_0| .inr (⟨o8_1_0,o8_1_1⟩)=>some o8_1_0)=
  some (if(xj v&&v.L.all (shV dd))=true∧(ptV v:Int)<=left then left - ptV v else -1):=fun hk hloc=>by
  obtain⟨z,hz⟩:=zbd (G:=G) hdd h1d hs hk hG v.L.length 0 f (left - 1) (by omega) (by omega) (by omega) (by omega)
  rw[show((0:Nat):Int)=0 from rfl,List.drop_zero]at hz
  rw[hz,oB]
  by_cases hc:((v.Kind=5→vx v.K 0 v.L.length=true)∧v.L.all (shV dd)=true)∧(yo v.L:Int)<=left - 1
  ·rw[if_pos hc]
   have h40:v.L.length<=40:=by omega
   have:=hloc true h40 ⟨fun _=>rfl,fun _=>hc.1.1⟩
   rw[this,hc.1.2,if_pos ⟨rfl,by omega⟩,hpt]
   dsimp only
   congr 1;omega
  ·rw[if_neg hc,if_neg]
   rintro⟨h2,h3⟩
   rw[Bool.and_eq_true]at h2
   refine hc ⟨⟨?_,h2.2⟩,by omega⟩
   by_cases h40:v.L.length<=40
   ·by_cases hb:(v.Kind=5→vx v.K 0 v.L.length=true)
    ·exact hb
    ·have:=hloc false h40 ⟨fun h=>(hb h).elim,fun h=>by cases h⟩
     rw[this]at h2;cases h2.1
   ·omega
 have hloc:∀k,v.Kind=k→xj v=(if k=0∨k=6 then decide (v.N=0∧v.S.length=0∧v.K.length=0∧v.L.length=0)
  else if k=1 then decide ((0<=v.N∧v.N<=1)∧v.S.length=0∧v.K.length=0∧v.L.length=0)
  else if k=2 then decide ((-1000000000000<=v.N∧v.N<=1000000000000)∧v.S.length=0∧v.K.length=0∧v.L.length=0)
  else if k=3 then WS v.S&&decide (v.N=0∧v.K.length=0∧v.L.length=0)
  else if k=4 then decide (v.N=0∧v.S.length=0∧v.K.length=0∧v.L.length<=40)
  else if k=5 then decide (v.K.length=v.L.length∧v.N=0∧v.S.length=0∧v.L.length<=40)&&vx v.K 0 v.K.length
  else false):=fun k hk=>by unfold xj;rw[hk]
 by_cases k3:v.Kind=3
 ·have hv:=hloc 3 k3
  simp only[show¬((3:Int)=0∨(3:Int)=6) by omega,if_false,show¬((3:Int)=1) by omega,show¬((3:Int)=2) by omega,if_true]at hv
  rw[if_pos k3]
  by_cases a1:0<(v.K.length:Int)
  ·rw[if_pos a1];exact no (by rw[hv,decide_eq_false (by omega)];simp)
  ·rw[if_neg a1]
   by_cases a2:v.N=0
   ·rw[if_pos a2]
    by_cases a3:0<(v.L.length:Int)
    ·rw[if_pos a3];exact no (by rw[hv,decide_eq_false (by omega)];simp)
    ·rw[if_neg a3,zbc (by omega),oB]
     rw[decide_eq_true (by omega),Bool.and_true]at hv
     cases ht:WS v.S with
     |true=>exact yes (by rw[hv,ht]) (by omega)
     |false=>exact no (by rw[hv,ht])
   ·rw[if_neg a2];exact no (by rw[hv,decide_eq_false (by omega)];simp)
 rw[if_neg k3]
 by_cases hS:0<(v.S.length:Int)
 ·rw[if_pos hS]
  refine no ?_
  unfold xj
  simp only[k3,if_false]
  repeat' split
  all_goals first|rfl|(rw[decide_eq_false (by omega)];try rfl)
 rw[if_neg hS]
 by_cases k5:v.Kind=5
 ·have hv:=hloc 5 k5
  simp only[show¬((5:Int)=0∨(5:Int)=6) by omega,if_false,show¬((5:Int)=1) by omega,show¬((5:Int)=2) by omega,show¬((5:Int)=3) by omega,show¬((5:Int)=4) by omega,if_true]at hv
  rw[if_pos k5]
  by_cases a2:v.N=0
  ·rw[if_pos a2]
   by_cases a3:(v.K.length:Int)=(v.L.length:Int)
   ·rw[if_pos a3]
    refine lp (.inr ⟨k5,by omega⟩) fun b h40 hb=> ?_
    rw[hv,decide_eq_true (by omega),Bool.true_and,show v.K.length=v.L.length by omega,Bool.eq_iff_iff,<-hb]
    exact⟨fun h _=>h,fun h=>h k5⟩
   ·rw[if_neg a3];exact no (by rw[hv,decide_eq_false (by omega)];rfl)
  ·rw[if_neg a2];exact no (by rw[hv,decide_eq_false (by omega)];rfl)
 rw[if_neg k5]
 by_cases hK:0<(v.K.length:Int)
 ·rw[if_pos hK]
  refine no ?_
  unfold xj
  simp only[k3,k5,if_false]
  repeat' split
  all_goals first|rfl|(rw[decide_eq_false (by omega)];try rfl)
 rw[if_neg hK]
 by_cases k1:v.Kind=1
 ·have hv:=hloc 1 k1
  simp only[show¬((1:Int)=0∨(1:Int)=6) by omega,if_false,if_true]at hv
  rw[if_pos k1]
  by_cases a3:0<(v.L.length:Int)
  ·rw[if_pos a3];exact no (by rw[hv,decide_eq_false (by omega)])
  ·rw[if_neg a3]
   by_cases a4:v.N<0
   ·rw[if_pos a4];exact no (by rw[hv,decide_eq_false (by omega)])
   ·rw[if_neg a4]
    by_cases a5:1<v.N
    ·rw[if_pos a5];exact no (by rw[hv,decide_eq_false (by omega)])
    ·rw[if_neg a5];exact yes (by rw[hv,decide_eq_true (by omega)]) (by omega)
 rw[if_neg k1]
 by_cases k2:v.Kind=2
 ·have hv:=hloc 2 k2
  simp only[show¬((2:Int)=0∨(2:Int)=6) by omega,if_false,show¬((2:Int)=1) by omega,if_true]at hv
  rw[if_pos k2]
  by_cases a3:0<(v.L.length:Int)
  ·rw[if_pos a3];exact no (by rw[hv,decide_eq_false (by omega)])
  ·rw[if_neg a3,zei,oB]
   by_cases a4: -1000000000000<=v.N∧v.N<=1000000000000
   ·rw[decide_eq_true a4];exact yes (by rw[hv,decide_eq_true (by omega)]) (by omega)
   ·rw[decide_eq_false a4];exact no (by rw[hv,decide_eq_false (by omega)])
 rw[if_neg k2]
 by_cases a2:v.N=0
 ·rw[if_pos a2]
  by_cases k4:v.Kind=4
  ·have hv:=hloc 4 k4
   simp only[show¬((4:Int)=0∨(4:Int)=6) by omega,if_false,show¬((4:Int)=1) by omega,show¬((4:Int)=2) by omega,show¬((4:Int)=3) by omega,if_true]at hv
   rw[if_pos k4]
   refine lp (.inl k4) fun b h40 hb=> ?_
   rw[hv,decide_eq_true (by omega)]
   exact(hb.1 fun h=>by omega).symm
  ·rw[if_neg k4]
   by_cases a3:0<(v.L.length:Int)
   ·rw[if_pos a3]
    refine no ?_
    unfold xj
    simp only[k1,k2,k3,k4,k5,if_false]
    repeat' split
    all_goals first|rfl|(rw[decide_eq_false (by omega)])
   ·rw[if_neg a3]
    by_cases k0:v.Kind=0
    ·rw[if_pos k0];exact yes (by unfold xj;rw[if_pos (.inl k0),decide_eq_true (by omega)]) (by omega)
    ·rw[if_neg k0]
     by_cases k6:v.Kind=6
     ·rw[if_pos k6];exact yes (by unfold xj;rw[if_pos (.inr k6),decide_eq_true (by omega)]) (by omega)
     ·rw[if_neg k6]
      exact no (by unfold xj;simp only[k0,k1,k2,k3,k4,k5,k6,or_self,if_false])
 ·rw[if_neg a2]
  refine no ?_
  unfold xj
  simp only[k1,k2,k3,k5,if_false]
  repeat' split
  all_goals first|rfl|(rw[decide_eq_false (by omega)])
theorem zma:∀(N:Nat) (v:GValue),vsz v<N→vsz v<=2 ^ 20→∀(f:Nat) (deep left:Int),vsz v+2<=f→1<=deep→deep<=6→0<=left→left<=40→jC f v deep left=some (okV (6 - deep).toNat left v):=by
 intro N
 induction N with
 |zero=>intro v hv;omega
 |succ N ih=>
  intro v hv hs f deep left hf h1 h2 h3 h4
  obtain⟨f,rfl,_⟩:=zg (show 0<f by omega)
  have he:=yT v
  have hl:=yS v.L
  rw[jC]
  have:=zl9 (G:=jC f) (f:=f) (dd:=(5 - deep).toNat) (deep:=deep) (left:=left) (by omega) h1 hs (by omega) h3 h4 fun hd x hx r g0 g1=>by
   have hm:=yN hx
   have:=ih x (by omega) (by omega) f (deep+1) r (by omega) (by omega) (by omega) g0 g1
   rw[show(6 - (deep+1)).toNat=(5 - deep).toNat by omega]at this
   exact this
  rw[this]
  congr 2
  by_cases hd:deep<=5
  ·rw[if_pos hd];omega
  ·rw[if_neg hd];omega
def Yn (a0:GValue) (a1:Int) (a2:Int):Option Int:=if vsz a0<=2 ^ 20∧(1<=a1∧a1<=6)∧0<=a2∧a2<=40 then some (okV (6 - a1).toNat a2 a0)else none
theorem Nk (a0:GValue) (a1:Int) (a2:Int) (r:Int) (h:Yn a0 a1 a2=some r):∃n,jC n a0 a1 a2=some r:=by
 unfold Yn at h
 obtain⟨⟨hs,⟨h1,h2⟩,h3,h4⟩,h⟩:=zB h
 exact⟨vsz a0+2,by rw[<-h];exact zma _ a0 (Nat.lt_succ_self _) hs _ a1 a2 (Nat.le_refl _) h1 h2 h3 h4⟩
theorem Eu:XC Yn:=by
 intro a0 a1 a2 r h
 obtain⟨n,hn⟩:=Nk a0 a1 a2 r h
 exact(GJ n) a0 a1 a2 r hn
def wc (a0:GValue):Option Bool:=
 (Yn a0 1 40).bind fun r1=>
 some (decide (0<=r1))
theorem Ye (a0:GValue):Oc (wc a0) 162 [] [.val true (zi a0)] fun r=>(vb r,[]):=tc (
 .cl (Eu a0 1 40) fun r1=>.gD 0 r1<|.ret (decide (0<=r1))) (zf Tryz.func162)
def Z0 (F:GValue→Option Bool):Prop:=∀(a0:GValue),Oc (F a0) 252 [] [.val true (zi a0)] fun r=>(vb r,[])
def qU (G_spec_l2known:GValue→Option Bool) (a0:GValue):Nat→Int→Option (Bool⊕Int)
 |0,_=>none
 |m+1,v0=>
 if v0<(a0.L.length:Int)then
  (zn v0).bind fun i2=>
  (a0.L[i2]?).bind fun x3=>
  (G_spec_l2known x3).bind fun r4=>
  match r4 with
  |true=>
   qU G_spec_l2known a0 m (w64 (v0+1))
  |false=>
   some (.inl false)
 else
 some (.inr v0)
theorem TQ (G_spec_l2known:GValue→Option Bool) (H_spec_l2known:Z0 G_spec_l2known) (a0:GValue) (m:Nat):∀(v0:Int),Ol (qU G_spec_l2known a0 m v0) 252 (zD Tryz.f252 0) ⟨[(1,vp 0 0),(3,vi v0)],[.var (zi a0)],0⟩ fun o=>match o with | .inl o_0=>(.ret,⟨[(2,vb o_0)],[],0⟩)| .inr (o_1)=>(.exit 0,⟨[(1,vp 0 0),(3,vi o_1),(11,vb false)],[.var (zi a0)],0⟩):=by
 induction m with
 |zero=>intro v0 o h;cases h
 |succ m ih=>exact fun v0=>tlp (
  .le zd a0.L<|.lI v0 (a0.L.length:Int) (fun c1=>.na v0 fun i2=>.ix zr a0.L i2 fun x3=>.cl (H_spec_l2known x3) fun r4=>.vN 0 r4 (
    .go (ih (w64 (v0+1))))<|.ret (.inl false)) fun c1=>.ret (.inr v0))
def Qn (G_spec_l2known:GValue→Option Bool) (n:Nat) (a0:GValue):Option Bool:=
 if a0.Kind=6 then
  some false
 else
 (qU G_spec_l2known a0 n 0).bind fun o2=>
 match o2 with
 | .inl o2_0=>
  some o2_0
 | .inr (o2_1)=>
  some true
theorem Nl (G_spec_l2known:GValue→Option Bool) (H_spec_l2known:Z0 G_spec_l2known) (n:Nat):Z0 (Qn G_spec_l2known n):=fun a0=>tc (
 .eI a0.Kind 6 (fun c1=>.ret false) fun c1=>.l2 (TQ G_spec_l2known H_spec_l2known a0 n 0) (fun o2_0=>.ret o2_0) fun o2_1=>.ret true) (zf Tryz.func252)
def wu:Nat→GValue→Option Bool
 |0,_=>none
 |n+1,a0=>Qn (wu n) n a0
theorem Og (n:Nat):Z0 (wu n):=by
 induction n with
 |zero=>exact fun _ _ h=>(by rw[wu]at h;cases h)
 |succ n ih=>
  have ih_spec_l2known:=ih
  exact fun a0 r h=>Nl (wu n) ih_spec_l2known n a0 r (by rw[wu]at h;exact h)
theorem Ev {G:GValue→Option Bool} {v:GValue} (ha:v.L.length<=2 ^ 40) (hG:∀x∈v.L,G x=some (knV x)):∀(l p:List GValue) (m:Nat),v.L=p++l→l.length<m→∃z,qU G v m (p.length:Int)=some (if Jh l=true then .inr z else .inl false):=by
 intro l
 induction l with
 |nil=>
  intro p m he hm
  obtain⟨m,rfl,_⟩:=zg hm
  exact⟨_,by rw[qU,if_neg (by rw[he];exact xF p)];rfl⟩
 |cons x l ih=>
  intro p m he hm
  obtain⟨m,rfl,hm'⟩:=zg hm
  have hlen:v.L.length=p.length+(l.length+1):=by rw[he];simp
  rw[qU,if_pos (by omega),zb,oB,show v.L[p.length]? =some x by rw[he];exact zp p x l,oB,hG x (by rw[he];simp),oB,Jh]
  cases hx:knV x with
  |true=>
   dsimp only
   rw[ye p x (by omega),Bool.true_and]
   exact ih (p++[x]) m (by rw[he];simp) (by simp only[List.length_cons]at hm';omega)
  |false=>exact⟨0,rfl⟩
theorem zbe:∀(N:Nat) (v:GValue),vsz v<N→vsz v<=2 ^ 39→∀f,vsz v+2<=f→wu f v=some (knV v):=by
 intro N
 induction N with
 |zero=>intro v hv;omega
 |succ N ih=>
  intro v hv hs f hf
  have he:=yT v
  have hl:=yS v.L
  obtain⟨f,rfl,_⟩:=zg (show 0<f by omega)
  rw[wu]
  unfold Qn
  rw[zcb]
  by_cases h6:v.Kind=6
  ·rw[if_pos h6,h6];rfl
  ·rw[if_neg h6]
   obtain⟨z,hz⟩:=Ev (G:=wu f) (v:=v) (by omega) (fun x hx=>by
    have:=yN hx
    exact ih x (by omega) (by omega) f (by omega)) v.L [] f rfl (by omega)
   simp only[List.length_nil,Int.natCast_zero]at hz
   rw[hz,oB,decide_eq_true h6,Bool.true_and]
   cases Jh v.L <;> rfl
def kE (a0:GValue):Option Bool:=if vsz a0<=2 ^ 39 then some (knV a0)else none
theorem Pk (a0:GValue) (r:Bool) (h:kE a0=some r):∃n,wu n a0=some r:=by
 unfold kE at h
 obtain⟨ha,h⟩:=zB h
 exact⟨vsz a0+2,by rw[<-h];exact zbe _ a0 (Nat.lt_succ_self _) ha _ (Nat.le_refl _)⟩
theorem LF:Z0 kE:=by
 intro a0 r h
 obtain⟨n,hn⟩:=Pk a0 r h
 exact(Og n) a0 r hn
def kQ (a0:GValue):Option Bool:=
 if a0.Kind=5 then
  (wc a0).bind fun r2=>
  match r2 with
  |true=>
   (kE a0).bind fun r3=>
   some r3
  |false=>
   some false
 else
 some false
theorem RC (a0:GValue):Oc (kQ a0) 187 [] [.val true (zi a0)] fun r=>(vb r,[]):=tc (
 .eI a0.Kind 5 (fun c1=>.cl (Ye a0) fun r2=>.vM 1 r2 (
   .az 0 0<|.cl (LF a0) fun r3=>.az 0 1<|.ret r3)<|.az 0 0<|.az 0 0<|.ret false) fun c1=>.ret false) (zf Tryz.func187)
end
end Go.Am.Try
