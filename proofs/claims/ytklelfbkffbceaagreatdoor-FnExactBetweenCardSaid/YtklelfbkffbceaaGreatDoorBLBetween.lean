
/- The law of FnExactBetween, in plain terms. -/
import Derived.Test.YtklelfbkffbceaaGreatDoorBG6
set_option linter.unusedVariables false
set_option linter.unusedSimpArgs false
namespace Go.Am.Try
open Go.Am
noncomputable section
theorem EJ {v:GValue} (h:vsz v<=2 ^ 20):wc v=some (jd v):=by
 unfold wc Yn
 rw[if_pos ⟨h,by decide,by decide,by decide⟩,oB]
 congr 1
 unfold okV jd
 rw[show(6 - (1:Int)).toNat=5 from rfl]
 by_cases hc:shV 5 v=true∧(ptV v:Int)<=40
 ·rw[if_pos hc,decide_eq_true hc];exact decide_eq_true (by omega)
 ·rw[if_neg hc,decide_eq_false hc];rfl
theorem zeq {v:GValue} (h:vsz v<=2 ^ 20):kH v=some (jd v):=by
 unfold kH jZ qy jd
 rw[if_pos ⟨h,by decide,by decide⟩,oB]
 rw[show(5:Int).toNat=5 from rfl]
 cases hs:shV 5 v
 ·simp
 ·dsimp only
  rw[if_pos h,oB]
  simp
theorem zmc {s:List UInt8} (h:s.length<=2 ^ 20):y7 s=some s:=if_pos h
theorem zmd {s:List UInt8} (h:s.length<=2 ^ 39):zX s s=some true:=if_pos ⟨rfl,by omega⟩
def vh (v:GValue):Bool:=decide (v.Kind=0∧v.N=0∧v.S.length=0∧v.K.length=0∧v.L.length=0)
def evB (e:GEvent):Bool:=
 if e.Kind=2 then y5 e.Addr&&decide (e.Act=0)&&vk e.Val&&vY e.Deps
 else vh e.Val&&decide (e.Deps.length=0)&&
  (if e.Kind=0∨e.Kind=5∨e.Kind=6 then decide (e.Addr.length=0)&&decide (e.Act=0)
   else if e.Kind=1 then y5 e.Addr&&decide (1<=e.Act∧e.Act<=4)
   else if e.Kind=3∨e.Kind=4 then y5 e.Addr&&decide (e.Act=0)else false)
theorem ziz {v:GValue} (h:vsz v<=2 ^ 20):xP v=some (vk v):=by
 unfold xP WH vk
 by_cases h5:v.Kind=5
 ·rw[if_pos h5,zeq h,oB,decide_eq_true h5,Bool.true_and]
  cases hv:jd v with
  |false=>rfl
  |true=>
   simp only[Bool.true_and]
   unfold qz
   rw[if_pos (by omega)];rfl
 ·rw[if_neg h5,decide_eq_false h5];rfl
theorem zi0 {v:GValue} (h:vsz v<=2 ^ 20):kQ v=some (vk v):=by
 unfold kQ vk
 by_cases h5:v.Kind=5
 ·rw[if_pos h5,EJ h,oB,decide_eq_true h5,Bool.true_and]
  cases hv:jd v with
  |false=>rfl
  |true=>
   simp only[Bool.true_and]
   unfold kE
   rw[if_pos (by omega)];rfl
 ·rw[if_neg h5,decide_eq_false h5];rfl
theorem zbv (v:GValue):XL v=some (vh v):=by
 unfold XL vh
 by_cases h1:v.Kind=0 <;> by_cases h2:v.N=0 <;> by_cases h3:v.S.length=0 <;> by_cases h4:v.K.length=0 <;> by_cases h5:v.L.length=0 <;> simp[h1,h2,h3,h4,h5,List.length_eq_zero_iff.1] <;> simp_all
theorem Rt (a:Int):∃r,jK a 0=some r∧(r=0 ↔ a=0):=by
 unfold jK
 by_cases h:a<0
 ·exact⟨_,if_pos h,by omega⟩
 ·rw[if_neg h]
  by_cases h':0<a
  ·exact⟨_,if_pos h',by omega⟩
  ·exact⟨_,if_neg h',by omega⟩
theorem Az (G:GValue→GValue→Option Int) (n:Nat) (v z:GValue) (hk:z.Kind=0) (hn:z.N=0) (hl:z.L.length=0):∃r,Z2 G (n+1) v z=some r∧((r=0∧v.N=0) ↔ (v.Kind=0∧v.N=0∧v.L.length=0)):=by
 unfold Z2
 rw[hk]
 by_cases h1:v.Kind=0
 ·rw[if_pos h1,if_neg (by omega),hn]
  by_cases h2:v.N=0
  ·rw[if_pos h2,xW,hl]
   obtain⟨r,hr,hr2⟩:=Rt (v.L.length:Int)
   refine⟨r,?_,by simp only[h1,h2,true_and,and_true];omega⟩
   by_cases h3:(0:Int)<(v.L.length:Int)
   ·rw[if_pos h3,if_neg (by omega),oB]
    dsimp only
    rw[show((0:Nat):Int)=0 from rfl,hr,oB]
   ·rw[if_neg h3,oB]
    dsimp only
    rw[show((0:Nat):Int)=0 from rfl,hr,oB]
  ·rw[if_neg h2]
   obtain⟨r,hr,hr2⟩:=Rt v.N
   exact⟨r,by rw[hr,oB],⟨fun h=>absurd h.2 h2,fun h=>absurd h.2.1 h2⟩⟩
 ·rw[if_neg h1]
  obtain⟨r,hr,hr2⟩:=Rt v.Kind
  exact⟨r,by rw[hr,oB],⟨fun h=>absurd (hr2.1 h.1) h1,fun h=>absurd h.1 h1⟩⟩
theorem zbw (v:GValue):ja v=some (decide (v.Kind=0∧v.N=0∧v.L.length=0)):=by
 unfold ja kR
 rw[show vsz v+3=(vsz v+1+1)+1 from rfl,xf]
 obtain⟨r,hr,hr2⟩:=Az (xf (vsz v+1+1)) (vsz v+1) v (GValue.mk 0 0 [] [] []) rfl rfl rfl
 rw[hr,oB]
 by_cases h:r=0
 ·rw[if_pos h];exact congrArg some (decide_eq_decide.2 (by rw[<-hr2];simp[h]))
 ·rw[if_neg h];exact congrArg some (decide_eq_false (fun h'=>h (hr2.2 h').1)).symm
theorem zer {v:GValue} (h:vh v=true):jd v=true:=by
 unfold vh at h
 cases v
 simp only[GValue.Kind,GValue.N,GValue.S,GValue.K,GValue.L,decide_eq_true_eq,List.length_eq_zero_iff]at h
 obtain⟨rfl,rfl,rfl,rfl,rfl⟩:=h
 exact decide_eq_true ⟨by simp[shV,xj,GValue.Kind,GValue.N,GValue.S,GValue.K,GValue.L],by simp[ptV,yo]⟩
theorem zi1 {v:GValue} (h:jd v=true):vh v=decide (v.Kind=0∧v.N=0∧v.L.length=0):=by
 unfold vh
 refine decide_eq_decide.2 ⟨fun⟨a,b,_,_,c⟩=>⟨a,b,c⟩,fun⟨a,b,c⟩=> ?_⟩
 have:=(of_decide_eq_true h).1
 rw[shV]at this
 have hl:=(Bool.and_eq_true _ _ ▸ this).1
 unfold xj at hl
 rw[if_pos (Or.inl a)]at hl
 have:=of_decide_eq_true hl
 exact⟨a,this⟩
theorem zes {a:List UInt8} (h:y5 a=true):0<a.length:=by
 rcases a with _|⟨x,l⟩
 ·revert h;decide
 ·simp
theorem zbx {e:GEvent} (h:jA e<=2 ^ 20):Xr e=some (evB e):=by
 unfold jA at h
 unfold Xr evB
 by_cases k2:e.Kind=2
 ·rw[if_pos k2,if_pos k2,YM (by omega),oB]
  cases y5 e.Addr with
  |false=>rfl
  |true=>
   dsimp only
   by_cases ha:e.Act=0
   ·rw[if_pos ha,ziz (by omega),oB,decide_eq_true ha]
    cases vk e.Val with
    |false=>rfl
    |true=>
     dsimp only
     rw[show wI e.Deps=some (vY e.Deps)from if_pos (by omega)]
     simp
   ·rw[if_neg ha,decide_eq_false ha];rfl
 ·rw[if_neg k2,if_neg k2,zbv,oB]
  cases vh e.Val with
  |false=>rfl
  |true=>
   dsimp only
   by_cases d:e.Deps.length=0
   ·rw[if_neg (by omega),decide_eq_true d,Bool.true_and,Bool.true_and]
    by_cases k0:e.Kind=0∨e.Kind=5∨e.Kind=6
    ·rw[if_pos k0]
     have hh:(if(e.Addr.length:Int)=0 then some (decide (e.Act=0))else some false)=some (decide (e.Addr.length=0)&&decide (e.Act=0)):=by
      by_cases hl:e.Addr.length=0
      ·rw[if_pos (by omega),decide_eq_true hl,Bool.true_and]
      ·rw[if_neg (by omega),decide_eq_false hl,Bool.false_and]
     rw[hh]
     by_cases k00:e.Kind=0
     ·rw[if_pos k00]
     ·rw[if_neg k00]
      by_cases k05:e.Kind=5
      ·rw[if_pos k05]
      ·rw[if_neg k05,if_pos (by omega)]
    ·rw[if_neg k0,if_neg (by omega),if_neg (by omega),if_neg (by omega)]
     by_cases k1:e.Kind=1
     ·rw[if_pos k1,if_pos k1,YM (by omega),oB]
      cases y5 e.Addr with
      |false=>rfl
      |true=>dsimp only;rw[QC,oB];rfl
     ·rw[if_neg k1,if_neg k1]
      by_cases k3:e.Kind=3
      ·rw[if_pos k3,if_pos (Or.inl k3),YM (by omega),oB]
       cases y5 e.Addr <;> rfl
      ·rw[if_neg k3]
       by_cases k4:e.Kind=4
       ·rw[if_pos k4,if_pos (Or.inr k4),YM (by omega),oB]
        cases y5 e.Addr <;> rfl
       ·rw[if_neg k4,if_neg (by omega)]
   ·rw[if_pos (by omega),decide_eq_false d];rfl
theorem zvd {v:GValue} (h:vsz v<=2 ^ 20) (d:Nat):((wc v).bind fun r=>match r with |true=>(ja v).bind fun r=>(match r with |true=>some (decide (((d:Nat):Int)=0))|false=>some false)|false=>some false)=some (vh v&&decide (d=0)):=by
 rw[EJ h,oB]
 cases hv:jd v with
 |true=>
  dsimp only
  rw[zbw,oB,zi1 hv]
  cases decide (v.Kind=0∧v.N=0∧v.L.length=0)with
  |true=>exact congrArg some (by rw[Bool.true_and];exact decide_eq_decide.2 (by omega))
  |false=>rfl
 |false=>
  dsimp only
  cases hz:vh v with
  |true=>rw[zer hz]at hv;cases hv
  |false=>rfl
theorem zby {e:GEvent} (h:jA e<=2 ^ 20):Xk e=some (evB e):=by
 unfold jA at h
 unfold Xk evB
 rw[KJ (by omega)]
 simp only[oB]
 have Z:=zvd (v:=e.Val) (by omega) e.Deps.length
 have hb:=@zes e.Addr
 by_cases r0:e.Kind<0
 ·rw[if_pos r0,if_neg (show¬e.Kind=2 by omega),if_neg (show¬(e.Kind=0∨e.Kind=5∨e.Kind=6) by omega),if_neg (show¬e.Kind=1 by omega),if_neg (show¬(e.Kind=3∨e.Kind=4) by omega),Bool.and_false]
 rw[if_neg r0]
 by_cases r6:6<e.Kind
 ·rw[if_pos r6,if_neg (show¬e.Kind=2 by omega),if_neg (show¬(e.Kind=0∨e.Kind=5∨e.Kind=6) by omega),if_neg (show¬e.Kind=1 by omega),if_neg (show¬(e.Kind=3∨e.Kind=4) by omega),Bool.and_false]
 rw[if_neg r6]
 generalize (vh e.Val&&decide (e.Deps.length=0))=z at Z ⊢
 by_cases k1:e.Kind=1
 ·rw[if_pos k1,if_neg (show¬e.Kind=2 by omega),if_neg (show¬(e.Kind=0∨e.Kind=5∨e.Kind=6) by omega),if_pos k1]
  cases hA:y5 e.Addr with
  |false=>
   dsimp only
   rw[Bool.false_and,Bool.and_false]
   split <;> rfl
  |true=>
   have:=hb hA
   rw[if_pos (show(0:Int)<(e.Addr.length:Int) by omega)]
   dsimp only
   by_cases a1:e.Act<1
   ·rw[if_pos a1,decide_eq_false (by omega)];simp
   ·rw[if_neg a1]
    by_cases a2:4<e.Act
    ·rw[if_pos a2,decide_eq_false (by omega)];simp
    ·rw[if_neg a2,decide_eq_true (show 1<=e.Act∧e.Act<=4 by omega)];exact Z.trans (by simp)
 rw[if_neg k1]
 by_cases k2:e.Kind=2
 ·rw[if_pos k2,if_pos k2]
  cases hA:y5 e.Addr with
  |false=>
   dsimp only
   split <;> rfl
  |true=>
   have:=hb hA
   rw[if_pos (show(0:Int)<(e.Addr.length:Int) by omega)]
   dsimp only
   by_cases ha:e.Act=0
   ·rw[if_pos ha,zi0 (by omega),oB,decide_eq_true ha]
    cases vk e.Val with
    |false=>rfl
    |true=>
     dsimp only
     rw[show js e.Deps=some (vY e.Deps)from if_pos (by omega)]
     simp
   ·rw[if_neg ha,decide_eq_false ha];rfl
 rw[if_neg k2,if_neg k2]
 by_cases k3:e.Kind=3
 ·rw[if_pos k3,if_neg (show¬(e.Kind=0∨e.Kind=5∨e.Kind=6) by omega),if_neg k1,if_pos (Or.inl k3)]
  cases hA:y5 e.Addr with
  |false=>dsimp only;rw[Bool.false_and,Bool.and_false];split <;> rfl
  |true=>
   have:=hb hA
   rw[if_pos (show(0:Int)<(e.Addr.length:Int) by omega)]
   dsimp only
   by_cases ha:e.Act=0
   ·rw[if_pos ha,decide_eq_true ha];exact Z.trans (by simp)
   ·rw[if_neg ha,decide_eq_false ha];simp
 rw[if_neg k3]
 by_cases k4:e.Kind=4
 ·rw[if_pos k4,if_neg (show¬(e.Kind=0∨e.Kind=5∨e.Kind=6) by omega),if_neg k1,if_pos (Or.inr k4)]
  cases hA:y5 e.Addr with
  |false=>dsimp only;rw[Bool.false_and,Bool.and_false];split <;> rfl
  |true=>
   have:=hb hA
   rw[if_pos (show(0:Int)<(e.Addr.length:Int) by omega)]
   dsimp only
   by_cases ha:e.Act=0
   ·rw[if_pos ha,decide_eq_true ha];exact Z.trans (by simp)
   ·rw[if_neg ha,decide_eq_false ha];simp
 rw[if_neg k4,if_pos (show e.Kind=0∨e.Kind=5∨e.Kind=6 by omega)]
 by_cases hl:e.Addr.length=0
 ·rw[if_neg (by omega),decide_eq_true hl,Bool.true_and]
  by_cases ha:e.Act=0
  ·rw[if_pos ha,decide_eq_true ha];exact Z.trans (by simp)
  ·rw[if_neg ha,decide_eq_false ha];simp
 ·rw[if_pos (by omega),decide_eq_false hl,Bool.false_and,Bool.and_false]
def MdS (s:GState):Prop:=s.Pending.length<=2 ^ 63 - 1∧s.Entries.length<=2 ^ 63 - 1∧J1 s.Entries
theorem zme {s:GState} {n:Int} (h:MdS s) (h0:0<=n) (h1:n<=2 ^ 20):Xe s n=some (xH (ssz s) n):=by
 unfold Xe
 rw[W6 h.1 h0 h1,oB]
 unfold xH ssz
 by_cases c1:(s.Pending.length:Int)<=n
 ·rw[if_pos c1,if_neg (by omega)]
  unfold vI
  rw[if_pos ⟨h.2.1,h.2.2,by omega,by omega⟩,oB]
  unfold xH
  by_cases c2:(yG s.Entries:Int)<=n - s.Pending.length
  ·rw[if_pos c2,if_neg (by omega),if_pos (by omega)];congr 1;omega
  ·rw[if_neg c2,if_pos (by omega),if_neg (by omega)]
 ·rw[if_neg c1,if_pos (by omega),if_neg (by omega)]
theorem zmf {s:GState} (h:ssz s<=2 ^ 20):Xf s=some s:=by
 unfold ssz at h
 unfold Xf y7 vK
 rw[if_pos (by omega),oB,if_pos (by omega),oB]
 cases s;rfl
theorem zmg {s:GState} (h:ssz s<=2 ^ 39):Xt s s=some true:=by
 unfold ssz at h
 unfold Xt zX
 rw[if_pos rfl]
 by_cases ho:s.Open=true
 ·rw[if_pos ho,if_pos ho,if_pos ⟨rfl,by omega⟩,oB];dsimp only;rw[if_pos rfl,PF (by omega),oB]
 ·rw[if_neg ho,if_neg ho,if_pos ⟨rfl,by omega⟩,oB];dsimp only;rw[if_pos rfl,PF (by omega),oB]
theorem vu (a:Int) (b:Bool) (c:List UInt8) (d:Int) (e:List GEntry):(GState.mk a b c d e).Pending=c:=rfl
theorem vv (a:Int) (b:Bool) (c:List UInt8) (d:Int) (e:List GEntry):(GState.mk a b c d e).Entries=e:=rfl
theorem EK {a:List UInt8}:∀(l:List GEntry) (i:Nat),xm l a=true→∃k,ZW l a i=((i+k:Nat):Int)∧∃e,l[k]? =some e∧e.Addr=a
 |[],i,h=>by simp[xm]at h
 |e::l,i,h=>by
  rw[ZW]
  by_cases he:e.Addr=a
  ·exact⟨0,by rw[if_pos he];rfl,e,rfl,he⟩
  ·have h':xm l a=true:=by
    unfold xm at h ⊢
    rw[List.any_cons,decide_eq_false he,Bool.false_or]at h
    exact h
   obtain⟨k,h1,e',h2,h3⟩:=EK l (i+1) h'
   exact⟨k+1,by rw[if_neg he,h1];congr 1;omega,e',by simpa using h2,h3⟩
theorem Xv {a:List (List UInt8)}:Asc a ↔∀(i j:Nat) x y,i<j→a[i]? =some x→a[j]? =some y→Op.bytesLess x y=true:=by
 constructor
 ·intro h i j x y hij hi hj
  obtain⟨hi1,hi2⟩:=oE hi
  obtain⟨hj1,hj2⟩:=oE hj
  have:=h i j hj1 hij
  rw[hi2,hj2]at this
  exact this
 ·intro h i j hj hij
  exact h i j _ _ hij (List.getElem?_eq_getElem _) (List.getElem?_eq_getElem _)
theorem Xw {a:List (List UInt8)} {x:List UInt8} {c:Nat} (h:j9 a x c) {i:Nat} {y:List UInt8} (hi:a[i]? =some y):i<c ↔ Op.bytesLess y x=true:=by
 obtain⟨hi1,hi2⟩:=oE hi
 rw[<-hi2]
 exact h.2 i hi1
theorem zi2 {a:List (List UInt8)} (ha:Asc a) {x:List UInt8} {c:Nat} (h:j9 a x c) {j:Nat} {y:List UInt8} (hj:a[j]? =some y) (hc:c<=j) (hne:c=j→y≠x):Op.bytesLess x y=true:=by
 rcases J6 x y with h1|h1|h1
 ·exact h1
 ·exfalso
  have hcj:c≠j:=fun e=>hne e h1.symm
  have hjl:=(oE hj).1
  have hcl:c<a.length:=by omega
  have h2:=Xv.1 ha c j _ _ (by omega) (List.getElem?_eq_getElem hcl) hj
  rw[<-h1]at h2
  have:=(Xw h (List.getElem?_eq_getElem hcl)).2 h2
  omega
 ·have:=(Xw h hj).2 h1
  omega
theorem Bh {a:List (List UInt8)} (ha:Asc a) {x:List UInt8} {c:Nat} (h:j9 a x c) (hne:a[c]?≠some x):Asc (xw a c x):=by
 refine Xv.2 fun i j u v hij hi hj=> ?_
 rw[JS a c x h.1]at hi hj
 have A:=Xv.1 ha
 by_cases h1:j<c
 ·rw[if_pos h1]at hj;rw[if_pos (by omega)]at hi
  exact A i j u v hij hi hj
 rw[if_neg h1]at hj
 by_cases h2:j=c
 ·rw[if_pos h2]at hj;rw[if_pos (by omega)]at hi
  injection hj with hj
  subst hj
  exact(Xw h hi).1 (by omega)
 rw[if_neg h2]at hj
 by_cases h3:i<c
 ·rw[if_pos h3]at hi
  exact A i (j - 1) u v (by omega) hi hj
 rw[if_neg h3]at hi
 by_cases h4:i=c
 ·rw[if_pos h4]at hi
  injection hi with hi
  subst hi
  exact zi2 ha h hj (by omega) fun e he=>hne (by rw[e,hj,he])
 ·rw[if_neg h4]at hi
  exact A (i - 1) (j - 1) u v (by omega) hi hj
theorem zi3 {a:List (List UInt8)} (ha:Asc a) {c:Nat} (hc:c<a.length):Asc (jj a c):=by
 refine Xv.2 fun i j u v hij hi hj=> ?_
 rw[Ei a c hc]at hi hj
 have A:=Xv.1 ha
 by_cases h1:j<c
 ·rw[if_pos h1]at hj;rw[if_pos (by omega)]at hi
  exact A i j u v hij hi hj
 rw[if_neg h1]at hj
 by_cases h3:i<c
 ·rw[if_pos h3]at hi
  exact A i (j+1) u v (by omega) hi hj
 ·rw[if_neg h3]at hi
  exact A (i+1) (j+1) u v (by omega) hi hj
theorem Uy {e:GEntry}:∀{l:List GEntry},(∀x∈l,Op.bytesLess e.Addr x.Addr=true)→kS e true l=l
 |[],_=>rfl
 |x::l,h=>by
  rw[kS,h x List.mem_cons_self,cond_true,cond_true,Uy fun y hy=>h y (List.mem_cons_of_mem _ hy)]
theorem zbz {a b:List UInt8} (h:Op.bytesLess a b=true):Op.bytesLess b a=false:=by
 cases hb:Op.bytesLess b a with
 |false=>rfl
 |true=>have:=vX h hb;rw[Zi]at this;cases this
theorem NF {e:GEntry}:∀{l:List GEntry} {c:Nat},Asc (l.map GEntry.Addr)→j9 (l.map GEntry.Addr) e.Addr c→kS e false l=if(l.map GEntry.Addr)[c]? =some e.Addr then l.set c e else xw l c e
 |[],c,_,hp=>by
  have:=hp.1
  simp only[List.map_nil,List.length_nil]at this
  obtain rfl:c=0:=by omega
  rfl
 |x::l,c,ha,hp=>by
  have hal:Asc (l.map GEntry.Addr):=Xv.2 fun i j u v hij hi hj=>Xv.1 ha (i+1) (j+1) u v (by omega) (by simpa using hi) (by simpa using hj)
  have hx:∀y∈l,Op.bytesLess x.Addr y.Addr=true:=fun y hy=>by
   obtain⟨j,hj⟩:=List.mem_iff_getElem?.1 hy
   exact Xv.1 ha 0 (j+1) _ _ (by omega) rfl (by simp[hj])
  have h0:0<c ↔ Op.bytesLess x.Addr e.Addr=true:=Xw hp (by rfl)
  cases c with
  |zero=>
   have hn:Op.bytesLess x.Addr e.Addr=false:=by
    cases hq:Op.bytesLess x.Addr e.Addr with
    |false=>rfl
    |true=>have:=h0.2 hq;omega
   rw[kS,hn]
   rcases J6 e.Addr x.Addr with h1|h1|h1
   ·rw[h1]
    simp only[cond_true,cond_false]
    rw[Uy fun y hy=>vX h1 (hx y hy),if_neg]
    ·rfl
    ·simp only[List.map_cons,List.getElem?_cons_zero,oS]
     intro he
     rw[he,Zi]at h1;cases h1
   ·rw[h1,Zi]
    simp only[cond_false]
    rw[Uy fun y hy=>by rw[h1];exact hx y hy,if_pos (by simp)]
    rfl
   ·rw[hn]at h1;cases h1
  |succ c=>
   have hl:Op.bytesLess x.Addr e.Addr=true:=h0.1 (by omega)
   have hpl:j9 (l.map GEntry.Addr) e.Addr c:=by
    refine⟨by have:=hp.1;simp only[List.map_cons,List.length_cons]at this;omega,fun k hk=> ?_⟩
    have h1:=Xw hp (i:=k+1) (y:=(l.map GEntry.Addr)[k]) (by rw[List.map_cons,List.getElem?_cons_succ];exact List.getElem?_eq_getElem hk)
    rw[<-h1]
    omega
   rw[kS,zbz hl,hl]
   simp only[cond_true,cond_false]
   rw[NF hal hpl]
   simp only[List.map_cons,List.getElem?_cons_succ]
   split
   ·rfl
   ·rfl
theorem zet {α:Type} {l:List α} {c:Nat} {x:α} (h:l[c]? =some x):l.set c x=l:=by
 apply List.ext_getElem?
 intro i
 rw[List.getElem?_set]
 split
 ·rename_i hi
  subst hi
  have:=(oE h).1
  rw[if_pos this,h]
 ·rfl
theorem EL {l:List GEntry} {c:Nat} {e:GEntry} (h:(l.map GEntry.Addr)[c]? =some e.Addr):(l.set c e).map GEntry.Addr=l.map GEntry.Addr:=by
 rw[List.map_set]
 exact zet h
theorem Uz {l:List GEntry} {c:Nat} {e:GEntry}:(xw l c e).map GEntry.Addr=xw (l.map GEntry.Addr) c e.Addr:=by simp[xw,List.map_take,List.map_drop]
theorem EM {l:List GEntry} {c:Nat}:(jj l c).map GEntry.Addr=jj (l.map GEntry.Addr) c:=by simp[jj,List.map_take,List.map_drop]
theorem Kl:∀(a b:List GEntry),yG (a++b)=yG a+yG b
 |[],b=>by simp[yG]
 |x::a,b=>by simp only[List.cons_append,yG,Kl a b];omega
theorem OF (l:List GEntry) (c:Nat):yG l=yG (l.take c)+yG (l.drop c):=by
 rw[<-Kl,List.take_append_drop]
theorem EN (l:List GEntry) (c:Nat) (e:GEntry):yG (xw l c e)=yG l+1+esz e:=by
 unfold xw
 rw[Kl,Kl,OF l c]
 simp only[yG];omega
theorem zeu (l:List GEntry) (c:Nat):yG (jj l c)<=yG l:=by
 unfold jj
 have h1:=OF l c
 have h2:=OF (l.drop c) 1
 rw[List.drop_drop]at h2
 rw[Kl]
 omega
theorem EO:∀(l:List GEntry) (c:Nat) (e:GEntry),yG (l.set c e)<=yG l+esz e
 |[],c,e=>by simp[yG]
 |x::l,0,e=>by simp only[List.set_cons_zero,yG];omega
 |x::l,c+1,e=>by have:=EO l c e;simp only[List.set_cons_succ,yG];omega
def stI (s:GState):Prop:=0<=s.Serial∧s.Serial<=1000000∧Asc (s.Entries.map GEntry.Addr)∧(s.Pending≠[]→s.Open=true∧xm s.Entries s.Pending=decide (s.Act≠1))
theorem Ru {s:GState} (h:stB s=true):stI s:=by
 unfold stB at h
 simp only[Bool.and_eq_true,decide_eq_true_eq]at h
 obtain⟨⟨⟨h1,h2,_⟩,h3⟩,h4⟩:=h
 refine⟨h1,h2,Di h3,fun hp=> ?_⟩
 unfold Hq at h4
 rw[if_neg hp]at h4
 simp only[Bool.and_eq_true,beq_iff_eq]at h4
 exact⟨h4.1.1.1,h4.2⟩
def WQ (s:GState) (e:GEvent):Bool:=
 if s.Serial=1000000 then false
 else if e.Kind=0 then !s.Open
 else if e.Kind=1 then s.Open&&decide (s.Pending=[])&&(xm s.Entries e.Addr==decide (e.Act≠1))&&(xm s.Entries e.Addr||decide (s.Entries.length<16))
 else if e.Kind=2 then decide (s.Pending=e.Addr)&&decide (s.Act≠4)
 else if e.Kind=3 then decide (s.Pending=e.Addr)&&decide (s.Act=4)
 else if e.Kind=4 then decide (s.Pending=e.Addr)
 else if e.Kind=5 then s.Open&&decide (s.Pending=[])
 else s.Open
theorem Mq {e:GEvent} (h:evB e=true) (hk:e.Kind=1∨e.Kind=2∨e.Kind=3∨e.Kind=4):e.Addr≠[]:=by
 intro he
 have ha:y5 e.Addr=false:=by rw[he];decide
 unfold evB at h
 rw[ha]at h
 rcases hk with hk|hk|hk|hk <;> simp[hk]at h
theorem Qw {a:List UInt8}:((a.length:Int)=0) ↔ a=[]:=by
 constructor
 ·intro h;exact List.eq_nil_of_length_eq_zero (by omega)
 ·rintro rfl;rfl
theorem Bi {a:List UInt8}:(0<(a.length:Int)) ↔ a≠[]:=by
 constructor
 ·rintro h rfl;simp at h
 ·intro h
  have:a.length≠0:=fun e=>h (List.eq_nil_of_length_eq_zero e)
  omega
theorem zev {s:GState} {e:GEvent} (hI:stI s) (he:evB e=true) (hl:s.Entries.length<=2 ^ 40):WF s e=some (WQ s e):=by
 unfold WF WQ xK
 have hs:=hI.2.1
 by_cases h0:s.Serial=1000000
 ·rw[if_pos (by omega),if_pos h0]
 rw[if_neg (by omega),if_neg h0]
 by_cases k0:e.Kind=0
 ·rw[if_pos k0,if_pos k0]
 rw[if_neg k0,if_neg k0]
 by_cases k1:e.Kind=1
 ·rw[if_pos k1,if_pos k1,if_pos hl,oB]
  have hh:=TP s.Entries e.Addr 0
  have hp:=@Bi s.Pending
  cases s.Open with
  |false=>rfl
  |true=>
   dsimp only
   by_cases q:s.Pending=[]
   ·rw[if_neg (fun h=>hp.1 h q),decide_eq_true q]
    by_cases a1:e.Act=1
    ·rw[if_pos a1,decide_eq_false (p:=e.Act≠1) (by omega)]
     cases hb:xm s.Entries e.Addr with
     |true=>rw[if_pos (hh.2 hb)];rfl
     |false=>rw[if_neg (fun h=>by rw[hh.1 h]at hb;cases hb)];simp;omega
    ·rw[if_neg a1,decide_eq_true (p:=e.Act≠1) a1]
     cases hb:xm s.Entries e.Addr with
     |true=>rw[if_pos (hh.2 hb)];rfl
     |false=>rw[if_neg (fun h=>by rw[hh.1 h]at hb;cases hb)];simp
   ·rw[if_pos (hp.2 q),decide_eq_false q];rfl
 rw[if_neg k1,if_neg k1]
 have hp:=@Bi s.Pending
 by_cases k2:e.Kind=2
 ·rw[if_pos k2,if_pos k2]
  have hne:=Mq he (.inr (.inl k2))
  by_cases q:s.Pending=[]
  ·rw[if_neg (fun h=>hp.1 h q),decide_eq_false (fun h=>hne (by rw[<-h,q]))];rfl
  ·rw[if_pos (hp.2 q)]
   by_cases q2:s.Pending=e.Addr
   ·rw[if_pos q2,decide_eq_true q2];by_cases a4:s.Act=4 <;> simp[a4]
   ·rw[if_neg q2,decide_eq_false q2];rfl
 rw[if_neg k2,if_neg k2]
 by_cases k3:e.Kind=3
 ·rw[if_pos k3,if_pos k3]
  have hne:=Mq he (.inr (.inr (.inl k3)))
  by_cases q:s.Pending=[]
  ·rw[if_neg (fun h=>hp.1 h q),decide_eq_false (fun h=>hne (by rw[<-h,q]))];rfl
  ·rw[if_pos (hp.2 q)]
   by_cases q2:s.Pending=e.Addr
   ·rw[if_pos q2,decide_eq_true q2];rfl
   ·rw[if_neg q2,decide_eq_false q2];rfl
 rw[if_neg k3,if_neg k3]
 by_cases k4:e.Kind=4
 ·rw[if_pos k4,if_pos k4]
  have hne:=Mq he (.inr (.inr (.inr k4)))
  by_cases q:s.Pending=[]
  ·rw[if_neg (fun h=>hp.1 h q),decide_eq_false (fun h=>hne (by rw[<-h,q]))]
  ·rw[if_pos (hp.2 q)]
 rw[if_neg k4,if_neg k4]
 by_cases k5:e.Kind=5
 ·rw[if_pos k5,if_pos k5]
  cases s.Open with
  |false=>rfl
  |true=>
   dsimp only
   by_cases q:s.Pending=[]
   ·rw[decide_eq_false (fun h=>hp.1 h q),decide_eq_true q];rfl
   ·rw[decide_eq_true (hp.2 q),decide_eq_false q];rfl
 ·rw[if_neg k5,if_neg k5]
theorem Mr {s:GState} {a:List UInt8} (hl:s.Entries.length<=2 ^ 40) (hA:Asc (s.Entries.map GEntry.Addr)):∃c:Nat,j9 (s.Entries.map GEntry.Addr) a c∧yt s a=some ((c:Int),xm s.Entries a)∧(xm s.Entries a=true ↔ (s.Entries.map GEntry.Addr)[c]? =some a):=by
 unfold yt
 obtain⟨c,hp,hc⟩:=zbp (a:=s.Entries) (x:=a) hl hA
 rw[hc]
 exact⟨c,hp,rfl,XS.trans (j9.mem hA hp).symm⟩
theorem Gn {s:GState} {e:GEvent} (hI:stI s) (hl:s.Entries.length<=2 ^ 40):Zr s e=some (WQ s e):=by
 unfold Zr WQ wn
 obtain⟨c,hp,hc,_⟩:=Mr (a:=e.Addr) hl hI.2.2.1
 rw[hc,oB]
 dsimp only
 by_cases h0:s.Serial=1000000
 ·rw[if_pos h0,if_pos h0]
 rw[if_neg h0,if_neg h0]
 by_cases k0:e.Kind=0
 ·rw[if_pos k0,if_pos k0]
 rw[if_neg k0,if_neg k0]
 have hz:=@Qw s.Pending
 by_cases k1:e.Kind=1
 ·rw[if_pos k1,if_pos k1]
  cases s.Open with
  |false=>rfl
  |true=>
   dsimp only
   by_cases q:s.Pending=[]
   ·rw[if_pos (hz.2 q),decide_eq_true q]
    by_cases a1:e.Act=1
    ·rw[decide_eq_false (p:=e.Act≠1) (by omega)]
     cases hb:xm s.Entries e.Addr with
     |true=>rw[if_pos rfl,if_pos a1];rfl
     |false=>rw[if_neg (by decide),if_pos a1];simp;omega
    ·rw[decide_eq_true (p:=e.Act≠1) a1]
     cases hb:xm s.Entries e.Addr with
     |true=>rw[if_pos rfl,if_neg a1];rfl
     |false=>rw[if_neg (by decide),if_neg a1];simp
   ·rw[if_neg (fun h=>q (hz.1 h)),decide_eq_false q];rfl
 rw[if_neg k1,if_neg k1]
 by_cases k2:e.Kind=2
 ·rw[if_pos k2,if_pos k2,oB]
  by_cases q:s.Pending=e.Addr
  ·rw[decide_eq_true q];by_cases a4:s.Act=4 <;> simp[a4]
  ·rw[decide_eq_false q];rfl
 rw[if_neg k2,if_neg k2]
 by_cases k3:e.Kind=3
 ·rw[if_pos k3,if_pos k3,oB]
  by_cases q:s.Pending=e.Addr
  ·rw[decide_eq_true q];rfl
  ·rw[decide_eq_false q];rfl
 rw[if_neg k3,if_neg k3]
 by_cases k4:e.Kind=4
 ·rw[if_pos k4,if_pos k4];rfl
 rw[if_neg k4,if_neg k4]
 by_cases k5:e.Kind=5
 ·rw[if_pos k5,if_pos k5]
  cases s.Open with
  |false=>rfl
  |true=>
   dsimp only
   by_cases q:s.Pending=[]
   ·rw[decide_eq_true (hz.2 q),decide_eq_true q];rfl
   ·rw[decide_eq_false (fun h=>q (hz.1 h)),decide_eq_false q];rfl
 ·rw[if_neg k5,if_neg k5]
theorem zb0 {l:List GEntry} {c:Nat} {x:GEntry} (h:l[c]? =some x) (A:GEntry) (f:GEntry→GEntry):(((l.set c A)[c]?).bind fun y=>some ((l.set c A).set c (f y)))=some (l.set c (f A)):=by
 have hl:=(oE h).1
 rw[List.getElem?_set_self (by simpa using hl),oB,List.set_set]
theorem V8 {l:List GEntry} {c:Nat} {a:List UInt8} (h:(l.map GEntry.Addr)[c]? =some a):∃x,l[c]? =some x∧x.Addr=a:=by
 rw[List.getElem?_map]at h
 obtain⟨x,h1,h2⟩:=oM h
 exact⟨x,h1,h2⟩
theorem UU {l:List GEntry} {a:List UInt8} {c:Nat} (hA:Asc (l.map GEntry.Addr)) (h:(l.map GEntry.Addr)[c]? =some a):ZW l a 0=(c:Int):=by
 have hb:xm l a=true:=XS.2 (List.mem_of_getElem? h)
 obtain⟨k,h1,e,h2,h3⟩:=EK l 0 hb
 rw[Nat.zero_add]at h1
 have hk:(l.map GEntry.Addr)[k]? =some a:=by rw[List.getElem?_map,h2,Option.map_some,h3]
 have A:=Xv.1 hA
 have:k=c:=by
  rcases Nat.lt_trichotomy k c with h4|h4|h4
  ·have:=A k c a a h4 hk h;rw[Zi]at this;cases this
  ·exact h4
  ·have:=A c k a a h4 h hk;rw[Zi]at this;cases this
 rw[h1,this]
def tnE (ser:Int) (x:GEntry):GEntry:= .mk x.Addr x.Val x.Deps true ser
def nwE (a:List UInt8) (ser:Int):GEntry:= .mk a (.mk 5 0 [] [] []) [] true ser
theorem zmh (a:List UInt8) (ser:Int):esz (nwE a ser)=a.length:=by
 show a.length+vsz (.mk 5 0 [] [] [])+bsz []=a.length
 rw[show vsz (.mk 5 0 [] [] [])=0 from rfl,show bsz []=0 from rfl];rfl
theorem Bj {l:List GEntry} {c:Nat} (hc:c<=l.length) (hl:l.length<=1048576) (x:GEntry):qF (c:Int) l [x]=some (xw l c x):=by
 show(if 0<=(c:Int)∧(c:Int)<=(l.length:Int)∧l.length<=1048576 then some (xw l (c:Int).toNat x)else none)=_
 rw[if_pos ⟨by omega,by omega,hl⟩,Int.toNat_natCast]
theorem zi4 {l:List GEntry} {c:Nat} (hc:c<l.length) (hl:l.length<=1048576):qG (c:Int) (((c+1:Nat):Int)) l=some (jj l c):=by
 unfold qG
 rw[if_pos ⟨by omega,by omega,by omega,hl⟩,Int.toNat_natCast]
theorem Bk {l:List GEntry} {c:Nat} (hc:c<=l.length) (x y:GEntry):(xw l c x).set c y=xw l c y:=by
 apply List.ext_getElem?
 intro m
 rw[List.getElem?_set,JS l c x hc,JS l c y hc]
 have hlen:(xw l c x).length=l.length+1:=by simp[xw];omega
 by_cases h:c=m
 ·subst h
  rw[if_pos rfl,if_pos (by omega),if_neg (by omega),if_pos rfl]
 ·rw[if_neg h]
  by_cases h1:m<c
  ·rw[if_pos h1,if_pos h1]
  ·rw[if_neg h1,if_neg h1,if_neg (Ne.symm h),if_neg (Ne.symm h)]
theorem Bl {l:List GEntry} {c:Nat} {x:GEntry} (h:l[c]? =some x) (f:GEntry→GEntry):l.modify c f=l.set c (f x):=by
 apply List.ext_getElem?
 intro i
 rw[List.getElem?_modify,List.getElem?_set]
 have hl:=(oE h).1
 by_cases hi:c=i
 ·subst hi;rw[if_pos rfl,if_pos hl,h];simp
 ·rw[if_neg hi];simp[hi]
theorem EP {b:Bool} {ser:Int} {op:Bool} {act:Int} {a:List UInt8} {l:List GEntry} {c:Nat} (hl:l.length<=1048576) (hal:a.length<=2 ^ 38) (hA:Asc (l.map GEntry.Addr)) (hp:j9 (l.map GEntry.Addr) a c):
 jN b ser op act a l=some (.mk ser op a act (if a=[]then l else if xm l a=true then l.modify c (tnE ser)else if b=true then xw l c (nwE a ser)else l)):=by
 unfold jN
 by_cases ha:a=[]
 ·rw[if_pos (Qw.2 ha),if_pos ha]
 rw[if_neg (fun h=>ha (Qw.1 h)),if_neg ha]
 obtain⟨c',hp',hc,hb⟩:=Mr (s:=GState.mk ser op a act l) (a:=a) (by show l.length<=_;omega) hA
 change j9 (l.map GEntry.Addr) a c' at hp'
 change xm l a=true ↔ (l.map GEntry.Addr)[c']? =some a at hb
 change yt (GState.mk ser op a act l) a=some ((c':Int),xm l a)at hc
 have hcc:c'=c:=by
  have h1:=hp.1;have h2:=hp'.1
  rcases Nat.lt_trichotomy c' c with h|h|h
  ·have:=(Xw hp' (i:=c') (List.getElem?_eq_getElem (by omega))).2 ((Xw hp (i:=c') (List.getElem?_eq_getElem (by omega))).1 h);omega
  ·exact h
  ·have:=(Xw hp (i:=c) (List.getElem?_eq_getElem (by omega))).2 ((Xw hp' (i:=c) (List.getElem?_eq_getElem (by omega))).1 h);omega
 subst hcc
 have hcl:c'<=l.length:=by have:=hp.1;rwa [List.length_map]at this
 rw[hc,oB]
 try dsimp only
 cases hh:xm l a with
 |true=>
  obtain⟨x,hx,hxa⟩:=V8 (hb.1 hh)
  try dsimp only
  rw[zb,oB,hx,oB,if_pos rfl]
  have:=zb0 hx (GEntry.mk x.Addr x.Val x.Deps true x.Turned) (fun x5=>GEntry.mk x5.Addr x5.Val x5.Deps x5.Taint ser)
  have hl2:=(oE hx).1
  rw[List.getElem?_set_self (by simpa using hl2),oB,List.set_set,Bl hx]
  rfl
 |false=>
  rw[if_neg (by decide)]
  try dsimp only
  cases b with
  |false=>rfl
  |true=>
   try dsimp only
   unfold zS
   rw[if_pos (xc (by decide) (by omega)),oB,Bj hcl hl,oB,zb,oB]
   have hg:∀x,(xw l c' x)[c']? =some x:=fun x=>by rw[JS l c' x hcl,if_neg (by omega),if_pos rfl]
   rw[hg,oB,Bk hcl,hg,oB,Bk hcl,if_pos rfl]
   rfl
theorem EQ {l:List GEntry} {c:Nat} {ser:Int}:(l.modify c (tnE ser)).map GEntry.Addr=l.map GEntry.Addr:=by
 apply List.ext_getElem?
 intro i
 rw[List.getElem?_map,List.getElem?_map,List.getElem?_modify]
 split <;> cases l[i]? <;> rfl
theorem OG {ser:Int}:∀(l:List GEntry) (c:Nat),yG (l.modify c (tnE ser))=yG l
 |[],c=>by simp[yG]
 |x::l,0=>by simp only[List.modify_zero_cons,yG];rfl
 |x::l,c+1=>by simp only[List.modify_succ_cons,yG,OG l c]
theorem zi5 {s:GState} {e:GEvent} (hI:stI s) (he:evB e=true) (hm:WQ s e=true) (hz:ssz s+jA e<=2 ^ 36) (hl:s.Entries.length<=1048576):
 ∃s',k7 e s=some s'∧qN s e=some (s',true)∧stI s'∧ssz s'<=ssz s+jA e+1∧s'.Entries.length<=s.Entries.length+1:=by
 have hI0:=hI
 obtain⟨i1,i2,i3,i4⟩:=hI
 have hser:s.Serial<1000000:=by
  rcases Int.lt_or_le s.Serial 1000000 with h|h
  ·exact h
  ·unfold WQ at hm;rw[if_pos (by omega)]at hm;cases hm
 have hw:w64 (s.Serial+1)=s.Serial+1:=zR (by omega) (by omega)
 have hcp:wh s=some s:=if_pos (by omega)
 have hft:=Gn (e:=e) hI0 (by omega)
 rw[hm]at hft
 unfold ssz jA at*
 have hroom:∀n,n<=1048577→zC 152 n:=fun n hn=>Xl (by omega)
 unfold k7 qN
 rw[hcp,oB,hft,oB,hw]
 dsimp only
 obtain⟨c,hp,hc,hb⟩:=Mr (s:=GState.mk (s.Serial+1) s.Open s.Pending s.Act s.Entries) (a:=e.Addr) (by show s.Entries.length<=_;omega) i3
 change j9 (s.Entries.map GEntry.Addr) e.Addr c at hp
 change xm s.Entries e.Addr=true ↔ (s.Entries.map GEntry.Addr)[c]? =some e.Addr at hb
 change yt (GState.mk (s.Serial+1) s.Open s.Pending s.Act s.Entries) e.Addr=some ((c:Int),xm s.Entries e.Addr)at hc
 have hcl:c<=s.Entries.length:=by have:=hp.1;rwa [List.length_map]at this
 rw[hc,oB]
 dsimp only
 unfold xK
 rw[if_pos (by show s.Entries.length<=_;omega),oB,show(GState.mk (s.Serial+1) s.Open s.Pending s.Act s.Entries).Entries=s.Entries from rfl]
 unfold WQ at hm
 rw[if_neg (by omega)]at hm
 have hdone:∀(l:List GEntry) (o:Bool),Asc (l.map GEntry.Addr)→stI (GState.mk (s.Serial+1) o [] 0 l):=fun l o h=>⟨by show(0:Int)<=s.Serial+1;omega,by show s.Serial+1<=1000000;omega,h,fun h=>absurd rfl h⟩
 by_cases k0:e.Kind=0
 ·rw[if_pos k0,if_pos k0]
  refine⟨_,rfl,rfl,⟨by show(0:Int)<=s.Serial+1;omega,by show s.Serial+1<=1000000;omega,i3,fun h=>⟨rfl,(i4 h).2⟩⟩,by(try simp only[vu,vv]);omega,by(try simp only[vu,vv]);omega⟩
 rw[if_neg k0,if_neg k0]
 rw[if_neg k0]at hm
 by_cases k1:e.Kind=1
 ·rw[if_pos k1,if_pos k1]
  rw[if_pos k1]at hm
  simp only[Bool.and_eq_true,decide_eq_true_eq,beq_iff_eq]at hm
  unfold zS
  rw[if_pos (xc (by decide) (by omega)),oB]
  refine⟨_,rfl,rfl,⟨by show(0:Int)<=s.Serial+1;omega,by show s.Serial+1<=1000000;omega,i3,fun h=>⟨hm.1.1.1,hm.1.2⟩⟩,by(try simp only[vu,vv]);omega,by(try simp only[vu,vv]);omega⟩
 rw[if_neg k1,if_neg k1]
 rw[if_neg k1]at hm
 by_cases k2:e.Kind=2
 ·rw[if_pos k2,if_pos k2]
  rw[if_pos k2]at hm
  simp only[Bool.and_eq_true,decide_eq_true_eq]at hm
  unfold zS z6 yR qL
  rw[if_pos (xc (by decide) (by omega)),oB,if_pos (by omega),oB,if_pos (by omega),oB,if_pos (by omega),oB]
  have hpe:kS (GEntry.mk e.Addr e.Val e.Deps false (s.Serial+1)) false s.Entries=if(s.Entries.map GEntry.Addr)[c]? =some e.Addr then s.Entries.set c (GEntry.mk e.Addr e.Val e.Deps false (s.Serial+1))else xw s.Entries c (GEntry.mk e.Addr e.Val e.Deps false (s.Serial+1)):=NF (e:=GEntry.mk e.Addr e.Val e.Deps false (s.Serial+1)) i3 hp
  rw[hpe]
  cases hh:xm s.Entries e.Addr with
  |true=>
   have hk:=hb.1 hh
   obtain⟨x,hx,hxa⟩:=V8 hk
   dsimp only
   rw[zb,oB,hx,oB,if_pos hk]
   refine⟨_,rfl,rfl,hdone _ _ (by rw[EL (by exact hk)];exact i3),?_,by(try simp only[vu,vv]);rw[List.length_set];omega⟩
   have h1:=EO s.Entries c (GEntry.mk e.Addr e.Val e.Deps false (s.Serial+1))
   have h2:esz (GEntry.mk e.Addr e.Val e.Deps false (s.Serial+1))=e.Addr.length+vsz e.Val+bsz e.Deps:=rfl
   try simp only[vu,vv]
   try simp only[List.length_nil]
   omega
  |false=>
   have hk:¬(s.Entries.map GEntry.Addr)[c]? =some e.Addr:=fun h=>by rw[hb.2 h]at hh;cases hh
   dsimp only
   rw[Bj hcl hl,oB,if_neg hk]
   refine⟨_,rfl,rfl,hdone _ _ (by rw[Uz];exact Bh i3 hp hk),?_,by(try simp only[vu,vv]);simp[xw];omega⟩
   have h1:=EN s.Entries c (GEntry.mk e.Addr e.Val e.Deps false (s.Serial+1))
   have h2:esz (GEntry.mk e.Addr e.Val e.Deps false (s.Serial+1))=e.Addr.length+vsz e.Val+bsz e.Deps:=rfl
   try simp only[vu,vv]
   try simp only[List.length_nil]
   omega
 rw[if_neg k2,if_neg k2]
 rw[if_neg k2]at hm
 by_cases k3:e.Kind=3
 ·rw[if_pos k3,if_pos k3]
  rw[if_pos k3]at hm
  simp only[Bool.and_eq_true,decide_eq_true_eq]at hm
  have hne:=Mq he (.inr (.inr (.inl k3)))
  have hh:xm s.Entries e.Addr=true:=by
   have:=(i4 (by rw[hm.1];exact hne)).2
   rw[<-hm.1,this,decide_eq_true];omega
  have hk:=hb.1 hh
  have hcl2:c<s.Entries.length:=by have:=(oE hk).1;rwa [List.length_map]at this
  rw[hm.1,UU i3 hk,zb,oB,zG (by omega),zb]
  unfold qK
  rw[show Yz none (some c) s.Entries.length=some (0,c) by unfold Yz;simp;omega,Option.map_some,oB]
  rw[if_pos (hroom _ (by simp;omega)),oB,show Yz (some (c+1)) none s.Entries.length=some (c+1,s.Entries.length) by unfold Yz;simp;omega,Option.map_some,oB]
  rw[if_pos (hroom _ (by simp;omega)),zi4 hcl2 hl,oB]
  refine⟨_,rfl,?_,hdone _ _ ?_,?_,?_⟩
  ·simp[jj]
  ·have:=zi3 i3 (c:=c) (by rwa [List.length_map])
   rw[<-EM]at this
   simpa [jj] using this
  ·have:=zeu s.Entries c
   have h2:∀L:List GEntry,L=jj s.Entries c→yG L<=yG s.Entries:=fun L h=>by rw[h];exact this
   have:=h2 (List.drop 0 (List.take c s.Entries)++List.drop (c+1) (List.take s.Entries.length s.Entries)) (by simp[jj])
   try simp only[vu,vv]
   try simp only[List.length_nil]
   omega
  ·(try simp only[vu,vv]);simp;omega
 rw[if_neg k3,if_neg k3]
 rw[if_neg k3]at hm
 obtain⟨c2,hp2⟩:=j9.of i3 s.Pending
 have hcl2:c2<=s.Entries.length:=by have:=hp2.1;rwa [List.length_map]at this
 have hmem:=j9.mem i3 hp2
 have hsp:∀(o:Bool) (x:GEntry),s.Entries[c2]? =some x→((zn (c2:Int)).bind fun i10=>(s.Entries[i10]?).bind fun x11=>((s.Entries.set i10 (GEntry.mk x11.Addr x11.Val x11.Deps true x11.Turned))[i10]?).bind fun x12=>some (GState.mk (s.Serial+1) o [] 0 ((s.Entries.set i10 (GEntry.mk x11.Addr x11.Val x11.Deps true x11.Turned)).set i10 (GEntry.mk x12.Addr x12.Val x12.Deps x12.Taint (s.Serial+1)))))=
  some (GState.mk (s.Serial+1) o [] 0 (s.Entries.modify c2 (tnE (s.Serial+1)))):=fun o x hx=>by
  have hl2:=(oE hx).1
  rw[zb,oB,hx,oB,List.getElem?_set_self (by simpa using hl2),oB,List.set_set,Bl hx]
  rfl
 by_cases k4:e.Kind=4
 ·rw[if_pos k4,if_pos k4]
  rw[if_pos k4]at hm
  simp only[decide_eq_true_eq]at hm
  have hne:=Mq he (.inr (.inr (.inr k4)))
  have hpn:s.Pending≠[]:=by rw[hm];exact hne
  rw[EP hl (by omega) i3 hp2,oB,if_neg hpn,if_neg (fun h=>hpn (Qw.1 h)),(i4 hpn).1]
  cases hh:xm s.Entries s.Pending with
  |true=>
   have hk:=hmem.2 (XS.1 hh)
   obtain⟨x,hx,_⟩:=V8 hk
   rw[UU i3 hk,if_pos (by omega),if_pos (hroom _ (by omega)),hsp true x hx]
   refine⟨_,rfl,rfl,hdone _ _ (by rw[EQ];exact i3),?_,by(try simp only[vu,vv]);simp⟩
   try simp only[vu,vv]
   try simp only[List.length_nil]
   rw[OG]
   omega
  |false=>
   rw[J3 hh,if_neg (by decide)]
   refine⟨_,rfl,rfl,hdone _ _ i3,?_,by(try simp only[vu,vv]);simp⟩
   try simp only[vu,vv]
   try simp only[Bool.false_eq_true,if_false]
   try simp only[List.length_nil]
   omega
 rw[if_neg k4,if_neg k4]
 rw[if_neg k4]at hm
 by_cases k6:e.Kind=6
 ·rw[if_pos k6,if_pos k6]
  rw[EP hl (by omega) i3 hp2,oB]
  by_cases hpn:s.Pending=[]
  ·rw[if_pos hpn,if_pos (Qw.2 hpn)]
   refine⟨_,rfl,rfl,hdone _ _ i3,?_,by(try simp only[vu,vv]);omega⟩
   try simp only[vu,vv]
   try simp only[List.length_nil]
   omega
  rw[if_neg hpn,if_neg (fun h=>hpn (Qw.1 h))]
  cases hh:xm s.Entries s.Pending with
  |true=>
   have hk:=hmem.2 (XS.1 hh)
   obtain⟨x,hx,_⟩:=V8 hk
   rw[UU i3 hk,if_pos (by omega),if_pos (hroom _ (by omega)),hsp false x hx]
   refine⟨_,rfl,rfl,hdone _ _ (by rw[EQ];exact i3),?_,by(try simp only[vu,vv]);simp⟩
   try simp only[vu,vv]
   try simp only[List.length_nil]
   rw[OG]
   omega
  |false=>
   have hk:¬(s.Entries.map GEntry.Addr)[c2]? =some s.Pending:=fun h=>by rw[XS.2 (hmem.1 h)]at hh;cases hh
   unfold qL
   rw[J3 hh,if_neg (by decide),if_pos (by omega),oB]
   rw[show kS (GEntry.mk s.Pending (GValue.mk 5 0 [] [] []) [] true (s.Serial+1)) false s.Entries=xw s.Entries c2 (nwE s.Pending (s.Serial+1)) by
    have:kS (nwE s.Pending (s.Serial+1)) false s.Entries=if(s.Entries.map GEntry.Addr)[c2]? =some s.Pending then s.Entries.set c2 (nwE s.Pending (s.Serial+1))else xw s.Entries c2 (nwE s.Pending (s.Serial+1)):=NF (e:=nwE s.Pending (s.Serial+1)) i3 hp2
    rw[if_neg hk]at this
    exact this]
   refine⟨_,rfl,rfl,hdone _ _ (by rw[Uz];exact Bh i3 hp2 hk),?_,by(try simp only[vu,vv]);simp[xw];omega⟩
   have h1:=EN s.Entries c2 (nwE s.Pending (s.Serial+1))
   rw[zmh]at h1
   try simp only[vu,vv]
   try simp only[List.length_nil]
   omega
 rw[if_neg k6,if_neg k6]
 by_cases k5:e.Kind=5
 ·rw[if_pos k5,if_pos k5]
  refine⟨_,rfl,rfl,hdone _ _ i3,?_,by(try simp only[vu,vv]);omega⟩
  try simp only[vu,vv]
  try simp only[List.length_nil]
  omega
 ·exfalso
  unfold evB at he
  rw[if_neg k2,if_neg (by omega),if_neg k1,if_neg (by omega),Bool.and_false]at he
  cases he
def nxS (e:GEvent) (s:GState):GState:=(k7 e s).getD s
def jP:GState→List GEvent→GState×Bool
 |s,[]=>(s,true)
 |s,e::l=>bif WQ s e then jP (nxS e s) l else(s,false)
def Km:GState→List GEvent→List GState
 |_,[]=>[]
 |s,e::l=>nxS e s::Km (nxS e s) l
def okS:GState→List GEvent→Bool
 |_,[]=>true
 |s,e::l=>evB e&&(WQ s e&&okS (nxS e s) l)
theorem Hp {s:GState} {e:GEvent} (hI:stI s) (he:evB e=true) (hm:WQ s e=true) (hz:ssz s+jA e<=2 ^ 20):k7 e s=some (nxS e s)∧qN s e=some (nxS e s,true)∧stI (nxS e s)∧ssz (nxS e s)<=ssz s+jA e+1:=by
 have hlen:=kj s.Entries
 obtain⟨s',h1,h2,h3,h4,_⟩:=zi5 hI he hm (by omega) (by unfold ssz at hz;omega)
 have:nxS e s=s':=by unfold nxS;rw[h1];rfl
 rw[this]
 exact⟨h1,h2,h3,h4⟩
theorem doN {s:GState} {e:GEvent} (hI:stI s) (hm:WQ s e=false) (hz:ssz s<=2 ^ 20):qN s e=some (s,false):=by
 have hlen:=kj s.Entries
 have hft:=Gn (e:=e) hI (by unfold ssz at hz;omega)
 rw[hm]at hft
 unfold qN
 rw[show wh s=some s from if_pos (by omega),oB,hft,oB]
theorem Bm:∀{l:List GEvent} {s:GState},(∀e∈l,evB e=true)→okS s l=(jP s l).2
 |[],s,_=>rfl
 |e::l,s,h=>by
  rw[okS,jP,h e List.mem_cons_self,Bool.true_and,Bm fun x hx=>h x (List.mem_cons_of_mem _ hx)]
  cases WQ s e <;> rfl
theorem ER:∀{l:List GEvent} {s:GState},okS s l=true→∀e∈l,evB e=true
 |[],_,_=>by simp
 |e::l,s,h=>by
  rw[okS,Bool.and_eq_true,Bool.and_eq_true]at h
  intro x hx
  rcases List.mem_cons.1 hx with rfl|hx
  ·exact h.1
  ·exact ER h.2.2 x hx
theorem zmi {m:Nat} (hm:m<=2 ^ 39):zC 72 m:=xc (by decide) (by omega)
theorem Gp {h:GHistory} {k:Int} {v3:Int} {v4:Bool} {v5:Int} {v7:List UInt8} {v8:List GEntry}:∀(l p r:List GEvent) (s:GState) (m:Nat),h.Events=p++l++r→k=((p.length+l.length:Nat):Int)→l.length<m→(∀e∈l,evB e=true)→stI s→ssz s+y3 l<=2 ^ 20→p.length+l.length<=2 ^ 40→
 ∃z,jt k h v3 v4 v5 v7 v8 m (p.length:Int) s=some (bif (jP s l).2 then .inr (z,(jP s l).1)else .inl (false,(jP s l).1)):=by
 intro l
 induction l with
 |nil=>
  intro p r s m _ hk hm _ _ _ _
  obtain⟨m,rfl,_⟩:=zg hm
  exact⟨_,by rw[jt,hk,if_neg (by simp)];rfl⟩
 |cons e l ih=>
  intro p r s m he hk hm hev hI hz hp
  obtain⟨m,rfl,hm'⟩:=zg hm
  simp only[List.length_cons]at hk hm' hp
  simp only[y3]at hz
  have hlen:=kj s.Entries
  have hg:h.Events[p.length]? =some e:=by rw[he,List.append_assoc];exact zp p e (l++r)
  have hee:=hev e List.mem_cons_self
  rw[jt,hk,if_pos (by omega),zb,oB,hg,oB,zev hI hee (by unfold ssz at hz;omega),oB,jP]
  cases hmy:WQ s e with
  |false=>exact⟨0,rfl⟩
  |true=>
   obtain⟨h1,_,h3,h4⟩:=Hp hI hee hmy (by omega)
   obtain⟨z,hzz⟩:=ih (p++[e]) r (nxS e s) m (by rw[he];simp) (by rw[hk];simp;omega) (by omega) (fun x hx=>hev x (List.mem_cons_of_mem _ hx)) h3 (by omega) (by simp;omega)
   refine⟨z,?_⟩
   dsimp only
   rw[h1,oB,ye p e (by omega),<-hk,hzz]
   rfl
theorem zew {h:GHistory} (hz:y3 h.Events<=2 ^ 20):∀(l p:List GEvent) (m:Nat),h.Events=p++l→l.length<m→∃z,ju h m (p.length:Int)=some (bif l.all evB then .inr z else .inl false):=by
 have hl:=YT h.Events
 intro l
 induction l with
 |nil=>
  intro p m he hm
  obtain⟨m,rfl,_⟩:=zg hm
  exact⟨_,by rw[ju,he,if_neg (by simp)];rfl⟩
 |cons e l ih=>
  intro p m he hm
  obtain⟨m,rfl,hm'⟩:=zg hm
  have hlen:h.Events.length=p.length+(l.length+1):=by rw[he];simp
  have hx:1+jA e<=y3 h.Events:=U9 (by rw[he];simp)
  obtain⟨z,hzz⟩:=ih (p++[e]) m (by rw[he];simp) (by simp only[List.length_cons]at hm';omega)
  rw[ju,if_pos (by omega),zb,oB,show h.Events[p.length]? =some e by rw[he];exact zp p e l,oB,zby (by omega),oB,List.all_cons]
  cases evB e with
  |false=>exact⟨0,rfl⟩
  |true=>
   refine⟨z,?_⟩
   dsimp only
   rw[ye p e (by omega),hzz,Bool.true_and]
def hsz (h:GHistory):Nat:=ssz h.Base+y3 h.Events
def hOk (h:GHistory):Bool:=stB h.Base&&(decide (h.Events.length<=300)&&(decide (0<=h.Safe∧h.Safe<=h.Events.length)&&okS h.Base h.Events))
theorem ES {h:GHistory} (hz:hsz h<=2 ^ 20):Yg h=some (hOk h):=by
 unfold hsz at hz
 have hl:=YT h.Events
 unfold Yg XH hOk
 rw[zbg (by omega),oB]
 cases hs:stB h.Base with
 |false=>rfl
 |true=>
  dsimp only
  by_cases c1:300<(h.Events.length:Int)
  ·rw[if_pos c1,decide_eq_false (p:=h.Events.length<=300) (by omega)];rfl
  rw[if_neg c1,decide_eq_true (p:=h.Events.length<=300) (by omega)]
  by_cases c2:h.Safe<0
  ·rw[if_pos c2,decide_eq_false (p:=0<=h.Safe∧h.Safe<=h.Events.length) (by omega)];rfl
  rw[if_neg c2]
  by_cases c3:(h.Events.length:Int)<h.Safe
  ·rw[if_pos c3,decide_eq_false (p:=0<=h.Safe∧h.Safe<=h.Events.length) (by omega)];rfl
  rw[if_neg c3,decide_eq_true (p:=0<=h.Safe∧h.Safe<=h.Events.length) (by omega)]
  obtain⟨z,hzz⟩:=zew (h:=h) (by omega) h.Events [] (h.Events.length+5) rfl (by omega)
  simp only[List.length_nil,Int.natCast_zero]at hzz
  rw[hzz,oB]
  cases hall:h.Events.all evB with
  |false=>
   have:okS h.Base h.Events=false:=by
    cases hk:okS h.Base h.Events with
    |false=>rfl
    |true=>rw[List.all_eq_true.2 (ER hk)]at hall;cases hall
   rw[this];rfl
  |true=>
   have hev:=List.all_eq_true.1 hall
   simp only[cond_true]
   unfold wY Yf
   obtain⟨z2,h2⟩:=Gp (h:=h) (k:=(h.Events.length:Int)) (v3:=0) (v4:=false) (v5:=0) (v7:=[]) (v8:=[]) h.Events [] [] h.Base (h.Events.length+5) (by simp) (by simp) (by omega) hev (Ru hs) hz (by simp;omega)
   simp only[List.length_nil,Int.natCast_zero]at h2
   rw[h2,Bm hev,oB]
   cases (jP h.Base h.Events).2 <;> rfl
theorem DI {evs:List GEvent} {n:Int}:∀(l p:List GEvent) (q:List GState) (s:GState) (m:Nat),evs=p++l→n=(evs.length:Int)→l.length<m→q.length=p.length→stI s→ssz s+y3 l<=2 ^ 20→evs.length<=2 ^ 30→
 ∃z,xA evs n m (p.length:Int) (q++[s])=some (bif okS s l then .inr (z,q++[s]++Km s l)else .inl (false,[])):=by
 intro l
 induction l with
 |nil=>
  intro p q s m he hn hm _ _ _ _
  obtain⟨m,rfl,_⟩:=zg hm
  exact⟨_,by rw[xA,hn,he,if_neg (by simp)];simp[okS,Km];rfl⟩
 |cons e l ih=>
  intro p q s m he hn hm hq hI hz hb
  obtain⟨m,rfl,hm'⟩:=zg hm
  simp only[List.length_cons]at hm'
  simp only[y3]at hz
  have hg:evs[p.length]? =some e:=by rw[he];exact zp p e l
  have hlen:evs.length=p.length+(l.length+1):=by rw[he];simp
  have hgs:(q++[s])[p.length]? =some s:=by rw[<-hq];exact zp q s []
  rw[xA,hn,if_pos (by omega),zb,oB,hg,oB,zbx (by omega),oB,okS]
  cases hev:evB e with
  |false=>exact⟨0,rfl⟩
  |true=>
   dsimp only
   rw[hgs,oB]
   cases hmy:WQ s e with
   |false=>
    rw[doN hI hmy (by omega),oB]
    exact⟨0,rfl⟩
   |true=>
    obtain⟨_,h2,h3,h4⟩:=Hp hI hev hmy (by omega)
    obtain⟨z,hzz⟩:=ih (p++[e]) (q++[s]) (nxS e s) m (by rw[he];simp) hn (by omega) (by simp[hq]) h3 (by omega) hb
    rw[h2,oB]
    dsimp only
    rw[if_pos (zmi (by simp;omega)),ye p e (by omega),<-hn,hzz]
    refine⟨z,?_⟩
    simp only[Bool.true_and,Km]
    cases okS (nxS e s) l <;> simp
theorem zb1 {h:GHistory} (hz:hsz h<=2 ^ 20):q5 h=some (bif hOk h then(h.Base::Km h.Base h.Events,true)else([],false)):=by
 unfold hsz at hz
 have hl:=YT h.Events
 unfold q5 kc hOk
 rw[zbr (by omega),oB]
 cases hs:stB h.Base with
 |false=>rfl
 |true=>
  dsimp only
  by_cases c1:300<(h.Events.length:Int)
  ·rw[if_pos c1,decide_eq_false (p:=h.Events.length<=300) (by omega)];rfl
  rw[if_neg c1,decide_eq_true (p:=h.Events.length<=300) (by omega)]
  have hin:xg h.Safe 0 (h.Events.length:Int)=some (decide (0<=h.Safe∧h.Safe<=h.Events.length)):=by
   unfold xg
   by_cases c2:0<=h.Safe
   ·rw[if_pos c2];simp[c2]
   ·rw[if_neg c2];simp[c2]
  rw[hin,oB]
  by_cases c2:0<=h.Safe∧h.Safe<=h.Events.length
  ·rw[decide_eq_true c2]
   dsimp only
   rw[show wh h.Base=some h.Base from if_pos (by omega),oB]
   obtain⟨z,hzz⟩:=DI (evs:=h.Events) (n:=(h.Events.length:Int)) h.Events [] [] h.Base (h.Events.length+5) rfl rfl (by omega) rfl (Ru hs) hz (by omega)
   simp only[List.length_nil,Int.natCast_zero,List.nil_append]at hzz
   rw[hzz,oB]
   cases okS h.Base h.Events <;> simp
  ·rw[decide_eq_false c2];rfl
def MdH (h:GHistory):Prop:=MdS h.Base∧h.Events.length<=2 ^ 63 - 1∧J2 h.Events
theorem zmj {h:GHistory} {n:Int} (hm:MdH h) (h0:0<=n) (h1:n<=2 ^ 20):ZU h n=some (xH (hsz h) n):=by
 unfold ZU
 rw[zme hm.1 h0 h1,oB]
 unfold xH hsz
 by_cases c1:(ssz h.Base:Int)<=n
 ·rw[if_pos c1,if_neg (by omega)]
  unfold vJ
  rw[if_pos ⟨hm.2.1,hm.2.2,by omega,by omega⟩,oB]
  unfold xH
  by_cases c2:(y3 h.Events:Int)<=n - ssz h.Base
  ·rw[if_pos c2,if_neg (by omega),if_pos (by omega)];congr 1;omega
  ·rw[if_neg c2,if_pos (by omega),if_neg (by omega)]
 ·rw[if_neg c1,if_pos (by omega),if_neg (by omega)]
theorem zmk {h:GHistory} (hz:hsz h<=2 ^ 20):ZV h=some h:=by
 unfold hsz at hz
 unfold ZV vL
 rw[zmf (by omega),oB,if_pos (by omega),oB]
 cases h;rfl
theorem zml {h:GHistory} (hz:hsz h<=2 ^ 39):kY h h=some true:=by
 unfold hsz at hz
 unfold kY
 rw[zmg (by omega),oB]
 dsimp only
 rw[DH (by omega),oB]
 dsimp only
 rw[if_pos rfl]
theorem Ms {h:GHistory} (hk:hOk h=true):stB h.Base=true∧h.Events.length<=300∧(0<=h.Safe∧h.Safe<=h.Events.length)∧okS h.Base h.Events=true:=by
 unfold hOk at hk
 simp only[Bool.and_eq_true,decide_eq_true_eq]at hk
 exact⟨hk.1,hk.2.1,hk.2.2.1,hk.2.2.2⟩
theorem ET:∀{l:List GEvent} {s:GState},stI s→ssz s+y3 l<=2 ^ 20→okS s l=true→stI (jP s l).1∧ssz (jP s l).1<=ssz s+y3 l∧(jP s l).2=true∧(s::Km s l)[l.length]? =some (jP s l).1
 |[],s,hI,hz,_=>⟨hI,by simp[jP,y3],rfl,rfl⟩
 |e::l,s,hI,hz,hk=>by
  rw[okS,Bool.and_eq_true,Bool.and_eq_true]at hk
  simp only[y3]at hz ⊢
  obtain⟨_,_,h3,h4⟩:=Hp hI hk.1 hk.2.1 (by omega)
  obtain⟨g1,g2,g3,g4⟩:=ET (l:=l) (s:=nxS e s) h3 (by omega) hk.2.2
  rw[jP,hk.2.1]
  exact⟨g1,by simp only[cond_true];omega,g3,by simp only[Km,List.length_cons,List.getElem?_cons_succ,cond_true];exact g4⟩
theorem U0:∀(a b:List GEvent),y3 (a++b)=y3 a+y3 b
 |[],b=>by simp[y3]
 |x::a,b=>by simp only[List.cons_append,y3,U0 a b];omega
theorem A4 (l:List GEvent) (n:Nat):y3 (l.take n)<=y3 l:=by
 have:=U0 (l.take n) (l.drop n)
 rw[List.take_append_drop]at this
 omega
theorem EU:∀{l:List GEvent} {s:GState} {n:Nat},okS s l=true→n<=l.length→okS s (l.take n)=true∧(s::Km s l)[n]? =some (jP s (l.take n)).1
 |l,s,0,_,_=>⟨rfl,by simp[jP]⟩
 |[],s,n+1,_,hn=>by simp at hn
 |e::l,s,n+1,hk,hn=>by
  rw[okS,Bool.and_eq_true,Bool.and_eq_true]at hk
  obtain⟨h1,h2⟩:=EU (l:=l) (s:=nxS e s) (n:=n) hk.2.2 (by simpa using hn)
  rw[List.take_succ_cons,okS,jP,hk.1,hk.2.1,h1]
  exact⟨rfl,by simp only[Km,List.getElem?_cons_succ,cond_true];exact h2⟩
theorem A5 (l:List GEvent) (n:Nat):y3 (l.take n)+y3 (l.drop n)=y3 l:=by
 rw[<-U0,List.take_append_drop]
theorem zi6 {h:GHistory} {n:Nat} (hz:hsz h<=2 ^ 20) (hk:hOk h=true) (hn:n<=h.Events.length):wY h ((n:Nat):Int)=some ((jP h.Base (h.Events.take n)).1,true)∧(h.Base::Km h.Base h.Events)[n]? =some (jP h.Base (h.Events.take n)).1∧
 ssz (jP h.Base (h.Events.take n)).1+y3 (h.Events.drop n)<=hsz h:=by
 unfold hsz at hz ⊢
 have hl:=YT h.Events
 have hd:=A5 h.Events n
 obtain⟨k1,_,_,k4⟩:=Ms hk
 obtain⟨v1,v2⟩:=EU k4 hn
 have hz2:ssz h.Base+y3 (h.Events.take n)<=2 ^ 20:=by omega
 obtain⟨r1,r2,r3,_⟩:=ET (Ru k1) hz2 v1
 refine⟨?_,v2,by omega⟩
 have hln:(h.Events.take n).length=n:=by simp[hn]
 unfold wY Yf
 obtain⟨z2,h2⟩:=Gp (h:=h) (k:=((n:Nat):Int)) (v3:=0) (v4:=false) (v5:=0) (v7:=[]) (v8:=[]) (h.Events.take n) [] (h.Events.drop n) h.Base (h.Events.length+5) (by simp) (by rw[hln];simp) (by omega) (ER v1) (Ru k1) hz2 (by rw[hln];simp;omega)
 simp only[List.length_nil,Int.natCast_zero]at h2
 rw[h2,r3]
 rfl
def U1 (a b:Int):Int:=if a<b then -1 else if b<a then 1 else 0
theorem UV (a b:Int):qV a b=some (U1 a b):=by
 unfold qV Y7 U1
 rw[oB,oB]
 dsimp only
 split
 ·rfl
 ·split <;> rfl
theorem OH (a b:Int):jK a b=some (U1 a b):=by
 unfold jK U1
 split
 ·rfl
 ·split <;> rfl
theorem U2 (a:Int):U1 a a=0:=by unfold U1;rw[if_neg (by omega),if_neg (by omega)]
theorem UW {a b:Int} (h:a≠b):U1 a b≠0:=by
 unfold U1
 split
 ·decide
 ·rw[if_pos (by omega)];decide
theorem U3:∀(a b:List UInt8),xy a b=some (Lib.compareBytes a b):=by
 intro a
 induction a with
 |nil=>intro b;cases b <;> simp[xy,Op.bytesLess,Lib.compareBytes]
 |cons x a ih=>
  intro b
  cases b with
  |nil=>simp[xy,Op.bytesLess,Lib.compareBytes]
  |cons y b=>
   have:=ih b
   unfold xy at this ⊢
   simp only[Op.bytesLess,Lib.compareBytes]
   by_cases h1:x<y
   ·simp[h1]
   ·by_cases h2:y<x
    ·have h3:¬x=y:=fun e=>by subst e;exact h1 h2
     have h4:¬y=x:=fun e=>h3 e.symm
     simp[h1,h2,h3,h4]
    ·have h3:x=y:=UInt8.le_antisymm (UInt8.not_lt.1 h2) (UInt8.not_lt.1 h1)
     subst h3
     simpa [h1] using this
theorem Bn (a b:List UInt8):yr a b=some (Lib.compareBytes a b):=rfl
theorem zex:Lib.compareBytes [] []=0:=rfl
theorem or3 (a b c:Int):Z7 [a,b,c]=some (if a=0 then(if b=0 then(if c=0 then 0 else c)else b)else a):=by
 unfold Z7
 rw[if_pos (by simp)]
 rfl
theorem Rv {v:GValue} (h:xj v=true):(v.Kind=3∨v.S.length=0)∧(v.Kind=5→v.K.length=v.L.length∧Asc v.K)∧v.L.length<=40∧(v.Kind=3→v.N=0∧v.L.length=0)∧(v.Kind≠5→v.K.length=0)∧v.K.length<=40:=by
 unfold xj at h
 by_cases k0:v.Kind=0∨v.Kind=6
 ·rw[if_pos k0]at h
  have h:=of_decide_eq_true h
  exact⟨.inr h.2.1,fun e=>by omega,by omega,fun e=>by omega,fun _=>h.2.2.1,by omega⟩
 rw[if_neg k0]at h
 by_cases k1:v.Kind=1
 ·rw[if_pos k1]at h
  have h:=of_decide_eq_true h
  exact⟨.inr h.2.1,fun e=>by omega,by omega,fun e=>by omega,fun _=>h.2.2.1,by omega⟩
 rw[if_neg k1]at h
 by_cases k2:v.Kind=2
 ·rw[if_pos k2]at h
  have h:=of_decide_eq_true h
  exact⟨.inr h.2.1,fun e=>by omega,by omega,fun e=>by omega,fun _=>h.2.2.1,by omega⟩
 rw[if_neg k2]at h
 by_cases k3:v.Kind=3
 ·rw[if_pos k3,Bool.and_eq_true]at h
  have h:=of_decide_eq_true h.2
  exact⟨.inl k3,fun e=>by omega,by omega,fun _=>⟨h.1,h.2.2⟩,fun _=>h.2.1,by omega⟩
 rw[if_neg k3]at h
 by_cases k4:v.Kind=4
 ·rw[if_pos k4]at h
  have h:=of_decide_eq_true h
  exact⟨.inr h.2.1,fun e=>by omega,by omega,fun e=>by omega,fun _=>h.2.2.1,by omega⟩
 rw[if_neg k4]at h
 by_cases k5:v.Kind=5
 ·rw[if_pos k5,Bool.and_eq_true]at h
  have h1:=of_decide_eq_true h.1
  exact⟨.inr h1.2.2.1,fun _=>⟨h1.1,ze5 h.2⟩,by omega,fun e=>by omega,fun e=>absurd k5 e,by omega⟩
 ·rw[if_neg k5]at h;cases h
theorem UX {d:Nat} {v:GValue} (h:shV (d+1) v=true):xj v=true∧∀x∈v.L,shV d x=true:=by
 rw[shV,Bool.and_eq_true]at h
 exact⟨h.1,fun x hx=>List.all_eq_true.1 h.2 x hx⟩
theorem OI:∀(d:Nat) (a b:GValue) (f g:Nat),shV d a=true→shV d b=true→vsz a+3<=f→vsz a+3<=g→∃c,xf f a b=some c∧yh g a b=some c
 |0,a,b,f,g,h,_,_,_=>by cases h
 |d+1,a,b,f,g,ha,hb,hf,hg=>by
  obtain⟨f,rfl,hf'⟩:∃n,f=n+1∧vsz a+2<=n:=⟨f - 1,by omega,by omega⟩
  obtain⟨g,rfl,hg'⟩:∃n,g=n+1∧vsz a+2<=n:=⟨g - 1,by omega,by omega⟩
  obtain⟨la,ca⟩:=UX ha
  obtain⟨lb,cb⟩:=UX hb
  obtain⟨a1,a2,a3,a4,a5,a6⟩:=Rv la
  obtain⟨b1,b2,b3,b4,b5,b6⟩:=Rv lb
  have hva:=yT a
  have hLa:=yS a.L
  rw[show xf (f+1) a b=Z2 (xf f) f a b from rfl,show yh (g+1) a b=kz (yh g) g a b from rfl]
  unfold Z2 kz
  rw[UV,oB,UV,oB,Bn,oB,or3,oB]
  by_cases hk:a.Kind=b.Kind
  ·rw[if_pos hk,hk,U2,if_pos rfl]
   by_cases k3:a.Kind=3
   ·have k3b:b.Kind=3:=by omega
    rw[if_pos k3b,(a4 k3).1,(b4 k3b).1,U2,if_pos rfl,U3,oB]
    refine⟨_,rfl,?_⟩
    by_cases hc:Lib.compareBytes a.S b.S=0
    ·rw[if_pos hc,if_pos rfl,hc,(a4 k3).2,(b4 k3b).2]
     obtain⟨g,rfl,_⟩:∃n,g=n+1∧0<=n:=⟨g - 1,by omega,by omega⟩
     rw[y0,if_neg (by decide),oB]
     dsimp only
     rw[UV];rfl
    ·rw[if_neg hc,if_neg hc]
   ·have k3b:¬b.Kind=3:=by omega
    have s1:a.S=[]:=List.eq_nil_of_length_eq_zero (a1.resolve_left k3)
    have s2:b.S=[]:=List.eq_nil_of_length_eq_zero (b1.resolve_left k3b)
    rw[if_neg k3b,s1,s2,zex,if_pos rfl]
    by_cases hn:a.N=b.N
    ·rw[if_pos hn,hn,U2,if_pos rfl,if_pos rfl]
     have loop:∀(j i m m':Nat),i+j=min a.L.length b.L.length→j<m→j<m'→(∃z z',xW (xf f) a b m (i:Int)=some (.inr z)∧y0 (yh g) (if(b.L.length:Int)<(a.L.length:Int)then(b.L.length:Int)else(a.L.length:Int)) a b m' (i:Int)=some (.inr z'))∨
      ∃c,xW (xf f) a b m (i:Int)=some (.inl c)∧y0 (yh g) (if(b.L.length:Int)<(a.L.length:Int)then(b.L.length:Int)else(a.L.length:Int)) a b m' (i:Int)=some (.inl c):=by
      have hmin:(if(b.L.length:Int)<(a.L.length:Int)then(b.L.length:Int)else(a.L.length:Int))=((min a.L.length b.L.length:Nat):Int):=by split <;> omega
      rw[hmin]
      intro j
      induction j with
      |zero=>
       intro i m m' hi hm hm'
       obtain⟨m,rfl,_⟩:=zg hm
       obtain⟨m',rfl,_⟩:=zg hm'
       refine .inl ⟨(i:Int),(i:Int),?_,by rw[y0,if_neg (by omega)]⟩
       rw[xW]
       by_cases h1:((i:Nat):Int)<(a.L.length:Int)
       ·rw[if_pos h1,if_neg (by omega)]
       ·rw[if_neg h1]
      |succ j ih=>
       intro i m m' hi hm hm'
       obtain⟨m,rfl,hm2⟩:=zg hm
       obtain⟨m',rfl,hm2'⟩:=zg hm'
       have i1:i<a.L.length:=by omega
       have i2:i<b.L.length:=by omega
       have next:=ih (i+1) m m' (by omega) (by omega) (by omega)
       have hin:1+vsz a.L[i]<=yX a.L:=yN (List.getElem_mem i1)
       obtain⟨c,c1,c2⟩:=OI d a.L[i] b.L[i] f g (ca _ (List.getElem_mem i1)) (cb _ (List.getElem_mem i2)) (by omega) (by omega)
       rw[xW,y0,if_pos (by omega),if_pos (by omega)]
       rw[if_pos (show((i:Nat):Int)<((min a.L.length b.L.length:Nat):Int) by omega)]
       by_cases k5:a.Kind=5
       ·have e1:=(a2 k5).1
        have e2:=(b2 (by omega)).1
        rw[if_pos k5,if_pos k5,zb,oB,oB,zj (show i<a.K.length by omega),oB,oB,zj (show i<b.K.length by omega),oB,oB,U3,oB,Bn,oB]
        by_cases hc:Lib.compareBytes (a.K[i]'(by omega)) (b.K[i]'(by omega))=0
        ·rw[if_pos hc,if_pos hc,zj i1,oB,oB,zj i2,oB,oB,c1,oB,c2,oB,zG (by omega)]
         by_cases h0:c=0
         ·rw[if_pos h0,if_pos h0];exact next
         ·rw[if_neg h0,if_neg h0];exact .inr ⟨c,rfl,rfl⟩
        ·rw[if_neg hc,if_neg hc];exact .inr ⟨_,rfl,rfl⟩
       ·rw[if_neg k5,if_neg k5,zb,oB,oB,zj i1,oB,oB,zj i2,oB,oB,c1,oB,c2,oB,zG (by omega)]
        by_cases h0:c=0
        ·rw[if_pos h0,if_pos h0];exact next
        ·rw[if_neg h0,if_neg h0];exact .inr ⟨c,rfl,rfl⟩
     have:=loop (min a.L.length b.L.length) 0 f g (by omega) (by omega) (by omega)
     rw[show((0:Nat):Int)=0 from rfl]at this
     rcases this with⟨z,z',e1,e2⟩|⟨c,e1,e2⟩
     ·rw[e1,e2,oB,oB]
      dsimp only
      rw[OH,UV]
      exact⟨_,rfl,rfl⟩
     ·rw[e1,e2]
      exact⟨c,rfl,rfl⟩
    ·rw[if_neg hn,if_neg (UW hn),if_neg (UW hn),OH]
     exact⟨_,rfl,rfl⟩
  ·rw[if_neg hk,if_neg (UW hk),if_neg (UW hk),OH]
   exact⟨_,rfl,rfl⟩
theorem za5 {a b:GValue} (ha:shV 5 a=true) (hb:shV 5 b=true):∃c,kR a b=some c∧qP a b=some c:=OI 5 a b _ _ ha hb (Nat.le_refl _) (Nat.le_refl _)
/-! #### ascending lists of texts -/
def SA (l:List (List UInt8)):Prop:=l.Pairwise fun x y=>Lib.compareBytes x y<0
theorem Gq:∀{a b:List (List UInt8)},SA a→SA b→(∀x,x∈a ↔ x∈b)→a=b
 |[],[],_,_,_=>rfl
 |[],y::b,_,_,h=>absurd ((h y).2 List.mem_cons_self) (by simp)
 |x::a,[],_,_,h=>absurd ((h x).1 List.mem_cons_self) (by simp)
 |x::a,y::b,h1,h2,h=>by
  have c1:=List.pairwise_cons.1 h1
  have c2:=List.pairwise_cons.1 h2
  have e:x=y:=by
   rcases List.mem_cons.1 ((h x).1 List.mem_cons_self)with e|hx
   ·exact e
   ·rcases List.mem_cons.1 ((h y).2 List.mem_cons_self)with e|hy
    ·exact e.symm
    ·have g1:=c1.1 y hy
     have g2:=c2.1 x hx
     have:=WW x y
     omega
  subst e
  have nx:x∉a:=fun hx=>by have:=c1.1 x hx;rw[VD]at this;omega
  have ny:x∉b:=fun hx=>by have:=c2.1 x hx;rw[VD]at this;omega
  rw[Gq c1.2 c2.2 fun z=> ?_]
  have hz:=h z
  simp only[List.mem_cons]at hz
  constructor
  ·intro hza
   rcases hz.1 (.inr hza)with e|hzb
   ·subst e;exact absurd hza nx
   ·exact hzb
  ·intro hzb
   rcases hz.2 (.inr hzb)with e|hza
   ·subst e;exact absurd hzb ny
   ·exact hza
theorem zey {x y z:List UInt8} (h1:Lib.compareBytes x y<0) (h2:¬Lib.compareBytes z y<0):Lib.compareBytes x z<0:=by
 by_cases h:Lib.compareBytes y z<0
 ·exact Q3 h1 h
 ·have:=WW y z
  have hz:Lib.compareBytes y z=0:=by omega
  rw[<-JE hz];exact h1
theorem OJ:∀(l:List (List UInt8)) (p:List UInt8),Ve (p::l)→SA (p::Q8 p l)∧∀x,x∈p::Q8 p l ↔ x∈p::l
 |[],p,_=>⟨List.pairwise_singleton _ _,fun x=>Iff.rfl⟩
 |y::l,p,h=>by
  have c:=List.pairwise_cons.1 h
  have c2:=List.pairwise_cons.1 c.2
  rw[Q8]
  by_cases e:y=p
  ·subst e
   rw[if_pos rfl]
   obtain⟨h1,h2⟩:=OJ l y c.2
   exact⟨h1,fun x=>by rw[h2];simp⟩
  ·rw[if_neg e]
   obtain⟨h1,h2⟩:=OJ l y c.2
   have hpy:Lib.compareBytes p y<0:=by
    have:=c.1 y List.mem_cons_self
    have hn:=WW p y
    by_cases h0:Lib.compareBytes p y=0
    ·exact absurd (JE h0).symm e
    ·omega
   refine⟨List.pairwise_cons.2 ⟨fun z hz=> ?_,h1⟩,fun x=> ?_⟩
   ·rcases List.mem_cons.1 ((h2 z).1 hz)with rfl|hz
    ·exact hpy
    ·exact zey hpy (c2.1 z hz)
   ·have:=h2 x
    simp only[List.mem_cons]at this ⊢
    rw[this]
def ZZ (ts:List (List UInt8)):List (List UInt8):=K9 (vZ ts)
theorem EV (ts:List (List UInt8)):SA (ZZ ts)∧∀x,x∈ZZ ts ↔ x∈ts:=by
 have hp:=WX ts
 have hs:=UD ts
 unfold ZZ
 generalize vZ ts=l at hp hs
 cases l with
 |nil=>exact⟨List.Pairwise.nil,fun x=>hp.mem_iff⟩
 |cons y l=>
  obtain⟨h1,h2⟩:=OJ l y hs
  exact⟨h1,fun x=>(h2 x).trans hp.mem_iff⟩
theorem U4:∀(l:List (List UInt8)) (p:List UInt8),(Q8 p l).length<=l.length
 |[],_=>Nat.le_refl _
 |y::l,p=>by
  rw[Q8]
  split
  ·exact Nat.le_trans (U4 l p) (Nat.le_succ _)
  ·exact Nat.succ_le_succ (U4 l y)
theorem zb2 (ts:List (List UInt8)):(ZZ ts).length<=ts.length:=by
 have hp:=(WX ts).length_eq
 unfold ZZ
 generalize vZ ts=l at hp
 cases l with
 |nil=>exact Nat.zero_le _
 |cons y l=>rw[<-hp];exact Nat.succ_le_succ (U4 l y)
theorem zez {h:GHistory} (hz:hsz h<=2 ^ 30):∃(k:Int) (a:List UInt8) (b:List GEntry) (c:List GEvent),jO h.Base.Serial h.Base.Open h.Base.Act h.Safe 1 h.Base.Pending h.Base.Entries h.Events=some (k,a,b,c)∧0<=k∧k<=1+4*hsz h:=by
 unfold hsz ssz at hz ⊢
 have:=zcf h.Base.Entries
 have:=Bx h.Events
 unfold jO XZ
 rw[wk (by omega) (by omega),oB]
 dsimp only
 rw[Hb (by omega) (by omega),oB]
 dsimp only
 rw[oB]
 dsimp only
 rw[Hc (by omega) (by omega),oB]
 exact⟨_,_,_,_,rfl,by omega,by omega⟩
theorem U5 (a b:List GStep):yu (a++b)=yu a+yu b:=by
 induction a with
 |nil=>simp[yu]
 |cons x l ih=>simp only[List.cons_append,yu,ih];omega
theorem zi7 (v:GValue):1<=ptV v:=by have:=VA v;omega
theorem EW {l:List GValue} {v:GValue} (h:v∈l):ptV v<=yo l:=by
 induction l with
 |nil=>cases h
 |cons e l ih=>
  simp only[yo]
  rcases List.mem_cons.1 h with rfl|h
  ·omega
  ·have:=ih h;omega
theorem zi8 {a:List (List UInt8)} (h:Asc a) {i j:Nat} {x:List UInt8} (hi:a[i]? =some x) (hj:a[j]? =some x):i=j:=by
 obtain⟨i1,i2⟩:=oE hi
 obtain⟨j1,j2⟩:=oE hj
 rcases Nat.lt_trichotomy i j with c|c|c
 ·have:=h i j j1 c
  rw[i2,j2,Zi]at this;cases this
 ·exact c
 ·have:=h j i i1 c
  rw[i2,j2,Zi]at this;cases this
theorem zb3 {a:List (List UInt8)} (h:Asc a):SA a:=by
 unfold SA
 rw[List.pairwise_iff_getElem]
 intro i j hi hj hij
 exact zmr.2 (h i j hj hij)
theorem U6 {x:List UInt8} {l l':List (List UInt8)} (h:∀z,z∈l ↔ z=x∨z∈l') (hx:∀z∈l',Lib.compareBytes x z<0):ZZ l=x::ZZ l':=by
 obtain⟨h1,h2⟩:=EV l
 obtain⟨g1,g2⟩:=EV l'
 refine Gq h1 (List.pairwise_cons.2 ⟨fun z hz=>hx z ((g2 z).1 hz),g1⟩) fun z=> ?_
 rw[h2,h,List.mem_cons,g2]
theorem Mt {v:GValue} {p q:List (List UInt8)} {k:List UInt8} (hA:Asc v.K) (hl:v.K.length<=2 ^ 40) (hK:v.K=p++k::q):wj v k=some ((p.length:Int),true):=by
 obtain⟨c,c1,c2⟩:=LW (x:=k) hl hA
 have hm:k∈v.K:=by rw[hK];simp
 have hp:v.K[p.length]? =some k:=by rw[hK];exact zp p k q
 have:=zi8 hA ((j9.mem hA c1).2 hm) hp
 unfold wj
 rw[c2,oB,decide_eq_true hm,this]
theorem Bo {v:GValue} {k:List UInt8} (hA:Asc v.K) (hl:v.K.length<=2 ^ 40) (hK:k∉v.K):∃c,wj v k=some (c,false):=by
 obtain⟨c,c1,c2⟩:=LW (x:=k) hl hA
 unfold wj
 rw[c2,oB,decide_eq_false hK]
 exact⟨_,rfl⟩
theorem zmm (a b c d W:Nat):(a+b+(c+d))*W=(a+c)*W+(b+d)*W:=by
 rw[<-Nat.add_mul];congr 1;omega
theorem JC {p:List GStep} {s:GStep} (h:yu p<=2 ^ 30):yQ p s=some (p++[s]):=by
 have:=k8 p
 unfold yQ
 rw[if_pos (xc (by decide) (by omega)),if_pos (xc (by decide) (by simp only[List.length_cons,List.length_nil];omega))]
def DB (gs:GValue→GValue→List GStep→Option (List GChange)) (gi:List GStep→GValue→GValue→Option (List GChange)) (W:Nat) (x y:GValue):Prop:=
 ∀p,1+yu p+vsz x+vsz y<=W→∃r,gs x y p=some r∧gi p x y=some r∧zY r<=(ptV x+ptV y)*W
theorem zb4 {gs:GValue→GValue→List GStep→Option (List GChange)} {gi:List GStep→GValue→GValue→Option (List GChange)} {W:Nat} {a b:GValue} {p:List GStep}
 (hb:a.L.length=b.L.length) (hG:∀x∈a.L,∀y∈b.L,DB gs gi W x y) (hp:1+yu p+vsz a+vsz b<=W) (hW:W<=2 ^ 30):
 ∀(la lb pa pb:List GValue) (acc:List GChange) (m m':Nat),a.L=pa++la→b.L=pb++lb→pa.length=pb.length→la.length=lb.length→la.length<m→la.length<m'→zY acc+(yo la+yo lb)*W<=2 ^ 38→
 ∃z z' r,jx gs p a b m (pa.length:Int) acc=some (z,r)∧kJ gi p (a.L.length:Int) a b m' (pa.length:Int) acc=some (z',r)∧zY r<=zY acc+(yo la+yo lb)*W:=by
 have va:=yT a
 have vb:=yT b
 have la0:=yS a.L
 have hpl:=k8 p
 intro la
 induction la with
 |nil=>
  intro lb pa pb acc m m' ha hb hpp hll hm hm' hacc
  obtain⟨m,rfl,_⟩:=zg hm
  obtain⟨m',rfl,_⟩:=zg hm'
  refine⟨_,_,acc,by rw[jx,ha,List.append_nil,if_neg (by omega)],by rw[kJ,ha,List.append_nil,if_neg (by omega)],by omega⟩
 |cons x la ih=>
  intro lb pa pb acc m m' ha hb hpp hll hm hm' hacc
  obtain⟨m,rfl,hm2⟩:=zg hm
  obtain⟨m',rfl,hm2'⟩:=zg hm'
  cases lb with
  |nil=>simp at hll
  |cons y lb=>
   simp only[List.length_cons]at hll hm2 hm2'
   have hlen:a.L.length=pa.length+(la.length+1):=by rw[ha];simp
   have hxa:x∈a.L:=by rw[ha];simp
   have hyb:y∈b.L:=by rw[hb];simp
   have hx:=yN hxa
   have hy:=yN hyb
   have gx:a.L[pa.length]? =some x:=by rw[ha];exact zp pa x la
   have gy:b.L[pa.length]? =some y:=by rw[hb,hpp];exact zp pb y lb
   simp only[yo]at hacc ⊢
   rw[zmm]at hacc ⊢
   obtain⟨r,r1,r2,r3⟩:=hG x hxa y hyb (p++[GStep.mk 1 [] (pa.length:Int)]) (by
    rw[U5];simp only[yu,Wh,GStep.Key,List.length_nil];omega)
   have hrl:=k9 r
   have hal:=k9 acc
   obtain⟨z,z',q,q1,q2,q3⟩:=ih lb (pa++[x]) (pb++[y]) (acc++r) m m' (by rw[ha];simp) (by rw[hb];simp) (by simp[hpp]) (by omega) (by omega) (by omega) (by rw[ZP];omega)
   rw[ZP]at q3
   refine⟨z,z',q,?_,?_,by omega⟩
   ·rw[jx,if_pos (by omega),zb,oB,gx,oB,gy,oB,JC (by omega),oB,r1,oB,if_pos (vC (by omega)),ye pa x (by omega),q1]
   ·rw[kJ,if_pos (by omega),XD (by omega),oB,if_pos (xc (by decide) (by simp only[List.length_cons,List.length_nil];omega)),zb,oB,gx,oB,gy,oB,r2,oB,if_pos (vC (by omega)),ye pa x (by omega),q2]
theorem zb5 {p:List GStep} {k:List UInt8} {x:GValue} {v W:Nat} (hv:2+k.length+vsz x<=v) (hp:1+yu p+v<=W) (r:GChange) (hr:X7 r=yu (p++[GStep.mk 0 k 0])+vsz x):zY [r]<=ptV x*W:=by
 have h1:=zi7 x
 have h2:W<=ptV x*W:=Nat.le_mul_of_pos_left W h1
 rw[U5]at hr
 simp only[yu,Wh,GStep.Key]at hr
 simp only[zY]
 omega
theorem zsz:vsz (GValue.mk 0 0 [] [] [])=0:=rfl
set_option maxHeartbeats 2000000 in
theorem ze0 {gs:GValue→GValue→List GStep→Option (List GChange)} {gi:List GStep→GValue→GValue→Option (List GChange)} {W:Nat} {a b:GValue} {p:List GStep}
 (hA:Asc a.K) (hB:Asc b.K) (hG:∀x∈a.L,∀y∈b.L,DB gs gi W x y) (hp:1+yu p+vsz a+vsz b<=W) (hW:W<=2 ^ 30) (ks:List (List UInt8)):
 ∀(d:Nat) (ka kb pka pkb:List (List UInt8)) (la lb pla plb:List GValue) (done:List (List UInt8)) (acc:List GChange) (m m':Nat),ka.length+kb.length<=d→a.K=pka++ka→a.L=pla++la→b.K=pkb++kb→b.L=plb++lb→
  pka.length=pla.length→pkb.length=plb.length→ka.length=la.length→kb.length=lb.length→(∀z∈pka,∀y∈kb,Lib.compareBytes z y<0)→(∀z∈pkb,∀y∈ka,Lib.compareBytes z y<0)→ks=done++ZZ (ka++kb)→ks.length<=2 ^ 40→
  ka.length+kb.length<m→ka.length+kb.length<m'→zY acc+(yo la+yo lb)*W<=2 ^ 38→
 ∃z z1 z' r,zz gs p a b m (pka.length:Int) (pkb.length:Int) acc=some (z,z1,r)∧yH gi p ks (ks.length:Int) a b m' (done.length:Int) acc=some (z',r)∧zY r<=zY acc+(yo la+yo lb)*W:=by
 have va:=yT a
 have vb:=yT b
 have ka0:=wT a.K
 have kb0:=wT b.K
 have hpl:=k8 p
 have hSA:=zb3 hA
 have hSB:=zb3 hB
 intro d
 induction d with
 |zero=>
  intro ka kb pka pkb la lb pla plb done acc m m' hd hka hla hkb hlb e1 e2 e3 e4 i1 i2 hks hkl hm hm' hacc
  obtain⟨m,rfl,_⟩:=zg hm
  obtain⟨m',rfl,_⟩:=zg hm'
  have ea:ka=[]:=List.eq_nil_of_length_eq_zero (by omega)
  have eb:kb=[]:=List.eq_nil_of_length_eq_zero (by omega)
  subst ea eb
  have ec:ZZ ([]++[])=([]:List (List UInt8)):=rfl
  rw[ec,List.append_nil]at hks
  refine⟨_,_,_,acc,by rw[zz,hka,hkb,List.append_nil,List.append_nil,if_neg (by omega),if_neg (by omega)],by rw[yH,hks,if_neg (by omega)],by omega⟩
 |succ d ih=>
  intro ka kb pka pkb la lb pla plb done acc m m' hd hka hla hkb hlb e1 e2 e3 e4 i1 i2 hks hkl hm hm' hacc
  obtain⟨m,rfl,hm2⟩:=zg hm
  obtain⟨m',rfl,hm2'⟩:=zg hm'
  have hal:=k9 acc
  have lenA:a.K.length=pka.length+ka.length:=by rw[hka];simp
  have lenB:b.K.length=pkb.length+kb.length:=by rw[hkb];simp
  have sa1:SA ka:=by rw[hka]at hSA;exact(List.pairwise_append.1 hSA).2.1
  have sb1:SA kb:=by rw[hkb]at hSB;exact(List.pairwise_append.1 hSB).2.1
  have sa2:∀z∈pka,∀y∈ka,Lib.compareBytes z y<0:=by rw[hka]at hSA;exact(List.pairwise_append.1 hSA).2.2
  have sb2:∀z∈pkb,∀y∈kb,Lib.compareBytes z y<0:=by rw[hkb]at hSB;exact(List.pairwise_append.1 hSB).2.2
  have irr:∀z:List UInt8,¬Lib.compareBytes z z<0:=fun z=>by rw[VD];decide
  have ksh:∀x l',ZZ (ka++kb)=x::ZZ l'→ks[done.length]? =some x∧ks=(done++[x])++ZZ l'∧done.length<ks.length:=fun x l' e=>by
   rw[e]at hks
   exact⟨by rw[hks];exact zp done x _,by rw[hks];simp,by rw[hks];simp⟩
  have zs:∀(q:List GStep) (v:GValue) (c1 c2:Bool),X7 (GChange.mk q c1 v c2 (GValue.mk 0 0 [] [] []))=yu q+vsz v∧X7 (GChange.mk q c1 (GValue.mk 0 0 [] [] []) c2 v)=yu q+vsz v:=fun q v c1 c2=>⟨rfl,by show yu q+vsz (GValue.mk 0 0 [] [] [])+vsz v=_;rw[zsz];omega⟩
  have LEFT:∀x ka',ka=x::ka'→(∀z∈kb,Lib.compareBytes x z<0)→∃v,a.L[pka.length]? =some v∧a.K[pka.length]? =some x∧∃z z1 z' r,zz gs p a b m (w64 ((pka.length:Int)+1)) (pkb.length:Int) (acc++[GChange.mk (p++[GStep.mk 0 x 0]) true v false (GValue.mk 0 0 [] [] [])])=some (z,z1,r)∧
   yH gi p ks (ks.length:Int) a b (m'+1) (done.length:Int) acc=some (z',r)∧zY r<=zY acc+(yo la+yo lb)*W:=by
   intro x ka' hx hlt
   subst hx
   cases la with
   |nil=>simp at e3
   |cons v la=>
    simp only[List.length_cons]at e3 hd hm2 hm2' lenA
    have s1:=List.pairwise_cons.1 sa1
    have gx:a.K[pka.length]? =some x:=by rw[hka];exact zp pka x ka'
    have hva:v∈a.L:=by rw[hla];simp
    have gv:a.L[pka.length]? =some v:=by rw[hla,e1];exact zp pla v la
    have hxk:=ZD (List.mem_of_getElem? gx)
    have hvv:=yN hva
    obtain⟨k1,k2,k3⟩:=ksh x (ka'++kb) (U6 (fun z=>by simp) fun z hz=>(List.mem_append.1 hz).elim (s1.1 z) (hlt z))
    have hnb:x∉b.K:=fun h=>by
     rw[hkb]at h
     rcases List.mem_append.1 h with h|h
     ·exact irr x (i2 x h x List.mem_cons_self)
     ·exact irr x (hlt x h)
    obtain⟨c,hc⟩:=Bo hB (by omega) hnb
    have s2:=zb5 (p:=p) (W:=W) (x:=v) (v:=vsz a+vsz b) (k:=x) (by omega) (by omega) (GChange.mk (p++[GStep.mk 0 x 0]) true v false (GValue.mk 0 0 [] [] [])) (zs _ _ _ _).1
    simp only[yo]at hacc ⊢
    rw[show ptV v+yo la+yo lb=ptV v+(yo la+yo lb) by omega,Nat.add_mul]at hacc ⊢
    obtain⟨z,z1,z',r,r1,r2,r3⟩:=ih ka' kb (pka++[x]) pkb la lb (pla++[v]) plb (done++[x]) (acc++[GChange.mk (p++[GStep.mk 0 x 0]) true v false (GValue.mk 0 0 [] [] [])]) m m' (by omega) (by rw[hka];simp) (by rw[hla];simp) hkb hlb (by simp[e1]) e2 (by omega) e4
     (fun z hz y hy=>by
      rcases List.mem_append.1 hz with hz|hz
      ·exact i1 z hz y hy
      ·rw[List.mem_singleton]at hz;rw[hz];exact hlt y hy)
     (fun z hz y hy=>i2 z hz y (List.mem_cons_of_mem _ hy)) k2 hkl (by omega) (by omega) (by rw[ZP];omega)
    rw[ZP]at r3
    refine⟨v,gv,gx,z,z1,z',r,by rw[ye pka x (by omega)];exact r1,?_,by omega⟩
    rw[yH,if_pos (by omega),zb,oB,k1,oB,XD (by omega),oB,YN (by omega),oB,if_pos (xc (by decide) (by simp only[List.length_cons,List.length_nil];omega)),Mt hA (by omega) hka,oB]
    dsimp only
    rw[hc,oB]
    dsimp only
    rw[zb,oB,gv,oB,show z6 v=some v from if_pos (by omega),oB,if_pos (vC (by simp only[List.length_cons,List.length_nil];omega)),ye done x (by omega),r2]
  have RIGHT:∀x kb',kb=x::kb'→(∀z∈ka,Lib.compareBytes x z<0)→∃v,b.L[pkb.length]? =some v∧b.K[pkb.length]? =some x∧∃z z1 z' r,zz gs p a b m (pka.length:Int) (w64 ((pkb.length:Int)+1)) (acc++[GChange.mk (p++[GStep.mk 0 x 0]) false (GValue.mk 0 0 [] [] []) true v])=some (z,z1,r)∧
   yH gi p ks (ks.length:Int) a b (m'+1) (done.length:Int) acc=some (z',r)∧zY r<=zY acc+(yo la+yo lb)*W:=by
   intro x kb' hx hlt
   subst hx
   cases lb with
   |nil=>simp at e4
   |cons v lb=>
    simp only[List.length_cons]at e4 hd hm2 hm2' lenB
    have s1:=List.pairwise_cons.1 sb1
    have gx:b.K[pkb.length]? =some x:=by rw[hkb];exact zp pkb x kb'
    have hva:v∈b.L:=by rw[hlb];simp
    have gv:b.L[pkb.length]? =some v:=by rw[hlb,e2];exact zp plb v lb
    have hxk:=ZD (List.mem_of_getElem? gx)
    have hvv:=yN hva
    obtain⟨k1,k2,k3⟩:=ksh x (ka++kb') (U6 (fun z=>by simp only[List.mem_append,List.mem_cons];constructor <;> intro h <;> rcases h with h|h|h <;> simp[h]) fun z hz=>(List.mem_append.1 hz).elim (hlt z) (s1.1 z))
    have hna:x∉a.K:=fun h=>by
     rw[hka]at h
     rcases List.mem_append.1 h with h|h
     ·exact irr x (i1 x h x List.mem_cons_self)
     ·exact irr x (hlt x h)
    obtain⟨c,hc⟩:=Bo hA (by omega) hna
    have s2:=zb5 (p:=p) (W:=W) (x:=v) (v:=vsz a+vsz b) (k:=x) (by omega) (by omega) (GChange.mk (p++[GStep.mk 0 x 0]) false (GValue.mk 0 0 [] [] []) true v) (zs _ _ _ _).2
    simp only[yo]at hacc ⊢
    rw[show yo la+(ptV v+yo lb)=ptV v+(yo la+yo lb) by omega,Nat.add_mul]at hacc ⊢
    obtain⟨z,z1,z',r,r1,r2,r3⟩:=ih ka kb' pka (pkb++[x]) la lb pla (plb++[v]) (done++[x]) (acc++[GChange.mk (p++[GStep.mk 0 x 0]) false (GValue.mk 0 0 [] [] []) true v]) m m' (by omega) hka hla (by rw[hkb];simp) (by rw[hlb];simp) e1 (by simp[e2]) e3 (by omega)
     (fun z hz y hy=>i1 z hz y (List.mem_cons_of_mem _ hy))
     (fun z hz y hy=>by
      rcases List.mem_append.1 hz with hz|hz
      ·exact i2 z hz y hy
      ·rw[List.mem_singleton]at hz;rw[hz];exact hlt y hy) k2 hkl (by omega) (by omega) (by rw[ZP];omega)
    rw[ZP]at r3
    refine⟨v,gv,gx,z,z1,z',r,by rw[ye pkb x (by omega)];exact r1,?_,by omega⟩
    rw[yH,if_pos (by omega),zb,oB,k1,oB,XD (by omega),oB,YN (by omega),oB,if_pos (xc (by decide) (by simp only[List.length_cons,List.length_nil];omega)),hc,oB]
    dsimp only
    rw[Mt hB (by omega) hkb,oB]
    dsimp only
    rw[zb,oB,gv,oB,show z6 v=some v from if_pos (by omega),oB,if_pos (vC (by simp only[List.length_cons,List.length_nil];omega)),ye done x (by omega),r2]
  have BOTH:∀x ka' kb',ka=x::ka'→kb=x::kb'→∃v u r0,a.L[pka.length]? =some v∧b.L[pkb.length]? =some u∧a.K[pka.length]? =some x∧b.K[pkb.length]? =some x∧gs v u (p++[GStep.mk 0 x 0])=some r0∧zY r0<=2 ^ 38∧∃z z1 z' r,zz gs p a b m (w64 ((pka.length:Int)+1)) (w64 ((pkb.length:Int)+1)) (acc++r0)=some (z,z1,r)∧
   yH gi p ks (ks.length:Int) a b (m'+1) (done.length:Int) acc=some (z',r)∧zY r<=zY acc+(yo la+yo lb)*W:=by
   intro x ka' kb' hx hy
   subst hx hy
   cases la with
   |nil=>simp at e3
   |cons v la=>
    cases lb with
    |nil=>simp at e4
    |cons u lb=>
     simp only[List.length_cons]at e3 e4 hd hm2 hm2' lenA lenB
     have s1:=List.pairwise_cons.1 sa1
     have t1:=List.pairwise_cons.1 sb1
     have gx:a.K[pka.length]? =some x:=by rw[hka];exact zp pka x ka'
     have gy:b.K[pkb.length]? =some x:=by rw[hkb];exact zp pkb x kb'
     have hva:v∈a.L:=by rw[hla];simp
     have hub:u∈b.L:=by rw[hlb];simp
     have gv:a.L[pka.length]? =some v:=by rw[hla,e1];exact zp pla v la
     have gu:b.L[pkb.length]? =some u:=by rw[hlb,e2];exact zp plb u lb
     have hxk:=ZD (List.mem_of_getElem? gx)
     have hvv:=yN hva
     have huu:=yN hub
     obtain⟨k1,k2,k3⟩:=ksh x (ka'++kb') (U6 (fun z=>by
      simp only[List.mem_append,List.mem_cons]
      constructor
      ·rintro ((h|h)|(h|h))
       ·exact .inl h
       ·exact .inr (.inl h)
       ·exact .inl h
       ·exact .inr (.inr h)
      ·rintro (h|h|h)
       ·exact .inl (.inl h)
       ·exact .inl (.inr h)
       ·exact .inr (.inr h)) fun z hz=>(List.mem_append.1 hz).elim (s1.1 z) (t1.1 z))
     obtain⟨r0,p1,p2,p3⟩:=hG v hva u hub (p++[GStep.mk 0 x 0]) (by
      rw[U5];simp only[yu,Wh,GStep.Key];omega)
     simp only[yo]at hacc ⊢
     rw[zmm]at hacc ⊢
     have hrl:=k9 r0
     obtain⟨z,z1,z',r,r1,r2,r3⟩:=ih ka' kb' (pka++[x]) (pkb++[x]) la lb (pla++[v]) (plb++[u]) (done++[x]) (acc++r0) m m' (by omega) (by rw[hka];simp) (by rw[hla];simp) (by rw[hkb];simp) (by rw[hlb];simp) (by simp[e1]) (by simp[e2]) (by omega) (by omega)
      (fun z hz y hy=>by
       rcases List.mem_append.1 hz with hz|hz
       ·exact i1 z hz y (List.mem_cons_of_mem _ hy)
       ·rw[List.mem_singleton]at hz;rw[hz];exact t1.1 y hy)
      (fun z hz y hy=>by
       rcases List.mem_append.1 hz with hz|hz
       ·exact i2 z hz y (List.mem_cons_of_mem _ hy)
       ·rw[List.mem_singleton]at hz;rw[hz];exact s1.1 y hy) k2 hkl (by omega) (by omega) (by rw[ZP];omega)
     rw[ZP]at r3
     refine⟨v,u,r0,gv,gu,gx,gy,p1,by omega,z,z1,z',r,by rw[ye pka x (by omega),ye pkb x (by omega)];exact r1,?_,by omega⟩
     rw[yH,if_pos (by omega),zb,oB,k1,oB,XD (by omega),oB,YN (by omega),oB,if_pos (xc (by decide) (by simp only[List.length_cons,List.length_nil];omega)),Mt hA (by omega) hka,oB]
     dsimp only
     rw[Mt hB (by omega) hkb,oB]
     dsimp only
     rw[zb,oB,gv,oB,zb,oB,gu,oB,p2,oB,if_pos (vC (by omega)),ye done x (by omega),r2]
  cases ka with
  |nil=>
   cases kb with
   |nil=>
    have ec:ZZ ([]++[])=([]:List (List UInt8)):=rfl
    rw[ec,List.append_nil]at hks
    refine⟨_,_,_,acc,by rw[zz,hka,hkb,List.append_nil,List.append_nil,if_neg (by omega),if_neg (by omega)],by rw[yH,hks,if_neg (by omega)],by omega⟩
   |cons y kb=>
    obtain⟨v,gv,gk,z,z1,z',r,r1,r2,r3⟩:=RIGHT y kb rfl (by simp)
    simp only[List.length_cons,List.length_nil]at lenA lenB
    exact⟨z,z1,z',r,by rw[zz,if_neg (by omega),if_pos (by omega),if_pos (by omega),zb,oB,gk,oB,JC (by omega),oB,gv,oB,if_pos (vC (by simp only[List.length_cons,List.length_nil];omega)),r1],r2,r3⟩
  |cons x ka=>
   cases kb with
   |nil=>
    obtain⟨v,gv,gk,z,z1,z',r,r1,r2,r3⟩:=LEFT x ka rfl (by simp)
    simp only[List.length_cons,List.length_nil]at lenA lenB
    exact⟨z,z1,z',r,by rw[zz,if_pos (by omega),if_neg (by omega),if_pos (by omega),zb,oB,gk,oB,JC (by omega),oB,gv,oB,if_pos (vC (by simp only[List.length_cons,List.length_nil];omega)),r1],r2,r3⟩
   |cons y kb=>
    simp only[List.length_cons]at lenA lenB
    have g1:a.K[pka.length]? =some x:=by rw[hka];exact zp pka x ka
    have g2:b.K[pkb.length]? =some y:=by rw[hkb];exact zp pkb y kb
    have hstep:=WW x y
    rcases Int.lt_trichotomy (Lib.compareBytes x y) 0 with c|c|c
    ·obtain⟨v,gv,gk,z,z1,z',r,r1,r2,r3⟩:=LEFT x ka rfl (fun z hz=>by
      rcases List.mem_cons.1 hz with rfl|hz
      ·exact c
      ·exact Q3 c ((List.pairwise_cons.1 sb1).1 z hz))
     exact⟨z,z1,z',r,by rw[zz,if_pos (by omega),if_neg (by omega),if_neg (by omega),zb,oB,gk,oB,zb,oB,g2,oB,U3,oB,if_pos c,JC (by omega),oB,gv,oB,if_pos (vC (by simp only[List.length_cons,List.length_nil];omega)),r1],r2,r3⟩
    ·have e:=JE c
     subst e
     obtain⟨v,u,r0,gv,gu,gx,gy,h1,h2,z,z1,z',r,r1,r2,r3⟩:=BOTH x ka kb rfl rfl
     have hrl:=k9 r0
     exact⟨z,z1,z',r,by rw[zz,if_pos (by omega),if_neg (by omega),if_neg (by omega),zb,oB,g1,oB,zb,oB,g2,oB,U3,oB,if_neg (by omega),if_neg (by omega),gv,oB,gu,oB,JC (by omega),oB,h1,oB,if_pos (vC (by omega)),r1],r2,r3⟩
    ·have c':Lib.compareBytes y x<0:=by have:=WW y x;omega
     obtain⟨v,gv,gk,z,z1,z',r,r1,r2,r3⟩:=RIGHT y kb rfl (fun z hz=>by
      rcases List.mem_cons.1 hz with rfl|hz
      ·exact c'
      ·exact Q3 c' ((List.pairwise_cons.1 sa1).1 z hz))
     exact⟨z,z1,z',r,by rw[zz,if_pos (by omega),if_neg (by omega),if_neg (by omega),zb,oB,g1,oB,zb,oB,gk,oB,U3,oB,if_neg (by omega),if_pos c,JC (by omega),oB,gv,oB,if_pos (vC (by simp only[List.length_cons,List.length_nil];omega)),r1],r2,r3⟩
theorem Gr:∀(d:Nat) (a b:GValue) (f g W:Nat),shV d a=true→shV d b=true→vsz a+vsz b+4<=f→vsz a+vsz b+4<=g→W<=2 ^ 30→(ptV a+ptV b)*W<=2 ^ 38→DB (xL f) (wW g) W a b
 |0,a,b,f,g,W,h,_,_,_,_,_=>by cases h
 |d+1,a,b,f,g,W,ha,hb,hf,hg,hW,hM=>by
  intro p hp
  obtain⟨f,rfl,hf'⟩:∃n,f=n+1∧vsz a+vsz b+3<=n:=⟨f - 1,by omega,by omega⟩
  obtain⟨g,rfl,hg'⟩:∃n,g=n+1∧vsz a+vsz b+3<=n:=⟨g - 1,by omega,by omega⟩
  obtain⟨la,ca⟩:=UX ha
  obtain⟨lb,cb⟩:=UX hb
  obtain⟨a1,a2,a3,a4,a5,a6⟩:=Rv la
  obtain⟨b1,b2,b3,b4,b5,b6⟩:=Rv lb
  have va:=yT a
  have vb:=yT b
  have la0:=yS a.L
  have ka0:=wT a.K
  have kb0:=wT b.K
  have hpl:=k8 p
  have pa:=VA a
  have pb:=VA b
  have hle:(yo a.L+yo b.L)*W<=(ptV a+ptV b)*W:=Nat.mul_le_mul_right _ (by omega)
  have hGG:∀x∈a.L,∀y∈b.L,DB (xL f) (wW g) W x y:=fun x hx y hy=>by
   have h1:=yN hx
   have h2:=yN hy
   have h3:=EW hx
   have h4:=EW hy
   have:(ptV x+ptV y)*W<=(ptV a+ptV b)*W:=Nat.mul_le_mul_right _ (by omega)
   exact Gr d x y f g W (ca x hx) (cb y hy) (by omega) (by omega) hW (by omega)
  obtain⟨c,c1,c2⟩:=OI (d+1) a b _ _ ha hb (Nat.le_refl _) (Nat.le_refl _)
  rw[show xL (f+1) a b p=XJ (xL f) f a b p from rfl,show wW (g+1) p a b=QD (wW g) g p a b from rfl]
  unfold XJ QD
  rw[show kR a b=some c from c1,oB,show qP a b=some c from c2,oB]
  by_cases c0:c=0
  ·rw[if_pos c0,if_pos c0]
   exact⟨[],rfl,rfl,Nat.zero_le _⟩
  rw[if_neg c0,if_neg c0]
  have whole:zY [GChange.mk p true a true b]<=(ptV a+ptV b)*W:=by
   have:1*W<=(ptV a+ptV b)*W:=Nat.mul_le_mul_right _ (by omega)
   show 1+(yu p+vsz a+vsz b)+0<=_
   omega
  have cp:xi p=some p:=XD (by omega)
  have cva:z6 a=some a:=if_pos (by omega)
  have cvb:z6 b=some b:=if_pos (by omega)
  have r1:zC 40 (0+p.length):=xc (by decide) (by omega)
  have r2:zC 216 (0+[GChange.mk p true a true b].length):=vC (by simp)
  rw[cp,oB,cva,oB,cvb,oB,if_pos r1,if_pos r2]
  by_cases k4:a.Kind=4
  ·rw[if_pos k4,if_pos k4]
   by_cases k4b:b.Kind=4
   ·rw[if_pos k4b,if_pos k4b]
    by_cases hl:(a.L.length:Int)=(b.L.length:Int)
    ·rw[if_pos hl,if_pos hl]
     obtain⟨z,z',r,h1,h2,h3⟩:=zb4 (a:=a) (b:=b) (p:=p) (by omega) hGG hp hW a.L b.L [] [] [] f g rfl rfl rfl (by omega) (by omega) (by omega) (by simp only[zY];omega)
     simp only[List.length_nil,Int.natCast_zero,zY]at h1 h2 h3
     rw[h1,h2]
     exact⟨r,rfl,rfl,by omega⟩
    ·rw[if_neg hl,if_neg hl];exact⟨_,rfl,rfl,whole⟩
   ·rw[if_neg k4b,if_neg k4b];exact⟨_,rfl,rfl,whole⟩
  ·rw[if_neg k4,if_neg k4]
   by_cases k5:a.Kind=5
   ·rw[if_pos k5,if_pos k5]
    by_cases k5b:b.Kind=5
    ·rw[if_pos k5b,if_pos k5b]
     have n1:=(a2 k5).1
     have n2:=(b2 k5b).1
     have ec:∀l:List (List UInt8),K9 (vZ l)=ZZ l:=fun l=>rfl
     have hcl:=zb2 (a.K++b.K)
     rw[List.length_append]at hcl
     rw[JY (by omega),oB,JY (by omega),oB,if_pos (xc (by decide) (by omega))]
     unfold jF qH
     rw[if_pos (by rw[List.length_append];omega),oB,if_pos (by rw[(WX _).length_eq,List.length_append];omega),oB,ec]
     obtain⟨z,z1,z',r,h1,h2,h3⟩:=ze0 (a:=a) (b:=b) (p:=p) (a2 k5).2 (b2 k5b).2 hGG hp hW (ZZ (a.K++b.K)) (a.K.length+b.K.length) a.K b.K [] [] a.L b.L [] [] [] [] f g (Nat.le_refl _) rfl rfl rfl rfl rfl rfl (by omega) (by omega) (by simp) (by simp) rfl (by omega) (by omega) (by omega) (by simp only[zY];omega)
     simp only[List.length_nil,Int.natCast_zero,zY]at h1 h2 h3
     rw[h1,h2]
     exact⟨r,rfl,rfl,by omega⟩
    ·rw[if_neg k5b,if_neg k5b];exact⟨_,rfl,rfl,whole⟩
   ·rw[if_neg k5,if_neg k5];exact⟨_,rfl,rfl,whole⟩
/-! #### the value of an entry -/
def Rw (s:GState):Prop:=∀x∈s.Entries,jd x.Val=true
/-! #### values of states stay ok -/
theorem ze1 {e x:GEntry}:∀{l:List GEntry} {b:Bool},x∈kS e b l→x=e∨x∈l:=by
 intro l
 induction l with
 |nil=>
  intro b h
  cases b <;> simp[kS]at h
  exact .inl h
 |cons y l ih=>
  intro b h
  rw[kS]at h
  revert h
  cases b <;> cases Op.bytesLess e.Addr y.Addr <;> cases Op.bytesLess y.Addr e.Addr <;> simp only[cond_true,cond_false,List.mem_cons,Bool.not_true,Bool.not_false,Bool.and_true,Bool.and_false,Bool.true_and,Bool.false_and] <;> intro h <;> first
   |(rcases h with h|h|h <;> first|exact .inl h|exact .inr (.inl h)|(rcases ih h with h|h <;> first|exact .inl h|exact .inr (.inr h)))
   |(rcases h with h|h <;> first|exact .inl h|exact .inr (.inl h)|(rcases ih h with h|h <;> first|exact .inl h|exact .inr (.inr h)))
   |(rcases ih h with h|h <;> first|exact .inl h|exact .inr (.inr h))
theorem Bp {α:Type} {l q:List α} {a b:Option Nat} {x:α} (h:qK l a b=some q) (hx:x∈q):x∈l:=by
 unfold qK at h
 obtain⟨r,_,rfl⟩:=oM h
 exact List.mem_of_mem_take (List.mem_of_mem_drop hx)
theorem NG:jd (GValue.mk 5 0 [] [] [])=true:=by decide
theorem ze2 {l:List GEntry} {i:Nat} {x y:GEntry} {a a':GEntry} (hx:l[i]? =some x) (ha:a.Val=x.Val) (hy:(l.set i a)[i]? =some y) (ha':a'.Val=y.Val) (hv:∀z∈l,jd z.Val=true):∀z∈(l.set i a).set i a',jd z.Val=true:=by
 have hl:=(oE hx).1
 rw[List.getElem?_set_self hl]at hy
 injection hy with hy
 subst hy
 intro z hz
 rcases List.mem_or_eq_of_mem_set hz with hz|rfl
 ·rcases List.mem_or_eq_of_mem_set hz with hz|rfl
  ·exact hv z hz
  ·rw[ha];exact hv x (List.mem_of_getElem? hx)
 ·rw[ha',ha];exact hv x (List.mem_of_getElem? hx)
theorem zi9 {e:GEvent} {s s':GState} (h:k7 e s=some s') (hv:Rw s) (he:e.Kind=2→jd e.Val=true):Rw s':=by
 have same:∀{a:Int} {b:Bool} {c:List UInt8} {d:Int},some (GState.mk a b c d s.Entries)=some s'→Rw s':=fun h=>by injection h with h;subst h;exact hv
 have put:∀{x:GEntry} {r:List GEntry} {a:Int} {b:Bool} {c:List UInt8} {d:Int},qL s.Entries x=some r→jd x.Val=true→some (GState.mk a b c d r)=some s'→Rw s':=fun {x r a b c d} hp hx h=>by
  injection h with h
  subst h
  unfold qL at hp
  obtain⟨_,hp⟩:=zB hp
  intro z hz
  have hz:z∈kS x false s.Entries:=by
   have:r=kS x false s.Entries:=by simpa using hp.symm
   rw[<-this];exact hz
  rcases ze1 hz with rfl|hz
  ·exact hx
  ·exact hv z hz
 have tnt:∀{r1:Int} {o:Bool} {T:Option GState},(if zC 152 (0+s.Entries.length)then(zn r1).bind fun i10=>(s.Entries[i10]?).bind fun x11=>((s.Entries.set i10 (GEntry.mk x11.Addr x11.Val x11.Deps true x11.Turned))[i10]?).bind fun x12=>some (GState.mk (w64 (s.Serial+1)) o [] 0 ((s.Entries.set i10 (GEntry.mk x11.Addr x11.Val x11.Deps true x11.Turned)).set i10 (GEntry.mk x12.Addr x12.Val x12.Deps x12.Taint (w64 (s.Serial+1)))))else none)=some s'→Rw s':=fun {r1 o T} h=>by
  obtain⟨_,h⟩:=zB h
  obtain⟨i,_,h⟩:=oI h
  obtain⟨x,hx,h⟩:=oI h
  obtain⟨y,hy,h⟩:=oI h
  injection h with h
  subst h
  exact ze2 hx rfl hy rfl hv
 unfold k7 at h
 obtain⟨r,_,h⟩:=oI h
 by_cases k0:e.Kind=0
 ·rw[if_pos k0]at h;exact same h
 rw[if_neg k0]at h
 by_cases k1:e.Kind=1
 ·rw[if_pos k1]at h;exact same h
 rw[if_neg k1]at h
 by_cases k2:e.Kind=2
 ·rw[if_pos k2]at h
  obtain⟨q,hq,h⟩:=oI h
  exact put hq (he k2) h
 rw[if_neg k2]at h
 by_cases k3:e.Kind=3
 ·rw[if_pos k3]at h
  obtain⟨i,_,h⟩:=oI h
  obtain⟨u,hu,h⟩:=oI h
  obtain⟨_,h⟩:=zB h
  obtain⟨j,_,h⟩:=oI h
  obtain⟨w,hw,h⟩:=oI h
  obtain⟨_,h⟩:=zB h
  injection h with h
  subst h
  intro z hz
  rcases List.mem_append.1 (show z∈u++w from hz)with hz|hz
  ·exact hv z (Bp hu hz)
  ·exact hv z (Bp hw hz)
 rw[if_neg k3]at h
 by_cases k4:e.Kind=4
 ·rw[if_pos k4]at h
  split at h
  ·exact same h
  ·split at h
   ·exact tnt (T:=none) h
   ·exact same h
 rw[if_neg k4]at h
 by_cases k6:e.Kind=6
 ·rw[if_pos k6]at h
  split at h
  ·exact same h
  ·split at h
   ·exact tnt (T:=none) h
   ·obtain⟨q,hq,h⟩:=oI h
    exact put hq NG h
 rw[if_neg k6]at h
 split at h
 ·exact same h
 ·exact same h
theorem zja {s:GState} (h:stB s=true):Rw s:=by
 unfold stB at h
 simp only[Bool.and_eq_true]at h
 intro x hx
 have h2:=h.1.2
 unfold M0 at h2
 have h3:=zms h2 hx
 unfold Ji vk at h3
 simp only[Bool.and_eq_true]at h3
 exact id h3.1.1.2.1.2
theorem zmn {e:GEvent} (h:evB e=true) (k:e.Kind=2):jd e.Val=true:=by
 unfold evB at h
 rw[if_pos k]at h
 simp only[Bool.and_eq_true]at h
 have h2:=h.1.2
 unfold vk at h2
 simp only[Bool.and_eq_true]at h2
 exact id h2.1.2
theorem EX:∀{l:List GEvent} {s:GState},Rw s→stI s→ssz s+y3 l<=2 ^ 20→okS s l=true→Rw (jP s l).1
 |[],s,hv,_,_,_=>hv
 |e::l,s,hv,hI,hz,hk=>by
  rw[okS,Bool.and_eq_true,Bool.and_eq_true]at hk
  simp only[y3]at hz
  obtain⟨h1,_,h3,h4⟩:=Hp hI hk.1 hk.2.1 (by omega)
  rw[jP,hk.2.1]
  exact EX (l:=l) (zi9 h1 hv (zmn hk.1)) h3 (by omega) hk.2.2
def WR (s:GState) (a:List UInt8):Option GValue:=if xm s.Entries a=true then(s.Entries[(ZW s.Entries a 0).toNat]?).map GEntry.Val else none
def NH:Option GValue→GValue
 |some x=>x
 |none=>GValue.mk 5 0 [] [] []
theorem zmo {s:GState} {a:List UInt8} (hI:stI s) (hz:yG s.Entries<=2 ^ 30):wv s a=some (NH (WR s a))∧jw s a []=some (match WR s a with |some x=>(x,true)|none=>(GValue.mk 0 0 [] [] [],false)):=by
 have hl:=kj s.Entries
 have hn:s.Entries.length<=2 ^ 40:=by omega
 obtain⟨c,hp,hc,hb⟩:=Mr (a:=a) hn hI.2.2.1
 unfold wv jw Xm xK WR
 rw[hc,oB,if_pos hn,oB]
 dsimp only
 cases hh:xm s.Entries a with
 |false=>
  rw[if_neg (by decide),J3 hh,if_pos (by decide)]
  exact⟨rfl,rfl⟩
 |true=>
  have hk:=hb.1 hh
  obtain⟨e,he,_⟩:=V8 hk
  have hm:=Wg (List.mem_of_getElem? he)
  have hve:vsz e.Val<=2 ^ 39:=by unfold esz at hm;omega
  dsimp only
  rw[UU hI.2.2.1 hk,if_pos rfl,if_neg (by omega),zb,oB,oB,he,oB,oB,Int.toNat_natCast,he,show z6 e.Val=some e.Val from if_pos hve,oB,Zo,if_neg (by decide),oB]
  exact⟨rfl,rfl⟩
theorem zjb {s:GState} {a:List UInt8} (hv:Rw s):jd (NH (WR s a))=true:=by
 unfold WR
 split
 ·cases he:s.Entries[(ZW s.Entries a 0).toNat]? with
  |none=>exact NG
  |some e=>exact hv e (List.mem_of_getElem? he)
 ·exact NG
theorem zjc {s:GState} {a:List UInt8}:vsz (NH (WR s a))<=yG s.Entries:=by
 unfold WR
 split
 ·cases he:s.Entries[(ZW s.Entries a 0).toNat]? with
  |none=>exact Nat.zero_le _
  |some e=>
   have hm:=Wg (List.mem_of_getElem? he)
   unfold esz at hm
   show vsz e.Val<=_
   omega
 ·exact Nat.zero_le _
theorem Bq {h:GHistory} (hz:hsz h<=2 ^ 20) (hk:hOk h=true) (x:Int):Ze h x=some (decide (h.Base.Serial<=x∧x<=h.Base.Serial+(h.Events.length:Int))):=by
 obtain⟨k1,k2,_,_⟩:=Ms hk
 have hI:=Ru k1
 have hs0:=hI.1
 have hs1:=hI.2.1
 unfold Ze
 rw[ES hz,hk,oB]
 dsimp only
 rw[zR (by omega) (by omega)]
 by_cases c:h.Base.Serial<=x
 ·rw[if_pos c];simp[c]
 ·rw[if_neg c];simp[c]
theorem zb6 (a b c:Int):xg a b c=some (decide (b<=a∧a<=c)):=QC a b c
theorem EY {h:GHistory} {a:List UInt8} {x:Int} (hz:hsz h<=2 ^ 20) (hk:hOk h=true) (h1:h.Base.Serial<=x) (h2:x<=h.Base.Serial+(h.Events.length:Int)):
 ∃(n:Nat) (s:GState),w64 (x - h.Base.Serial)=((n:Nat):Int)∧wY h ((n:Nat):Int)=some (s,true)∧(h.Base::Km h.Base h.Events)[n]? =some s∧
  wv s a=some (NH (WR s a))∧jw s a []=some (match WR s a with |some x=>(x,true)|none=>(GValue.mk 0 0 [] [] [],false))∧jd (NH (WR s a))=true∧vsz (NH (WR s a))<=2 ^ 20:=by
 obtain⟨k1,k2,_,k4⟩:=Ms hk
 have hI:=Ru k1
 have hs0:=hI.1
 have hs1:=hI.2.1
 have hzz:=hz
 unfold hsz at hzz
 obtain⟨n,hn⟩:∃n:Nat,x - h.Base.Serial=(n:Int):=⟨(x - h.Base.Serial).toNat,by omega⟩
 have hnl:n<=h.Events.length:=by omega
 obtain⟨f1,f2,f3⟩:=zi6 (n:=n) hz hk hnl
 obtain⟨v1,_⟩:=EU k4 hnl
 have hz2:ssz h.Base+y3 (h.Events.take n)<=2 ^ 20:=by have:=A4 h.Events n;omega
 obtain⟨r1,r2,_,_⟩:=ET hI hz2 v1
 have r5:=EX (zja k1) hI hz2 v1
 have r2':(jP h.Base (h.Events.take n)).1.Pending.length+yG (jP h.Base (h.Events.take n)).1.Entries<=ssz h.Base+y3 (h.Events.take n):=r2
 obtain⟨p1,p2⟩:=zmo (a:=a) r1 (show yG (jP h.Base (h.Events.take n)).1.Entries<=2 ^ 30 by omega)
 have p3:=zjc (s:=(jP h.Base (h.Events.take n)).1) (a:=a)
 exact⟨n,_,by rw[hn,zR (by omega) (by omega)],f1,f2,p1,p2,zjb r5,by omega⟩
theorem ze3 {a b:GValue} (h1:jd a=true) (h2:jd b=true) (ha:vsz a<=2 ^ 20) (hb:vsz b<=2 ^ 20):∃r,xM a b []=some r∧QE [] a b=some r∧zY r<=2 ^ 34:=by
 unfold jd at h1 h2
 obtain⟨s1,p1⟩:=of_decide_eq_true h1
 obtain⟨s2,p2⟩:=of_decide_eq_true h2
 have hM:(ptV a+ptV b)*2 ^ 22<=80*2 ^ 22:=Nat.mul_le_mul_right _ (by omega)
 obtain⟨r,r1,r2,r3⟩:=Gr 5 a b _ _ (2 ^ 22) s1 s2 (Nat.le_refl _) (Nat.le_refl _) (by decide) (by omega) [] (by simp only[yu];omega)
 exact⟨r,r1,r2,by omega⟩
theorem DJ {h:GHistory} {f t:Int} {a:List UInt8} (hz:hsz h<=2 ^ 20):∃r b,Xo h f t a=some (r,b)∧Xs h f t a=some (r,b)∧zY r<=2 ^ 34:=by
 unfold Xo Xs
 rw[zb1 hz,oB]
 cases hk:hOk h with
 |false=>
  rw[show Ze h f=some false by unfold Ze;rw[ES hz,hk];rfl]
  exact⟨_,_,rfl,rfl,by decide⟩
 |true=>
  obtain⟨k1,k2,_,_⟩:=Ms hk
  have hI:=Ru k1
  have hs0:=hI.1
  have hs1:=hI.2.1
  simp only[cond_true]
  rw[Bq hz hk,Bq hz hk,zb6,zb6,zR (x:=h.Base.Serial+(h.Events.length:Int)) (by omega) (by omega)]
  simp only[oB]
  by_cases c1:h.Base.Serial<=f∧f<=h.Base.Serial+(h.Events.length:Int)
  ·rw[decide_eq_true c1]
   by_cases c2:h.Base.Serial<=t∧t<=h.Base.Serial+(h.Events.length:Int)
   ·rw[decide_eq_true c2]
    obtain⟨n,s,e1,e2,e3,e4,e5,e6,e7⟩:=EY (a:=a) hz hk c1.1 c1.2
    obtain⟨m,u,g1,g2,g3,g4,g5,g6,g7⟩:=EY (a:=a) hz hk c2.1 c2.2
    obtain⟨r,r1,r2,r3⟩:=ze3 e6 g6 e7 g7
    dsimp only
    rw[e1,g1,e2,oB]
    dsimp only
    rw[g2,oB]
    dsimp only
    rw[e5,oB,zb,zb,oB,e3,oB,e4,oB,oB,g3,oB,g4,oB,r2,oB]
    have own:jL r=some r:=if_pos (by omega)
    refine⟨r,true,?_,rfl,r3⟩
    cases hv:WR s a with
    |some x=>
     rw[hv]at r1
     dsimp only
     rw[g5,oB]
     cases hw:WR u a with
     |some y=>
      rw[hw]at r1
      dsimp only
      rw[show xM x y []=some r from r1,oB,own,oB]
     |none=>
      rw[hw]at r1
      dsimp only
      rw[show xM x (GValue.mk 5 0 [] [] []) []=some r from r1,oB,own,oB]
    |none=>
     rw[hv]at r1
     dsimp only
     rw[g5,oB]
     cases hw:WR u a with
     |some y=>
      rw[hw]at r1
      dsimp only
      rw[show xM (GValue.mk 5 0 [] [] []) y []=some r from r1,oB,own,oB]
     |none=>
      rw[hw]at r1
      dsimp only
      rw[show xM (GValue.mk 5 0 [] [] []) (GValue.mk 5 0 [] [] []) []=some r from r1,oB,own,oB]
   ·rw[decide_eq_false c2]
    exact⟨_,_,rfl,rfl,by decide⟩
  ·rw[decide_eq_false c1]
   exact⟨_,_,rfl,rfl,by decide⟩
theorem law_Between {h:GHistory} {f t:Int} {a:List UInt8} (hm:MdH h) (_:a.length<=2 ^ 63 - 1):ZC h f t a=some true:=by
 unfold ZC
 by_cases ca:1048576<(a.length:Int)
 ·rw[if_pos ca]
 rw[if_neg ca,zmj hm (by decide) (by decide),oB]
 unfold xH
 by_cases c:(hsz h:Int)<=1048576
 ·have hz:hsz h<=2 ^ 20:=by omega
  rw[if_pos c,if_neg (by omega),zmk hz,oB,zmc (by omega),oB]
  obtain⟨r,b,e1,e2,e3⟩:=DJ (f:=f) (t:=t) (a:=a) hz
  obtain⟨k1,a1,b1,c1,m1,m2,m3⟩:=zez (h:=h) (by omega)
  have hcl:=Bz r
  rw[e1,e2,oB]
  dsimp only
  rw[oB]
  dsimp only
  rw[ED (by omega),oB]
  dsimp only
  cases b <;> (first|rw[if_pos rfl,if_pos rfl]|rw[if_neg (by decide),if_neg (by decide)])
  all_goals
   rw[zml (by omega),oB]
   dsimp only
   rw[zmd (by omega),oB]
   dsimp only
   rw[m1,oB]
   dsimp only
   rw[wk (by omega) (by omega),oB]
   dsimp only
   rw[if_neg (by omega),N8 (by decide) (by omega),oB]
   dsimp only
   rw[NB (Gz _ _) (by decide) (by rw[B0];omega),oB,zce,if_neg (by omega),if_pos rfl]
 ·rw[if_neg c,if_pos (by omega)]
end
end Go.Am.Try
