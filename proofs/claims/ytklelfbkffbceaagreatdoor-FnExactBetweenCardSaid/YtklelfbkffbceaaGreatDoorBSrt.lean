
/- Texts put in order: the machine's word for it. -/
import Derived.Test.YtklelfbkffbceaaGreatDoorBAmD
set_option linter.unusedVariables false
set_option linter.unusedSimpArgs false
set_option linter.unusedVariables false
set_option linter.unusedSimpArgs false
namespace Go.Am
open Go.Lib
/-! ### the order of texts -/
theorem VD:∀x:List UInt8,compareBytes x x=0
 |[]=>rfl
 |a::x=>by simp[compareBytes,UInt8.lt_irrefl,VD x]
theorem JE:∀{x y:List UInt8},compareBytes x y=0→x=y
 |[],[],_=>rfl
 |[],_::_,h=>by simp[compareBytes]at h
 |_::_,[],h=>by simp[compareBytes]at h
 |a::x,b::y,h=>by
  unfold compareBytes at h
  split at h
  ·cases h
  ·split at h
   ·cases h
   ·rename_i h1 h2
    have:a=b:=UInt8.le_antisymm (UInt8.not_lt.1 h2) (UInt8.not_lt.1 h1)
    rw[this,JE h]
theorem WW:∀x y:List UInt8,compareBytes y x= - compareBytes x y
 |[],[]=>rfl
 |[],_::_=>rfl
 |_::_,[]=>rfl
 |a::x,b::y=>by
  unfold compareBytes
  by_cases h1:a<b
  ·have h2:¬b<a:=UInt8.not_lt.2 (UInt8.le_of_lt h1)
   simp[h1,h2]
  ·by_cases h2:b<a
   ·simp[h1,h2]
   ·simp only[h1,h2,if_false]
    exact WW x y
theorem Q3:∀{x y z:List UInt8},compareBytes x y<0→compareBytes y z<0→compareBytes x z<0
 |[],[],_,h,_=>by simp[compareBytes]at h
 |[],_::_,[],_,h=>by simp[compareBytes]at h
 |[],_::_,_::_,_,_=>by simp[compareBytes]
 |_::_,[],_,h,_=>by simp[compareBytes]at h
 |_::_,_::_,[],_,h=>by simp[compareBytes]at h
 |a::x,b::y,c::z,h1,h2=>by
  unfold compareBytes at h1 h2 ⊢
  by_cases ab:a<b
  ·by_cases bc:b<c
   ·have:a<c:=UInt8.lt_trans ab bc
    simp[this]
   ·by_cases cb:c<b
    ·simp[bc,cb]at h2
    ·have:b=c:=UInt8.le_antisymm (UInt8.not_lt.1 cb) (UInt8.not_lt.1 bc)
     subst this;simp[ab]
  ·by_cases ba:b<a
   ·simp[ab,ba]at h1
   ·have:a=b:=UInt8.le_antisymm (UInt8.not_lt.1 ba) (UInt8.not_lt.1 ab)
    subst this
    by_cases bc:a<c
    ·simp[bc]
    ·by_cases cb:c<a
     ·simp[bc,cb]at h2
     ·simp only[ab,ba,bc,cb,if_false]at h1 h2 ⊢
      exact Q3 h1 h2
def Vd (x:List UInt8):List (List UInt8)→List (List UInt8)
 |[]=>[x]
 |y::r=>if compareBytes x y<0 then x::y::r else y::Vd x r
def vZ (ts:List (List UInt8)):List (List UInt8):=ts.foldl (fun acc x=>Vd x acc) []
def Ve (l:List (List UInt8)):Prop:=l.Pairwise fun x y=>¬compareBytes y x<0
theorem UC (x:List UInt8):∀l,(Vd x l).Perm (x::l)
 |[]=>List.Perm.refl _
 |y::r=>by
  unfold Vd
  split
  ·exact List.Perm.refl _
  ·exact((UC x r).cons y).trans (List.Perm.swap x y r)
theorem PH {x y z:List UInt8} (h1:¬compareBytes y x<0) (h2:¬compareBytes z y<0):¬compareBytes z x<0:=by
 intro h
 by_cases h3:compareBytes x y<0
 ·exact h2 (Q3 h h3)
 ·have:=WW x y
  have hz:compareBytes x y=0:=by omega
  rw[<-JE hz]at h2
  exact h2 h
theorem PI (x:List UInt8):∀l,Ve l→Ve (Vd x l)
 |[],_=>by simp[Vd,Ve]
 |y::r,h=>by
  unfold Vd
  have hc:=List.pairwise_cons.1 h
  split
  ·rename_i hx
   have hyx:¬compareBytes y x<0:=by have:=WW x y;omega
   refine List.pairwise_cons.2 ⟨fun z hz=> ?_,h⟩
   rcases List.mem_cons.1 hz with rfl|hz
   ·exact hyx
   ·exact PH hyx (hc.1 z hz)
  ·rename_i hx
   refine List.pairwise_cons.2 ⟨fun z hz=> ?_,PI x r hc.2⟩
   rcases List.mem_cons.1 ((UC x r).mem_iff.1 hz)with rfl|hz
   ·exact hx
   ·exact hc.1 z hz
theorem R7:∀(ts acc:List (List UInt8)),Ve acc→Ve (ts.foldl (fun acc x=>Vd x acc) acc)∧(ts.foldl (fun acc x=>Vd x acc) acc).Perm (ts++acc)
 |[],acc,h=>⟨h,List.Perm.refl _⟩
 |t::ts,acc,h=>by
  obtain⟨h1,h2⟩:=R7 ts (Vd t acc) (PI t acc h)
  refine⟨h1,h2.trans ?_⟩
  exact((UC t acc).append_left ts).trans List.perm_middle
theorem UD (ts:List (List UInt8)):Ve (vZ ts):=(R7 ts [] List.Pairwise.nil).1
theorem WX (ts:List (List UInt8)):(vZ ts).Perm ts:=by
 have h:=(R7 ts [] List.Pairwise.nil).2
 rw[List.append_nil]at h
 exact h
theorem M2:∀{a b:List (List UInt8)},Ve a→Ve b→a.Perm b→a=b
 |[],b,_,_,h=>h.nil_eq
 |x::a,[],_,_,h=>absurd h.length_eq (by simp)
 |x::a,y::b,h1,h2,h=>by
  have c1:=List.pairwise_cons.1 h1
  have c2:=List.pairwise_cons.1 h2
  have e:x=y:=by
   rcases List.mem_cons.1 (h.mem_iff.1 (List.mem_cons_self ..))with e|hx
   ·exact e
   ·rcases List.mem_cons.1 (h.mem_iff.2 (List.mem_cons_self ..))with e|hy
    ·exact e.symm
    ·have g1:=c1.1 y hy
     have g2:=c2.1 x hx
     have:=WW x y
     exact JE (by omega)
  subst e
  rw[M2 c1.2 c2.2 (List.Perm.cons_inv h)]
/-! ### the machine's word for it -/
def yx (s:List UInt8):List (List C):=s.map fun b=>[C.int .u8 (b.toNat:Int)]
def Yp:List (List C)→Option (List (List UInt8))
 |[]=>some []
 |[.own 1 b]::r=>(bytesOf b).bind fun s=>(Yp r).map fun t=>s::t
 |_=>none
theorem Vf:∀{l:List (List C)} {ts},Yp l=some ts→l=ts.map fun s=>[.own 1 (yx s)]
 |[],ts,h=>by simp[Yp]at h;subst h;rfl
 |e::r,ts,h=>by
  unfold Yp at h
  split at h
  ·rename_i e2;cases e2
  ·rename_i b r' e2
   cases e2
   obtain⟨s,hs,h⟩:=oI h
   obtain⟨t,ht,rfl⟩:=oM h
   rw[Vf ht,Q5 hs]
   rfl
  ·cases h
def Hr (g:FuncId) (st:List Entry):List V→Option (V×List Entry)
 |[.val false [.ref 0],.val false [.fn f []]]=>match st with
  |[.obj 1 l]=>if f=g∧l.length<=1048576 then(Yp l).map fun ts=>(.tup [],[.obj 1 ((vZ ts).map fun s=>[.own 1 (yx s)])])else none
  |_=>none
 |_=>none
end Go.Am
