
/- The functions of the program in plain Lean, and that the machine answers as they do; conditions at each theorem. -/
import Derived.Test.YtklelfbkffbceaaGreatDoorBS2
import Derived.Test.YtklelfbkffbceaaGreatDoorBAmD
set_option linter.unusedVariables false
set_option linter.unusedSimpArgs false
namespace Go.Am.Try
open Go.Am Go.Proofs
set_option linter.unusedVariables false
noncomputable section
theorem JD {α:Type} {f:α→List C}:([]:List (List C))=eL f []:=rfl
theorem Qx {α:Type} {f:α→List C} {x:α} {c:List C} {xs:List α} {cs:List (List C)} (h:f x=c) (t:cs=eL f xs):c::cs=eL f (x::xs):=by subst h;subst t;rfl
inductive GValue where
 |mk (Kind:Int) (N:Int) (S:(List UInt8)) (K:(List (List UInt8))) (L:(List GValue))
def GValue.Kind:GValue→Int
 | .mk x _ _ _ _=>x
def GValue.N:GValue→Int
 | .mk _ x _ _ _=>x
def GValue.S:GValue→(List UInt8)
 | .mk _ _ x _ _=>x
def GValue.K:GValue→(List (List UInt8))
 | .mk _ _ _ x _=>x
def GValue.L:GValue→(List GValue)
 | .mk _ _ _ _ x=>x
theorem GValue.eta (x:GValue):GValue.mk x.Kind x.N x.S x.K x.L=x:=by cases x;rfl
mutual
def zd:GValue→List C
 | .mk Kind N S K L=>[.int .i64 Kind,.int .i64 N,.seq (eL za S),.seq (eL (zl za) K),.seq (Wp L)]
def Wp:List GValue→List (List C)
 |[]=>[]
 |v::l=>zd v::Wp l
end
theorem EZ (l:List GValue):Wp l=eL zd l:=by
 induction l with
 |nil=>rfl
 |cons v l ih=>simp only[Wp,ih];rfl
def zi (x:GValue):List C:=[.int .i64 x.Kind,.int .i64 x.N,.seq (eL za x.S),.seq (eL (zl za) x.K),.seq (eL zd x.L)]
theorem zr (x:GValue):zd x=zi x:=by
 cases x;simp only[zd,zi,EZ,GValue.Kind,GValue.N,GValue.S,GValue.K,GValue.L]
mutual
def zt:GValue→List C
 | .mk Kind N S K L=>[.int .i64 Kind,.int .i64 N,.own 1 (eL za S),.own 1 (eL (yn 1 za) K),.own 5 (ZM L)]
def ZM:List GValue→List (List C)
 |[]=>[]
 |v::l=>zt v::ZM l
end
theorem Da (l:List GValue):ZM l=eL zt l:=by
 induction l with
 |nil=>rfl
 |cons v l ih=>simp only[ZM,ih];rfl
def xT (x:GValue):List C:=[.int .i64 x.Kind,.int .i64 x.N,.own 1 (eL za x.S),.own 1 (eL (yn 1 za) x.K),.own 5 (eL zt x.L)]
theorem yJ (x:GValue):zt x=xT x:=by
 cases x;simp only[zt,xT,Da,GValue.Kind,GValue.N,GValue.S,GValue.K,GValue.L]
mutual
theorem Gv:∀x:GValue,yC (zt x)=zd x
 | .mk Kind N S K L=>by have h:=Mv L;simp only[zt,zd,yC,jQ,h,qf kh,qf (W5 1 kh)]
theorem Mv:∀l:List GValue,wq (ZM l)=Wp l
 |[]=>rfl
 |v::l=>by have h:=Gv v;have g:=Mv l;simp only[ZM,Wp,wq,h,g]
end
mutual
theorem Gw:∀x:GValue,Zs (zt x)=true
 | .mk Kind N S K L=>by have h:=Mw L;simp only[zt,Zs,kM,h,qg kh,qg (W5 1 kh),Bool.and_self]
theorem Mw:∀l:List GValue,Yb (ZM l)=true
 |[]=>rfl
 |v::l=>by have h:=Gw v;have g:=Mw l;simp only[ZM,Yb,h,g,Bool.and_self]
end
theorem Zg:OEnc 5 zt zd:=⟨fun x=>by rw[yJ];rfl,Gv,Gw⟩
theorem qQ:Enc 5 zd:=⟨fun x=>by rw[zr];rfl,fun x=>by rw[zr];rfl,fun x=>by rw[zr];rfl⟩
inductive GEntry where
 |mk (Addr:(List UInt8)) (Val:GValue) (Deps:(List (List UInt8))) (Taint:Bool) (Turned:Int)
def GEntry.Addr:GEntry→(List UInt8)
 | .mk x _ _ _ _=>x
def GEntry.Val:GEntry→GValue
 | .mk _ x _ _ _=>x
def GEntry.Deps:GEntry→(List (List UInt8))
 | .mk _ _ x _ _=>x
def GEntry.Taint:GEntry→Bool
 | .mk _ _ _ x _=>x
def GEntry.Turned:GEntry→Int
 | .mk _ _ _ _ x=>x
theorem GEntry.eta (x:GEntry):GEntry.mk x.Addr x.Val x.Deps x.Taint x.Turned=x:=by cases x;rfl
def zq (x:GEntry):List C:=[.seq (eL za x.Addr),.int .i64 x.Val.Kind,.int .i64 x.Val.N,.seq (eL za x.Val.S),.seq (eL (zl za) x.Val.K),.seq (eL zd x.Val.L),.seq (eL (zl za) x.Deps),.bool x.Taint,.int .i64 x.Turned]
def Zh (x:GEntry):List C:=[.seq (eL za x.Addr),.int .i64 x.Val.Kind,.int .i64 x.Val.N,.seq (eL za x.Val.S),.seq (eL (zl za) x.Val.K),.seq (eL zd x.Val.L),.seq (eL (zl za) x.Deps),.bool x.Taint,.int .i64 x.Turned]
theorem ym (x:GEntry):zq x=Zh x:=rfl
def zQ (x:GEntry):List C:=[.own 1 (eL za x.Addr),.int .i64 x.Val.Kind,.int .i64 x.Val.N,.own 1 (eL za x.Val.S),.own 1 (eL (yn 1 za) x.Val.K),.own 5 (eL zt x.Val.L),.own 1 (eL (yn 1 za) x.Deps),.bool x.Taint,.int .i64 x.Turned]
def OK (x:GEntry):List C:=[.own 1 (eL za x.Addr),.int .i64 x.Val.Kind,.int .i64 x.Val.N,.own 1 (eL za x.Val.S),.own 1 (eL (yn 1 za) x.Val.K),.own 5 (eL zt x.Val.L),.own 1 (eL (yn 1 za) x.Deps),.bool x.Taint,.int .i64 x.Turned]
theorem zJ (x:GEntry):zQ x=OK x:=rfl
theorem j8:OEnc 9 zQ zq:=⟨fun x=>rfl,fun x=>by simp only[zQ,zq,yC,jQ,qf kh,qf (W5 1 kh),qf Zg],fun x=>by simp only[zQ,Zs,kM,qg kh,qg (W5 1 kh),qg Zg,Bool.and_self]⟩
theorem xl:Enc 9 zq:=⟨fun x=>by rw[ym];rfl,fun x=>by rw[ym];rfl,fun x=>by rw[ym];rfl⟩
inductive GState where
 |mk (Serial:Int) (Open:Bool) (Pending:(List UInt8)) (Act:Int) (Entries:(List GEntry))
def GState.Serial:GState→Int
 | .mk x _ _ _ _=>x
def GState.Open:GState→Bool
 | .mk _ x _ _ _=>x
def GState.Pending:GState→(List UInt8)
 | .mk _ _ x _ _=>x
def GState.Act:GState→Int
 | .mk _ _ _ x _=>x
def GState.Entries:GState→(List GEntry)
 | .mk _ _ _ _ x=>x
theorem GState.eta (x:GState):GState.mk x.Serial x.Open x.Pending x.Act x.Entries=x:=by cases x;rfl
def Wd (x:GState):List C:=[.int .i64 x.Serial,.bool x.Open,.seq (eL za x.Pending),.int .i64 x.Act,.seq (eL zq x.Entries)]
def y9 (x:GState):List C:=[.int .i64 x.Serial,.bool x.Open,.seq (eL za x.Pending),.int .i64 x.Act,.seq (eL zq x.Entries)]
theorem ZN (x:GState):Wd x=y9 x:=rfl
def Ry (x:GState):List C:=[.int .i64 x.Serial,.bool x.Open,.own 1 (eL za x.Pending),.int .i64 x.Act,.own 9 (eL zQ x.Entries)]
theorem We:Enc 5 Wd:=⟨fun x=>by rw[ZN];rfl,fun x=>by rw[ZN];rfl,fun x=>by rw[ZN];rfl⟩
inductive GEvent where
 |mk (Kind:Int) (Addr:(List UInt8)) (Act:Int) (Val:GValue) (Deps:(List (List UInt8)))
def GEvent.Kind:GEvent→Int
 | .mk x _ _ _ _=>x
def GEvent.Addr:GEvent→(List UInt8)
 | .mk _ x _ _ _=>x
def GEvent.Act:GEvent→Int
 | .mk _ _ x _ _=>x
def GEvent.Val:GEvent→GValue
 | .mk _ _ _ x _=>x
def GEvent.Deps:GEvent→(List (List UInt8))
 | .mk _ _ _ _ x=>x
theorem GEvent.eta (x:GEvent):GEvent.mk x.Kind x.Addr x.Act x.Val x.Deps=x:=by cases x;rfl
def zN (x:GEvent):List C:=[.int .i64 x.Kind,.seq (eL za x.Addr),.int .i64 x.Act,.int .i64 x.Val.Kind,.int .i64 x.Val.N,.seq (eL za x.Val.S),.seq (eL (zl za) x.Val.K),.seq (eL zd x.Val.L),.seq (eL (zl za) x.Deps)]
def ve (x:GEvent):List C:=[.int .i64 x.Kind,.seq (eL za x.Addr),.int .i64 x.Act,.int .i64 x.Val.Kind,.int .i64 x.Val.N,.seq (eL za x.Val.S),.seq (eL (zl za) x.Val.K),.seq (eL zd x.Val.L),.seq (eL (zl za) x.Deps)]
theorem ZO (x:GEvent):zN x=ve x:=rfl
def wD (x:GEvent):List C:=[.int .i64 x.Kind,.own 1 (eL za x.Addr),.int .i64 x.Act,.int .i64 x.Val.Kind,.int .i64 x.Val.N,.own 1 (eL za x.Val.S),.own 1 (eL (yn 1 za) x.Val.K),.own 5 (eL zt x.Val.L),.own 1 (eL (yn 1 za) x.Deps)]
def Db (x:GEvent):List C:=[.int .i64 x.Kind,.own 1 (eL za x.Addr),.int .i64 x.Act,.int .i64 x.Val.Kind,.int .i64 x.Val.N,.own 1 (eL za x.Val.S),.own 1 (eL (yn 1 za) x.Val.K),.own 5 (eL zt x.Val.L),.own 1 (eL (yn 1 za) x.Deps)]
theorem yD (x:GEvent):wD x=Db x:=rfl
theorem YS:OEnc 9 wD zN:=⟨fun x=>rfl,fun x=>by simp only[wD,zN,yC,jQ,qf kh,qf (W5 1 kh),qf Zg],fun x=>by simp only[wD,Zs,kM,qg kh,qg (W5 1 kh),qg Zg,Bool.and_self]⟩
inductive GHistory where
 |mk (Base:GState) (Events:(List GEvent)) (Safe:Int)
def GHistory.Base:GHistory→GState
 | .mk x _ _=>x
def GHistory.Events:GHistory→(List GEvent)
 | .mk _ x _=>x
def GHistory.Safe:GHistory→Int
 | .mk _ _ x=>x
theorem GHistory.eta (x:GHistory):GHistory.mk x.Base x.Events x.Safe=x:=by cases x;rfl
def Mx (x:GHistory):List C:=[.int .i64 x.Base.Serial,.bool x.Base.Open,.seq (eL za x.Base.Pending),.int .i64 x.Base.Act,.seq (eL zq x.Base.Entries),.seq (eL zN x.Events),.int .i64 x.Safe]
def xv (x:GHistory):List C:=[.int .i64 x.Base.Serial,.bool x.Base.Open,.seq (eL za x.Base.Pending),.int .i64 x.Base.Act,.seq (eL zq x.Base.Entries),.seq (eL zN x.Events),.int .i64 x.Safe]
theorem eq_GHistory (x:GHistory):Mx x=xv x:=rfl
def A6 (x:GHistory):List C:=[.int .i64 x.Base.Serial,.bool x.Base.Open,.own 1 (eL za x.Base.Pending),.int .i64 x.Base.Act,.own 9 (eL zQ x.Base.Entries),.own 9 (eL wD x.Events),.int .i64 x.Safe]
inductive GStep where
 |mk (Kind:Int) (Key:(List UInt8)) (I:Int)
def GStep.Kind:GStep→Int
 | .mk x _ _=>x
def GStep.Key:GStep→(List UInt8)
 | .mk _ x _=>x
def GStep.I:GStep→Int
 | .mk _ _ x=>x
theorem GStep.eta (x:GStep):GStep.mk x.Kind x.Key x.I=x:=by cases x;rfl
def zU (x:GStep):List C:=[.int .i64 x.Kind,.seq (eL za x.Key),.int .i64 x.I]
def V9 (x:GStep):List C:=[.int .i64 x.Kind,.seq (eL za x.Key),.int .i64 x.I]
theorem Ya (x:GStep):zU x=V9 x:=rfl
def qY (x:GStep):List C:=[.int .i64 x.Kind,.own 1 (eL za x.Key),.int .i64 x.I]
def zje (x:GStep):List C:=[.int .i64 x.Kind,.own 1 (eL za x.Key),.int .i64 x.I]
theorem Wq (x:GStep):qY x=zje x:=rfl
theorem Wr:OEnc 3 qY zU:=⟨fun x=>rfl,fun x=>by simp only[qY,zU,yC,jQ,qf kh],fun x=>by simp only[qY,Zs,kM,qg kh,Bool.and_self]⟩
theorem vB:Enc 3 zU:=⟨fun x=>by rw[Ya];rfl,fun x=>by rw[Ya];rfl,fun x=>by rw[Ya];rfl⟩
inductive GChange where
 |mk (Path:(List GStep)) (Had:Bool) (Old:GValue) (Has:Bool) (New:GValue)
def GChange.Path:GChange→(List GStep)
 | .mk x _ _ _ _=>x
def GChange.Had:GChange→Bool
 | .mk _ x _ _ _=>x
def GChange.Old:GChange→GValue
 | .mk _ _ x _ _=>x
def GChange.Has:GChange→Bool
 | .mk _ _ _ x _=>x
def GChange.New:GChange→GValue
 | .mk _ _ _ _ x=>x
theorem GChange.eta (x:GChange):GChange.mk x.Path x.Had x.Old x.Has x.New=x:=by cases x;rfl
def yg (x:GChange):List C:=[.seq (eL zU x.Path),.bool x.Had,.int .i64 x.Old.Kind,.int .i64 x.Old.N,.seq (eL za x.Old.S),.seq (eL (zl za) x.Old.K),.seq (eL zd x.Old.L),.bool x.Has,.int .i64 x.New.Kind,.int .i64 x.New.N,.seq (eL za x.New.S),.seq (eL (zl za) x.New.K),.seq (eL zd x.New.L)]
def U7 (x:GChange):List C:=[.seq (eL zU x.Path),.bool x.Had,.int .i64 x.Old.Kind,.int .i64 x.Old.N,.seq (eL za x.Old.S),.seq (eL (zl za) x.Old.K),.seq (eL zd x.Old.L),.bool x.Has,.int .i64 x.New.Kind,.int .i64 x.New.N,.seq (eL za x.New.S),.seq (eL (zl za) x.New.K),.seq (eL zd x.New.L)]
theorem vV (x:GChange):yg x=U7 x:=rfl
def yO (x:GChange):List C:=[.own 3 (eL qY x.Path),.bool x.Had,.int .i64 x.Old.Kind,.int .i64 x.Old.N,.own 1 (eL za x.Old.S),.own 1 (eL (yn 1 za) x.Old.K),.own 5 (eL zt x.Old.L),.bool x.Has,.int .i64 x.New.Kind,.int .i64 x.New.N,.own 1 (eL za x.New.S),.own 1 (eL (yn 1 za) x.New.K),.own 5 (eL zt x.New.L)]
def zb9 (x:GChange):List C:=[.own 3 (eL qY x.Path),.bool x.Had,.int .i64 x.Old.Kind,.int .i64 x.Old.N,.own 1 (eL za x.Old.S),.own 1 (eL (yn 1 za) x.Old.K),.own 5 (eL zt x.Old.L),.bool x.Has,.int .i64 x.New.Kind,.int .i64 x.New.N,.own 1 (eL za x.New.S),.own 1 (eL (yn 1 za) x.New.K),.own 5 (eL zt x.New.L)]
theorem zO (x:GChange):yO x=zb9 x:=rfl
theorem zZ:OEnc 13 yO yg:=⟨fun x=>rfl,fun x=>by simp only[yO,yg,yC,jQ,qf Wr,qf kh,qf (W5 1 kh),qf Zg],fun x=>by simp only[yO,Zs,kM,qg Wr,qg kh,qg (W5 1 kh),qg Zg,Bool.and_self]⟩
theorem yp:Enc 13 yg:=⟨fun x=>by rw[vV];rfl,fun x=>by rw[vV];rfl,fun x=>by rw[vV];rfl⟩
def bsz (k:List (List UInt8)):Nat:=k.length+(k.map List.length).sum
mutual
def vsz:GValue→Nat
 | .mk _ _ s k l=>s.length+bsz k+yX l
def yX:List GValue→Nat
 |[]=>0
 |v::l=>1+vsz v+yX l
end
theorem ZD {k:List (List UInt8)} {b:List UInt8} (h:b∈k):1+b.length<=bsz k:=by
 unfold bsz
 induction k with
 |nil=>cases h
 |cons x k ih=>
  simp only[List.length_cons,List.map_cons,List.sum_cons]
  rcases List.mem_cons.1 h with rfl|h
  ·omega
  ·have:=ih h;omega
theorem wT (k:List (List UInt8)):k.length<=bsz k:=by unfold bsz;omega
theorem Dc (b:List UInt8) (k:List (List UInt8)):bsz (b::k)=1+b.length+bsz k:=by unfold bsz;simp;omega
theorem yN {l:List GValue} {v:GValue} (h:v∈l):1+vsz v<=yX l:=by
 induction l with
 |nil=>cases h
 |cons x l ih=>
  simp only[yX]
  rcases List.mem_cons.1 h with rfl|h
  ·omega
  ·have:=ih h;omega
theorem yS (l:List GValue):l.length<=yX l:=by
 induction l with
 |nil=>simp
 |cons x l ih=>simp only[yX,List.length_cons];omega
theorem yT (v:GValue):vsz v=v.S.length+bsz v.K+yX v.L:=by cases v;simp only[vsz,GValue.S,GValue.K,GValue.L]
mutual
def ptV:GValue→Nat
 | .mk _ _ _ _ l=>1+yo l
def yo:List GValue→Nat
 |[]=>0
 |v::l=>ptV v+yo l
end
theorem VA (v:GValue):ptV v=1+yo v.L:=by cases v;simp only[ptV,GValue.L]
theorem ze4 (l:List GValue):l.length<=yo l:=by
 induction l with
 |nil=>simp
 |cons v l ih=>have:=VA v;simp only[yo,List.length_cons];omega
mutual
theorem zmp:∀v:GValue,ptV v<=1+vsz v
 | .mk _ _ _ _ l=>by have:=NI l;simp only[ptV,vsz];omega
theorem NI:∀l:List GValue,yo l<=yX l
 |[]=>by simp[yo,yX]
 |v::l=>by have:=zmp v;have:=NI l;simp only[yo,yX];omega
end
def WS (a:List UInt8):Bool:=decide (a.length<=20)&&a.all (inB 32 126)
def vW (a:List UInt8):Bool:=decide (1<=a.length∧a.length<=8)&&a.all (inB 97 122)
def kOk (k:List (List UInt8)) (j:Nat):Bool:=match k[j]? with
 |some b=>vW b&&(decide (j=0)||match k[j - 1]? with |some a=>Op.bytesLess a b|none=>false)
 |none=>false
def vx (k:List (List UInt8)) (i d:Nat):Bool:=(List.range' i d).all (kOk k)
theorem KS (k:List (List UInt8)) (i d:Nat):vx k i (d+1)=(kOk k i&&vx k (i+1) d):=by
 unfold vx;rw[List.range'_succ,List.all_cons]
theorem Kn {k:List (List UInt8)} {i:Nat} (h:i<k.length) (h0:0<i):kOk k i=(vW k[i]&&Op.bytesLess (k[i - 1]'(by omega)) k[i]):=by
 unfold kOk
 rw[zj h]
 simp only
 rw[zj (show i - 1<k.length by omega)]
 simp[show i≠0 by omega]
theorem Rz {k:List (List UInt8)} (h:0<k.length):kOk k 0=vW k[0]:=by
 unfold kOk
 rw[zj h]
 simp
theorem Qy (a b:List UInt8):(0<=Lib.compareBytes a b)=¬(Op.bytesLess a b=true):=by
 induction a generalizing b with
 |nil=>cases b <;> simp[Lib.compareBytes,Op.bytesLess]
 |cons x a ih=>
  cases b with
  |nil=>simp[Lib.compareBytes,Op.bytesLess]
  |cons y b=>
   simp only[Lib.compareBytes,Op.bytesLess]
   by_cases h1:x<y
   ·simp[h1]
   ·by_cases h2:y<x
    ·have h3:¬x=y:=fun e=>by subst e;exact h1 h2
     simp[h1,h2,h3]
    ·have h3:x=y:=UInt8.le_antisymm (UInt8.not_lt.1 h2) (UInt8.not_lt.1 h1)
     subst h3
     simp[h1,ih]
def xj (v:GValue):Bool:=
 if v.Kind=0∨v.Kind=6 then decide (v.N=0∧v.S.length=0∧v.K.length=0∧v.L.length=0)
 else if v.Kind=1 then decide ((0<=v.N∧v.N<=1)∧v.S.length=0∧v.K.length=0∧v.L.length=0)
 else if v.Kind=2 then decide ((-1000000000000<=v.N∧v.N<=1000000000000)∧v.S.length=0∧v.K.length=0∧v.L.length=0)
 else if v.Kind=3 then WS v.S&&decide (v.N=0∧v.K.length=0∧v.L.length=0)
 else if v.Kind=4 then decide (v.N=0∧v.S.length=0∧v.K.length=0∧v.L.length<=40)
 else if v.Kind=5 then decide (v.K.length=v.L.length∧v.N=0∧v.S.length=0∧v.L.length<=40)&&vx v.K 0 v.K.length
 else false
def shV:Nat→GValue→Bool
 |0,_=>false
 |d+1,v=>xj v&&v.L.all (shV d)
def xH (s:Nat) (n:Int):Int:=if(s:Int)<=n then n - s else -1
/- calls -/
theorem Zi (a:List UInt8):Op.bytesLess a a=false:=by
 induction a with
 |nil=>rfl
 |cons x a ih=>simp[Op.bytesLess,ih]
theorem vX:∀{a b c:List UInt8},Op.bytesLess a b=true→Op.bytesLess b c=true→Op.bytesLess a c=true
 |[],[],_,h,_=>by simp[Op.bytesLess]at h
 |[],_::_,[],_,h=>by simp[Op.bytesLess]at h
 |[],_::_,_::_,_,_=>rfl
 |_::_,[],_,h,_=>by simp[Op.bytesLess]at h
 |_::_,_::_,[],_,h=>by simp[Op.bytesLess]at h
 |x::a,y::b,z::c,h,g=>by
  simp only[Op.bytesLess,Bool.or_eq_true,decide_eq_true_eq,Bool.and_eq_true,beq_iff_eq]at h g ⊢
  rcases h with h|⟨rfl,h⟩
  ·rcases g with g|⟨rfl,g⟩
   ·exact .inl (UInt8.lt_trans h g)
   ·exact .inl h
  ·rcases g with g|⟨rfl,g⟩
   ·exact .inl g
   ·exact .inr ⟨rfl,vX h g⟩
theorem OL:∀(a b:List UInt8),Lib.compareBytes a b=0 ↔ a=b
 |[],[]=>by simp[Lib.compareBytes]
 |[],_::_=>by simp[Lib.compareBytes]
 |_::_,[]=>by simp[Lib.compareBytes]
 |x::a,y::b=>by
  have ih:=OL a b
  simp only[Lib.compareBytes]
  by_cases h1:x<y
  ·rw[if_pos h1]
   have:x≠y:=fun e=>by subst e;exact absurd h1 (UInt8.lt_irrefl x)
   simp[this]
  ·rw[if_neg h1]
   by_cases h2:y<x
   ·rw[if_pos h2]
    have:x≠y:=fun e=>by subst e;exact absurd h2 (UInt8.lt_irrefl x)
    simp[this]
   ·have h3:x=y:=UInt8.le_antisymm (UInt8.not_lt.1 h2) (UInt8.not_lt.1 h1)
    subst h3
    rw[if_neg h2,ih];simp
theorem VB (a b:List UInt8):(Lib.compareBytes a b<0)=(Op.bytesLess a b=true):=by
 have:=Qy a b
 apply propext
 constructor
 ·intro h
  refine Classical.byContradiction fun hn=> ?_
  rw[<-this]at hn
  omega
 ·intro h
  refine Classical.byContradiction fun hn=> ?_
  have h0:0<=Lib.compareBytes a b:=by omega
  rw[this]at h0
  exact h0 h
def j9 (a:List (List UInt8)) (x:List UInt8) (c:Nat):Prop:=c<=a.length∧∀k (h:k<a.length),k<c ↔ Op.bytesLess a[k] x=true
def Asc (a:List (List UInt8)):Prop:=∀i j (hj:j<a.length) (hij:i<j),Op.bytesLess (a[i]'(by omega)) a[j]=true
theorem j9.of {a:List (List UInt8)} (ha:Asc a) (x:List UInt8):∃c,j9 a x c:=by
 have:∀n,n<=a.length→∃c,c<=n∧∀k (h:k<a.length),k<n→(k<c ↔ Op.bytesLess a[k] x=true):=by
  intro n
  induction n with
  |zero=>exact fun _=>⟨0,Nat.le_refl _,fun k h hk=>by omega⟩
  |succ n ih=>
   intro hn
   obtain⟨c,hc,h⟩:=ih (by omega)
   by_cases hl:Op.bytesLess (a[n]'(by omega)) x=true
   ·have hcn:c=n:=by
     refine Classical.byContradiction fun hne=> ?_
     have h1:=h c (by omega) (by omega)
     have h2:=ha c n (by omega) (by omega)
     have:=h1.2 (vX h2 hl)
     omega
    refine⟨n+1,Nat.le_refl _,fun k hk hkn=> ?_⟩
    rcases Nat.lt_or_ge k n with hlt|hge
    ·exact⟨fun _=>(h k hk hlt).1 (by omega),fun _=>by omega⟩
    ·obtain rfl:k=n:=by omega
     exact⟨fun _=>hl,fun _=>by omega⟩
   ·refine⟨c,by omega,fun k hk hkn=> ?_⟩
    rcases Nat.lt_or_ge k n with hlt|hge
    ·exact h k hk hlt
    ·obtain rfl:k=n:=by omega
     exact⟨fun _=>by omega,fun h=>(hl h).elim⟩
 obtain⟨c,hc,h⟩:=this a.length (Nat.le_refl _)
 exact⟨c,hc,fun k hk=>h k hk hk⟩
theorem j9.mem {a:List (List UInt8)} (ha:Asc a) {x:List UInt8} {c:Nat} (h:j9 a x c):a[c]? =some x ↔ x∈a:=by
 constructor
 ·exact List.mem_of_getElem?
 ·intro hx
  obtain⟨k,hk,rfl⟩:=List.mem_iff_getElem.1 hx
  have h1:¬k<c:=fun hlt=>by
   have:=(h.2 k hk).1 hlt
   rw[Zi]at this
   cases this
  have h2:k=c:=by
   refine Classical.byContradiction fun hne=> ?_
   have hlt:c<k:=by omega
   have:=(h.2 c (by omega)).2 (ha c k hk hlt)
   omega
  subst h2
  exact zj hk
theorem Dd {i j:Nat} (h:i+j<2 ^ 62):w64 (Yq .shr .u64 (IntKind.u64.wrap (w64 ((i:Int)+(j:Int)))) 1)=(((i+j) / 2:Nat):Int):=by
 rw[zR (x:=(i:Int)+(j:Int)) (by omega) (by omega)]
 have h1:IntKind.u64.wrap ((i:Int)+(j:Int))=(i:Int)+(j:Int):=by unfold IntKind.wrap;simp[IntKind.bits,IntKind.signed];omega
 rw[h1]
 have h2:Yq .shr .u64 ((i:Int)+(j:Int)) 1=(((i+j) / 2:Nat):Int):=by
  show Int.fdiv _ (2 ^ (min (1:Int).toNat IntKind.u64.bits))=_
  rw[show min (1:Int).toNat IntKind.u64.bits=1 from rfl,Int.fdiv_eq_ediv_of_nonneg _ (by decide)]
  omega
 rw[h2,zR (by omega) (by omega)]
def jd (v:GValue):Bool:=decide (shV 5 v=true∧(ptV v:Int)<=40)
theorem zjf {k:List (List UInt8)} (h:vx k 0 k.length=true) {j:Nat} (hj:j<k.length):kOk k j=true:=by
 unfold vx at h
 exact List.all_eq_true.1 h j (List.mem_range'_1.2 ⟨by omega,by omega⟩)
theorem ze5 {k:List (List UInt8)} (h:vx k 0 k.length=true):Asc k:=by
 intro i j
 induction j with
 |zero=>intro _ h;omega
 |succ j ih=>
  intro hj hij
  have hk:=zjf h hj
  rw[Kn hj (by omega),Bool.and_eq_true]at hk
  have h1:Op.bytesLess (k[j]'(by omega)) k[j+1]=true:=hk.2
  rcases Nat.lt_or_ge i j with hlt|hge
  ·exact vX (ih (by omega) hlt) h1
  ·obtain rfl:i=j:=by omega
   exact h1
/- sorting -/
def Le (x y:List UInt8):Prop:=Op.bytesLess y x=false
theorem J6:∀a b:List UInt8,Op.bytesLess a b=true∨a=b∨Op.bytesLess b a=true
 |[],[]=> .inr (.inl rfl)
 |[],_::_=> .inl rfl
 |_::_,[]=> .inr (.inr rfl)
 |x::a,y::b=>by
  simp only[Op.bytesLess,Bool.or_eq_true,decide_eq_true_eq,Bool.and_eq_true,beq_iff_eq]
  by_cases h1:x<y
  ·exact .inl (.inl h1)
  by_cases h2:y<x
  ·exact .inr (.inr (.inl h2))
  ·have h3:x=y:=UInt8.le_antisymm (UInt8.not_lt.1 h2) (UInt8.not_lt.1 h1)
   subst h3
   rcases J6 a b with h|h|h
   ·exact .inl (.inr ⟨rfl,h⟩)
   ·exact .inr (.inl (by rw[h]))
   ·exact .inr (.inr (.inr ⟨rfl,h⟩))
theorem Le.refl (x:List UInt8):Le x x:=Zi x
theorem Le.of_less {x y:List UInt8} (h:Op.bytesLess x y=true):Le x y:=by
 unfold Le
 cases h2:Op.bytesLess y x with
 |false=>rfl
 |true=>have:=vX h h2;rw[Zi]at this;cases this
theorem Le.cases {x y:List UInt8} (h:Le x y):x=y∨Op.bytesLess x y=true:=by
 rcases J6 x y with g|g|g
 ·exact .inr g
 ·exact .inl g
 ·unfold Le at h;rw[h]at g;cases g
theorem Le.trans {x y z:List UInt8} (h:Le x y) (g:Le y z):Le x z:=by
 rcases h.cases with rfl|h
 ·exact g
 ·rcases g.cases with rfl|g
  ·exact Le.of_less h
  ·exact Le.of_less (vX h g)
def gt (d:List (List UInt8)) (i:Nat):List UInt8:=(d[i]?).getD []
theorem zca {d:List (List UInt8)} {i k:Nat} {x:List UInt8} (h:i<d.length):gt (d.set i x) k=if k=i then x else gt d k:=by
 unfold gt
 by_cases e:k=i
 ·subst e;rw[if_pos rfl,List.getElem?_set_self h];rfl
 ·rw[if_neg e,List.getElem?_set_ne (fun e'=>e e'.symm)]
def sw (d:List (List UInt8)) (i j:Nat):List (List UInt8):=(d.set i (gt d j)).set j (gt d i)
theorem zmq (d:List (List UInt8)) (i j:Nat):(sw d i j).length=d.length:=by unfold sw;simp
theorem zhf {d:List (List UInt8)} {i j k:Nat} (hi:i<d.length) (hj:j<d.length):gt (sw d i j) k=if k=j then gt d i else if k=i then gt d j else gt d k:=by
 unfold sw
 rw[zca (by simpa using hj),zca hi]
structure Rg (a b:Nat) (d d':List (List UInt8)):Prop where
 len:d'.length=d.length
 perm:d'.Perm d
 out:∀i,(i<a∨b<=i)→gt d' i=gt d i
 all:∀Q:List UInt8→Prop,(∀i,a<=i→i<b→Q (gt d i))→∀i,a<=i→i<b→Q (gt d' i)
theorem Rg.refl (a b:Nat) (d:List (List UInt8)):Rg a b d d:=⟨rfl,.refl _,fun _ _=>rfl,fun _ h=>h⟩
theorem Rg.trans {a b:Nat} {d d' d'':List (List UInt8)} (h:Rg a b d d') (g:Rg a b d' d''):Rg a b d d'':=
 ⟨g.len.trans h.len,g.perm.trans h.perm,fun i hi=>(g.out i hi).trans (h.out i hi),fun Q hq=>g.all Q (h.all Q hq)⟩
theorem Rg.mono {a b a' b':Nat} {d d':List (List UInt8)} (h:Rg a b d d') (ha:a'<=a) (hb:b<=b'):Rg a' b' d d':=
 ⟨h.len,h.perm,fun i hi=>h.out i (by omega),fun Q hq i h1 h2=>by
  by_cases hin:a<=i∧i<b
  ·exact h.all Q (fun k k1 k2=>hq k (by omega) (by omega)) i hin.1 hin.2
  ·rw[h.out i (by omega)];exact hq i h1 h2⟩
theorem zjg {d:List (List UInt8)} {i j:Nat} (hi:i<d.length) (hj:j<d.length):(sw d i j).Perm d:=by
 have e1:gt d j=d[j]:=by unfold gt;rw[zj hj];rfl
 have e2:gt d i=d[i]:=by unfold gt;rw[zj hi];rfl
 unfold sw
 rw[e1,e2]
 exact List.set_set_perm hi hj
theorem Rg.swap {a b:Nat} {d:List (List UInt8)} {i j:Nat} (h1:a<=i) (h2:i<b) (h3:a<=j) (h4:j<b) (hb:b<=d.length):Rg a b d (sw d i j):=
 ⟨zmq d i j,zjg (by omega) (by omega),fun k hk=>by rw[zhf (by omega) (by omega),if_neg (by omega),if_neg (by omega)],fun Q hq k k1 k2=>by
  rw[zhf (by omega) (by omega)]
  split
  ·exact hq i h1 h2
  ·split
   ·exact hq j h3 h4
   ·exact hq k k1 k2⟩
theorem zmr {x y:List UInt8}:(Lib.compareBytes x y<0) ↔ Op.bytesLess x y=true:=by rw[VB]
/- values as expressions -/
mutual
def knV:GValue→Bool
 | .mk k _ _ _ l=>decide (k≠6)&&Jh l
def Jh:List GValue→Bool
 |[]=>true
 |v::l=>knV v&&Jh l
end
theorem zcb (v:GValue):knV v=(decide (v.Kind≠6)&&Jh v.L):=by cases v;rw[knV];rfl
/- expressions renamed -/
/- marks -/
theorem zp {α:Type} (p:List α) (x:α) (l:List α):(p++x::l)[p.length]? =some x:=by simp
theorem yW {α:Type} (p:List α) (x y:α) (l:List α):(p++x::l).set p.length y=p++y::l:=by simp
theorem Qz {α:Type} (p:List α) (x:α) (l:List α):p++x::l=(p++[x])++l:=by simp
theorem ye {α:Type} (p:List α) (x:α) (h:p.length<2 ^ 62):w64 ((p.length:Int)+1)=((p++[x]).length:Int):=by rw[zG h];simp
theorem ZE {α:Type} (p:List α) (x:α) (l:List α):(p.length:Int)<((p++x::l).length:Int):=by simp;omega
theorem xF {α:Type} (p:List α):¬(p.length:Int)<((p++[]).length:Int):=by simp
theorem xc {n m:Nat} (hn:n<=2 ^ 7) (hm:m<=2 ^ 40):zC n m:=by
 have:m*n<=2 ^ 40*2 ^ 7:=Nat.mul_le_mul hm hn
 unfold zC
 exact⟨by rw[show maxBytes=2 ^ 47 from rfl];omega,by omega⟩
def mB:Int→List UInt8→List UInt8
 |_,[]=>[]
 |k,_::l=>b8 k::mB (k+1) l
def cB (k:List (List UInt8)):Nat:=(k.map List.length).sum
def mBB:Int→List (List UInt8)→List (List UInt8)
 |_,[]=>[]
 |k,x::l=>mB k x::mBB (k+x.length) l
theorem QO (l:List UInt8) (k:Int):(mB k l).length=l.length:=by
 induction l generalizing k with
 |nil=>rfl
 |cons x l ih=>simp only[mB,List.length_cons,ih]
theorem NJ (l:List UInt8) (k:Int):mB k (mB k l)=mB k l:=by
 induction l generalizing k with
 |nil=>rfl
 |cons x l ih=>simp only[mB,ih]
theorem ze6 (l:List (List UInt8)) (k:Int):mBB k (mBB k l)=mBB k l:=by
 induction l generalizing k with
 |nil=>rfl
 |cons x l ih=>simp only[mBB,NJ,QO,ih]
theorem De (l:List (List UInt8)) (k:Int):cB (mBB k l)=cB l:=by
 induction l generalizing k with
 |nil=>rfl
 |cons x l ih=>unfold cB at ih ⊢;simp only[mBB,List.map_cons,List.sum_cons,QO,ih]
theorem Br (x:List UInt8) (l:List (List UInt8)):cB (x::l)=x.length+cB l:=by unfold cB;simp
theorem ZF (l:List (List UInt8)):bsz l=l.length+cB l:=rfl
theorem zjh (l:List (List UInt8)) (k:Int):bsz (mBB k l)=bsz l:=by
 rw[ZF,ZF,De]
 congr 1
 induction l generalizing k with
 |nil=>rfl
 |cons x l ih=>simp only[mBB,List.length_cons,ih]
mutual
def cV:GValue→Nat
 | .mk _ _ s k l=>2+(s.length+(cB k+cVs l))
def cVs:List GValue→Nat
 |[]=>0
 |v::l=>cV v+cVs l
end
mutual
def mV:Int→GValue→GValue
 |i,.mk _ _ s k l=> .mk i (i+1) (mB (i+1+1) s) (mBB (i+1+1+s.length) k) (mVs (i+1+1+s.length+cB k) l)
def mVs:Int→List GValue→List GValue
 |_,[]=>[]
 |i,v::l=>mV i v::mVs (i+cV v) l
end
theorem R1 (v:GValue):cV v=2+(v.S.length+(cB v.K+cVs v.L)):=by cases v;simp only[cV,GValue.S,GValue.K,GValue.L]
theorem UY (i:Int) (v:GValue):mV i v= .mk i (i+1) (mB (i+1+1) v.S) (mBB (i+1+1+v.S.length) v.K) (mVs (i+1+1+v.S.length+cB v.K) v.L):=by cases v;simp only[mV,GValue.S,GValue.K,GValue.L]
mutual
theorem A7:∀(i:Int) (v:GValue),cV (mV i v)=cV v
 |i,.mk _ _ s k l=>by simp only[mV,cV,QO,De,zhg]
theorem zhg:∀(i:Int) (l:List GValue),cVs (mVs i l)=cVs l
 |_,[]=>rfl
 |i,v::l=>by simp only[mVs,cVs,A7 i v,zhg _ l]
end
mutual
theorem NK:∀(i:Int) (v:GValue),mV i (mV i v)=mV i v
 |i,.mk _ _ s k l=>by simp only[mV,QO,De,NJ,ze6,Df]
theorem Df:∀(i:Int) (l:List GValue),mVs i (mVs i l)=mVs i l
 |_,[]=>rfl
 |i,v::l=>by simp only[mVs,A7,NK i v,Df _ l]
end
mutual
theorem zhh:∀(i:Int) (v:GValue),vsz (mV i v)=vsz v
 |i,.mk _ _ s k l=>by simp only[mV,vsz,QO,zjh,zcc]
theorem zcc:∀(i:Int) (l:List GValue),yX (mVs i l)=yX l
 |_,[]=>rfl
 |i,v::l=>by simp only[mVs,yX,zhh i v,zcc _ l]
end
mutual
theorem WU:∀v:GValue,cV v<=2+2*vsz v
 | .mk _ _ s k l=>by have:=QP l;have:=ZF k;simp only[cV,vsz];omega
theorem QP:∀l:List GValue,cVs l<=2*yX l
 |[]=>by simp[cVs,yX]
 |v::l=>by have:=WU v;have:=QP l;simp only[cVs,yX];omega
end
/- addresses -/
theorem My {α:Type} {l:List α} {i:Nat} (h:i<=l.length):qK l none (some i)=some (l.take i):=by
 unfold qK Yz;rw[if_pos ⟨by simp,by simpa using h⟩];simp
theorem R2 {α:Type} {l:List α} {i:Nat} (h:i<=l.length):qK l (some i) none=some (l.drop i):=by
 unfold qK Yz;rw[if_pos ⟨by simpa using h,by simp⟩];simp
theorem Bs {α:Type} {l:List α} (h:2<=l.length):qK l (some 1) (some (l.length - 1))=some ((l.drop 1).dropLast):=by
 unfold qK Yz
 rw[if_pos ⟨by simp;omega,by simp⟩]
 simp only[Option.getD_some,Option.map_some,List.dropLast_eq_take,List.length_drop,List.drop_take]
theorem Dg {α:Type} {l:List α} (h:0<l.length):l[l.length - 1]? =l.getLast? :=by rw[List.getLast?_eq_getElem?]
def KT (n:Nat):List UInt8:=if n<10 then[UInt8.ofNat (48+n)]else[UInt8.ofNat (48+n / 10),UInt8.ofNat (48+n % 10)]
def R3 (l:List UInt8):Bool:=decide (1<=l.length∧l.length<=2)&& !(decide (l.length=2)&&decide (l[0]? =some 48))&&l.all (inB 48 57)
def A8 (l:List UInt8):Bool:=if l[0]? =some 34 then(if(l.drop 1).getLast? =some 34 then vW (l.drop 1).dropLast else false)else R3 l
def Yx (b:List UInt8):List UInt8:=b.takeWhile fun x=>decide (x≠91)
def Zj (b:List UInt8):List UInt8:=b.dropWhile fun x=>decide (x≠91)
theorem Mz (b:List UInt8):Yx b++Zj b=b:=List.takeWhile_append_dropWhile
theorem Bt (b:List UInt8):b.take (Yx b).length=Yx b:=by
 conv=>lhs;arg 2;rw[<-Mz b]
 exact List.take_left
theorem Bu (b:List UInt8):b.drop (Yx b).length=Zj b:=by
 conv=>lhs;arg 2;rw[<-Mz b]
 exact List.drop_left
theorem Dh (b:List UInt8):(Yx b).length+(Zj b).length=b.length:=by
 rw[<-List.length_append,Mz]
theorem Bv {b:List UInt8} (h:Zj b≠[]):∃t,Zj b=91::t:=by
 unfold Zj at h ⊢
 induction b with
 |nil=>exact(h rfl).elim
 |cons x b ih=>
  rw[List.dropWhile_cons]at h ⊢
  by_cases hx:x=91
  ·subst hx
   exact⟨b,by rw[if_neg (by simp)]⟩
  ·rw[if_pos (by simpa using hx)]at h ⊢
   exact ih h
def y5 (b:List UInt8):Bool:=vW (Yx b)&&(if Zj b=[]then true else if((Zj b).drop 1).getLast? =some 93 then A8 ((Zj b).drop 1).dropLast else false)
def gOk {α:Type} (p:α→Bool) (key:α→List UInt8) (l:List α) (j:Nat):Bool:=match l[j]? with
 |some b=>p b&&(decide (j=0)||match l[j - 1]? with |some a=>Op.bytesLess (key a) (key b)|none=>false)
 |none=>false
def Zk {α:Type} (p:α→Bool) (key:α→List UInt8) (l:List α) (i d:Nat):Bool:=(List.range' i d).all (gOk p key l)
theorem KU {α:Type} (p:α→Bool) (key:α→List UInt8) (l:List α) (i d:Nat):Zk p key l i (d+1)=(gOk p key l i&&Zk p key l (i+1) d):=by
 unfold Zk;rw[List.range'_succ,List.all_cons]
theorem U8 {α:Type} {p:α→Bool} {key:α→List UInt8} {l:List α} {i:Nat} (h:i<l.length) (h0:0<i):gOk p key l i=(p l[i]&&Op.bytesLess (key (l[i - 1]'(by omega))) (key l[i])):=by
 unfold gOk
 rw[zj h]
 simp only
 rw[zj (show i - 1<l.length by omega)]
 simp[show i≠0 by omega]
theorem R4 {α:Type} {p:α→Bool} {key:α→List UInt8} {l:List α} (h:0<l.length):gOk p key l 0=p l[0]:=by
 unfold gOk
 rw[zj h]
 simp
theorem Bw {α:Type} {p:α→Bool} {key:α→List UInt8} {l:List α} (h:Zk p key l 0 l.length=true) {j:Nat} (hj:j<l.length):gOk p key l j=true:=by
 unfold Zk at h
 exact List.all_eq_true.1 h j (List.mem_range'_1.2 ⟨by omega,by omega⟩)
theorem zms {α:Type} {p:α→Bool} {key:α→List UInt8} {l:List α} (h:Zk p key l 0 l.length=true) {x:α} (hx:x∈l):p x=true:=by
 obtain⟨j,hj,rfl⟩:=List.mem_iff_getElem.1 hx
 have:=Bw h hj
 unfold gOk at this
 rw[zj hj]at this
 simp only[Bool.and_eq_true]at this
 exact this.1
theorem Di {α:Type} {p:α→Bool} {key:α→List UInt8} {l:List α} (h:Zk p key l 0 l.length=true):Asc (l.map key):=by
 intro i j
 induction j with
 |zero=>intro _ h;omega
 |succ j ih=>
  intro hj hij
  rw[List.length_map]at hj
  have hk:=Bw h hj
  rw[U8 hj (by omega),Bool.and_eq_true]at hk
  have h1:=hk.2
  rw[List.getElem_map,List.getElem_map]
  rcases Nat.lt_or_ge i j with hlt|hge
  ·have:=ih (by rw[List.length_map];omega) hlt
   rw[List.getElem_map,List.getElem_map]at this
   exact vX this h1
  ·obtain rfl:i=j:=by omega
   exact h1
def vY (l:List (List UInt8)):Bool:=decide (l.length<=8)&&Zk y5 id l 0 l.length
def vk (v:GValue):Bool:=decide (v.Kind=5)&&jd v&&knV v
def esz (e:GEntry):Nat:=e.Addr.length+vsz e.Val+bsz e.Deps
def yG:List GEntry→Nat
 |[]=>0
 |v::l=>1+esz v+yG l
theorem Wg {l:List GEntry} {v:GEntry} (h:v∈l):1+esz v<=yG l:=by
 induction l with
 |nil=>cases h
 |cons x l ih=>
  simp only[yG]
  rcases List.mem_cons.1 h with rfl|h
  ·omega
  ·have:=ih h;omega
theorem kj (l:List GEntry):l.length<=yG l:=by
 induction l with
 |nil=>simp
 |cons x l ih=>simp only[yG,List.length_cons];omega
def Ji (ser:Int) (e:GEntry):Bool:=y5 e.Addr&&vk e.Val&&vY e.Deps&&decide (1<=e.Turned∧e.Turned<=ser)
def jA (e:GEvent):Nat:=e.Addr.length+vsz e.Val+bsz e.Deps
def y3:List GEvent→Nat
 |[]=>0
 |v::l=>1+jA v+y3 l
theorem U9 {l:List GEvent} {v:GEvent} (h:v∈l):1+jA v<=y3 l:=by
 induction l with
 |nil=>cases h
 |cons x l ih=>
  simp only[y3]
  rcases List.mem_cons.1 h with rfl|h
  ·omega
  ·have:=ih h;omega
theorem YT (l:List GEvent):l.length<=y3 l:=by
 induction l with
 |nil=>simp
 |cons x l ih=>simp only[y3,List.length_cons];omega
def cEv (e:GEvent):Nat:=e.Addr.length+cV e.Val+cB e.Deps+2
def Ko:List GEvent→Nat
 |[]=>0
 |e::l=>cEv e+Ko l
def mEv (k:Int) (e:GEvent):GEvent:= .mk k (mB (k+1) e.Addr) (k+1+e.Addr.length) (mV (k+1+e.Addr.length+1) e.Val) (mBB (k+1+e.Addr.length+1+cV e.Val) e.Deps)
def NL:Int→List GEvent→List GEvent
 |_,[]=>[]
 |k,e::l=>mEv k e::NL (k+cEv e) l
theorem zcd (e:GEvent):cEv e<=4+2*jA e:=by
 have h1:=WU e.Val
 have h2:=ZF e.Deps
 unfold cEv jA
 omega
theorem Bx:∀l:List GEvent,Ko l<=4*y3 l
 |[]=>by simp[Ko]
 |e::l=>by have:=zcd e;have:=Bx l;simp only[Ko,y3];omega
def Wh (s:GStep):Nat:=s.Key.length
def yu:List GStep→Nat
 |[]=>0
 |v::l=>1+Wh v+yu l
theorem UA {l:List GStep} {v:GStep} (h:v∈l):1+Wh v<=yu l:=by
 induction l with
 |nil=>cases h
 |cons x l ih=>
  simp only[yu]
  rcases List.mem_cons.1 h with rfl|h
  ·omega
  ·have:=ih h;omega
theorem k8 (l:List GStep):l.length<=yu l:=by
 induction l with
 |nil=>simp
 |cons x l ih=>simp only[yu,List.length_cons];omega
def zmt:List UInt8→List UInt8
 |[]=>[]
 |x::l=>(if x=34∨x=92 then[92,x]else[x])++zmt l
def zno (s:List UInt8):List UInt8:=34::(zmt s++[34])
mutual
def znp:GValue→List UInt8
 | .mk kd n s k l=>if kd=0 then[110,117,108,108]else if kd=1 then(if n=1 then[116,114,117,101]else[102,97,108,115,101])else if kd=2 then Lib.itoa n else if kd=3 then zno s else if kd=6 then[63]
  else if kd=5 then 123::(A9 true true k l++[125])else 91::(A9 false true k l++[93])
def A9:Bool→Bool→List (List UInt8)→List GValue→List UInt8
 |_,_,_,[]=>[]
 |m,f,k,v::l=>(if f=true then[]else[44,32])++((if m=true then(k.headD [])++[32,61,32]else[])++(znp v++A9 m false k.tail l))
end
def X7 (x:GChange):Nat:=yu x.Path+vsz x.Old+vsz x.New
def zY:List GChange→Nat
 |[]=>0
 |v::l=>1+X7 v+zY l
theorem Gx {l:List GChange} {v:GChange} (h:v∈l):1+X7 v<=zY l:=by
 induction l with
 |nil=>cases h
 |cons x l ih=>
  simp only[zY]
  rcases List.mem_cons.1 h with rfl|h
  ·omega
  ·have:=ih h;omega
theorem k9 (l:List GChange):l.length<=zY l:=by
 induction l with
 |nil=>simp
 |cons x l ih=>simp only[zY,List.length_cons];omega
theorem ZP (a b:List GChange):zY (a++b)=zY a+zY b:=by
 induction a with
 |nil=>simp[zY]
 |cons x l ih=>simp only[List.cons_append,zY,ih];omega
def mSt (k:Int) (s:GStep):GStep:= .mk k (mB (k+1) s.Key) (k+1+s.Key.length)
def zy:List GStep→Nat
 |[]=>0
 |s::l=>(s.Key.length+2)+zy l
def je:Int→List GStep→List GStep
 |_,[]=>[]
 |k,s::l=>mSt k s::je (k+((s.Key.length+2:Nat):Int)) l
theorem UZ:∀l:List GStep,zy l<=2*yu l
 |[]=>Nat.le_refl _
 |s::l=>by have:=UZ l;simp only[zy,yu,Wh];omega
theorem Dj:∀(k:Int) (l:List GStep),zy (je k l)=zy l
 |_,[]=>rfl
 |k,s::l=>by simp only[je,zy,mSt,GStep.Key,QO,Dj _ l]
theorem By:∀(k:Int) (l:List GStep),yu (je k l)=yu l
 |_,[]=>rfl
 |k,s::l=>by simp only[je,yu,Wh,mSt,GStep.Key,QO,By _ l]
theorem Gy:∀(k:Int) (l:List GStep),je k (je k l)=je k l
 |_,[]=>rfl
 |k,s::l=>by simp only[je,mSt,GStep.Key,QO,NJ,Gy _ l]
def cCh (x:GChange):Nat:=zy x.Path+cV x.Old+cV x.New+2
def vf:List GChange→Nat
 |[]=>0
 |x::l=>cCh x+vf l
def mCh (k:Int) (x:GChange):GChange:= .mk (je k x.Path) (decide ((k+zy x.Path).tmod 3=0)) (mV (k+zy x.Path+1) x.Old) (decide ((k+zy x.Path+1+cV x.Old).tmod 3=0)) (mV (k+zy x.Path+1+cV x.Old+1) x.New)
def ZG:Int→List GChange→List GChange
 |_,[]=>[]
 |k,x::l=>mCh k x::ZG (k+cCh x) l
theorem Dk (x:GChange):cCh x<=6+2*X7 x:=by
 have h1:=UZ x.Path
 have h2:=WU x.Old
 have h3:=WU x.New
 unfold cCh X7
 omega
theorem Bz:∀l:List GChange,vf l<=6*zY l
 |[]=>Nat.le_refl _
 |e::l=>by have:=Dk e;have:=Bz l;simp only[vf,zY];omega
theorem zhi (k:Int) (x:GChange):cCh (mCh k x)=cCh x:=by unfold cCh mCh;simp only[GChange.Path,GChange.Old,GChange.New,Dj,A7]
theorem zce:∀(k:Int) (l:List GChange),vf (ZG k l)=vf l
 |_,[]=>rfl
 |k,x::l=>by simp only[ZG,vf,zhi,zce _ l]
theorem zmu (k:Int) (x:GChange):X7 (mCh k x)=X7 x:=by unfold X7 mCh;simp only[GChange.Path,GChange.Old,GChange.New,By,zhh]
theorem B0:∀(k:Int) (l:List GChange),zY (ZG k l)=zY l
 |_,[]=>rfl
 |k,x::l=>by simp only[ZG,zY,zmu,B0 _ l]
theorem ze7 (k:Int) (x:GChange):mCh k (mCh k x)=mCh k x:=by
 show GChange.mk (je k (je k x.Path)) (decide ((k+zy (je k x.Path)).tmod 3=0)) (mV (k+zy (je k x.Path)+1) (mV (k+zy x.Path+1) x.Old)) (decide ((k+zy (je k x.Path)+1+cV (mV (k+zy x.Path+1) x.Old)).tmod 3=0)) (mV (k+zy (je k x.Path)+1+cV (mV (k+zy x.Path+1) x.Old)+1) (mV (k+zy x.Path+1+cV x.Old+1) x.New))=_
 rw[Dj,Gy,A7,NK,NK];rfl
theorem Gz:∀(k:Int) (l:List GChange),ZG k (ZG k l)=ZG k l
 |_,[]=>rfl
 |k,x::l=>by simp only[ZG,ze7,zhi,Gz _ l]
theorem vC {m:Nat} (hm:m<=2 ^ 39):zC 216 m:=by
 unfold zC
 constructor <;> simp[Am.maxBytes] <;> omega
def ssz (s:GState):Nat:=s.Pending.length+yG s.Entries
def xm (l:List GEntry) (a:List UInt8):Bool:=l.any fun e=>decide (e.Addr=a)
def Hq (s:GState):Bool:=if s.Pending=[]then decide (s.Act=0)else s.Open&&y5 s.Pending&&decide (1<=s.Act∧s.Act<=4)&&(xm s.Entries s.Pending==decide (s.Act≠1))
def M0 (s:GState):Bool:=Zk (Ji s.Serial) GEntry.Addr s.Entries 0 s.Entries.length
def stB (s:GState):Bool:=decide (0<=s.Serial∧s.Serial<=1000000∧s.Entries.length<=16)&&M0 s&&Hq s
def cE (e:GEntry):Nat:=e.Addr.length+cV e.Val+cB e.Deps+2
def cEs:List GEntry→Nat
 |[]=>0
 |e::l=>cE e+cEs l
def mE (k:Int) (e:GEntry):GEntry:= .mk (mB k e.Addr) (mV (k+e.Addr.length) e.Val) (mBB (k+e.Addr.length+cV e.Val) e.Deps) (decide ((k+e.Addr.length+cV e.Val+cB e.Deps).tmod 3=0)) (k+e.Addr.length+cV e.Val+cB e.Deps+1)
def mEs:Int→List GEntry→List GEntry
 |_,[]=>[]
 |k,e::l=>mE k e::mEs (k+cE e) l
theorem zhj (e:GEntry):cE e<=4+2*esz e:=by
 have h1:=WU e.Val
 have h2:=ZF e.Deps
 unfold cE esz
 omega
theorem zcf:∀l:List GEntry,cEs l<=4*yG l
 |[]=>by simp[cEs]
 |e::l=>by have:=zhj e;have:=zcf l;simp only[cEs,yG];omega
theorem zf {f:FuncId} {fn:Func} (h:Tryz.prog.funcs[f]? =some fn) (hu:AA.contains f=true:=by kernel_rfl) (hb:fn.body.isSome=true:=by kernel_rfl):cfg.funcs f=some (Am.bodyOf fn,fn.ntmps,fn.results.toList):=by
 rw[G2]
 unfold AB Hj
 rw[hu,h]
 obtain⟨c,hc⟩:=Option.isSome_iff_exists.1 hb
 simp only[oB,Am.bodyOf,hc,Option.map_some,cond_true]
abbrev Oc {α:Type} (o:Option α) (f:FuncId) (st:List Entry) (xs:List V) (enc:α→V×List Entry):Prop:=OkC cfg o f st xs enc
abbrev Ol {α:Type} (o:Option α) (f:FuncId) (b:Code) (s:S) (enc:α→Ex×S):Prop:=OkL cfg o f b s enc
def xd (a b:List UInt8):Option Int:=some (Lib.compareBytes a b)
def jB (a:List UInt8) (b:UInt8):Option Int:=some (Lib.indexByte a b)
def qF (a0:Int) (e0:List GEntry):List GEntry→Option (List GEntry)
 |[x]=>if 0<=a0∧a0<=(e0.length:Int)∧e0.length<=1048576 then some (xw e0 a0.toNat x)else none
 |_=>none
def qG (a0 a1:Int) (e0:List GEntry):Option (List GEntry):=if 0<=a0∧a0<(e0.length:Int)∧a1=a0+1∧e0.length<=1048576 then some (jj e0 a0.toNat)else none
theorem zmv {α:Type} (e:α→List C) (l:List α) (i:Nat) (x:α):xw (eL e l) i (e x)=eL e (xw l i x):=by simp[xw,eL]
theorem zmw {α:Type} (e:α→List C) (l:List α) (i:Nat):jj (eL e l) i=eL e (jj l i):=by simp[jj,eL]
def jF (e0:List (List UInt8)):Option (List (List UInt8)):=if e0.length<=1048576 then some (vZ e0)else none
def qH (e0:List (List UInt8)):Option (List (List UInt8)):=if e0.length<=1048576 then some (K9 e0)else none
def kL (a:List UInt8):Option (Int×Bool):=if a.length<=2 ^ 40 then some (xe a)else none
theorem OM:∀l:List (List UInt8),Yp (eL (yn 1 za) l)=some l
 |[]=>rfl
 |a::l=>by
  have h:eL (yn 1 za) (a::l)=[C.own 1 (eL za a)]::eL (yn 1 za) l:=rfl
  rw[h,Yp,JR,OM l];rfl
theorem Kr (e0:List (List UInt8)):Oc (jF e0) 93 [.obj 1 (eL (yn 1 za) e0)] [vr 0,.val false [.fn 94 []]] fun r=>(.tup [],[.obj 1 (eL (yn 1 za) r)]):=by
 intro r h
 simp only[jF]at h
 split at h
 ·rename_i hc
  obtain rfl:=Option.some.inj h
  refine JJ ?_
  show(if 94=94∧(eL (yn 1 za) e0).length<=1048576 then(Yp (eL (yn 1 za) e0)).map fun ts=>((V.tup [],[.obj 1 ((vZ ts).map fun s=>[C.own 1 (yx s)])]):V×List Entry)else none)=_
  rw[if_pos ⟨rfl,by simpa [eL] using hc⟩,OM e0]
  rfl
 ·cases h
theorem Jj (e0:List (List UInt8)):Oc (qH e0) 95 [.obj 1 (eL (yn 1 za) e0)] [vr 0,.val false [.fn 64 []]] fun r=>(.val false [.own 1 (eL (yn 1 za) r)],[.dead]):=by
 intro r h
 simp only[qH]at h
 split at h
 ·rename_i hc
  obtain rfl:=Option.some.inj h
  refine JJ ?_
  show(if 64=64∧(eL (yn 1 za) e0).length<=1048576 then(Yp (eL (yn 1 za) e0)).map fun ts=>((V.val false [.own 1 ((K9 ts).map fun s=>[C.own 1 (yx s)])],[.dead]):V×List Entry)else none)=_
  rw[if_pos ⟨rfl,by simpa [eL] using hc⟩,OM e0]
  rfl
 ·cases h
theorem XE (a0:Int) (e0 e1:List GEntry):Oc (qF a0 e0 e1) 139 [.obj 9 (eL zQ e0),.obj 9 (eL zQ e1)] [vr 0,vi a0,vr 1] fun r=>(.val false [.own 9 (eL zQ r)],[.dead,.dead]):=by
 intro r h
 match e1,h with
 |[x],h=>
  simp only[qF]at h
  split at h
  ·rename_i hc
   obtain rfl:=Option.some.inj h
   refine JJ ?_
   show(if 0<=a0∧a0<=((eL zQ e0).length:Int)∧(eL zQ e0).length<=1048576 then some ((V.val false [.own 9 (xw (eL zQ e0) a0.toNat (zQ x))],[.dead,.dead]):V×List Entry)else none)=_
   rw[if_pos (by simpa [eL] using hc),zmv]
  ·cases h
theorem Vc (a0 a1:Int) (e0:List GEntry):Oc (qG a0 a1 e0) 140 [.obj 9 (eL zQ e0)] [vr 0,vi a0,vi a1] fun r=>(.val false [.own 9 (eL zQ r)],[.dead]):=by
 intro r h
 simp only[qG]at h
 split at h
 ·rename_i hc
  obtain rfl:=Option.some.inj h
  refine JJ ?_
  show(if 0<=a0∧a0<((eL zQ e0).length:Int)∧a1=a0+1∧(eL zQ e0).length<=1048576 then some ((V.val false [.own 9 (jj (eL zQ e0) a0.toNat)],[.dead]):V×List Entry)else none)=_
  rw[if_pos (by simpa [eL] using hc),zmw]
 ·cases h
theorem QQ (a b:List UInt8):Oc (xd a b) 148 [] [vq za a,vq za b] fun r=>(vi r,[]):=by
 intro r h
 obtain rfl:=Option.some.inj h
 refine JJ ?_
 show((bytesOf (eL za a)).bind fun x=>(bytesOf (eL za b)).map fun y=>((V.val false [C.int .i64 (Lib.compareBytes x y)],[]):V×List Entry))=_
 rw[JR,JR];rfl
theorem M1 (a:List UInt8):Oc (kL a) 195 [] [vs a] fun r=>(.tup [(false,[ci r.1]),(false,[Zc r.2])],[]):=by
 intro r h
 unfold kL at h
 by_cases ha:a.length<=2 ^ 40
 ·rw[if_pos ha]at h
  obtain rfl:=Option.some.inj h
  refine JJ ?_
  show(if a.length<=2 ^ 40 then some ((V.tup [(false,[.int .i64 (xe a).1]),(false,[Zc (xe a).2])],[]):V×List Entry)else none)=_
  rw[if_pos ha]
  rfl
 ·rw[if_neg ha]at h;cases h
theorem WZ (a:List UInt8) (b:UInt8):Oc (jB a b) 305 [] [vq za a,.val false [.int .u8 ((b.toNat:Nat):Int)]] fun r=>(vi r,[]):=by
 intro r h
 obtain rfl:=Option.some.inj h
 refine JJ ?_
 show((bytesOf (eL za a)).map fun x=>((V.val false [C.int .i64 (Lib.indexByte x ((b.toNat:Nat):Int).toNat.toUInt8)],[]):V×List Entry))=_
 rw[JR,Int.toNat_natCast,show b.toNat.toUInt8=b from UInt8.ofNat_toNat];rfl
end
end Go.Am.Try
