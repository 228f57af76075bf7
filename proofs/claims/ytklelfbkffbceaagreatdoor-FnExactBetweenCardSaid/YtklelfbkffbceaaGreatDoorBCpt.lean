
/- Runs of equal texts made one: the machine's word for it, and what the library's Ww say of Yc. -/
import Derived.Test.YtklelfbkffbceaaGreatDoorBSrt
set_option linter.unusedVariables false
set_option linter.unusedSimpArgs false
namespace Go.Am
open Go.Lib
def Q8:List UInt8→List (List UInt8)→List (List UInt8)
 |_,[]=>[]
 |p,y::r=>if y=p then Q8 p r else y::Q8 y r
def K9:List (List UInt8)→List (List UInt8)
 |[]=>[]
 |x::r=>x::Q8 x r
def Lu (g:FuncId) (st:List Entry):List V→Option (V×List Entry)
 |[.val false [.ref 0],.val false [.fn f []]]=>match st with
  |[.obj 1 l]=>if f=g∧l.length<=1048576 then(Yp l).map fun ts=>(.val false [.own 1 ((K9 ts).map fun s=>[.own 1 (yx s)])],[.dead])else none
  |_=>none
 |_=>none
def kpI (tx:Nat→List UInt8) (j:Nat):Bool:=decide (j=0∨tx j≠tx (j - 1))
def jk (tx:Nat→List UInt8) (m:Nat):List Nat:=(List.range m).filter (kpI tx)
theorem Ek (tx:Nat→List UInt8):∀j,j<1→kpI tx j=true:=by
 intro j hj
 have:j=0:=by omega
 subst this
 simp[kpI]
theorem El {tx:Nat→List UInt8} {m:Nat} (h:tx m≠tx (m - 1)):kpI tx m=true:=by simp[kpI,h]
theorem Em {tx:Nat→List UInt8} {m:Nat} (hm:0<m) (h:tx m=tx (m - 1)):kpI tx m=false:=by
 have:m≠0:=by omega
 simp[kpI,h,this]
theorem Wm (tx:Nat→List UInt8) (m:Nat):jk tx (m+1)=jk tx m++(if kpI tx m then[m]else[]):=by
 unfold jk
 rw[List.range_succ,List.filter_append]
 congr 1
 by_cases h:kpI tx m <;> simp[h]
theorem VW (tx:Nat→List UInt8) (m:Nat) (h:∀j,j<m→kpI tx j=true):jk tx m=List.range m:=by
 unfold jk
 rw[List.filter_eq_self.2 (fun j hj=>h j (List.mem_range.1 hj))]
theorem zil {tx:Nat→List UInt8} {m x:Nat} (h:x∈jk tx m):x<m:=List.mem_range.1 (List.mem_filter.1 h).1
theorem Ah (tx:Nat→List UInt8) (m:Nat):(jk tx m).Nodup:=List.nodup_range.sublist List.filter_sublist
theorem zd4 (tx:Nat→List UInt8) (m:Nat):(jk tx m).length<=m:=by
 have:=List.length_filter_le (kpI tx) (List.range m)
 unfold jk
 rwa [List.length_range]at this
theorem zhe {ts:List (List UInt8)}:∀(l p:List (List UInt8)) (a:List UInt8),ts=p++a::l→((List.range' (p.length+1) l.length).filter (kpI fun i=>ts.getD i [])).map (fun i=>ts.getD i [])=Q8 a l
 |[],p,a,_=>rfl
 |y::l,p,a,h=>by
  have h1:ts.getD (p.length+1) []=y:=by rw[h,List.getD_eq_getElem?_getD,List.getElem?_append_right (by omega)];simp
  have h0:ts.getD p.length []=a:=by rw[h,List.getD_eq_getElem?_getD,List.getElem?_append_right (by omega)];simp
  have ih:=zhe (ts:=ts) l (p++[a]) y (by rw[h];simp)
  rw[List.length_append,show[a].length=1 from rfl]at ih
  rw[List.length_cons,List.range'_succ,List.filter_cons,Q8]
  by_cases hy:y=a
  ·rw[if_neg (by rw[Em (by omega) (by rw[h1,Nat.add_sub_cancel,h0,hy])];decide),if_pos hy,ih,hy]
  ·rw[if_pos (El (by rw[h1,Nat.add_sub_cancel,h0];exact hy)),if_neg hy,List.map_cons,ih,h1]
theorem za6 (ts:List (List UInt8)):(jk (fun i=>ts.getD i []) ts.length).map (fun i=>ts.getD i [])=K9 ts:=by
 cases ts with
 |nil=>rfl
 |cons a l=>
  have h:=zhe (ts:=a::l) l [] a rfl
  simp only[List.length_nil,Nat.zero_add]at h
  unfold jk
  rw[List.length_cons,List.range_eq_range',List.range'_succ,List.filter_cons,if_pos (Ek _ 0 (by omega)),List.map_cons,K9,Nat.zero_add,h]
  rfl
end Go.Am
