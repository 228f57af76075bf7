
/- The functions of the program in plain Lean, and that the machine answers as they do; conditions at each theorem. -/
import Derived.Test.YtklelfbkffbceaaGreatDoorBCptB
set_option linter.unusedVariables false
set_option linter.unusedSimpArgs false
set_option linter.unusedVariables false
set_option linter.unusedSimpArgs false
namespace Go.Am
open Go.Proofs Go.Shelf Go.RowKit Go.Lib Go.Sort
structure CInv (tx:Nat→List UInt8) (n m k:Nat) (dk:Array Nat):Prop where
 size:dk.size=n
 len:(jk tx m).length=k
 lt:k<m
 low:∀j,j<k→(jk tx m)[j]? =some dk[j]!
 high:∀j,k<=j→j<n→dk[j]! =j
theorem CInv.start {tx:Nat→List UInt8} {n k0:Nat} (hn:k0<n) (hall:∀j,j<k0→kpI tx j=true) (hdup:kpI tx k0=false):CInv tx n (k0+1) k0 (Array.range n) where
 size:=by simp
 len:=by rw[Wm,hdup,VW tx k0 hall];simp
 lt:=Nat.lt_succ_self _
 low:=fun j hj=>by
  rw[Wm,hdup,VW tx k0 hall,getElem!_pos _ j (by simp;omega)]
  simp[hj]
 high:=fun j _ hj=>by rw[getElem!_pos _ j (by simpa using hj)];simp
theorem CInv.keep {tx:Nat→List UInt8} {n m k:Nat} {dk:Array Nat} (h:CInv tx n m k dk) (hm:m<n) (hk:kpI tx m=true):CInv tx n (m+1) (k+1) (dk.setIfInBounds k m) where
 size:=by simp[h.size]
 len:=by rw[Wm,hk];simp[h.len]
 lt:=by have:=h.lt;omega
 low:=fun j hj=>by
  rw[Wm,hk,if_pos rfl]
  by_cases e:j=k
  ·subst e
   rw[List.getElem?_append_right (by rw[h.len];exact Nat.le_refl _),h.len,Nat.sub_self,getElem!_set_same dk j _ (by have:=h.lt;have:=h.size;omega)]
   rfl
  ·rw[List.getElem?_append_left (by rw[h.len];omega),h.low j (by omega),getElem!_set_other dk k j _ e]
 high:=fun j hj hn=>by rw[getElem!_set_other dk k j _ (by omega),h.high j (by omega) hn]
theorem CInv.skip {tx:Nat→List UInt8} {n m k:Nat} {dk:Array Nat} (h:CInv tx n m k dk) (hk:kpI tx m=false):CInv tx n (m+1) k dk where
 size:=h.size
 len:=by rw[Wm,hk];simpa using h.len
 lt:=by have:=h.lt;omega
 low:=fun j hj=>by rw[Wm,hk];simpa using h.low j hj
 high:=h.high
theorem CInv.done {tx:Nat→List UInt8} {n k:Nat} {dk:Array Nat} (h:CInv tx n n k dk) (z:Nat):
 lay dk k (List.replicate (n - k) z)=(jk tx n++List.replicate (n - k) z).toArray:=by
 have hk:=h.lt
 have hs:=h.size
 apply Array.ext_getElem?
 intro j
 rw[lay_get? _ _ _ _ (by simp;omega),show(jk tx n++List.replicate (n - k) z).toArray[j]? =(jk tx n++List.replicate (n - k) z)[j]? from List.getElem?_toArray]
 simp only[List.length_replicate]
 by_cases c:j<k
 ·rw[if_neg (by omega),List.getElem?_append_left (by rw[h.len];exact c),h.low j c,getElem!_pos dk j (by omega),Array.getElem?_eq_getElem]
 ·rw[List.getElem?_append_right (by rw[h.len];omega),h.len]
  by_cases c2:j<n
  ·rw[if_pos (by omega)]
  ·rw[if_neg (by omega),Array.getElem?_eq_none (by omega),List.getElem?_eq_none (by simp;omega)]
def En (P:Program) (g:FuncId) (enc:Nat→Value) (tx:Nat→List UInt8) (w:World) (b off n:Nat):Prop:=
 ∀(m:Nat) (os:Array Obj) (dk:Array Nat),dk.size=n→∀x y:Nat,x<n→y<n→
  Calls P g #[enc x,enc y] (sortWorld enc w b off m dk os) fun e w'=>e= .returned (.bool (decide (tx x=tx y)))∧w'=sortWorld enc w b off m dk os
theorem SW.eqc {P:Program} {g:FuncId} {enc:Nat→Value} {tx:Nat→List UInt8} {w0 W:World} {blk off n:Nat} {dk:Array Nat} (h:SW enc w0 blk off dk W) (hC:En P g enc tx w0 blk off n) (hs:dk.size=n) (x y:Nat) (hx:x<n) (hy:y<n) (q:Nat) (os:Array Obj):
 Calls P g #[enc x,enc y] (Go.Sort.grow (W.drewN q) os) fun e w'=>e= .returned (.bool (decide (tx x=tx y)))∧∃q' os',w'=Go.Sort.grow ((Go.Sort.grow (W.drewN q) os).drewN q') os':=by
 obtain⟨m,os0,hw⟩:=h.grown q os
 rw[hw]
 refine(hC m os0 dk hs x y hx hy).mono fun e w' he=>⟨he.1,0,#[],?_⟩
 rw[he.2,Go.Sort.grow_empty]
 rfl
theorem SW.setOne {enc:Nat→Value} {w0 W:World} {blk off:Nat} {dk:Array Nat} (h:SW enc w0 blk off dk W) (hblk:blk<w0.heap.size) (i x:Nat) (hi:i<dk.size):SW enc w0 blk off (dk.setIfInBounds i x) (W.setCell ⟨blk,off+i,none⟩ (enc x)):=by
 obtain⟨n,os,rfl⟩:=h
 refine⟨n,os,?_⟩
 unfold sortWorld
 rw[<-Go.Sort.putRow_grow enc (Sort.ahead w0 n) os blk off dk hblk,putRow_set enc _ blk off dk i x hi,Go.Sort.putRow_grow enc (Sort.ahead w0 n) os blk off _ hblk]
theorem SW.setMany {enc:Nat→Value} {w0 W:World} {blk off:Nat} {dk:Array Nat} (h:SW enc w0 blk off dk W) (hblk:blk<w0.heap.size) (xs:List Nat) (k:Nat) (hk:k+xs.length<=dk.size):SW enc w0 blk off (lay dk k xs) (W.setCells blk (off+k) (xs.map enc)):=by
 obtain⟨n,os,rfl⟩:=h
 refine⟨n,os,?_⟩
 unfold sortWorld
 rw[<-Go.Sort.putRow_grow enc (Sort.ahead w0 n) os blk off dk hblk,putRow_setCells enc _ blk off xs dk k hk,Go.Sort.putRow_grow enc (Sort.ahead w0 n) os blk off _ hblk]
set_option maxRecDepth 1000000 in
theorem Lv (p:Option Addr) (n cap:Nat) (fv:Value) (w:World) (hn:n<2):Calls Tryz.prog 95 #[.slice p n cap,fv] w fun e w'=>e= .returned (.slice p n cap)∧w'=w:=by
 go_enter Tryz.func95,show Tryz.f95.ntmps=66 from rfl
 go_wp2
 go_ret
 exact⟨rfl,rfl⟩
end Go.Am
