
/- The functions of the program in plain Lean, and that the machine answers as they do; conditions at each theorem. -/
import Derived.Test.YtklelfbkffbceaaGreatDoorBCptX
import Derived.Lib.Overlaps
import Derived.Deep.LoopGhost
import Derived.Deep.RegionLaw
import Derived.Shelf.SlSortCmp.QuietGrown
import Derived.Lib.SlicesCompact
import Derived.Lib.SliceRun
import Derived.Shelf.RegionOpenPlain
import Derived.WalkKit
import Derived.Deep.Draws
import Derived.Lib.Walk
import Derived.Sort.WalkB12
import Derived.Lib.Bytealg
import Derived.Test.YtklelfbkffbceaaGreatDoorProg
set_option linter.unusedVariables false
set_option linter.unusedSimpArgs false
set_option linter.unusedVariables false
set_option linter.unusedSimpArgs false
namespace Go.Am
open Go.Proofs Go.Shelf Go.RowKit Go.Lib Go.Sort
theorem zim {P:Program} {W:World} {cls:Cls} {hdr:Hdr} {u:Value} {s:List UInt8} (h:RepC W cls hdr none u (.seq (yx s))):∃A n c,u= .slice A n c∧(Conv.bytesToString (.slice A n c)).run P W= .ok (.string ⟨s.toArray⟩) W:=by
 obtain⟨A,cap,sz,rfl,hc,hu,hcells⟩:=XO (vb:=fun _=>0) (st:=[]) (show zk W cls hdr (fun _=>0) [] u (.seq (yx s))from h)
 refine⟨A,_,cap,rfl,K5 s rfl (by simp[yx]) fun i b hi=> ?_⟩
 have he:(yx s)[i]? =some [C.int .u8 (b.toNat:Int)]:=by unfold yx;rw[List.getElem?_map,hi];rfl
 have hsz:sz=1:=(hu _ (List.mem_of_getElem? he)).symm
 obtain⟨q,hq,_,_,v,hv,hr⟩:=hcells i 0 _ _ he rfl
 refine⟨q,hq,?_⟩
 rw[hsz,Nat.mul_one,Nat.add_zero]at hv
 rw[hv]
 congr 1
 exact(show zk W cls hdr (fun _=>0) [] v (.int .u8 ((b.toNat:Nat):Int))from hr).int
theorem zd5 {P:Program} {w W:World} {cls:Cls} {hdr:Hdr} {t:List Nat} {u:Value} {s:List UInt8} {b:Nat} (h:RepC w cls hdr (some t) u (.own 1 (yx s))) (hb:∀x,cls b=some (t++x)→False) (hb0:cls b≠none)
 (ho:∀k,k<w.heap.size→k≠b→W.heap[k]? =w.heap[k]?):∃A n c,u= .slice A n c∧(Conv.bytesToString (.slice A n c)).run P W= .ok (.string ⟨s.toArray⟩) W:=by
 have h2:RepC W (fun _=>none) hdr none u (jQ (.own 1 (yx s))):=h.view (fun k hk hn=>⟨ho k hk fun e=>hb0 (by rw[<-e];exact hn),rfl⟩) fun t' ht k s' hk hc=>by
  injection ht with ht
  subst ht
  exact⟨ho k hk fun e=>hb s' (by rw[<-e];exact hc),rfl⟩
 rw[Mu]at h2
 exact zim h2
set_option maxHeartbeats 1000000 in
set_option maxRecDepth 100000 in
theorem za7 (v1 v2:Value) (x y:ByteArray) (w:World) (c1:(convert 22 9 v1).run Tryz.prog w= .ok (.string x) w) (c2:(convert 22 9 v2).run Tryz.prog w= .ok (.string y) w):
 Calls Tryz.prog 64 #[v1,v2] w fun e w'=>e= .returned (.bool (x.toList==y.toList))∧w'=w:=by
 go_enter Tryz.func64,(rfl:_=_)
 go_wp2
 go_ret
 generalize (x.toList==y.toList)=b
 refine⟨?_,rfl⟩
 simp
theorem zd6 {u1 u2:Value} {x y:List UInt8} {w:World} (h1:∃A n c,u1= .slice A n c∧(Conv.bytesToString (.slice A n c)).run Tryz.prog w= .ok (.string ⟨x.toArray⟩) w) (h2:∃A n c,u2= .slice A n c∧(Conv.bytesToString (.slice A n c)).run Tryz.prog w= .ok (.string ⟨y.toArray⟩) w):
 Calls Tryz.prog 64 #[u1,u2] w fun e w'=>e= .returned (.bool (decide (x=y)))∧w'=w:=by
 have t22:Tryz.prog.underlying 22=some (.slice 5):=by kernel_rfl
 have t5:Tryz.prog.underlying 5=some (.int .u8):=by kernel_rfl
 have t9:Tryz.prog.underlying 9=some .string:=by kernel_rfl
 obtain⟨A1,n1,k1,rfl,h1⟩:=h1
 obtain⟨A2,n2,k2,rfl,h2⟩:=h2
 have e:∀x y:List UInt8,((⟨x.toArray⟩:ByteArray).toList==(⟨y.toArray⟩:ByteArray).toList)=decide (x=y):=fun x y=>by
  rw[Lib.toList_data,Lib.toList_data]
  by_cases h:x=y <;> simp[h]
 rw[<-e]
 exact za7 _ _ _ _ w (by rw[run_convert_bytes_string w 22 9 5 A1 n1 k1 t22 t5 t9];exact h1) (by rw[run_convert_bytes_string w 22 9 5 A2 n2 k2 t22 t5 t9];exact h2)
end Go.Am
