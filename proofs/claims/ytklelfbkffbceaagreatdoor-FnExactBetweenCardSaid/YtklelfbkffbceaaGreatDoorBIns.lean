
/- The functions of the program in plain Lean, and that the machine answers as they do; conditions at each theorem. -/
import Derived.Test.YtklelfbkffbceaaGreatDoorProg
import Derived.Test.YtklelfbkffbceaaGreatDoorBAmB
import Derived.Shelf.RegionOpenPlain
import Derived.WalkKit
import Derived.Lib.Walk
import Derived.Lib.SliceRun
import Derived.Lib.Overlaps
import Derived.Lib.AppendZerosOnto
import Derived.Laws.Externs
import Derived.Laws.IdiomCopy
import Derived.Laws.NewBlocks
import Derived.KernelRfl
set_option linter.unusedVariables false
set_option linter.unusedSimpArgs false
set_option linter.unusedVariables false
set_option linter.unusedSimpArgs false
namespace Go.Am
open Go.Proofs Go.Shelf Go.RowKit Go.Lib
theorem Xu {P:Program} (w:World) (dT sT ty elem:TypeId) (b o dLen dCap:Nat) (a:Addr) (sLen sCap z:Nat) (cs:List Value)
 (hu:P.underlying dT=some (.slice elem)) (hs:(P.info? elem).map (·.size)=some z) (hn:cs.length=Nat.min sLen dLen*z)
 (hsrc:∀j v,cs[j]? =some v→w.cell? (a.add j)=some v) (hc:∀j,j<cs.length→(w.cell? ⟨b,o+j,none⟩).isSome=true) (hf:∀j,j<cs.length→w.frozen? ⟨b,o+j,none⟩=false) (h1:∀v∈cs,v.oneCell'=true):
 (Builtin.copy_ #[dT,sT] ty #[.slice (some ⟨b,o,none⟩) dLen dCap,.slice (some a) sLen sCap]).run P w= .ok (goInt (Nat.min sLen dLen)) (w.setCells b o cs):=by
 have hl:=run_loadCells_list (P:=P) w a cs hsrc
 have hst:=run_storeCells_cells (P:=P) b o cs 0 w (by simpa using hc) (by simpa using hf) h1
 cases hq:P.info? elem with
 |none=>simp[hq]at hs
 |some i=>
  have hi:i.size=z:=by simpa [hq] using hs
  simp[Builtin.copy_,run_underlying hu,Builtin.lenOf,Builtin.firstCells,sizeOf,typeInfo,hq,hi,<-hn,hl,hst]
theorem Kk {P:Program} (w:World) {ops:Array Oper} {rest:List Oper} {o:Oper} {a:Act} {Q:Exit→Act→World→Prop} (hgd:o.guard=none) (d s:Operand) (t t':TypeId)
 (ho:o.op= .call { callee:= .builtin .copy,args:=#[d,s],argTypes:=#[t,t'] }) (v u:Value) (hd:a.eval d=v) (hs:a.eval s=u) {v':Value} {w':World}
 (hr:(Builtin.copy_ #[t,t'] o.type #[v,u]).run P w= .ok v' w') (h:wpList P ops Q rest (a.put o.dst v') w'):wpList P ops Q (o::rest) a w:=
 wpList_plain hgd fun _ hK=>by
  unfold Oper.wp execOp
  simp only[ho,resolve,invoke,builtin,Sem.run_bind,Sem.run_pure,Result.andThen_ok,List.map_toArray,List.map_cons,List.map_nil,hd,hs,hr]
  exact hK _ _ h
theorem Mp {P:Program} {ops:Array Oper} {o:Oper} {a:Act} {w:World} {K:Act→World→Prop} {Q:Exit→Act→World→Prop} {E:Prop}
 (hg:o.guard=none) (d x:Operand) (dT sT:TypeId) (hop:o.op=Op.call { callee:=Callee.builtin Builtin.copy,args:=#[d,x],argTypes:=#[dT,sT] })
 (v u:Value) (hd:a.eval d=v) (hx:a.eval x=u) {v':Value} {w':World} (hr:(Builtin.copy_ #[dT,sT] o.type #[v,u]).run P w= .ok v' w') (hK:K (a.put o.dst v') w'):
 if Region.wanted o (yielded ops a.tmps)=true then Oper.wp P o a w K Q else E:=by
 have hw:Region.wanted o (yielded ops a.tmps)=true:=by simp[Region.wanted,hg]
 rw[if_pos hw]
 unfold Oper.wp
 simp[execOp,hop,resolve,invoke,builtin,hd,hx,hr,Result.andThen]
 exact hK
theorem Gl (b:Nat) (vs:List Value) (o:Nat) (w:World) (h:∀j,j<vs.length→(w.cell? ⟨b,o+j,none⟩).isSome=true) (k:Nat) (hk:(w.cell? ⟨b,k,none⟩).isSome=true):((w.setCells b o vs).cell? ⟨b,k,none⟩).isSome=true:=by
 by_cases hin:o<=k∧k<o+vs.length
 ·have:=World.cell?_setCells_in b vs o w h (k - o) (by omega)
  rw[show o+(k - o)=k by omega]at this
  rw[this];rfl
 ·rw[World.cell?_setCells_out b vs o w ⟨b,k,none⟩ (fun _ _=>by show k<o∨o+vs.length<=k;omega)]
  exact hk
set_option maxHeartbeats 4000000 in
set_option maxRecDepth 100000 in
theorem zbu (b off n c i vb voff vc:Nat) (cs vs:List Value) (w:World) (hi:i<n) (hroom:n+1<=c) (hn20:n<=1048576) (hvb:vb≠b)
 (hcl:cs.length=n*9) (hvl:vs.length=9)
 (hcs:∀j v,cs[j]? =some v→w.cell? ⟨b,off+j,none⟩=some v) (hsp:∀j,j<(n+1)*9→(w.cell? ⟨b,off+j,none⟩).isSome=true) (hfz:∀j,w.frozen? ⟨b,j,none⟩=false)
 (hvs:∀j v,vs[j]? =some v→w.cell? ⟨vb,voff+j,none⟩=some v) (h1c:∀v∈cs,v.oneCell'=true) (h1v:∀v∈vs,v.oneCell'=true)
 (tA tB:TypeId) (kA kB:Nat) (hsa:w.shape? vb=some (tA,kA)) (hsb:w.shape? b=some (tB,kB)) (hkB:kB≠0) (hfa:∀j,w.frozen? ⟨vb,j,none⟩=false):
 Calls Tryz.prog 139 #[.slice (some ⟨b,off,none⟩) n c,.int .i64 i,.slice (some ⟨vb,voff,none⟩) 1 vc] w fun e w'=>
  e= .returned (.slice (some ⟨b,off,none⟩) (n+1) c)∧w'=(w.drew.setCells b (off+(i+1)*9) (cs.drop (i*9))).setCells b (off+i*9) vs:=by
 have t34:Tryz.prog.underlying 33=some (.slice 136):=by kernel_rfl
 have t3:Tryz.prog.underlying 3=some (.int .i64):=by kernel_rfl
 have t4:Tryz.prog.underlying 4=some .bool:=by kernel_rfl
 have t0:Tryz.prog.underlying 0=some (.tuple #[]):=by kernel_rfl
 have mixed:Tryz.prog.follows .mixedOrders=true:=by kernel_rfl
 have u34:=run_underlying t34;have u3:=run_underlying t3;have u4:=run_underlying t4;have u0:=run_underlying t0
 have hsz:(Tryz.prog.info? 136).map (·.size)=some 9:=by kernel_rfl
 have z136:∀w,(Go.sizeOf 136).run Tryz.prog w= .ok 9 w:=fun w=>by
  cases hq:Tryz.prog.info? 136 with
  |none=>rw[hq]at hsz;cases hsz
  |some i=>
   rw[hq]at hsz
   simp only[Option.map_some,oS]at hsz
   simp[Go.sizeOf,typeInfo,hq,hsz]
 have a34:∀w,(isAgg 33).run Tryz.prog w= .ok false w:=fun w=>by simp[isAgg,u34]
 have a3:∀w,(isAgg 3).run Tryz.prog w= .ok false w:=fun w=>by simp[isAgg,u3]
 have a4:∀w,(isAgg 4).run Tryz.prog w= .ok false w:=fun w=>by simp[isAgg,u4]
 have hov:∀lb cb,(callFunc 199 #[.slice (some ⟨vb,voff,none⟩) 1 vc,.slice (some ⟨b,off+(i+1)*9,none⟩) lb cb]).run Tryz.prog w= .ok (.value (.bool false)) w:=fun lb cb=>by
  rw[run_callFunc_extern Tryz.func199 (by kernel_rfl) (by kernel_rfl) (by kernel_rfl) (e:=Extern.SlicesOverlaps.overlaps #[33,33] #[4]) (by kernel_rfl),
   Lib.run_overlaps_apart w 33 4 136 t34 9 z136 ⟨vb,voff,none⟩ ⟨b,off+(i+1)*9,none⟩ 1 vc lb cb hvb tA tB kA kB hsa hsb hkB (hfa _) (hfa _)]
  rfl
 have hdl:(cs.drop (i*9)).length=(n - i)*9:=by rw[List.length_drop,hcl];omega
 have hz2:¬((i:Int)=(n:Int)):=by omega
 have hw1:IntKind.i64.wrap ((i:Int)+1)=(i:Int)+1:=by rw[IntKind.wrap_i64];omega
 have hw2:IntKind.i64.wrap ((n:Int)+1)=(n:Int)+1:=by rw[IntKind.wrap_i64];omega
 have hb1:(0:Int)<=(i:Int)+1:=by omega
 have hin:i<=n:=by omega
 have htn:((i:Int)+1).toNat=i+1:=by omega
 have htn2:((n:Int)+1).toNat=n+1:=by omega
 have hb2:¬(c=i+1):=by omega
 have hb3:(i:Int)<=(n:Int)+1:=by omega
 have hb4:¬(c=i):=by omega
 have hb5:¬((c:Int)<(n:Int)+1):=by omega
 have hb6:(n:Int)+1<=(c:Int):=by omega
 have hcp1:∀ty dc sc,(Builtin.copy_ #[33,33] ty #[.slice (some ⟨b,off+(i+1)*9,none⟩) (n - i) dc,.slice (some ⟨b,off+i*9,none⟩) (n+1 - i) sc]).run Tryz.prog w.drew= .ok (goInt (Nat.min (n+1 - i) (n - i))) (w.drew.setCells b (off+(i+1)*9) (cs.drop (i*9))):=fun ty dc sc=>
  Xu w.drew _ _ ty 136 b _ (n - i) dc ⟨b,off+i*9,none⟩ (n+1 - i) sc 9 (cs.drop (i*9)) t34 hsz (by rw[hdl];simp only[Nat.min_def];split <;> omega)
   (fun j v hj=>by rw[Addr.add_lit,Nat.add_assoc];exact hcs (i*9+j) v (by rwa [List.getElem?_drop]at hj))
   (fun j hj=>by rw[Nat.add_assoc];exact hsp _ (by omega)) (fun j hj=>hfz _) (fun v hv=>h1c v (List.mem_of_mem_drop hv))
 obtain⟨W1,hW1⟩:∃W1,W1=w.drew.setCells b (off+(i+1)*9) (cs.drop (i*9)):=⟨_,rfl⟩
 have hsp1:∀k,k<(n+1)*9→(W1.cell? ⟨b,off+k,none⟩).isSome=true:=fun k hk=>by
  rw[hW1]
  exact Gl b _ _ _ (fun j hj=>by rw[Nat.add_assoc];exact hsp _ (by omega)) _ (hsp k hk)
 have hcp2:∀(W:World),(∀x,W.cell? x=W1.cell? x)→(∀x,W.frozen? x=W1.frozen? x)→∀ty dc,(Builtin.copy_ #[33,33] ty #[.slice (some ⟨b,off+i*9,none⟩) (n+1 - i) dc,.slice (some ⟨vb,voff,none⟩) 1 vc]).run Tryz.prog W= .ok (goInt (Nat.min 1 (n+1 - i))) (W.setCells b (off+i*9) vs):=fun W hWc hWf ty dc=>
  Xu W _ _ ty 136 b _ (n+1 - i) dc ⟨vb,voff,none⟩ 1 vc 9 vs t34 hsz (by rw[hvl];simp only[Nat.min_def];split <;> omega)
   (fun j v hj=>by
    rw[Addr.add_lit,hWc,hW1,World.cell?_setCells_out b _ _ _ _ (fun h _=>absurd h hvb)]
    exact hvs j v hj)
   (fun j hj=>by rw[hWc,Nat.add_assoc];exact hsp1 _ (by omega)) (fun j hj=>by rw[hWf,hW1,World.frozen?_setCells];exact hfz _) h1v
 rw[<-hW1]at hcp1
 go_enter Tryz.func139,show Tryz.f139.ntmps=95 from rfl
 go_wp2_with (simp only[hov])
 go_region_law_o (refine Mp rfl _ _ 33 33 rfl _ _ (by simp[Act.eval,Act.put]) (by simp[Act.eval,Act.put]) (hcp1 _ _ _) ?_)
 go_wp2_with (at_builtin;refine Kk _ rfl _ _ 33 33 rfl _ _ rfl rfl (hcp2 _ (fun _=>rfl) (fun _=>rfl) _ _) ?_)
 go_ret
 exact⟨rfl,rfl⟩
set_option maxHeartbeats 4000000 in
set_option maxRecDepth 100000 in
theorem NC (u0:Value) (base:Option Addr) (n c:Nat) (u1:Value) (vb:Addr) (vc:Nat) (v':Value) (w w':World) (h0:u0= .slice base n c) (h1:u1= .slice (some vb) 1 vc) (hn20:n<=1048576) (hnc:n<=c) (hnil:base=none→n=0)
 (hr:∀ty,(Builtin.append_ #[33,33] ty #[u0,u1]).run Tryz.prog w= .ok v' w'):
 Calls Tryz.prog 139 #[u0,.int .i64 n,u1] w fun e W=>e= .returned v'∧W=w':=by
 have t34:Tryz.prog.underlying 33=some (.slice 136):=by kernel_rfl
 have t3:Tryz.prog.underlying 3=some (.int .i64):=by kernel_rfl
 have t4:Tryz.prog.underlying 4=some .bool:=by kernel_rfl
 have t0:Tryz.prog.underlying 0=some (.tuple #[]):=by kernel_rfl
 have mixed:Tryz.prog.follows .mixedOrders=true:=by kernel_rfl
 have u34:=run_underlying t34;have u3:=run_underlying t3;have u4:=run_underlying t4;have u0:=run_underlying t0
 have hsz:(Tryz.prog.info? 136).map (·.size)=some 9:=by kernel_rfl
 have z136:∀w,(Go.sizeOf 136).run Tryz.prog w= .ok 9 w:=fun w=>by
  cases hq:Tryz.prog.info? 136 with
  |none=>rw[hq]at hsz;cases hsz
  |some i=>
   rw[hq]at hsz
   simp only[Option.map_some,oS]at hsz
   simp[Go.sizeOf,typeInfo,hq,hsz]
 have a34:∀w,(isAgg 33).run Tryz.prog w= .ok false w:=fun w=>by simp[isAgg,u34]
 have a3:∀w,(isAgg 3).run Tryz.prog w= .ok false w:=fun w=>by simp[isAgg,u3]
 have a4:∀w,(isAgg 4).run Tryz.prog w= .ok false w:=fun w=>by simp[isAgg,u4]
 subst h0 h1
 go_enter Tryz.func139,show Tryz.f139.ntmps=95 from rfl
 by_cases hcn:c=n
 ·subst hcn
  cases base with
  |none=>
   obtain rfl:=hnil rfl
   go_wp2_with (at_builtin;refine Lib.wpList_append_run _ rfl _ _ _ _ rfl _ _ rfl rfl _ _ (hr _) ?_)
   go_ret
   exact⟨rfl,rfl⟩
  |some q=>
   go_wp2_with (at_builtin;refine Lib.wpList_append_run _ rfl _ _ _ _ rfl _ _ rfl rfl _ _ (hr _) ?_)
   go_ret
   exact⟨rfl,rfl⟩
 ·cases base with
  |none=>
   obtain rfl:=hnil rfl
   go_wp2_with (at_builtin;refine Lib.wpList_append_run _ rfl _ _ _ _ rfl _ _ rfl rfl _ _ (hr _) ?_)
   go_ret
   exact⟨rfl,rfl⟩
  |some q=>
   go_wp2_with (at_builtin;refine Lib.wpList_append_run _ rfl _ _ _ _ rfl _ _ rfl rfl _ _ (hr _) ?_)
   go_ret
   exact⟨rfl,rfl⟩
set_option maxHeartbeats 4000000 in
set_option maxRecDepth 100000 in
theorem zeo (b off n c i vb voff vc:Nat) (cs vs zc:List Value) (i0:TypeInfo) (z:Value) (w:World) (hi:i<n) (hn20:n<=1048576) (hnc:n<=c) (hroom:c<n+1)
 (hi0:Tryz.prog.info? 136=some i0) (hz0:i0.zero=some z) (hz9:z.cells.size=9) (hib:i0.bytes<=1048576) (hcl:cs.length=n*9) (hvl:vs.length=9)
 (hcs:∀j v,cs[j]? =some v→w.cell? ⟨b,off+j,none⟩=some v)
 (hvs:∀j v,vs[j]? =some v→w.cell? ⟨vb,voff+j,none⟩=some v) (h1c:∀v∈cs,v.oneCell'=true) (h1v:∀v∈vs,v.oneCell'=true):
 Calls Tryz.prog 139 #[.slice (some ⟨b,off,none⟩) n c,.int .i64 i,.slice (some ⟨vb,voff,none⟩) 1 vc] w fun e w'=>
  e= .returned (.slice (some ⟨w.heap.size,0,none⟩) (n+1) (grownCap w (n+1) c 136))∧
  w'=(((w.alloc (.cells ((cs.take (i*9)).toArray++Builtin.zeroCells z.cells (n+1 - i)++Builtin.zeroCells z.cells (grownCap w (n+1) c 136 - (n+1))) 136)).drew.setCells w.heap.size (i*9) vs).drew).setCells w.heap.size ((i+1)*9) (cs.drop (i*9)):=by
 have t34:Tryz.prog.underlying 33=some (.slice 136):=by kernel_rfl
 have t3:Tryz.prog.underlying 3=some (.int .i64):=by kernel_rfl
 have t4:Tryz.prog.underlying 4=some .bool:=by kernel_rfl
 have t0:Tryz.prog.underlying 0=some (.tuple #[]):=by kernel_rfl
 have mixed:Tryz.prog.follows .mixedOrders=true:=by kernel_rfl
 have u34:=run_underlying t34;have u3:=run_underlying t3;have u4:=run_underlying t4;have u0:=run_underlying t0
 have hsz:(Tryz.prog.info? 136).map (·.size)=some 9:=by kernel_rfl
 have z136:∀w,(Go.sizeOf 136).run Tryz.prog w= .ok 9 w:=fun w=>by
  cases hq:Tryz.prog.info? 136 with
  |none=>rw[hq]at hsz;cases hsz
  |some i=>
   rw[hq]at hsz
   simp only[Option.map_some,oS]at hsz
   simp[Go.sizeOf,typeInfo,hq,hsz]
 have a34:∀w,(isAgg 33).run Tryz.prog w= .ok false w:=fun w=>by simp[isAgg,u34]
 have a3:∀w,(isAgg 3).run Tryz.prog w= .ok false w:=fun w=>by simp[isAgg,u3]
 have a4:∀w,(isAgg 4).run Tryz.prog w= .ok false w:=fun w=>by simp[isAgg,u4]
 have hs9:i0.size=9:=by rw[hi0]at hsz;simpa using hsz
 have hz2:¬((i:Int)=(n:Int)):=by omega
 have hz3:(c:Int)<(n:Int)+1:=by omega
 have hbw:b<w.heap.size:=block_lt_of_cell (hcs 0 _ (List.getElem?_eq_getElem (by omega)))
 have hvw:vb<w.heap.size:=block_lt_of_cell (hvs 0 _ (List.getElem?_eq_getElem (by omega)))
 have hkk:(n:Int)+1 - (i:Int)=((n+1 - i:Nat):Int):=by omega
 have hik:i+(n+1 - i)=n+1:=by omega
 have hold:(Builtin.firstCells i0.size i (.slice (some ⟨b,off,none⟩) i c)).run Tryz.prog w.drew= .ok (cs.take (i*9)).toArray w.drew:=by
  rw[hs9]
  have:=run_loadCells_list (P:=Tryz.prog) (w:=w.drew) ⟨b,off,none⟩ (cs.take (i*9)) (fun j v hj=>by
   rw[Addr.add_lit]
   rw[List.getElem?_take]at hj
   split at hj
   ·exact hcs j v hj
   ·cases hj)
  rw[List.length_take,hcl,Nat.min_eq_left (by omega)]at this
  simpa [Builtin.firstCells] using this
 have hrz:∀ty,(Builtin.append_ #[33,3] ty #[.slice (some ⟨b,off,none⟩) i c,.int .i64 ((n:Int)+1 - (i:Int))]).run Tryz.prog w=
  .ok (.slice (some ⟨w.heap.size,0,none⟩) (n+1) (grownCap w (n+1) c 136)) (w.drew.alloc (.cells ((cs.take (i*9)).toArray++Builtin.zeroCells z.cells (n+1 - i)++Builtin.zeroCells z.cells (grownCap w (n+1) c 136 - (n+1))) 136)):=fun ty=>by
  have hbig:(n+1)*i0.bytes<=140737488355328:=by
   have:=Nat.mul_le_mul (show n+1<=1048577 by omega) hib
   omega
  have h:=Lib.run_append_grow_zeros w 33 3 ty 136 i0 z .i64 .i64 t34 t3 hi0 hz0 (some ⟨b,off,none⟩) i c (cs.take (i*9)) hold (n+1 - i) (by omega) (by omega) (by omega) (by omega) (by
   have:=Nat.mul_le_mul (show n+1 - i<=1048577 by omega) hib
   omega) (by rw[hik];exact growslice_fits hroom hbig)
  rw[hik]at h
  rw[hkk]
  exact h
 obtain⟨G,hG⟩:∃G,G=grownCap w (n+1) c 136:=⟨_,rfl⟩
 obtain⟨ROW,hROW⟩:∃ROW:Array Value,ROW=(cs.take (i*9)).toArray++Builtin.zeroCells z.cells (n+1 - i)++Builtin.zeroCells z.cells (G - (n+1)):=⟨_,rfl⟩
 rw[<-hG]at hrz ⊢
 rw[<-hROW]at hrz ⊢
 have hRl:(n+1)*9<=ROW.size:=by
  rw[hROW]
  simp only[Builtin.zeroCells,Array.size_append,List.size_toArray,List.length_take,hcl,Array.size_map,Array.size_range,hz9]
  rw[Nat.min_eq_left (by omega)]
  omega
 obtain⟨W1,hW1⟩:∃W1,W1=w.drew.alloc (.cells ROW 136):=⟨_,rfl⟩
 rw[<-hW1]at hrz
 have hN:∀j,j<(n+1)*9→(W1.cell? ⟨w.heap.size,j,none⟩).isSome=true:=fun j hj=>by
  rw[hW1,World.cell?_alloc_at (w:=w.drew) ROW _ w.heap.size j rfl,Array.getElem?_eq_getElem (by omega)];rfl
 have hNf:∀j,W1.frozen? ⟨w.heap.size,j,none⟩=false:=fun j=>by rw[hW1];exact World.frozen?_alloc_at (w:=w.drew) ROW _ w.heap.size j rfl
 have hOb:∀j v,w.cell? ⟨b,j,none⟩=some v→W1.cell? ⟨b,j,none⟩=some v:=fun j v h=>by rw[hW1,World.cell?_alloc_past (w:=w.drew) _ b j hbw];exact h
 have hOv:∀j v,w.cell? ⟨vb,j,none⟩=some v→W1.cell? ⟨vb,j,none⟩=some v:=fun j v h=>by rw[hW1,World.cell?_alloc_past (w:=w.drew) _ vb j hvw];exact h
 have hcpA:∀(W:World),(∀x,W.cell? x=W1.cell? x)→(∀x,W.frozen? x=W1.frozen? x)→∀ty dc,(Builtin.copy_ #[33,33] ty #[.slice (some ⟨w.heap.size,i*9,none⟩) (n+1 - i) dc,.slice (some ⟨vb,voff,none⟩) 1 vc]).run Tryz.prog W= .ok (goInt (Nat.min 1 (n+1 - i))) (W.setCells w.heap.size (i*9) vs):=fun W hWc hWf ty dc=>
  Xu W _ _ ty 136 w.heap.size (i*9) (n+1 - i) dc ⟨vb,voff,none⟩ 1 vc 9 vs t34 hsz (by rw[hvl];simp only[Nat.min_def];split <;> omega)
   (fun j v hj=>by rw[Addr.add_lit,hWc];exact hOv _ v (hvs j v hj))
   (fun j hj=>by rw[hWc];exact hN _ (by omega)) (fun j hj=>by rw[hWf];exact hNf _) h1v
 have hGn:n+1<=G:=by rw[hG];exact grownCap_ge w _ _ _
 have hGi:¬(G=i):=by omega
 have hGim:¬(G=i+1):=by omega
 have hci:¬(c=i):=by omega
 have hbN:b≠w.heap.size:=by omega
 have hdl:(cs.drop (i*9)).length=(n - i)*9:=by rw[List.length_drop,hcl];omega
 have hcpB:∀(W:World),(∀x,W.cell? x=(W1.setCells w.heap.size (i*9) vs).cell? x)→(∀x,W.frozen? x=(W1.setCells w.heap.size (i*9) vs).frozen? x)→∀ty dc sc,(Builtin.copy_ #[33,33] ty #[.slice (some ⟨w.heap.size,(i+1)*9,none⟩) (n - i) dc,.slice (some ⟨b,off+i*9,none⟩) (n - i) sc]).run Tryz.prog W= .ok (goInt (Nat.min (n - i) (n - i))) (W.setCells w.heap.size ((i+1)*9) (cs.drop (i*9))):=fun W hWc hWf ty dc sc=>
  Xu W _ _ ty 136 w.heap.size ((i+1)*9) (n - i) dc ⟨b,off+i*9,none⟩ (n - i) sc 9 (cs.drop (i*9)) t34 hsz (by rw[hdl];simp only[Nat.min_def];split <;> omega)
   (fun j v hj=>by
    rw[Addr.add_lit,hWc,World.cell?_setCells_out _ _ _ _ _ (fun h _=>absurd h hbN),Nat.add_assoc]
    exact hOb _ v (hcs (i*9+j) v (by rwa [List.getElem?_drop]at hj)))
   (fun j hj=>by rw[hWc];exact Gl _ _ _ _ (fun t ht=>hN _ (by omega)) _ (hN _ (by omega)))
   (fun j hj=>by rw[hWf,World.frozen?_setCells];exact hNf _) (fun v hv=>h1c v (List.mem_of_mem_drop hv))
 subst hW1
 have hE1:∀x,((w.alloc (.cells ROW 136)).drew).cell? x=(w.drew.alloc (.cells ROW 136)).cell? x:=fun x=>rfl
 have hE2:∀x,((w.alloc (.cells ROW 136)).drew).frozen? x=(w.drew.alloc (.cells ROW 136)).frozen? x:=fun x=>rfl
 have hF1:∀x,(((w.alloc (.cells ROW 136)).drew.setCells w.heap.size (i*9) vs).drew).cell? x=((w.drew.alloc (.cells ROW 136)).setCells w.heap.size (i*9) vs).cell? x:=fun x=>rfl
 have hF2:∀x,(((w.alloc (.cells ROW 136)).drew.setCells w.heap.size (i*9) vs).drew).frozen? x=((w.drew.alloc (.cells ROW 136)).setCells w.heap.size (i*9) vs).frozen? x:=fun x=>rfl
 have hw1:IntKind.i64.wrap ((i:Int)+1)=(i:Int)+1:=by rw[IntKind.wrap_i64];omega
 have hw2:IntKind.i64.wrap ((n:Int)+1)=(n:Int)+1:=by rw[IntKind.wrap_i64];omega
 have hw3:IntKind.i64.wrap ((n:Int)+1 - (i:Int))=(n:Int)+1 - (i:Int):=by rw[IntKind.wrap_i64];omega
 have hb1:(0:Int)<=(i:Int)+1:=by omega
 have hin:i<=n:=by omega
 have htn:((i:Int)+1).toNat=i+1:=by omega
 have hb3:(i:Int)<=(n:Int):=by omega
 clear hkk hik hold hROW hG hRl
 go_enter Tryz.func139,show Tryz.f139.ntmps=95 from rfl
 go_wp2_with (first
  |(at_builtin;refine Lib.wpList_append_run _ rfl _ _ _ _ rfl _ _ rfl rfl _ _ (hrz _) ?_)
  |(at_builtin;refine Kk _ rfl _ _ 33 33 rfl _ _ rfl rfl (hcpA _ hE1 hE2 _ _) ?_)
  |(at_builtin;refine Kk _ rfl _ _ 33 33 rfl _ _ rfl rfl (hcpB _ (fun _=>rfl) (fun _=>rfl) _ _ _) ?_))
 go_region_law_o (refine Mp rfl _ _ 33 33 rfl (.slice (some ⟨w.heap.size,(i+1)*9,none⟩) (n - i) (G - (i+1))) (.slice (some ⟨b,off+i*9,none⟩) (n - i) (c - i)) (by simp[Act.eval,Act.put]) (by simp[Act.eval,Act.put]) (hcpB _ hF1 hF2 3 (G - (i+1)) (c - i)) ?_)
 go_wp2
 go_ret
 exact⟨rfl,rfl⟩
end Go.Am
