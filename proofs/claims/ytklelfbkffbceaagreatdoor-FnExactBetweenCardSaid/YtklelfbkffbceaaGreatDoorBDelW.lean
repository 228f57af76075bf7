
/- The functions of the program in plain Lean, and that the machine answers as they do; conditions at each theorem. -/
import Derived.Test.YtklelfbkffbceaaGreatDoorBInsX
import Derived.Deep.LoopGhost
import Derived.Deep.RegionLaw
import Derived.Lib.SlicesDelete
set_option linter.unusedVariables false
set_option linter.unusedSimpArgs false
set_option linter.unusedVariables false
set_option linter.unusedSimpArgs false
namespace Go.Am
open Go.Proofs Go.Shelf Go.RowKit Go.Lib
theorem Lw {P:Program} (w:World) (t e ty:TypeId) (z:Value) (ht:P.underlying t=some (.slice e)) (hv:∀w,(zeroValue e).run P w= .ok z w) (b o n c:Nat) (hn:0<n) (zs:List Value) (hz:(Builtin.zeroCells z.cells n).toList=zs) (h1:∀v∈zs,v.oneCell'=true)
 (hc:∀j,j<zs.length→(w.cell? ⟨b,o+j,none⟩).isSome=true) (hf:∀j,j<zs.length→w.frozen? ⟨b,o+j,none⟩=false):
 (Builtin.clear_ #[t] ty #[.slice (some ⟨b,o,none⟩) n c]).run P w= .ok (.tuple #[]) (w.setCells b o zs):=by
 have hst:=run_storeCells_cells (P:=P) b o zs 0 w (by simpa using hc) (by simpa using hf) h1
 simp only[Nat.add_zero]at hst
 obtain⟨m,rfl⟩:∃m,n=m+1:=⟨n - 1,by omega⟩
 simp[Builtin.clear_,run_underlying ht,hv,hz,hst]
theorem PE:∀i0 z,Tryz.prog.info? 136=some i0→i0.zero=some z→∀v∈(Builtin.zeroCells z.cells 1).toList,v.oneCell'=true:=by
 intro i0 z h1 h2
 have h:((Tryz.prog.info? 136).bind fun i=>i.zero.map fun z=>(Builtin.zeroCells z.cells 1).toList.all fun v=>v.oneCell')=some true:=by kernel_rfl
 rw[h1]at h
 simp only[oB,h2,Option.map_some,oS]at h
 exact fun v hv=>List.all_eq_true.1 h v hv
set_option maxHeartbeats 4000000 in
set_option maxRecDepth 100000 in
theorem zea (b off n c i:Nat) (cs zs:List Value) (arr:Array Value) (w:World) (hi:i<n) (hn20:n<=1048576) (hnc:n<=c) (hB:Blk 9 w b arr) (hoc:off+c*9<=arr.size)
 (hcl:cs.length=n*9) (hcs:∀j v,cs[j]? =some v→arr[off+j]? =some v) (h1c:∀v∈cs,simple v=true) (i0:TypeInfo) (z:Value) (hi0:Tryz.prog.info? 136=some i0) (hz0:i0.zero=some z) (hz9:z.cells.size=9) (hzs:zs=(Builtin.zeroCells z.cells 1).toList):
 Calls Tryz.prog 140 #[.slice (some ⟨b,off,none⟩) n c,.int .i64 i,.int .i64 ((i:Int)+1)] w fun e w'=>
  e= .returned (.slice (some ⟨b,off,none⟩) (n - 1) c)∧w'=(w.drew.setCells b (off+i*9) (cs.drop ((i+1)*9))).setCells b (off+(i+(n - (i+1)))*9) zs:=by
 obtain⟨z0,rfl⟩:∃z0,z= .agg z0:=by
  cases z <;> first|exact⟨_,rfl⟩|(simp[Value.cells]at hz9)
 have t34:Tryz.prog.underlying 33=some (.slice 136):=by kernel_rfl
 have t3:Tryz.prog.underlying 3=some (.int .i64):=by kernel_rfl
 have t4:Tryz.prog.underlying 4=some .bool:=by kernel_rfl
 have t0:Tryz.prog.underlying 0=some (.tuple #[]):=by kernel_rfl
 have mixed:Tryz.prog.follows .mixedOrders=true:=by kernel_rfl
 have u34:=run_underlying t34;have u3:=run_underlying t3;have u4:=run_underlying t4;have u0:=run_underlying t0
 have hsz:(Tryz.prog.info? 136).map (·.size)=some 9:=by kernel_rfl
 have hs9:i0.size=9:=by rw[hi0]at hsz;simpa using hsz
 have z136:∀w,(Go.sizeOf 136).run Tryz.prog w= .ok 9 w:=fun w=>by simp[Go.sizeOf,typeInfo,hi0,hs9]
 have v136:∀w,(zeroValue 136).run Tryz.prog w= .ok (.agg z0) w:=fun w=>by simp[zeroValue,typeInfo,hi0,hz0]
 have a34:∀w,(isAgg 33).run Tryz.prog w= .ok false w:=fun w=>by simp[isAgg,u34]
 have a3:∀w,(isAgg 3).run Tryz.prog w= .ok false w:=fun w=>by simp[isAgg,u3]
 have a4:∀w,(isAgg 4).run Tryz.prog w= .ok false w:=fun w=>by simp[isAgg,u4]
 have hnc9:n*9<=c*9:=Nat.mul_le_mul_right _ hnc
 have hi9:(i+1)*9<=n*9:=Nat.mul_le_mul_right _ hi
 have hm9:(n - (i+1))*9+(i+1)*9=n*9:=by rw[<-Nat.add_mul];congr 1;omega
 have hji:i≠i+1:=by omega
 have hne:¬((i:Int)=(i:Int)+1):=by omega
 have htn:((i:Int)+1).toNat=i+1:=by omega
 have hb1:(0:Int)<=(i:Int)+1:=by omega
 have hjn:((i:Int)+1)<=(n:Int):=by omega
 have hj1:(i:Int)<=(i:Int)+1:=by omega
 obtain⟨news,hnews⟩:∃news,news=cs.drop ((i+1)*9):=⟨_,rfl⟩
 have hlen:news.length=(n - (i+1))*9:=by rw[hnews,List.length_drop,hcl];omega
 obtain⟨A,hA,hsrc⟩:∃A:Addr,(if c=i+1 then some (⟨b,off,none⟩:Addr)else some ⟨b,off+(i+1)*9,none⟩)=some A∧Hid (∀t u,news[t]? =some u→w.drew.cell? (A.add t)=some u):=by
  by_cases h:c=i+1
  ·refine⟨⟨b,off,none⟩,by simp[h],fun t u hu=> ?_⟩
   have h0:news.length=0:=by rw[hlen];omega
   rw[List.length_eq_zero_iff.1 h0]at hu
   simp at hu
  ·refine⟨⟨b,off+(i+1)*9,none⟩,by simp[h],fun t u hu=> ?_⟩
   rw[hnews,List.getElem?_drop]at hu
   rw[Addr.add_lit,show w.drew.cell? ⟨b,off+(i+1)*9+t,none⟩=w.cell? ⟨b,off+(i+1)*9+t,none⟩from rfl,hB.size,Nat.add_assoc]
   exact hcs _ u hu
 have s1:Hid (news.length=(n - (i+1))*9):=hlen
 have s2:Hid (∀u∈news,u.oneCell'=true):=fun u hu=>by
  rw[hnews]at hu
  rw[WP]
  exact h1c u (List.mem_of_mem_drop hu)
 have s3:Hid (∀t,t<news.length→(w.drew.cell? ⟨b,off+i*9+t,none⟩).isSome=true∧w.drew.frozen? ⟨b,off+i*9+t,none⟩=false):=fun t ht=>by
  rw[hlen]at ht
  refine⟨?_,hB.unf (by omega) _⟩
  rw[show w.drew.cell? ⟨b,off+i*9+t,none⟩=w.cell? ⟨b,off+i*9+t,none⟩from rfl,hB.size,Array.getElem?_eq_getElem (by omega)];rfl
 obtain⟨W1,hW1⟩:∃W1,W1=w.drew.setCells b (off+i*9) news:=⟨_,rfl⟩
 obtain⟨b1,_,_,_⟩:=Qv (o:=off+i*9) (vs:=news) (by omega) (show Blk 9 w.drew b arr from hB) (by omega) (fun v hv=>by rw[hnews]at hv;exact h1c v (List.mem_of_mem_drop hv))
 rw[<-hW1]at b1
 have hzl:zs.length=9:=by rw[hzs];simp[Builtin.zeroCells,hz9]
 have hcl:∀ty,(Builtin.clear_ #[33] ty #[.slice (some ⟨b,off+(i+(n - (i+1)))*9,none⟩) (n - (i+(n - (i+1)))) (c - (i+(n - (i+1))))]).run Tryz.prog W1= .ok (.tuple #[]) (W1.setCells b (off+(i+(n - (i+1)))*9) zs):=fun ty=>by
  have h1:n - (i+(n - (i+1)))=1:=by omega
  rw[h1]
  have hsize:=b1
  refine Lw W1 33 136 ty (.agg z0) t34 v136 b _ 1 _ (by omega) zs hzs.symm (by rw[hzs];exact PE i0 _ hi0 hz0) (fun j hj=> ?_) (fun j hj=>b1.unf (by omega) _)
  rw[b1.size,Array.getElem?_eq_getElem (by
   simp only[List.size_toArray,List.length_append,List.length_take,List.length_drop,Array.length_toList]
   omega)]
  rfl
 have hW:Hid (W1=w.drew.setCells b (off+i*9) news):=hW1
 have hic:i<=c:=by omega
 have hjc:i+1<=c:=by omega
 rw[<-hnews,<-hW1]
 clear hW1 hnews hlen hB b1 hcs h1c
 go_enter Tryz.func140,show Tryz.f140.ntmps=33 from rfl
 go_wp2_with fail
 go_region_law_o (refine step_append_room rfl (.tmp 22) (.tmp 25) 33 rfl 136 i0 9 t34 hi0 hs9 b off i c (by simp[Act.eval,Act.put]) A (n - (i+1)) (c - (i+1)) news (by simp[Act.eval,Act.put]) s1.out hsrc.out s2.out (by omega) s3.out ?_;rw[<-hW.out])
 go_wp2
 go_ret
 exact⟨by rw[show n - 1=i+(n - (i+1)) by omega];rfl,by rw[hzs];rfl⟩
end Go.Am
