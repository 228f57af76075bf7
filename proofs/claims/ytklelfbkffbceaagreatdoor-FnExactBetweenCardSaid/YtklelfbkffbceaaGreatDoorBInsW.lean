
/- The functions of the program in plain Lean, and that the machine answers as they do; conditions at each theorem. -/
import Derived.Test.YtklelfbkffbceaaGreatDoorBIns
set_option linter.unusedVariables false
set_option linter.unusedSimpArgs false
set_option linter.unusedVariables false
set_option linter.unusedSimpArgs false
namespace Go.Am
open Go.Proofs Go.Shelf Go.RowKit Go.Lib
theorem Qu (arr:Array Value) (o:Nat) (vs:List Value) (h:o+vs.length<=arr.size) (m:Nat):
 ((arr.toList.take o++vs++arr.toList.drop (o+vs.length)).toArray)[m]? =if m<o then arr[m]? else if m<o+vs.length then vs[m - o]? else arr[m]? :=by
 rw[List.getElem?_toArray]
 have hl:(arr.toList.take o).length=o:=by simp;omega
 split
 ·rename_i h1
  rw[List.append_assoc,List.getElem?_append_left (by omega),List.getElem?_take_of_lt h1,Array.getElem?_toList]
 ·rename_i h1
  split
  ·rename_i h2
   rw[List.append_assoc,List.getElem?_append_right (by omega),List.getElem?_append_left (by omega),hl]
  ·rename_i h2
   rw[List.getElem?_append_right (by rw[List.length_append];omega),List.length_append,hl,List.getElem?_drop,Array.getElem?_toList]
   congr 1;omega
theorem WP (v:Value):v.oneCell'=simple v:=by cases v <;> rfl
theorem Blk.size {z:Nat} {w:World} {b:Nat} {arr:Array Value} (h:Blk z w b arr) (j:Nat):w.cell? ⟨b,j,none⟩=arr[j]? :=by
 obtain⟨E,fz,hE,_⟩:=h
 simp[World.cell?,hE]
theorem Blk.unf {z:Nat} {w:World} {b:Nat} {arr:Array Value} (h:Blk z w b arr) (hz:1<z) (j:Nat):w.frozen? ⟨b,j,none⟩=false:=by
 obtain⟨E,fz,hE,_,_,h4⟩:=h
 have:=h4 hz
 obtain⟨lo,hi⟩:=fz
 simp only at this
 subst this
 simp only[World.frozen?,hE]
 simp only[Bool.and_eq_false_imp,decide_eq_true_eq,decide_eq_false_iff_not]
 omega
theorem Qv {z:Nat} {b o:Nat} {vs:List Value} {arr:Array Value} {w:World} (hz:1<z) (h:Blk z w b arr) (hl:o+vs.length<=arr.size) (h1:∀v∈vs,simple v=true):
 Blk z (w.setCells b o vs) b (arr.toList.take o++vs++arr.toList.drop (o+vs.length)).toArray∧(∀c,c≠b→(w.setCells b o vs).heap[c]? =w.heap[c]?)∧(w.setCells b o vs).heap.size=w.heap.size∧vE w (w.setCells b o vs):=by
 obtain⟨w',r1,r2,r3,r4,r5⟩:=Y0 (P:=Tryz.prog) b o vs 0 arr w h (by omega) h1
 have:=run_storeCells_cells (P:=Tryz.prog) b o vs 0 w (fun j hj=>by
  rw[Nat.add_zero,h.size,Array.getElem?_eq_getElem (by omega)];rfl) (fun j hj=>h.unf hz _) (fun v hv=>by rw[WP];exact h1 v hv)
 rw[r1]at this
 simp only[Nat.add_zero,Result.ok.injEq,true_and]at this
 subst this
 simp only[Nat.add_zero]at r2
 exact⟨r2,r3,r4,r5⟩
theorem Bg (cs vs:List Value) (a k:Nat) (ha:a<=cs.length) (hk:vs.length=k) (m:Nat):
 (cs.take a++vs++cs.drop a)[m]? =if m<a then cs[m]? else if m<a+k then vs[m - a]? else cs[m - k]? :=by
 have hl:(cs.take a).length=a:=by simp;omega
 split
 ·rename_i h1
  rw[List.append_assoc,List.getElem?_append_left (by omega),List.getElem?_take_of_lt h1]
 ·rename_i h1
  split
  ·rename_i h2
   rw[List.append_assoc,List.getElem?_append_right (by omega),List.getElem?_append_left (by omega),hl]
  ·rename_i h2
   rw[List.getElem?_append_right (by rw[List.length_append];omega),List.length_append,hl,List.getElem?_drop]
   congr 1;omega
def ND (w:World) (b n i:Nat) (cs vs:List Value) (e:Ending) (w':World):Prop:=
 ∃(q:Addr) (c':Nat) (arr:Array Value),e= .returned (.slice (some q) (n+1) c')∧n+1<=c'∧q.spot=none∧Blk 9 w' q.block arr∧q.off+c'*9<=arr.size∧(q.block=b∨q.block=w.heap.size)∧
  (∀m v,(cs.take (i*9)++vs++cs.drop (i*9))[m]? =some v→arr[q.off+m]? =some v)∧(∀x,x<w.heap.size→x≠b→w'.heap[x]? =w.heap[x]?)∧w.heap.size<=w'.heap.size∧vE w w'
theorem NE:∃i0 z,Tryz.prog.info? 136=some i0∧i0.zero=some z∧z.cells.size=9∧i0.size=9∧i0.bytes=152:=by
 have h:((Tryz.prog.info? 136).bind fun i=>i.zero.map fun z=>(i.size,i.bytes,z.cells.size))=some (9,152,9):=by kernel_rfl
 obtain⟨i0,h1,h2⟩:=oI h
 obtain⟨z,h3,h4⟩:=oM h2
 simp only[Prod.mk.injEq]at h4
 exact⟨i0,z,h1,h3,h4.2.2,h4.1,h4.2.1⟩
theorem Gm {z:Nat} {w:World} {b:Nat} {arr:Array Value} (h:Blk z w b arr):∃t,w.shape? b=some (t,arr.size):=by
 obtain⟨E,fz,hE,_⟩:=h
 exact⟨E,by simp[World.shape?,hE]⟩
set_option maxRecDepth 100000 in
theorem ziw (b off n c i vb voff vc:Nat) (cs vs:List Value) (arr arv:Array Value) (w:World) (hi:i<=n) (hn20:n<=1048576) (hnc:n<=c) (hvb:vb≠b) (hB:Blk 9 w b arr) (hV:Blk 9 w vb arv) (hoc:off+c*9<=arr.size)
 (hcl:cs.length=n*9) (hvl:vs.length=9) (hcs:∀j v,cs[j]? =some v→arr[off+j]? =some v) (hvs:∀j v,vs[j]? =some v→arv[voff+j]? =some v) (h1c:∀v∈cs,simple v=true) (h1v:∀v∈vs,simple v=true):
 Calls Tryz.prog 139 #[.slice (some ⟨b,off,none⟩) n c,.int .i64 i,.slice (some ⟨vb,voff,none⟩) 1 vc] w (ND w b n i cs vs):=by
 have t34:Tryz.prog.underlying 33=some (.slice 136):=by kernel_rfl
 obtain⟨i0,z,hi0,hz0,hz9,hs9,hb9⟩:=NE
 have h1c':∀v∈cs,v.oneCell'=true:=fun v hv=>by rw[WP];exact h1c v hv
 have h1v':∀v∈vs,v.oneCell'=true:=fun v hv=>by rw[WP];exact h1v v hv
 have hnc9:n*9<=c*9:=Nat.mul_le_mul_right _ hnc
 have hni:i*9<=n*9:=Nat.mul_le_mul_right _ hi
 have hvb':vb<w.heap.size:=hV.lt
 have hbw:b<w.heap.size:=hB.lt
 have hg:=Bg cs vs (i*9) 9 (by omega) hvl
 have hdl:(cs.drop (i*9)).length=(n - i)*9:=by rw[List.length_drop,hcl,Nat.sub_mul]
 rcases Nat.lt_or_ge i n with hlt|hge
 ·by_cases hroom:n+1<=c
  ·have hrm:(n+1)*9<=c*9:=Nat.mul_le_mul_right _ hroom
   obtain⟨tA,hsa⟩:=Gm hV
   obtain⟨tB,hsb⟩:=Gm hB
   refine(zbu b off n c i vb voff vc cs vs w hlt hroom hn20 hvb hcl hvl (fun j v hj=>by rw[hB.size];exact hcs j v hj) (fun j hj=>by rw[hB.size,Array.getElem?_eq_getElem (by omega)];rfl) (hB.unf (by omega))
    (fun j v hj=>by rw[hV.size];exact hvs j v hj) h1c' h1v' tA tB _ _ hsa hsb (by omega) (hV.unf (by omega))).mono fun e w' he=> ?_
   obtain⟨rfl,rfl⟩:=he
   have hBd:Blk 9 w.drew b arr:=hB
   have hm1:(i+1)*9=i*9+9:=by omega
   have hm2:(n - i)*9+i*9=n*9:=by omega
   obtain⟨b1,b2,b3,b4⟩:=Qv (o:=off+(i+1)*9) (vs:=cs.drop (i*9)) (by omega) hBd (by rw[hdl];omega) (fun v hv=>h1c v (List.mem_of_mem_drop hv))
   have hs1:=Qu arr (off+(i+1)*9) (cs.drop (i*9)) (by rw[hdl];omega)
   generalize harr1:(arr.toList.take (off+(i+1)*9)++cs.drop (i*9)++arr.toList.drop (off+(i+1)*9+(cs.drop (i*9)).length)).toArray=arr1 at b1 hs1
   have hz1:arr1.size=arr.size:=by rw[<-harr1];simp only[List.size_toArray,List.length_append,List.length_take,List.length_drop,Array.length_toList];omega
   obtain⟨d1,d2,d3,d4⟩:=Qv (o:=off+i*9) (vs:=vs) (by omega) b1 (by omega) h1v
   have hs2:=Qu arr1 (off+i*9) vs (by omega)
   generalize harr2:(arr1.toList.take (off+i*9)++vs++arr1.toList.drop (off+i*9+vs.length)).toArray=arr2 at d1 hs2
   have hz2:arr2.size=arr1.size:=by rw[<-harr2];simp only[List.size_toArray,List.length_append,List.length_take,List.length_drop,Array.length_toList];omega
   refine⟨⟨b,off,none⟩,c,arr2,rfl,hroom,rfl,d1,by show off+c*9<=_;omega,.inl rfl,fun m v hm=> ?_,fun x hx hxb=>by rw[d2 x hxb,b2 x hxb];rfl,by rw[d3,b3];exact Nat.le_refl _,⟨d4.1.trans b4.1,d4.2.1.trans b4.2.1,d4.2.2.trans b4.2.2⟩⟩
   rw[hg]at hm
   show arr2[off+m]? =some v
   rw[hs2]
   rw[hvl]
   split at hm
   ·rename_i h1
    rw[if_pos (by omega),hs1,if_pos (by omega)]
    exact hcs m v hm
   ·rename_i h1
    split at hm
    ·rename_i h2
     rw[if_neg (by omega),if_pos (by omega),<-hm]
     congr 1;omega
    ·rename_i h2
     have hml:=(oE hm).1
     rw[if_neg (by omega),if_neg (by omega),hs1,if_neg (by omega),hdl,if_pos (by omega),List.getElem?_drop,<-hm]
     congr 1;omega
  ·refine(zeo b off n c i vb voff vc cs vs [] i0 z w hlt hn20 hnc (by omega) hi0 hz0 hz9 (by omega) hcl hvl (fun j v hj=>by rw[hB.size];exact hcs j v hj) (fun j v hj=>by rw[hV.size];exact hvs j v hj) h1c' h1v').mono fun e w' he=> ?_
   obtain⟨rfl,rfl⟩:=he
   have hGn:n+1<=grownCap w (n+1) c 136:=grownCap_ge w _ _ _
   generalize grownCap w (n+1) c 136=G at hGn
   obtain⟨ROW,hROW⟩:∃ROW:Array Value,ROW=(cs.take (i*9)).toArray++Builtin.zeroCells z.cells (n+1 - i)++Builtin.zeroCells z.cells (G - (n+1)):=⟨_,rfl⟩
   rw[<-hROW]
   have htl:(cs.take (i*9)).length=i*9:=by rw[List.length_take];omega
   have hRs:ROW.size=G*9:=by
    rw[hROW]
    simp only[Array.size_append,List.size_toArray,htl,size_zeroCells,hz9]
    omega
   have hR0:∀m,m<i*9→ROW[m]? =cs[m]? :=fun m hm=>by
    rw[hROW,Array.append_assoc,Array.getElem?_append_left (by simp only[List.size_toArray,htl];omega),List.getElem?_toArray,List.getElem?_take_of_lt hm]
   have hG9:(n+1)*9<=G*9:=Nat.mul_le_mul_right _ hGn
   obtain⟨n1,n2,n3⟩:=YF w (.cells ROW 136)
   have hN:Blk 9 (w.alloc (.cells ROW 136)).drew w.heap.size ROW:=Blk.new w _ 136
   obtain⟨b1,b2,b3,b4⟩:=Qv (o:=i*9) (vs:=vs) (by omega) hN (by omega) h1v
   have hs1:=Qu ROW (i*9) vs (by omega)
   generalize harr1:(ROW.toList.take (i*9)++vs++ROW.toList.drop (i*9+vs.length)).toArray=arr1 at b1 hs1
   have hz1:arr1.size=ROW.size:=by rw[<-harr1];simp only[List.size_toArray,List.length_append,List.length_take,List.length_drop,Array.length_toList];omega
   have b1':Blk 9 ((w.alloc (.cells ROW 136)).drew.setCells w.heap.size (i*9) vs).drew w.heap.size arr1:=b1
   obtain⟨d1,d2,d3,d4⟩:=Qv (o:=(i+1)*9) (vs:=cs.drop (i*9)) (by omega) b1' (by rw[hdl];omega) (fun v hv=>h1c v (List.mem_of_mem_drop hv))
   have hs2:=Qu arr1 ((i+1)*9) (cs.drop (i*9)) (by rw[hdl];omega)
   generalize harr2:(arr1.toList.take ((i+1)*9)++cs.drop (i*9)++arr1.toList.drop ((i+1)*9+(cs.drop (i*9)).length)).toArray=arr2 at d1 hs2
   have hz2:arr2.size=arr1.size:=by rw[<-harr2];simp only[List.size_toArray,List.length_append,List.length_take,List.length_drop,Array.length_toList];omega
   refine⟨⟨w.heap.size,0,none⟩,G,arr2,rfl,hGn,rfl,d1,by show 0+G*9<=_;omega,.inr rfl,fun m v hm=> ?_,fun x hx hxb=> ?_,?_,⟨d4.1.trans b4.1,d4.2.1.trans b4.2.1,d4.2.2.trans b4.2.2⟩⟩
   ·rw[hg]at hm
    show arr2[0+m]? =some v
    rw[Nat.zero_add,hs2,hdl,hs1,hvl]
    split at hm
    ·rename_i h1
     rw[if_pos (by omega),if_pos (by omega),hR0 m h1]
     exact hm
    ·rename_i h1
     split at hm
     ·rename_i h2
      rw[if_pos (by omega),if_neg (by omega),if_pos (by omega)]
      exact hm
     ·rename_i h2
      have hml:=(oE hm).1
      rw[if_neg (by omega),if_pos (by omega),List.getElem?_drop,<-hm]
      congr 1;omega
   ·rw[d2 x (by omega)]
    show(((w.alloc (.cells ROW 136)).drew.setCells w.heap.size (i*9) vs)).heap[x]? =_
    rw[b2 x (by omega)]
    exact n1 x hx
   ·rw[d3]
    show _<=((w.alloc (.cells ROW 136)).drew.setCells w.heap.size (i*9) vs).heap.size
    rw[b3]
    show _<=(w.alloc (.cells ROW 136)).heap.size
    exact Nat.le_trans (Nat.le_succ _) (Nat.le_of_eq n3.symm)
 ·have hin:i=n:=by omega
  subst hin
  have htk:cs.take (i*9)=cs:=List.take_of_length_le (by omega)
  have hdr:cs.drop (i*9)=[]:=List.drop_eq_nil_of_le (by omega)
  have hln:∀w':World,(Builtin.lenOf (.slice (some ⟨vb,voff,none⟩) 1 vc)).run Tryz.prog w'= .ok 1 w':=fun w'=>by simp[Builtin.lenOf]
  have hfc:∀w':World,w'.heap=w.heap→(Builtin.firstCells i0.size 1 (.slice (some ⟨vb,voff,none⟩) 1 vc)).run Tryz.prog w'= .ok vs.toArray w':=fun w' hw'=>by
   have hd:(⟨vb,voff,none⟩:Addr).spot=none:=rfl
   have:=run_loadCells_list (P:=Tryz.prog) w' ⟨vb,voff,none⟩ vs (fun j v hj=>by
    rw[YD (w:=w) (by rw[hw']),Addr.add_lit,hV.size];exact hvs j v hj)
   rw[hvl]at this
   simpa [Builtin.firstCells,hs9] using this
  by_cases hroom:i+1<=c
  ·have hrm:(i+1)*9<=c*9:=Nat.mul_le_mul_right _ hroom
   obtain⟨w',r1,r2,r3,r4,r5⟩:=Y0 (P:=Tryz.prog) b (off+i*9) vs 0 arr w hB (by omega) h1v
   have hs1:=Qu arr (off+i*9) vs (by omega)
   simp only[Nat.add_zero]at r2
   generalize harr1:(arr.toList.take (off+i*9)++vs++arr.toList.drop (off+i*9+vs.length)).toArray=arr1 at r2 hs1
   have hz1:arr1.size=arr.size:=by rw[<-harr1];simp only[List.size_toArray,List.length_append,List.length_take,List.length_drop,Array.length_toList];omega
   have hadd:(⟨b,off,none⟩:Addr).add (i*i0.size)=⟨b,off+i*9,none⟩:=by rw[Addr.add_lit,hs9]
   refine(NC _ (some ⟨b,off,none⟩) i c _ ⟨vb,voff,none⟩ vc _ w w' rfl rfl hn20 hnc (fun h=>by cases h) (fun ty=>T1 (ts:=#[33,33]) rfl rfl t34 hi0 (.inl ⟨_,t34⟩) hln (hfc w rfl) hroom (by rw[hadd];exact r1))).mono fun e W he=> ?_
   obtain⟨rfl,rfl⟩:=he
   refine⟨⟨b,off,none⟩,c,arr1,rfl,hroom,rfl,r2,by show off+c*9<=_;omega,.inl rfl,fun m v hm=> ?_,fun x _ hxb=>r3 x hxb,by omega,r5⟩
   rw[hg]at hm
   show arr1[off+m]? =some v
   rw[hs1,hvl]
   split at hm
   ·rename_i h1
    rw[if_pos (by omega)]
    exact hcs m v hm
   ·rename_i h1
    split at hm
    ·rw[if_neg (by omega),if_pos (by omega),<-hm]
     congr 1;omega
    ·have:=(oE hm).1
     omega
  ·have hfit:Builtin.nextslicecap (i+1) c*i0.bytes<=281474976710656:=growslice_fits (by omega) (by rw[hb9];omega)
   have hold:(Builtin.firstCells i0.size i (.slice (some ⟨b,off,none⟩) i c)).run Tryz.prog w.drew= .ok cs.toArray w.drew:=by
    have:=run_loadCells_list (P:=Tryz.prog) w.drew ⟨b,off,none⟩ cs (fun j v hj=>by
     rw[show w.drew.cell? ((⟨b,off,none⟩:Addr).add j)=w.cell? ((⟨b,off,none⟩:Addr).add j)from rfl,Addr.add_lit,hB.size];exact hcs j v hj)
    rw[hcl]at this
    simpa [Builtin.firstCells,hs9] using this
   have hGn:i+1<=grownCap w (i+1) c 136:=grownCap_ge w _ _ _
   have hrun:=fun ty=>JO (P:=Tryz.prog) (w:=w) (ts:=#[33,33]) (ty:=ty) rfl rfl t34 hi0 hz0 hold (.inl ⟨_,t34⟩) hln (hfc w.drew rfl) (by omega) (by omega) hfit
   refine(NC _ (some ⟨b,off,none⟩) i c _ ⟨vb,voff,none⟩ vc _ w _ rfl rfl hn20 hnc (fun h=>by cases h) hrun).mono fun e W he=> ?_
   obtain⟨rfl,rfl⟩:=he
   generalize grownCap w (i+1) c 136=G at hGn
   have hG9:(i+1)*9<=G*9:=Nat.mul_le_mul_right _ hGn
   obtain⟨n1,n2,n3⟩:=YF w.drew (.cells ((cs++vs).toArray++Builtin.zeroCells z.cells (G - (i+1))) 136)
   refine⟨⟨w.heap.size,0,none⟩,G,_,rfl,hGn,rfl,Blk.new w.drew _ 136,?_,.inr rfl,fun m v hm=> ?_,fun x hx _=>n1 x hx,Nat.le_trans (Nat.le_succ _) (Nat.le_of_eq n3.symm),⟨rfl,rfl,rfl⟩⟩
   ·simp only[Array.size_append,List.size_toArray,List.length_append,size_zeroCells,hz9,hcl,hvl,Nat.zero_add]
    omega
   ·rw[htk,hdr,List.append_nil]at hm
    have hml:=(oE hm).1
    show(_:Array Value)[0+m]? =some v
    rw[Nat.zero_add,Array.getElem?_append_left (by simpa using hml),List.getElem?_toArray]
    exact hm
theorem zix (vb voff vc:Nat) (vs:List Value) (arv:Array Value) (w:World) (hV:Blk 9 w vb arv) (hvl:vs.length=9) (hvs:∀j v,vs[j]? =some v→arv[voff+j]? =some v) (h1v:∀v∈vs,simple v=true):
 Calls Tryz.prog 139 #[.slice none 0 0,.int .i64 0,.slice (some ⟨vb,voff,none⟩) 1 vc] w (ND w w.heap.size 0 0 [] vs):=by
 have t34:Tryz.prog.underlying 33=some (.slice 136):=by kernel_rfl
 obtain⟨i0,z,hi0,hz0,hz9,hs9,hb9⟩:=NE
 have hln:∀w':World,(Builtin.lenOf (.slice (some ⟨vb,voff,none⟩) 1 vc)).run Tryz.prog w'= .ok 1 w':=fun w'=>by simp[Builtin.lenOf]
 have hfc:∀w':World,w'.heap=w.heap→(Builtin.firstCells i0.size 1 (.slice (some ⟨vb,voff,none⟩) 1 vc)).run Tryz.prog w'= .ok vs.toArray w':=fun w' hw'=>by
  have:=run_loadCells_list (P:=Tryz.prog) w' ⟨vb,voff,none⟩ vs (fun j v hj=>by
   rw[YD (w:=w) (by rw[hw']),Addr.add_lit,hV.size];exact hvs j v hj)
  rw[hvl]at this
  simpa [Builtin.firstCells,hs9] using this
 have hfit:Builtin.nextslicecap (0+1) 0*i0.bytes<=281474976710656:=growslice_fits (by omega) (by rw[hb9];omega)
 have hold:(Builtin.firstCells i0.size 0 (.slice none 0 0)).run Tryz.prog w.drew= .ok ([]:List Value).toArray w.drew:=by simp[Builtin.firstCells]
 have hGn:0+1<=grownCap w (0+1) 0 136:=grownCap_ge w _ _ _
 have hrun:=fun ty=>JO (P:=Tryz.prog) (w:=w) (ts:=#[33,33]) (ty:=ty) rfl rfl t34 hi0 hz0 hold (.inl ⟨_,t34⟩) hln (hfc w.drew rfl) (by omega) (by omega) hfit
 refine(NC _ none 0 0 _ ⟨vb,voff,none⟩ vc _ w _ rfl rfl (by omega) (by omega) (fun _=>rfl) hrun).mono fun e W he=> ?_
 obtain⟨rfl,rfl⟩:=he
 generalize grownCap w (0+1) 0 136=G at hGn
 obtain⟨n1,n2,n3⟩:=YF w.drew (.cells (([]++vs).toArray++Builtin.zeroCells z.cells (G - (0+1))) 136)
 refine⟨⟨w.heap.size,0,none⟩,G,_,rfl,hGn,rfl,Blk.new w.drew _ 136,?_,.inr rfl,fun m v hm=> ?_,fun x hx _=>n1 x hx,Nat.le_trans (Nat.le_succ _) (Nat.le_of_eq n3.symm),⟨rfl,rfl,rfl⟩⟩
 ·simp only[Array.size_append,List.size_toArray,List.length_append,size_zeroCells,hz9,hvl,Nat.zero_add]
  simp
  omega
 ·simp only[List.take_nil,List.drop_nil,List.nil_append,List.append_nil]at hm
  have hml:=(oE hm).1
  show(_:Array Value)[0+m]? =some v
  rw[Nat.zero_add,Array.getElem?_append_left (by simpa using hml),List.getElem?_toArray]
  simpa using hm
end Go.Am
