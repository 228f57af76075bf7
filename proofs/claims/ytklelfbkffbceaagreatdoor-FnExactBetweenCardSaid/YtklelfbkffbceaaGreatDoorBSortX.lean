
/- The functions of the program in plain Lean, and that the machine answers as they do; conditions at each theorem. -/
import Derived.Test.YtklelfbkffbceaaGreatDoorBSortW
import Derived.Test.YtklelfbkffbceaaGreatDoorBOwnS
set_option linter.unusedVariables false
set_option linter.unusedSimpArgs false
set_option linter.unusedVariables false
set_option linter.unusedSimpArgs false
namespace Go.Am
open Go.Proofs Go.Shelf Go.RowKit Go.Lib Go.Sort
def WV (D:List Nat):List Nat→Option (List Nat)
 |[0]=>some [0]
 |0::x::s=>if x∈D then some (0::D.idxOf x::s)else none
 |_=>none
theorem zck (D:List Nat):Inj (WV D):=by
 intro x y z hx hy
 have key:∀{x z},WV D x=some z→(x=[0]∧z=[0])∨(∃j s,x=0::j::s∧j∈D∧z=0::D.idxOf j::s):=by
  intro x z h
  unfold WV at h
  split at h
  ·simp at h;exact .inl ⟨rfl,h.symm⟩
  ·split at h
   ·rename_i hm;simp at h;exact .inr ⟨_,_,rfl,hm,h.symm⟩
   ·cases h
  ·cases h
 rcases key hx with⟨rfl,rfl⟩|⟨j,s,rfl,hj,rfl⟩ <;> rcases key hy with⟨rfl,h⟩|⟨j',s',rfl,hj',h⟩
 ·rfl
 ·simp at h
 ·simp at h
 ·simp only[List.cons.injEq,true_and]at h
  obtain⟨h,rfl⟩:=h
  have:j=j':=by
   have a1:=List.getElem_idxOf (List.idxOf_lt_length_of_mem hj)
   have a2:=List.getElem_idxOf (List.idxOf_lt_length_of_mem hj')
   rw[<-a1,<-a2];congr 1
  rw[this]
theorem Do {ts:List (List UInt8)} {d':Array Nat} (hp:PermIn 0 (Array.range ts.length).size (Array.range ts.length) d') (hs:SortedIn (ltOf fun i j=>compareBytes (ts.getD i []) (ts.getD j [])) 0 (Array.range ts.length).size d'):
 d'.size=ts.length∧d'.toList.Perm (List.range ts.length)∧d'.toList.map (fun i=>ts.getD i [])=vZ ts:=by
 obtain⟨h1,_,h3⟩:=hp
 have hz:(Array.range ts.length).size=ts.length:=by simp
 rw[hz]at h1 h3 hs
 have e1:d'.extract 0 ts.length=d':=by rw[<-h1];simp
 have e2:(Array.range ts.length).extract 0 ts.length=Array.range ts.length:=by conv=>lhs;rw[<-hz];simp
 rw[e1,e2]at h3
 have h3':d'.toList.Perm (List.range ts.length):=by simpa using h3
 refine⟨h1,h3',M2 ?_ (UD ts) ?_⟩
 ·unfold Ve
  rw[List.pairwise_map,List.pairwise_iff_getElem]
  intro i j hi hj hij
  have hj':j<ts.length:=by rw[<-h1];simpa using hj
  have:=hs i j (Nat.zero_le _) hij hj'
  simp only[ltOf,decide_eq_false_iff_not]at this
  rw[getElem!_pos d' i (by simpa using hi),getElem!_pos d' j (by simpa using hj)]at this
  simpa using this
 ·refine(h3'.map _).trans ((List.Perm.of_eq ?_).trans (WX ts).symm)
  apply List.ext_getElem?
  intro k
  rw[List.getElem?_map]
  by_cases hk:k<ts.length
  ·simp[hk]
  ·rw[List.getElem?_eq_none (by simpa using hk),List.getElem?_eq_none (by simpa using hk)];rfl
theorem zm4 (tx:Nat→List UInt8):SWO (ltOf fun i j=>compareBytes (tx i) (tx j)) where
 irrefl x:=by simp[ltOf,VD]
 trans x y z h1 h2:=by
  simp only[ltOf,decide_eq_true_eq]at*
  exact Q3 h1 h2
 ntrans x y z h1 h2:=by
  simp only[ltOf,decide_eq_false_iff_not]at*
  exact PH h2 h1
theorem znk (W:World):W=Go.Sort.grow (W.drewN 0) #[]:=by rw[Go.Sort.grow_empty];rfl
set_option maxHeartbeats 1000000 in
theorem zg6 {w:World} {cls:Cls} {hdr:Hdr} {b off c0:Nat} {arr:Array Value} {E:TypeId} {fz:Nat×Nat} {ts:List (List UInt8)} (enc:Nat→Value) (hn:ts.length<=1048576) (hb:w.heap[b]? =some (.cells arr E fz)) (hblt:b<w.heap.size)
 (fz2:∀o,o<arr.size→¬(fz.1<=o∧o<fz.2)) (fc:cls b=some [0]) (hrep:∀x s,ts[x]? =some s→RepC w cls hdr (some [0,x,0]) (enc x) (.own 1 (yx s))) (hnone:∀x,ts[x]? =none→enc x= .slice none 0 0)
 (hone:OneCell enc) (harr:∀j,j<ts.length→arr[off+j]? =some (enc j)):
 Calls Tryz.prog 93 #[.slice (some ⟨b,off,none⟩) ts.length c0,.func (.func 94) #[] #[]] w fun e w'=>e= .returned (.tuple #[])∧∃(d':Array Nat) (m:Nat) (os:Array Obj),
  d'.size=ts.length∧d'.toList.Perm (List.range ts.length)∧d'.toList.map (fun i=>ts.getD i [])=vZ ts∧w'=sortWorld enc w b off m d' os:=by
 have hz:(Array.range ts.length).size=ts.length:=by simp
 have hd:∀j,j<ts.length→(Array.range ts.length)[j]! =j:=fun j hj=>by rw[getElem!_pos _ j (by rw[hz];exact hj)];simp
 have hts:=fun d'=>Do (ts:=ts) (d':=d')
 generalize Array.range ts.length=d at hz hd hts
 have hH:Holds enc w b off d:=fun j hj=>by
  rw[hz]at hj
  have ha:=harr j hj
  rw[hd j hj]
  refine⟨by simp[World.cell?,hb,ha],?_⟩
  have:=fz2 (off+j) (Array.getElem?_eq_some_iff.1 ha).1
  simp[World.frozen?,hb]
  omega
 have hcmp:CmpLays1 Tryz.prog 94 #[] enc (fun i j=>compareBytes (ts.getD i []) (ts.getD j [])) b off d.size w:=fun m os dk hs x y=>by
  have ho:=fun k hk hne=>Rx enc w b off m dk os k hk hne
  generalize sortWorld enc w b off m dk os=W at ho
  have rd:∀x,∃r:ByteArray,(Extern.Bytes.bytesOf (enc x)).run Tryz.prog W= .ok r W∧r.data.toList=ts.getD x []:=fun x=>by
   rw[List.getD_eq_getElem?_getD]
   cases hx:ts[x]? with
   |none=>rw[hnone x hx];exact⟨.empty,rfl,rfl⟩
   |some s=>exact zjd (hrep x s hx) (fun z hz=>by rw[fc]at hz;simp at hz) (by rw[fc];simp) ho
  refine(zcj _ _ _ _ _ (rd x) (rd y)).mono fun e w' he=>⟨he.1,0,#[],?_⟩
  rw[he.2]
  exact znk W
 have e120:VC.f 6=93:=rfl
 have hh:=Any.slices_SortFunc (ρ:=VC) zci enc hone _ (zm4 _) 94 #[] b off c0 d w (Go.Proofs.enters_of Tryz.func94 (by kernel_rfl) rfl) hcmp hH hblt (by omega)
 rw[e120]at hh
 rw[show d.size=ts.length from hz]at hh hts
 refine hh.mono fun e w' he=> ?_
 obtain⟨he,d',m,os,hp,hs,hw⟩:=he
 obtain⟨h1,h2,h3⟩:=hts d' hp hs
 exact⟨he,d',m,os,h1,h2,h3,hw⟩
set_option maxRecDepth 100000 in
theorem zg7 {st:List Entry} {xs:List V} {r:V×List Entry} (h:Hr 94 st xs=some r):xC Tryz.prog 93 st xs r:=by
 intro w cls hdr vb us hgl hus hE hids hvars
 unfold Hr at h
 split at h
 ·rename_i f
  split at h
  ·rename_i l
   split at h
   ·rename_i hc
    obtain⟨rfl,h2⟩:=hc
    obtain⟨ts,hts,rfl⟩:=oM h
    have hl:=Vf hts
    have hll:l.length=ts.length:=by rw[hl];simp
    obtain⟨ul⟩:=us
    cases hus with
    |cons a0 hus=>cases hus with
     |cons a1 hus=>cases hus with
      |nil=>
       rename_i u0 u1
       have e0:u0=hdr [0]:=a0.one.2 _ rfl
       obtain⟨vs,rfl,hvs⟩:∃vs:List Value,u1= .func (.func 94) #[] vs.toArray∧All2 (YE w cls hdr vb [.obj 1 l]) vs []:=a1.one
       cases hvs
       subst e0
       have hE0:zP w cls hdr vb [.obj 1 l] 0 (.obj 1 l):=hE 0
       obtain⟨A0,n0,c0,f1,f2,f3,f4,f5⟩:=Gt hE0
       subst f2
       refine .inl ⟨Go.Proofs.enters_of Tryz.func93 (by kernel_rfl) rfl _ _,?_⟩
       have hland:yy (.tup [],[.obj 1 ((vZ ts).map fun s=>[.own 1 (yx s)])])=(.tup [],[.obj 1 ((vZ ts).map fun s=>[.own 1 (yx s)])]):=rfl
       rw[hland,f1]
       have hsl:(vZ ts).length=ts.length:=(WX ts).length_eq
       rcases f5 with⟨rfl,f5,rfl⟩|⟨b,off,arr,rfl,fc,fB,fle,cs,fl,fcs,fsim,frep⟩
       ·have hts0:ts=[]:=List.eq_nil_of_length_eq_zero (by omega)
        subst hts0
        have hl0:l=[]:=by simpa using hl
        subst hl0
        have hh:=AnyF.slices_SortFunc_none (ρ:=VC) { zci with } none 0 (.func (.func 94) #[] #[]) w
        rw[show VC.f 6=93 from rfl]at hh
        refine hh.mono fun e w' he=> ?_
        obtain⟨rfl,rfl⟩:=he
        exact⟨cls,hdr,vb,Keep.refl _ _ _ _ _ _,fun b _ hc=>⟨rfl,hc⟩,⟨[],rfl,.nil⟩,hE⟩
       ·have fB':=fB
        obtain⟨E,fz,hb,fz1,fz2,_⟩:=fB'
        have hblt:b<w.heap.size:=fB.lt
        have hcn:cs.length=ts.length:=by rw[fl];omega
        obtain⟨enc,henc⟩:∃enc:Nat→Value,enc=fun i:Nat=>(cs[i]?).getD (.slice none 0 0):=⟨_,rfl⟩
        have hrepx:∀x s,ts[x]? =some s→RepC w cls hdr (some [0,x,0]) (enc x) (.own 1 (yx s))∧cs[x]? =some (enc x):=fun x s hx=>by
         obtain⟨v,hv,hr⟩:=frep x 0 [.own 1 (yx s)] (.own 1 (yx s)) (by rw[hl,List.getElem?_map,hx];rfl) rfl
         rw[Nat.mul_one,Nat.add_zero]at hv
         have:enc x=v:=by rw[henc];simp[hv]
         rw[this]
         exact⟨hr,hv⟩
        have hone:OneCell enc:=fun x=>by
         rw[PG,henc]
         show Am.simple ((cs[x]?).getD (.slice none 0 0))=true
         cases hx:cs[x]? with
         |none=>rfl
         |some v=>exact fsim v (List.mem_of_getElem? hx)
        have hnone:∀x,ts[x]? =none→enc x= .slice none 0 0:=fun x hx=>by
         rw[henc]
         show(cs[x]?).getD _=_
         rw[List.getElem?_eq_none (by rw[hcn];exact List.getElem?_eq_none_iff.1 hx)]
         rfl
        have harr:∀j,j<ts.length→arr[off+j]? =some (enc j):=fun j hj=>by
         obtain⟨h3,h4⟩:=hrepx j _ (List.getElem?_eq_getElem hj)
         exact fcs j _ h4
        rw[hll]
        refine(zg6 enc (by omega) hb hblt fz2 fc (fun x s hx=>(hrepx x s hx).1) hnone hone harr).mono fun e w' he=> ?_
        obtain⟨rfl,d',m,os,hd1,hd2,hd3,rfl⟩:=he
        have ho:=fun k hk hne=>Rx enc w b off m d' os k hk hne
        have hrow:=zb7 enc w b off m d' os hb hblt
        have hsz:w.heap.size<=(sortWorld enc w b off m d' os).heap.size:=by
         unfold sortWorld
         rw[Go.Sort.size_grow,Go.Proofs.size_putRow]
         exact Nat.le_add_right _ _
        have hio:vE w (sortWorld enc w b off m d' os):=⟨rfl,rfl,rfl⟩
        generalize sortWorld enc w b off m d' os=W at ho hrow hsz hio
        have hinj:=zck d'.toList
        have hD:∀i x,d'.toList[i]? =some x→x<ts.length∧i<ts.length∧∀s,WV d'.toList ([0,x,0]++s)=some ([0,i,0]++s):=fun i x hx=>by
         obtain⟨hi,hx'⟩:=oE hx
         have hm:=List.mem_of_getElem? hx
         have hnd:d'.toList.Nodup:=hd2.nodup_iff.2 List.nodup_range
         refine⟨List.mem_range.1 (hd2.mem_iff.1 hm),by rw[<-hd1];simpa using hi,fun s=> ?_⟩
         simp only[WV,List.cons_append,List.nil_append]
         rw[if_pos hm,<-hx',List.Nodup.idxOf_getElem hnd]
        have hr0:WV d'.toList []=none:=rfl
        have hr1:WV d'.toList [0]=some [0]:=rfl
        refine⟨mvC cls (WV d'.toList),mvH hdr (WV d'.toList),vb,⟨fun b' hb' hn=>⟨ho b' hb' fun e=> ?_,by simp[mvC,hn]⟩,fun id hid c hg=> ?_,fun id hid z x hg=> ?_,hsz,hio⟩,fun b' hb' hx=>⟨ho b' hb' fun e=> ?_,by simp[mvC,hx,hr0]⟩,⟨[],rfl,.nil⟩,fun id=> ?_⟩
        ·rw[e,fc]at hn;cases hn
        ·match id,hid with
         |0,_=>cases hg
        ·match id,hid with
         |0,_=>
          have hg':some (1,((vZ ts).map fun s=>[C.own 1 (yx s)]).length)=some (z,x):=hg
          injection hg' with hg'
          injection hg' with g1 g2
          subst g1 g2
          exact⟨⟨l.length,rfl,by rw[List.length_map,hsl,hll];exact Nat.le_refl _⟩,Zt hinj hr1⟩
        ·rw[e,fc]at hx;simp at hx
        ·match id with
         |0=>
          show RepC W _ _ (some [0]) (mvH hdr (WV d'.toList) [0]) (.own 1 ((vZ ts).map fun s=>[.own 1 (yx s)]))
          rw[Zt hinj hr1,f1]
          have hel:∀(i j:Nat) (e:List C) (c:C),((vZ ts).map fun s=>[C.own 1 (yx s)])[i]? =some e→e[j]? =some c→∃(x:Nat) (s:List UInt8),d'.toList[i]? =some x∧ts[x]? =some s∧j=0∧c=C.own 1 (yx s):=fun i j e c hi hj=>by
           rw[<-hd3,List.map_map,List.getElem?_map]at hi
           obtain⟨x,hx,rfl⟩:=oM hi
           have hxl:=(hD i x hx).1
           cases j with
           |succ j=>exact absurd (show([]:List C)[j]? =some c from hj) (by simp)
           |zero=>
            refine⟨x,ts[x],hx,List.getElem?_eq_getElem hxl,rfl,?_⟩
            have:some (C.own 1 (yx (ts.getD x [])))=some c:=hj
            injection this with this
            rw[<-this,List.getD_eq_getElem?_getD,List.getElem?_eq_getElem hxl]
            rfl
          refine RepC.own [0] _ _ _ 1 _ (fun i j=>enc (d'.toList.getD i 0)) ?_ ?_ ?_ ?_ (.inr ⟨⟨b,off,none⟩,putCells enc off d' arr,rfl,rfl,by simp[mvC,fc,hr1],⟨E,fz,hrow,fz1,?_,by omega⟩,?_,?_⟩) ?_
          ·rw[Zt hinj hr1,f1]
          ·rw[List.length_map,hsl,hll]
          ·exact f3
          ·intro e he
           obtain⟨s,_,rfl⟩:=List.mem_map.1 he
           rfl
          ·intro o ho'
           exact fz2 o (by simpa [putCells] using ho')
          ·simpa [putCells] using fle
          ·intro i j e c hi hj
           obtain⟨x,s,hx,hs,rfl,rfl⟩:=hel i j e c hi hj
           have hil:=(hD i x hx).2.1
           show(putCells enc off d' arr)[off+(i*1+0)]? =_
           have hgd:d'[off+i - off]! =x:=by
            rw[Nat.add_sub_cancel_left,getElem!_pos d' i (by omega)]
            have:=hx
            rw[Array.getElem?_toList,Array.getElem?_eq_getElem (by omega)]at this
            injection this
           rw[Nat.mul_one,Nat.add_zero,putCells,Array.getElem?_mapIdx,harr i hil,Option.map_some,if_pos ⟨by omega,by omega⟩,hgd,List.getD_eq_getElem?_getD,hx]
           rfl
          ·intro i j e c hi hj
           obtain⟨x,s,hx,hs,rfl,rfl⟩:=hel i j e c hi hj
           rw[List.getD_eq_getElem?_getD,hx]
           refine(hrepx x s hs).1.mv (r:=WV d'.toList) (hD i x hx).2.2 (fun b' hb' hb2=>ho b' hb' fun e=> ?_) (fun b' hb'=>rfl) (fun s'=>Zt hinj ((hD i x hx).2.2 s'))
           rw[e,fc]at hb2
           rcases hb2 with hb2|⟨s',hb2⟩
           ·cases hb2
           ·simp at hb2
         |n+1=>simp[get];trivial
   ·cases h
  ·cases h
 ·cases h
end Go.Am
