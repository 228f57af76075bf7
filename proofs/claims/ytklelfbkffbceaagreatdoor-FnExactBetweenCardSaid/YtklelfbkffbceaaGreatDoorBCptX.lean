
/- Runs of equal texts made one: the call. -/
import Derived.Test.YtklelfbkffbceaaGreatDoorBCpt
import Derived.Test.YtklelfbkffbceaaGreatDoorBOwnS
set_option linter.unusedVariables false
set_option linter.unusedSimpArgs false
set_option linter.unusedVariables false
set_option linter.unusedSimpArgs false
namespace Go.Am
open Go.Proofs Go.Shelf Go.RowKit Go.Lib Go.Sort
def US (D:List Nat):List Nat→Option (List Nat)
 |[0]=>some [1]
 |0::x::s=>if x∈D then some (1::D.idxOf x::s)else none
 |_=>none
theorem Gh (D:List Nat):Inj (US D):=by
 intro x y z hx hy
 have key:∀{x z},US D x=some z→(x=[0]∧z=[1])∨(∃j s,x=0::j::s∧j∈D∧z=1::D.idxOf j::s):=by
  intro x z h
  unfold US at h
  split at h
  ·simp at h;exact .inl ⟨rfl,h.symm⟩
  ·split at h
   ·rename_i hm;simp at h;exact .inr ⟨_,_,rfl,hm,h.symm⟩
   ·cases h
  ·cases h
 rcases key hx with⟨rfl,rfl⟩|⟨j,s,rfl,hj,rfl⟩ <;> rcases key hy with⟨rfl,h⟩|⟨j',s',rfl,hj',h⟩
 ·rfl
 ·simp at h
 ·simp at h
 ·simp only[List.cons.injEq,true_and]at h
  obtain⟨h,rfl⟩:=h
  have:j=j':=by
   have a1:=List.getElem_idxOf (List.idxOf_lt_length_of_mem hj)
   have a2:=List.getElem_idxOf (List.idxOf_lt_length_of_mem hj')
   rw[<-a1,<-a2];congr 1
  rw[this]
structure CompWalk (P:Program) (F G:FuncId):Prop where
 enters:∀args w,(callFunc F args).run P w= .ok (.enter F args) w
 none:∀w,Calls P F #[.slice none 0 0,.func (.func G) #[] #[]] w fun e w'=>e= .returned (.slice none 0 0)∧w'=w
 row:∀{w:World} {cls:Cls} {hdr:Hdr} {b off c0:Nat} {arr:Array Value} {E:TypeId} {fz:Nat×Nat} {ts:List (List UInt8)} (enc:Nat→Value),ts.length<=1048576→ts.length<=c0→w.heap[b]? =some (.cells arr E fz)→b<w.heap.size→
  (∀o,o<arr.size→¬(fz.1<=o∧o<fz.2))→cls b=some [0]→(∀x s,ts[x]? =some s→RepC w cls hdr (some [0,x,0]) (enc x) (.own 1 (yx s)))→(∀x,ts[x]? =Option.none→enc x= .slice Option.none 0 0)→
  OneCell enc→(∀j,j<ts.length→arr[off+j]? =some (enc j))→
  Calls P F #[.slice (some ⟨b,off,Option.none⟩) ts.length c0,.func (.func G) #[] #[]] w fun e w'=>e= .returned (.slice (some ⟨b,off,Option.none⟩) (jk (fun i=>ts.getD i []) ts.length).length c0)∧∃(m:Nat) (os:Array Obj),
   w'=sortWorld enc w b off m (jk (fun i=>ts.getD i []) ts.length++List.replicate (ts.length - (jk (fun i=>ts.getD i []) ts.length).length) ts.length).toArray os
set_option maxRecDepth 100000 in
theorem zin {P:Program} {F G:FuncId} (H:CompWalk P F G) {st:List Entry} {xs:List V} {r:V×List Entry} (h:Lu G st xs=some r):xC P F st xs r:=by
 intro w cls hdr vb us hgl hus hE hids hvars
 unfold Lu at h
 split at h
 ·rename_i f
  split at h
  ·rename_i l
   split at h
   ·rename_i hc
    obtain⟨rfl,h2⟩:=hc
    obtain⟨ts,hts,rfl⟩:=oM h
    have hl:=Vf hts
    have hll:l.length=ts.length:=by rw[hl];simp
    obtain⟨ul⟩:=us
    cases hus with
    |cons a0 hus=>cases hus with
     |cons a1 hus=>cases hus with
      |nil=>
       rename_i u0 u1
       have e0:u0=hdr [0]:=a0.one.2 _ rfl
       obtain⟨vs,rfl,hvs⟩:∃vs:List Value,u1= .func (.func f) #[] vs.toArray∧All2 (YE w cls hdr vb [.obj 1 l]) vs []:=a1.one
       cases hvs
       subst e0
       have hE0:zP w cls hdr vb [.obj 1 l] 0 (.obj 1 l):=hE 0
       obtain⟨A0,n0,c0,f1,f2,f3,f4,f5⟩:=Gt hE0
       subst f2
       refine .inl ⟨H.enters _ _,?_⟩
       obtain⟨L',hL'⟩:∃L',L'=(K9 ts).map fun s=>[C.own 1 (yx s)]:=⟨_,rfl⟩
       rw[<-hL']
       have hland:yy (.val false [.own 1 L'],[.dead])=(.val false [.ref 1],[.dead,.obj 1 L']):=rfl
       rw[hland,f1]
       have hst:∀id,get [Entry.dead,.obj 1 L'] id=if id=1 then .obj 1 L' else .dead:=fun id=>by
        match id with
        |0=>rfl
        |1=>rfl
        |n+2=>simp[get]
       have hun:∀e∈L',e.length=1:=fun e he=>by
        rw[hL']at he
        obtain⟨s,_,rfl⟩:=List.mem_map.1 he
        rfl
       have hD3:=za6 ts
       have hDl:∀x∈jk (fun i=>ts.getD i []) ts.length,x<ts.length:=fun x hx=>zil hx
       have hDn:=Ah (fun i=>ts.getD i []) ts.length
       have hDc:=zd4 (fun i=>ts.getD i []) ts.length
       rcases f5 with⟨rfl,f5,rfl⟩|⟨b,off,arr,rfl,fc,fB,fle,cs,fl,fcs,fsim,frep⟩
       ·have hts0:ts=[]:=List.eq_nil_of_length_eq_zero (by omega)
        subst hts0
        have hl0:l=[]:=by simpa using hl
        subst hl0
        have hL0:L'=[]:=by rw[hL'];rfl
        subst hL0
        refine(H.none w).mono fun e w' he=> ?_
        obtain⟨rfl,rfl⟩:=he
        obtain⟨cls',hdr',k1,k2,k3,k4⟩:=Gs (w:=w') (w':=w') (vb:=vb) (st:=[.obj 1 []]) (st':=[.dead,.obj 1 []]) (nid:=1) (A:=none) (cap:=0) (n:=0) (l:=[]) (sz:=1) (r:=US []) (tl:=[0]) (Nat.le_refl _) (Gh _) hst (Nat.le_refl _) ⟨rfl,rfl,rfl⟩ (cls:=cls) (hdr:=hdr)
         (fun _ _ _=>rfl) (by simp) rfl (Nat.le_refl _) (by simp) rfl (.inl ⟨rfl,rfl,rfl⟩)
        exact⟨cls',hdr',vb,k1,k2,k3,k4⟩
       ·have fB':=fB
        obtain⟨E,fz,hb,fz1,fz2,_⟩:=fB'
        have hblt:b<w.heap.size:=fB.lt
        have hcn:cs.length=ts.length:=by rw[fl];omega
        obtain⟨enc,henc⟩:∃enc:Nat→Value,enc=fun i:Nat=>(cs[i]?).getD (.slice none 0 0):=⟨_,rfl⟩
        have hrepx:∀x s,ts[x]? =some s→RepC w cls hdr (some [0,x,0]) (enc x) (.own 1 (yx s))∧cs[x]? =some (enc x):=fun x s hx=>by
         obtain⟨v,hv,hr⟩:=frep x 0 [.own 1 (yx s)] (.own 1 (yx s)) (by rw[hl,List.getElem?_map,hx];rfl) rfl
         rw[Nat.mul_one,Nat.add_zero]at hv
         have:enc x=v:=by rw[henc];simp[hv]
         rw[this]
         exact⟨hr,hv⟩
        have hone:OneCell enc:=fun x=>by
         rw[PG,henc]
         show Am.simple ((cs[x]?).getD (.slice none 0 0))=true
         cases hx:cs[x]? with
         |none=>rfl
         |some v=>exact fsim v (List.mem_of_getElem? hx)
        have hnone:∀x,ts[x]? =none→enc x= .slice none 0 0:=fun x hx=>by
         rw[henc]
         show(cs[x]?).getD _=_
         rw[List.getElem?_eq_none (by rw[hcn];exact List.getElem?_eq_none_iff.1 hx)]
         rfl
        have harr:∀j,j<ts.length→arr[off+j]? =some (enc j):=fun j hj=>by
         obtain⟨h3,h4⟩:=hrepx j _ (List.getElem?_eq_getElem hj)
         exact fcs j _ h4
        rw[hll]
        refine(H.row enc (by omega) (by omega) hb hblt fz2 fc (fun x s hx=>(hrepx x s hx).1) hnone hone harr).mono fun e w' he=> ?_
        obtain⟨rfl,m,os,rfl⟩:=he
        generalize jk (fun i=>ts.getD i []) ts.length=D at hD3 hDl hDn hDc ⊢
        have hdz:(D++List.replicate (ts.length - D.length) ts.length).toArray.size=ts.length:=by simp;omega
        have hdg:∀k x,D[k]? =some x→(D++List.replicate (ts.length - D.length) ts.length).toArray[k]! =x:=fun k x hk=>by
         have hkl:=(oE hk).1
         rw[getElem!_pos _ k (by omega)]
         have:(D++List.replicate (ts.length - D.length) ts.length)[k]? =some x:=by rw[List.getElem?_append_left hkl,hk]
         simpa using (oE this).2
        generalize (D++List.replicate (ts.length - D.length) ts.length).toArray=d' at hdz hdg ⊢
        have ho:=fun k hk hne=>Rx enc w b off m d' os k hk hne
        have hrow:=zb7 enc w b off m d' os hb hblt
        have hsz:w.heap.size<=(sortWorld enc w b off m d' os).heap.size:=by
         unfold sortWorld
         rw[Go.Sort.size_grow,Go.Proofs.size_putRow]
         exact Nat.le_add_right _ _
        have hio:vE w (sortWorld enc w b off m d' os):=⟨rfl,rfl,rfl⟩
        generalize sortWorld enc w b off m d' os=W at ho hrow hsz hio
        have hLl:L'.length=D.length:=by rw[hL',<-hD3,List.length_map,List.length_map]
        obtain⟨cls',hdr',k1,k2,k3,k4⟩:=Gs (w:=w) (w':=W) (vb:=vb) (st:=[.obj 1 l]) (nid:=1) (A:=some ⟨b,off,none⟩) (cap:=c0) (n:=D.length) (r:=US D) (tl:=[0]) (Nat.le_refl _) (Gh D) hst hsz hio (cls:=cls) (hdr:=hdr)
         (fun b' hb' hx=>ho b' hb' fun e=>by subst e;exact hx _ fc rfl) (by simp) hLl (by omega) hun rfl
         (.inr ⟨⟨b,off,none⟩,putCells enc off d' arr,rfl,rfl,.inr ⟨hblt,[0],fc,rfl⟩,⟨E,fz,hrow,fz1,fun o ho'=>fz2 o (by simpa [putCells] using ho'),by omega⟩,by simpa [putCells] using fle,fun k j e c hk hj=>by
          rw[hL',<-hD3,List.map_map,List.getElem?_map]at hk
          obtain⟨x,hx,rfl⟩:=oM hk
          have hxl:=hDl x (List.mem_of_getElem? hx)
          have hkl:=(oE hx).1
          cases j with
          |succ j=>exact absurd (show([]:List C)[j]? =some c from hj) (by simp)
          |zero=>
           have hc:some (C.own 1 (yx (ts.getD x [])))=some c:=hj
           injection hc with hc
           subst hc
           refine⟨enc x,?_,.inr (.inl ⟨[0,x,0],?_,by simp,fun s=> ?_⟩)⟩
           ·show(putCells enc off d' arr)[off+(k*1+0)]? =_
            rw[Nat.mul_one,Nat.add_zero,putCells,Array.getElem?_mapIdx,harr k (by omega),Option.map_some,if_pos ⟨by omega,by omega⟩,Nat.add_sub_cancel_left,hdg k x hx]
           ·rw[List.getD_eq_getElem?_getD,List.getElem?_eq_getElem hxl]
            exact(hrepx x _ (List.getElem?_eq_getElem hxl)).1
           ·simp only[US,List.cons_append,List.nil_append]
            rw[if_pos (List.mem_of_getElem? hx)]
            obtain⟨hk1,hk2⟩:=oE hx
            rw[<-hk2,List.Nodup.idxOf_getElem hDn]⟩)
        exact⟨cls',hdr',vb,k1,k2,k3,k4⟩
   ·cases h
  ·cases h
 ·cases h
end Go.Am
