
/- Own slices of texts: read flat, read in worlds that a sort passes through. -/
import Derived.Test.YtklelfbkffbceaaGreatDoorBAmB
import Derived.Test.YtklelfbkffbceaaGreatDoorBAmC
import Derived.Test.YtklelfbkffbceaaGreatDoorBAmD
import Derived.Test.YtklelfbkffbceaaGreatDoorBSrt
import Derived.Shelf.SlSortCmp.Kit1
set_option linter.unusedVariables false
set_option linter.unusedSimpArgs false
set_option linter.unusedVariables false
set_option linter.unusedSimpArgs false
namespace Go.Am
open Go.Proofs Go.Shelf Go.RowKit Go.Lib Go.Sort
section
variable {P:Program} {w:World} {cls:Cls} {hdr:Hdr} {vb:Nat→Nat} {st:List Entry}
theorem Gs {st':List Entry} {nid:Nat} {w':World} {l:List (List C)} {sz n cap:Nat} {A:Option Addr} {r:List Nat→Option (List Nat)} {tl:List Nat} (hnid:st.length<=nid)
 (hinj:Inj r) (hst:∀id,get st' id=if id=nid then .obj sz l else .dead) (hsize:w.heap.size<=w'.heap.size) (hio:vE w w')
 (hheap:∀b,b<w.heap.size→(∀x,cls b=some x→x≠tl)→w'.heap[b]? =w.heap[b]?) (htl:tl≠[])
 (hl:l.length=n) (hc:n<=cap) (hs:∀e∈l,e.length=sz) (hr0:r []=none)
 (hA:(A=none∧n=0∧cap=0)∨∃q arr,A=some q∧q.spot=none∧(q.block=w.heap.size∨(q.block<w.heap.size∧∃x,cls q.block=some x∧r x=some [nid]))∧Blk sz w' q.block arr∧q.off+cap*sz<=arr.size∧
  ∀i j e c,l[i]? =some e→e[j]? =some c→∃u,arr[q.off+(i*sz+j)]? =some u∧MF w cls hdr r tl [nid,i,j] u c):
 ∃cls' hdr',Keep w cls hdr vb st w' cls' hdr' vb st' (fun id=>id<st.length)∧(∀b,b<w.heap.size→cls b=some []→w'.heap[b]? =w.heap[b]?∧cls' b=some [])∧
  yq w' cls' hdr' vb st' (.slice A n cap) (.val false [.ref nid])∧∀id,zP w' cls' hdr' vb st' id (get st' id):=by
 have hcl:∀b,b<w.heap.size→(fun b=>if b=w.heap.size then some [nid]else mvC cls r b) b=mvC cls r b:=fun b hb=>by simp only;rw[if_neg (by omega)]
 have hhd:∀x,x≠[nid]→(fun x=>if x=[nid]then Value.slice A n cap else mvH hdr r x) x=mvH hdr r x:=fun x hx=>by simp only;rw[if_neg hx]
 generalize hcls':(fun b=>if b=w.heap.size then some [nid]else mvC cls r b)=cls' at hcl
 generalize hhdr':(fun x=>if x=[nid]then Value.slice A n cap else mvH hdr r x)=hdr' at hhd
 have hh0:hdr' [nid]= .slice A n cap:=by rw[<-hhdr'];simp
 have hro:∀b,b<w.heap.size→cls b=none→w'.heap[b]? =w.heap[b]?∧cls' b=none:=fun b hb hn=>
  ⟨hheap b hb (fun x hx=>by rw[hn]at hx;cases hx),by rw[hcl b hb];simp[mvC,hn]⟩
 refine⟨cls',hdr',⟨hro,fun id hid c hg=> ?_,fun id hid z x hg=> ?_,hsize,hio⟩,fun b hb hx=>⟨hheap b hb fun x hx'=>by rw[hx]at hx';injection hx' with hx';rw[<-hx'];exact Ne.symm htl,by rw[hcl b hb];simp[mvC,hx,hr0]⟩,zk.val ⟨rfl,fun _ _=>hh0.symm⟩,fun id=> ?_⟩
 ·rw[hst,if_neg (by omega)]at hg;cases hg
 ·rw[hst,if_neg (by omega)]at hg;cases hg
 ·rw[hst]
  split
  ·rename_i e
   subst e
   show RepC w' cls' hdr' (some [id]) (hdr' [id]) (.own sz l)
   rw[hh0]
   refine RepC.own [id] A n cap sz l (fun i j=>match A with |some q=>(match w'.heap[q.block]? with |some (.cells arr _ _)=>(arr[q.off+(i*sz+j)]?).getD undef|_=>undef)|none=>undef) hh0 hl hc hs ?_ (fun i j e c hi hj=> ?_)
   ·rcases hA with h|⟨q,arr,rfl,hsp,hq,hB,hle,hcells⟩
    ·exact .inl h
    ·refine .inr ⟨q,arr,rfl,hsp,?_,hB,hle,fun i j e c hi hj=> ?_⟩
     ·rcases hq with hq|⟨hq,x,hx,hr⟩
      ·rw[<-hcls',hq];simp
      ·rw[hcl _ hq];simp[mvC,hx,hr]
     ·obtain⟨u,hu,_⟩:=hcells i j e c hi hj
      obtain⟨E,fz,hE,_⟩:=hB
      simp only[hE,hu,Option.getD_some]
   ·rcases hA with⟨_,h0,_⟩|⟨q,arr,rfl,hsp,hq,hB,hle,hcells⟩
    ·have:l=[]:=List.eq_nil_of_length_eq_zero (hl.trans h0)
     subst this;simp at hi
    ·obtain⟨u,hu,hg⟩:=hcells i j e c hi hj
     obtain⟨E,fz,hE,_⟩:=hB
     simp only[hE,hu,Option.getD_some]
     rcases hg with⟨_,hr⟩|⟨t,hr,ht,hm⟩|⟨z,rfl,rfl⟩
     ·exact hr.free (fun b hb hn=>(hro b hb hn).1) hcl
     ·refine hr.mv hm (fun b hb hx=> ?_) hcl (fun s=> ?_)
      ·rcases hx with hn|⟨s,hx⟩
       ·exact(hro b hb hn).1
       ·exact hheap b hb fun x hx'=>by rw[hx]at hx';injection hx' with hx';rw[<-hx'];exact ht s
      ·rw[hhd _ (by simp)];exact Zt hinj (hm s)
     ·exact .nown _ _
  ·trivial
theorem Gt {id sz:Nat} {l:List (List C)} (h:zP w cls hdr vb st id (.obj sz l)):∃A n cap,hdr [id]= .slice A n cap∧n=l.length∧n<=cap∧(∀e∈l,e.length=sz)∧
 ((A=none∧n=0∧cap=0)∨∃(b off:Nat) (arr:Array Value),A=some ⟨b,off,none⟩∧cls b=some [id]∧Blk sz w b arr∧off+cap*sz<=arr.size∧
  ∃cs:List Value,cs.length=l.length*sz∧(∀m v,cs[m]? =some v→arr[off+m]? =some v)∧(∀v∈cs,simple v=true)∧
   ∀(i j:Nat) e c,l[i]? =some e→e[j]? =some c→∃v,cs[i*sz+j]? =some v∧RepC w cls hdr (some [id,i,j]) v c):=by
 obtain⟨A,n,cap,h1,h2,h3,h4,h5⟩:=qi h
 refine⟨A,n,cap,h1,h2,h3,h4,?_⟩
 rcases h5 with h5|⟨q,arr,rfl,hsp,hcl,hB,hle,hcells⟩
 ·exact .inl h5
 ·obtain⟨b,off,sp⟩:=q
  simp only at hsp hcl hB hle hcells
  subst hsp
  refine .inr ⟨b,off,arr,rfl,hcl,hB,hle,?_⟩
  obtain⟨cs,n1,n2,n3⟩:=W2 l h4 (fun i j=>(arr[off+(i*sz+j)]?).getD undef)
  have hcell:∀i j,i<l.length→j<sz→∃e c,l[i]? =some e∧e[j]? =some c∧∃v,arr[off+(i*sz+j)]? =some v∧RepC w cls hdr (some [id,i,j]) v c:=fun i j hi hj=>by
   have he:=List.getElem?_eq_getElem hi
   have hl:=h4 _ (List.getElem_mem hi)
   obtain⟨us,hul,huc,hur⟩:=hcells i _ he
   have hc':(l[i])[j]? =some ((l[i])[j]'(by omega)):=by simp
   have hu':us[j]? =some us[j]:=by simp
   exact⟨_,_,he,hc',us[j],huc j _ hu',hur j _ _ hu' hc'⟩
  refine⟨cs,n1,fun m v hm=> ?_,fun v hv=> ?_,fun i j e c hi hj=> ?_⟩
  ·obtain⟨i,j,hi,hj,rfl,rfl⟩:=n3 m v hm
   obtain⟨_,_,_,_,v,hv,_⟩:=hcell i j hi hj
   rw[hv];rfl
  ·obtain⟨m,hm,rfl⟩:=List.mem_iff_getElem.1 hv
   obtain⟨i,j,hi,hj,_,he⟩:=n3 m _ (List.getElem?_eq_getElem hm)
   obtain⟨_,_,_,_,v,hv',hr⟩:=hcell i j hi hj
   rw[he,hv']
   exact hr.simple
  ·have hi':=(oE hi).1
   have hj':j<sz:=by
    have:=(oE hj).1
    have:=h4 e (List.mem_of_getElem? hi)
    omega
   obtain⟨e2,c2,g1,g2,v,hv,hrr⟩:=hcell i j hi' hj'
   rw[hi]at g1;injection g1 with g1;subst g1
   rw[hj]at g2;injection g2 with g2;subst g2
   exact⟨v,by rw[n2 i j hi' hj',hv];rfl,hrr⟩
end
theorem PG (v:Value):v.oneCell'=Am.simple v:=by cases v <;> rfl
section
variable {w:World} {cls:Cls} {hdr:Hdr}
theorem Rx {α:Type} [Inhabited α] (enc:α→Value) (w:World) (b off m:Nat) (dk:Array α) (os:Array Obj) (k:Nat) (hk:k<w.heap.size) (hne:k≠b):(sortWorld enc w b off m dk os).heap[k]? =w.heap[k]? :=by
 unfold sortWorld
 rw[heap_grow_old _ _ (by rw[Go.Proofs.size_putRow];exact hk)]
 simp only[putRow,mapBlock,Array.getElem?_modify]
 rw[if_neg (fun e=>hne e.symm)]
 rfl
theorem zb7 {α:Type} [Inhabited α] (enc:α→Value) (w:World) (b off m:Nat) (dk:Array α) (os:Array Obj) {arr:Array Value} {E:TypeId} {fz:Nat×Nat} (hb:w.heap[b]? =some (.cells arr E fz)) (hlt:b<w.heap.size):
 (sortWorld enc w b off m dk os).heap[b]? =some (.cells (putCells enc off dk arr) E fz):=by
 unfold sortWorld
 rw[heap_grow_old _ _ (by rw[Go.Proofs.size_putRow];exact hlt)]
 simp only[putRow,mapBlock,Array.getElem?_modify]
 rw[if_pos trivial,show(Sort.ahead w m).heap=w.heap from rfl,hb]
 rfl
theorem Gu:∀s:List UInt8,bytesOf (yx s)=some s
 |[]=>rfl
 |b::s=>by
  have ih:=Gu s
  unfold yx at ih ⊢
  have hb:b.toNat<256:=b.toNat_lt
  simp only[List.map_cons,bytesOf,ih,Option.map_some]
  rw[if_pos ⟨by omega,by omega⟩]
  simp
theorem zb8:∀s:List UInt8,wq (yx s)=yx s
 |[]=>rfl
 |b::s=>by
  have ih:=zb8 s
  unfold yx at ih ⊢
  simp only[List.map_cons,wq,yC,jQ,ih]
theorem Mu (s:List UInt8):jQ (.own 1 (yx s))= .seq (yx s):=by
 simp only[jQ,zb8]
theorem zjd {P:Program} {W:World} {t:List Nat} {u:Value} {s:List UInt8} {b:Nat} (h:RepC w cls hdr (some t) u (.own 1 (yx s))) (hb:∀x,cls b=some (t++x)→False) (hb0:cls b≠none)
 (ho:∀k,k<w.heap.size→k≠b→W.heap[k]? =w.heap[k]?):∃r:ByteArray,(Extern.Bytes.bytesOf u).run P W= .ok r W∧r.data.toList=s:=by
 have h2:RepC W (fun _=>none) hdr none u (jQ (.own 1 (yx s))):=h.view (fun k hk hn=>⟨ho k hk fun e=>hb0 (by rw[<-e];exact hn),rfl⟩) fun t' ht k s' hk hc=>by
  injection ht with ht
  subst ht
  exact⟨ho k hk fun e=>hb s' (by rw[<-e];exact hc),rfl⟩
 rw[Mu]at h2
 exact Q7 h2 (Gu s)
end
end Go.Am
