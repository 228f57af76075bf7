
/- The functions of the program in plain Lean, and that the machine answers as they do; conditions at each theorem. -/
import Derived.Test.YtklelfbkffbceaaGreatDoorBInsW
import Derived.Test.YtklelfbkffbceaaGreatDoorBAmB
import Derived.Test.YtklelfbkffbceaaGreatDoorBAmD
import Derived.Test.YtklelfbkffbceaaGreatDoorBAmC
set_option linter.unusedVariables false
set_option linter.unusedSimpArgs false
set_option linter.unusedVariables false
set_option linter.unusedSimpArgs false
namespace Go.Am
open Go.Proofs Go.Shelf Go.RowKit Go.Lib
section
variable {P:Program} {w:World} {cls:Cls} {hdr:Hdr} {vb:Nat→Nat} {st:List Entry}
theorem EI {st':List Entry} {nid:Nat} {w':World} {l:List (List C)} {sz n cap:Nat} {A:Option Addr} {r:List Nat→Option (List Nat)} {tl:List Nat} (hnid:st.length<=nid)
 (hinj:Inj r) (hst:∀id,get st' id=if id=nid then .obj sz l else .dead) (hsize:w.heap.size<=w'.heap.size) (hio:vE w w')
 (hheap:∀b,b<w.heap.size→(∀x,cls b=some x→x≠tl)→w'.heap[b]? =w.heap[b]?) (htl:tl≠[])
 (hl:l.length=n) (hc:n<=cap) (hs:∀e∈l,e.length=sz) (hr0:r []=none)
 (hA:(A=none∧n=0∧cap=0)∨∃q arr,A=some q∧q.spot=none∧(q.block=w.heap.size∨(q.block<w.heap.size∧∃x,cls q.block=some x∧r x=some [nid]))∧Blk sz w' q.block arr∧q.off+cap*sz<=arr.size∧
  ∀i j e c,l[i]? =some e→e[j]? =some c→∃u,arr[q.off+(i*sz+j)]? =some u∧MF w cls hdr r tl [nid,i,j] u c):
 ∃cls' hdr',Keep w cls hdr vb st w' cls' hdr' vb st' (fun id=>id<st.length)∧(∀b,b<w.heap.size→cls b=some []→w'.heap[b]? =w.heap[b]?∧cls' b=some [])∧
  yq w' cls' hdr' vb st' (.slice A n cap) (.val false [.ref nid])∧∀id,zP w' cls' hdr' vb st' id (get st' id):=by
 have hcl:∀b,b<w.heap.size→(fun b=>if b=w.heap.size then some [nid]else mvC cls r b) b=mvC cls r b:=fun b hb=>by simp only;rw[if_neg (by omega)]
 have hhd:∀x,x≠[nid]→(fun x=>if x=[nid]then Value.slice A n cap else mvH hdr r x) x=mvH hdr r x:=fun x hx=>by simp only;rw[if_neg hx]
 generalize hcls':(fun b=>if b=w.heap.size then some [nid]else mvC cls r b)=cls' at hcl
 generalize hhdr':(fun x=>if x=[nid]then Value.slice A n cap else mvH hdr r x)=hdr' at hhd
 have hh0:hdr' [nid]= .slice A n cap:=by rw[<-hhdr'];simp
 have hro:∀b,b<w.heap.size→cls b=none→w'.heap[b]? =w.heap[b]?∧cls' b=none:=fun b hb hn=>
  ⟨hheap b hb (fun x hx=>by rw[hn]at hx;cases hx),by rw[hcl b hb];simp[mvC,hn]⟩
 refine⟨cls',hdr',⟨hro,fun id hid c hg=> ?_,fun id hid z x hg=> ?_,hsize,hio⟩,fun b hb hx=>⟨hheap b hb fun x hx'=>by rw[hx]at hx';injection hx' with hx';rw[<-hx'];exact Ne.symm htl,by rw[hcl b hb];simp[mvC,hx,hr0]⟩,zk.val ⟨rfl,fun _ _=>hh0.symm⟩,fun id=> ?_⟩
 ·rw[hst,if_neg (by omega)]at hg;cases hg
 ·rw[hst,if_neg (by omega)]at hg;cases hg
 ·rw[hst]
  split
  ·rename_i e
   subst e
   show RepC w' cls' hdr' (some [id]) (hdr' [id]) (.own sz l)
   rw[hh0]
   refine RepC.own [id] A n cap sz l (fun i j=>match A with |some q=>(match w'.heap[q.block]? with |some (.cells arr _ _)=>(arr[q.off+(i*sz+j)]?).getD undef|_=>undef)|none=>undef) hh0 hl hc hs ?_ (fun i j e c hi hj=> ?_)
   ·rcases hA with h|⟨q,arr,rfl,hsp,hq,hB,hle,hcells⟩
    ·exact .inl h
    ·refine .inr ⟨q,arr,rfl,hsp,?_,hB,hle,fun i j e c hi hj=> ?_⟩
     ·rcases hq with hq|⟨hq,x,hx,hr⟩
      ·rw[<-hcls',hq];simp
      ·rw[hcl _ hq];simp[mvC,hx,hr]
     ·obtain⟨u,hu,_⟩:=hcells i j e c hi hj
      obtain⟨E,fz,hE,_⟩:=hB
      simp only[hE,hu,Option.getD_some]
   ·rcases hA with⟨_,h0,_⟩|⟨q,arr,rfl,hsp,hq,hB,hle,hcells⟩
    ·have:l=[]:=List.eq_nil_of_length_eq_zero (hl.trans h0)
     subst this;simp at hi
    ·obtain⟨u,hu,hg⟩:=hcells i j e c hi hj
     obtain⟨E,fz,hE,_⟩:=hB
     simp only[hE,hu,Option.getD_some]
     rcases hg with⟨_,hr⟩|⟨t,hr,ht,hm⟩|⟨z,rfl,rfl⟩
     ·exact hr.free (fun b hb hn=>(hro b hb hn).1) hcl
     ·refine hr.mv hm (fun b hb hx=> ?_) hcl (fun s=> ?_)
      ·rcases hx with hn|⟨s,hx⟩
       ·exact(hro b hb hn).1
       ·exact hheap b hb fun x hx'=>by rw[hx]at hx';injection hx' with hx';rw[<-hx'];exact ht s
      ·rw[hhd _ (by simp)];exact Zt hinj (hm s)
     ·exact .nown _ _
  ·trivial
theorem OE {id sz:Nat} {l:List (List C)} (h:zP w cls hdr vb st id (.obj sz l)):∃A n cap,hdr [id]= .slice A n cap∧n=l.length∧n<=cap∧(∀e∈l,e.length=sz)∧
 ((A=none∧n=0∧cap=0)∨∃(b off:Nat) (arr:Array Value),A=some ⟨b,off,none⟩∧cls b=some [id]∧Blk sz w b arr∧off+cap*sz<=arr.size∧
  ∃cs:List Value,cs.length=l.length*sz∧(∀m v,cs[m]? =some v→arr[off+m]? =some v)∧(∀v∈cs,simple v=true)∧
   ∀(i j:Nat) e c,l[i]? =some e→e[j]? =some c→∃v,cs[i*sz+j]? =some v∧RepC w cls hdr (some [id,i,j]) v c):=by
 obtain⟨A,n,cap,h1,h2,h3,h4,h5⟩:=qi h
 refine⟨A,n,cap,h1,h2,h3,h4,?_⟩
 rcases h5 with h5|⟨q,arr,rfl,hsp,hcl,hB,hle,hcells⟩
 ·exact .inl h5
 ·obtain⟨b,off,sp⟩:=q
  simp only at hsp hcl hB hle hcells
  subst hsp
  refine .inr ⟨b,off,arr,rfl,hcl,hB,hle,?_⟩
  obtain⟨cs,n1,n2,n3⟩:=W2 l h4 (fun i j=>(arr[off+(i*sz+j)]?).getD undef)
  have hcell:∀i j,i<l.length→j<sz→∃e c,l[i]? =some e∧e[j]? =some c∧∃v,arr[off+(i*sz+j)]? =some v∧RepC w cls hdr (some [id,i,j]) v c:=fun i j hi hj=>by
   have he:=List.getElem?_eq_getElem hi
   have hl:=h4 _ (List.getElem_mem hi)
   obtain⟨us,hul,huc,hur⟩:=hcells i _ he
   have hc':(l[i])[j]? =some ((l[i])[j]'(by omega)):=by simp
   have hu':us[j]? =some us[j]:=by simp
   exact⟨_,_,he,hc',us[j],huc j _ hu',hur j _ _ hu' hc'⟩
  refine⟨cs,n1,fun m v hm=> ?_,fun v hv=> ?_,fun i j e c hi hj=> ?_⟩
  ·obtain⟨i,j,hi,hj,rfl,rfl⟩:=n3 m v hm
   obtain⟨_,_,_,_,v,hv,_⟩:=hcell i j hi hj
   rw[hv];rfl
  ·obtain⟨m,hm,rfl⟩:=List.mem_iff_getElem.1 hv
   obtain⟨i,j,hi,hj,_,he⟩:=n3 m _ (List.getElem?_eq_getElem hm)
   obtain⟨_,_,_,_,v,hv',hr⟩:=hcell i j hi hj
   rw[he,hv']
   exact hr.simple
  ·have hi':=(oE hi).1
   have hj':j<sz:=by
    have:=(oE hj).1
    have:=h4 e (List.mem_of_getElem? hi)
    omega
   obtain⟨e2,c2,g1,g2,v,hv,hrr⟩:=hcell i j hi' hj'
   rw[hi]at g1;injection g1 with g1;subst g1
   rw[hj]at g2;injection g2 with g2;subst g2
   exact⟨v,by rw[n2 i j hi' hj',hv];rfl,hrr⟩
end
def Rs (i:Nat):List Nat→Option (List Nat)
 |[0]=>some [2]
 |0::j::s=>some (2::(if j<i then j else j+1)::s)
 |1::0::s=>some (2::i::s)
 |_=>none
theorem zep (i:Nat):Inj (Rs i):=by
 intro x y z hx hy
 have key:∀{x z},Rs i x=some z→(x=[0]∧z=[2])∨(∃j s,x=0::j::s∧z=2::(if j<i then j else j+1)::s)∨∃s,x=1::0::s∧z=2::i::s:=by
  intro x z h
  unfold Rs at h
  split at h
  ·simp at h;exact .inl ⟨rfl,h.symm⟩
  ·simp at h;exact .inr (.inl ⟨_,_,rfl,h.symm⟩)
  ·simp at h;exact .inr (.inr ⟨_,rfl,h.symm⟩)
  ·cases h
 rcases key hx with⟨rfl,rfl⟩|⟨j,s,rfl,rfl⟩|⟨s,rfl,rfl⟩ <;> rcases key hy with⟨rfl,h⟩|⟨j',s',rfl,h⟩|⟨s',rfl,h⟩
 ·rfl
 ·simp at h
 ·simp at h
 ·simp at h
 ·simp only[List.cons.injEq,true_and]at h
  obtain⟨h,rfl⟩:=h
  have:j=j':=by split at h <;> split at h <;> omega
  rw[this]
 ·simp only[List.cons.injEq,true_and]at h
  obtain⟨h,rfl⟩:=h
  split at h <;> omega
 ·simp at h
 ·simp only[List.cons.injEq,true_and]at h
  obtain⟨h,rfl⟩:=h
  split at h <;> omega
 ·simp only[List.cons.injEq,true_and]at h
  rw[h]
set_option maxRecDepth 100000 in
theorem ziy {st:List Entry} {xs:List V} {r:V×List Entry} (h:Af st xs=some r):xC Tryz.prog 139 st xs r:=by
 intro w cls hdr vb us hgl hus hE hids hvars
 unfold Af at h
 split at h
 ·rename_i i
  split at h
  ·rename_i l x
   split at h
   ·rename_i hc
    obtain⟨h0,h1,h2⟩:=hc
    injection h with h
    subst h
    obtain⟨i,rfl⟩:=Int.eq_ofNat_of_zero_le h0
    have hi:i<=l.length:=by omega
    obtain⟨ul⟩:=us
    cases hus with
    |cons a0 hus=>cases hus with
     |cons a1 hus=>cases hus with
      |cons a2 hus=>cases hus with
       |nil=>
        rename_i u0 u1 u2
        have e0:u0=hdr [0]:=a0.one.2 _ rfl
        have e1:=a1.one.int
        have e2:u2=hdr [1]:=a2.one.2 _ rfl
        subst e0 e1 e2
        have hE0:zP w cls hdr vb [.obj 9 l,.obj 9 [x]] 0 (.obj 9 l):=hE 0
        have hE1:zP w cls hdr vb [.obj 9 l,.obj 9 [x]] 1 (.obj 9 [x]):=hE 1
        obtain⟨A1,n1,c1,g1,g2,g3,g4,g5⟩:=OE hE1
        simp at g2
        subst g2
        rcases g5 with⟨_,g5,_⟩|⟨vb',voff,arv,rfl,gc,gB,gle,vs,gl,gcs,gsim,grep⟩
        ·omega
        obtain⟨A0,n0,c0,f1,f2,f3,f4,f5⟩:=OE hE0
        subst f2
        have hland:yy (.val false [.own 9 (xw l (i:Int).toNat x)],[.dead,.dead])=(.val false [.ref 2],[.dead,.dead,.obj 9 (xw l i x)]):=rfl
        rw[hland,f1,g1]
        have hst:∀id,get [Entry.dead,.dead,.obj 9 (xw l i x)] id=if id=2 then .obj 9 (xw l i x)else .dead:=fun id=>by
         match id with
         |0=>rfl
         |1=>rfl
         |2=>rfl
         |n+3=>simp[get]
        have hun:∀e∈xw l i x,e.length=9:=fun e he=>by
         simp only[xw,List.mem_append,List.mem_singleton]at he
         rcases he with(he|rfl)|he
         ·exact f4 e (List.mem_of_mem_take he)
         ·exact g4 e (by simp)
         ·exact f4 e (List.mem_of_mem_drop he)
        have hvl:vs.length=9:=by simpa using gl
        have hll:(xw l i x).length=l.length+1:=by simp[xw];omega
        refine .inl ⟨Go.Proofs.enters_of Tryz.func139 (by kernel_rfl) rfl _ _,?_⟩
        have fin:∀(b:Nat) (cs:List Value) (hcl:cs.length=l.length*9) (hbw:b<=w.heap.size) (hbl:b<w.heap.size→cls b=some [0]) (hrep:∀(i j:Nat) e c,l[i]? =some e→e[j]? =some c→∃v,cs[i*9+j]? =some v∧RepC w cls hdr (some [0,i,j]) v c) (e:Ending) (w':World),ND w b l.length i cs vs e w'→∃u,e= .returned u∧∃cls' hdr' vb'',Keep w cls hdr vb [.obj 9 l,.obj 9 [x]] w' cls' hdr' vb'' [.dead,.dead,.obj 9 (xw l i x)] (fun id=>id<2)∧
         (∀b,b<w.heap.size→cls b=some []→w'.heap[b]? =w.heap[b]?∧cls' b=some [])∧yq w' cls' hdr' vb'' [.dead,.dead,.obj 9 (xw l i x)] u (.val false [.ref 2])∧∀id,zP w' cls' hdr' vb'' [.dead,.dead,.obj 9 (xw l i x)] id (get [.dead,.dead,.obj 9 (xw l i x)] id):=by
         intro b cs hcl hbw hbl hrep e w' he
         obtain⟨q,c',arr,rfl,p1,p2,p3,p4,p5,p6,p7,p8,p9⟩:=he
         refine⟨_,rfl,?_⟩
         have hA:((some q:Option Addr)=none∧l.length+1=0∧c'=0)∨∃q' arr,some q=some q'∧q'.spot=none∧(q'.block=w.heap.size∨(q'.block<w.heap.size∧∃x,cls q'.block=some x∧Rs i x=some [2]))∧Blk 9 w' q'.block arr∧q'.off+c'*9<=arr.size∧
          ∀k j e c,(xw l i x)[k]? =some e→e[j]? =some c→∃u,arr[q'.off+(k*9+j)]? =some u∧MF w cls hdr (Rs i) [0] [2,k,j] u c:=by
          refine .inr ⟨q,arr,rfl,p2,?_,p3,p4,fun k j e c hk hj=> ?_⟩
          ·rcases Nat.lt_or_ge q.block w.heap.size with hlt|hge
           ·refine .inr ⟨hlt,[0],?_,rfl⟩
            rcases p5 with p5|p5
            ·rw[p5]at hlt ⊢;exact hbl hlt
            ·omega
           ·left
            rcases p5 with p5|p5 <;> omega
          ·have hj9:j<9:=by
            have:=(oE hj).1
            have:=hun e (List.mem_of_getElem? hk)
            omega
           have hg:=Bg cs vs (i*9) 9 (by rw[hcl];exact Nat.mul_le_mul_right _ hi) hvl (k*9+j)
           rw[JS l i x hi]at hk
           split at hk
           ·rename_i hki
            obtain⟨v,hv,hr⟩:=hrep k j e c hk hj
            refine⟨v,p6 _ v (by rw[hg,if_pos (by omega)];exact hv),.inr (.inl ⟨[0,k,j],hr,by simp,fun s=> ?_⟩)⟩
            simp[Rs,hki]
           ·rename_i hki
            split at hk
            ·rename_i hki2
             subst hki2
             injection hk with hk
             subst hk
             obtain⟨v,hv,hr⟩:=grep 0 j x c rfl hj
             refine⟨v,p6 _ v (by rw[hg,if_neg (by omega),if_pos (by omega),<-hv];congr 1;omega),.inr (.inl ⟨[1,0,j],hr,by simp,fun s=> ?_⟩)⟩
             simp[Rs]
            ·rename_i hki2
             obtain⟨v,hv,hr⟩:=hrep (k - 1) j e c hk hj
             refine⟨v,p6 _ v (by rw[hg,if_neg (by omega),if_neg (by omega),<-hv];congr 1;omega),.inr (.inl ⟨[0,k - 1,j],hr,by simp,fun s=> ?_⟩)⟩
             simp only[Rs,List.cons_append,List.nil_append]
             rw[if_neg (by omega),show k - 1+1=k by omega]
         obtain⟨cls',hdr',k1,k2,k3,k4⟩:=EI (vb:=vb) (st:=[.obj 9 l,.obj 9 [x]]) (nid:=2) (A:=some q) (cap:=c') (n:=l.length+1) (r:=Rs i) (tl:=[0]) (Nat.le_refl _) (zep i) hst p8 p9 (cls:=cls) (hdr:=hdr)
          (fun b' hb' hx=>p7 b' hb' fun e=>by subst e;exact hx _ (hbl hb') rfl) (by simp) hll p1 hun rfl hA
         exact⟨cls',hdr',vb,k1,k2,k3,k4⟩
        rcases f5 with⟨rfl,f5,rfl⟩|⟨b,off,arr,rfl,fc,fB,fle,cs,fl,fcs,fsim,frep⟩
        ·have hl0:l=[]:=List.eq_nil_of_length_eq_zero f5
         subst hl0
         have hi0:i=0:=by simpa using hi
         subst hi0
         refine(zix vb' voff c1 vs arv w gB hvl gcs gsim).mono fun e w' he=> ?_
         obtain⟨u,rfl,hu⟩:=(fin w.heap.size [] rfl (Nat.le_refl _) (fun h=>absurd h (Nat.lt_irrefl _)) (by simp)) e w' he
         exact hu
        ·refine(ziw b off l.length c0 i vb' voff c1 cs vs arr arv w hi h2 f3 (fun e=>by subst e;rw[fc]at gc;simp at gc) fB gB fle fl hvl fcs gcs fsim gsim).mono fun e w' he=> ?_
         obtain⟨u,rfl,hu⟩:=(fin b cs fl (Nat.le_of_lt fB.lt) (fun _=>fc) frep) e w' he
         exact hu
   ·cases h
  ·cases h
 ·cases h
end Go.Am
