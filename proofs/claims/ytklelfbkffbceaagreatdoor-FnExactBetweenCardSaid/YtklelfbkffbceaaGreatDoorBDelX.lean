
/- The functions of the program in plain Lean, and that the machine answers as they do; conditions at each theorem. -/
import Derived.Test.YtklelfbkffbceaaGreatDoorBDelW
set_option linter.unusedVariables false
set_option linter.unusedSimpArgs false
set_option linter.unusedVariables false
set_option linter.unusedSimpArgs false
namespace Go.Am
open Go.Proofs Go.Shelf Go.RowKit Go.Lib
def Nd (i:Nat):List Nat→Option (List Nat)
 |[0]=>some [1]
 |0::j::s=>if j=i then none else some (1::(if j<i then j else j - 1)::s)
 |_=>none
theorem zeb (i:Nat):Inj (Nd i):=by
 intro x y z hx hy
 have key:∀{x z},Nd i x=some z→(x=[0]∧z=[1])∨(∃j s,x=0::j::s∧j≠i∧z=1::(if j<i then j else j - 1)::s):=by
  intro x z h
  unfold Nd at h
  split at h
  ·simp at h;exact .inl ⟨rfl,h.symm⟩
  ·split at h
   ·cases h
   ·rename_i hne
    simp at h;exact .inr ⟨_,_,rfl,hne,h.symm⟩
  ·cases h
 rcases key hx with⟨rfl,rfl⟩|⟨j,s,rfl,hj,rfl⟩ <;> rcases key hy with⟨rfl,h⟩|⟨j',s',rfl,hj',h⟩
 ·rfl
 ·simp at h
 ·simp at h
 ·simp only[List.cons.injEq,true_and]at h
  obtain⟨h,rfl⟩:=h
  have:j=j':=by split at h <;> split at h <;> omega
  rw[this]
set_option maxRecDepth 100000 in
theorem zio {st:List Entry} {xs:List V} {r:V×List Entry} (h:Ag st xs=some r):xC Tryz.prog 140 st xs r:=by
 intro w cls hdr vb us hgl hus hE hids hvars
 unfold Ag at h
 split at h
 ·rename_i i j
  split at h
  ·rename_i l
   split at h
   ·rename_i hc
    obtain⟨h0,h1,hj,h2⟩:=hc
    injection h with h
    subst h
    obtain⟨i,rfl⟩:=Int.eq_ofNat_of_zero_le h0
    subst hj
    have hi:i<l.length:=by omega
    obtain⟨ul⟩:=us
    cases hus with
    |cons a0 hus=>cases hus with
     |cons a1 hus=>cases hus with
      |cons a2 hus=>cases hus with
       |nil=>
        rename_i u0 u1 u2
        have e0:u0=hdr [0]:=a0.one.2 _ rfl
        have e1:=a1.one.int
        have e2:=a2.one.int
        subst e0 e1 e2
        have hE0:zP w cls hdr vb [.obj 9 l] 0 (.obj 9 l):=hE 0
        obtain⟨A0,n0,c0,f1,f2,f3,f4,f5⟩:=OE hE0
        subst f2
        have hland:yy (.val false [.own 9 (jj l (i:Int).toNat)],[.dead])=(.val false [.ref 1],[.dead,.obj 9 (jj l i)]):=rfl
        rw[hland,f1]
        have hst:∀id,get [Entry.dead,.obj 9 (jj l i)] id=if id=1 then .obj 9 (jj l i)else .dead:=fun id=>by
         match id with
         |0=>rfl
         |1=>rfl
         |n+2=>simp[get]
        have hun:∀e∈jj l i,e.length=9:=fun e he=>by
         simp only[jj,List.mem_append]at he
         rcases he with he|he
         ·exact f4 e (List.mem_of_mem_take he)
         ·exact f4 e (List.mem_of_mem_drop he)
        have hll:(jj l i).length=l.length - 1:=by simp[jj];omega
        refine .inl ⟨Go.Proofs.enters_of Tryz.func140 (by kernel_rfl) rfl _ _,?_⟩
        rcases f5 with⟨rfl,f5,rfl⟩|⟨b,off,arr,rfl,fc,fB,fle,cs,fl,fcs,fsim,frep⟩
        ·omega
        obtain⟨i0,z,hi0,hz0,hz9,hs9,hb9⟩:=NE
        refine(zea b off l.length c0 i cs _ arr w hi h2 f3 fB fle fl fcs fsim i0 z hi0 hz0 hz9 rfl).mono fun e w' he=> ?_
        obtain⟨rfl,rfl⟩:=he
        have hzl:(Builtin.zeroCells z.cells 1).toList.length=9:=by simp[Builtin.zeroCells,hz9]
        have hzsim:=PE i0 z hi0 hz0
        generalize (Builtin.zeroCells z.cells 1).toList=zs at hzl hzsim
        have hnc9:l.length*9<=c0*9:=Nat.mul_le_mul_right _ f3
        have hi9:(i+1)*9<=l.length*9:=Nat.mul_le_mul_right _ hi
        have hm9:(l.length - (i+1))*9+(i+1)*9=l.length*9:=by rw[<-Nat.add_mul];congr 1;omega
        have hdl:(cs.drop ((i+1)*9)).length=(l.length - (i+1))*9:=by rw[List.length_drop,fl];omega
        obtain⟨b1,b2,b3,b4⟩:=Qv (o:=off+i*9) (vs:=cs.drop ((i+1)*9)) (by omega) (show Blk 9 w.drew b arr from fB) (by omega) (fun v hv=>fsim v (List.mem_of_mem_drop hv))
        have hs1:=Qu arr (off+i*9) (cs.drop ((i+1)*9)) (by omega)
        generalize harr1:(arr.toList.take (off+i*9)++cs.drop ((i+1)*9)++arr.toList.drop (off+i*9+(cs.drop ((i+1)*9)).length)).toArray=arr1 at b1 hs1
        have hz1:arr1.size=arr.size:=by rw[<-harr1];simp only[List.size_toArray,List.length_append,List.length_take,List.length_drop,Array.length_toList]at hdl ⊢;omega
        obtain⟨d1,d2,d3,d4⟩:=Qv (o:=off+(i+(l.length - (i+1)))*9) (vs:=zs) (by omega) b1 (by omega) (fun v hv=>by rw[<-WP];exact hzsim v hv)
        have hs2:=Qu arr1 (off+(i+(l.length - (i+1)))*9) zs (by omega)
        generalize harr2:(arr1.toList.take (off+(i+(l.length - (i+1)))*9)++zs++arr1.toList.drop (off+(i+(l.length - (i+1)))*9+zs.length)).toArray=arr2 at d1 hs2
        have hz2:arr2.size=arr1.size:=by rw[<-harr2];simp only[List.size_toArray,List.length_append,List.length_take,List.length_drop,Array.length_toList];omega
        obtain⟨cls',hdr',k1,k2,k3,k4⟩:=EI (w:=w) (w':=(w.drew.setCells b (off+i*9) (cs.drop ((i+1)*9))).setCells b (off+(i+(l.length - (i+1)))*9) zs) (vb:=vb) (st:=[.obj 9 l]) (nid:=1) (A:=some ⟨b,off,none⟩) (cap:=c0) (n:=l.length - 1) (r:=Nd i) (tl:=[0]) (Nat.le_refl _) (zeb i) hst
         (by rw[d3,b3];exact Nat.le_refl _) ⟨d4.1.trans b4.1,d4.2.1.trans b4.2.1,d4.2.2.trans b4.2.2⟩ (cls:=cls) (hdr:=hdr)
         (fun b' hb' hx=>by
          have hbb:b'≠b:=fun e=>by subst e;exact hx _ fc rfl
          rw[d2 b' hbb,b2 b' hbb];rfl) (by simp) hll (by omega) hun rfl (.inr ⟨⟨b,off,none⟩,arr2,rfl,rfl,.inr ⟨fB.lt,[0],fc,rfl⟩,d1,by show off+c0*9<=_;omega,fun k j e c hk hj=>by
          have hj9:j<9:=by
           have:=(oE hj).1
           have:=hun e (List.mem_of_getElem? hk)
           omega
          have hkl:k<l.length - 1:=by rw[<-hll];exact(oE hk).1
          show∃u,arr2[off+(k*9+j)]? =some u∧_
          rw[hs2,if_pos (by omega),hs1,hdl]
          rw[Ei l i hi]at hk
          split at hk
          ·rename_i hki
           obtain⟨v,hv,hr⟩:=frep k j e c hk hj
           rw[if_pos (by omega)]
           refine⟨v,fcs _ v hv,.inr (.inl ⟨[0,k,j],hr,by simp,fun s=> ?_⟩)⟩
           simp only[Nd,List.cons_append,List.nil_append]
           rw[if_neg (by omega),if_pos hki]
          ·rename_i hki
           obtain⟨v,hv,hr⟩:=frep (k+1) j e c hk hj
           rw[if_neg (by omega),if_pos (by omega),List.getElem?_drop]
           refine⟨v,by rw[<-hv];congr 1;omega,.inr (.inl ⟨[0,k+1,j],hr,by simp,fun s=> ?_⟩)⟩
           simp only[Nd,List.cons_append,List.nil_append]
           rw[if_neg (by omega),if_neg (by omega)]
           simp⟩)
        exact⟨cls',hdr',vb,k1,k2,k3,k4⟩
   ·cases h
  ·cases h
 ·cases h
end Go.Am
