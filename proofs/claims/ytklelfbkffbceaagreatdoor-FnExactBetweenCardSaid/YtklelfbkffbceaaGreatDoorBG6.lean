
/- The functions of the program in plain Lean, and that the machine answers as they do; conditions at each theorem. -/
import Derived.Test.YtklelfbkffbceaaGreatDoorBG5
set_option linter.unusedVariables false
set_option linter.unusedSimpArgs false
namespace Go.Am.Try
open Go.Am Go.Proofs
set_option linter.unusedVariables false
set_option maxRecDepth 20000
set_option maxHeartbeats 2000000
noncomputable section
def QN (F:(List GChange)→Int→Option Int):Prop:=∀(a0:(List GChange)) (a1:Int),Oc (F a0 a1) 17 [] [vq yg a0,vi a1] fun r=>(vi r,[])
def yI (a0:(List GChange)):Nat→Int→Int→Option (Int⊕(Int×Int))
 |0,_,_=>none
 |m+1,a1,v2=>
 if v2<(a0.length:Int)then
  (zn v2).bind fun i2=>
  (a0[i2]?).bind fun x3=>
  (vd x3.Path a1).bind fun r4=>
  if r4<0 then
   some (.inl (-1))
  else
  if x3.Had=true then
   if(r4.tmod 3)=0 then
    if x3.Old.Kind=(w64 (r4+1))then
     if x3.Old.N=(w64 ((w64 (r4+1))+1))then
      (yj x3.Old.S (w64 ((w64 ((w64 (r4+1))+1))+1))).bind fun r10=>
      if r10<0 then
      some (.inl (-1))
      else
      (yw x3.Old.K r10).bind fun r12=>
      if r12<0 then
      some (.inl (-1))
      else
      (yB x3.Old.L r12).bind fun r14=>
      if r14<0 then
      some (.inl (-1))
      else
      if x3.Has=true then
      if(r14.tmod 3)=0 then
       if x3.New.Kind=(w64 (r14+1))then
        if x3.New.N=(w64 ((w64 (r14+1))+1))then
        (yj x3.New.S (w64 ((w64 ((w64 (r14+1))+1))+1))).bind fun r20=>
        if r20<0 then
         some (.inl (-1))
        else
        (yw x3.New.K r20).bind fun r22=>
        if r22<0 then
         some (.inl (-1))
        else
        (yB x3.New.L r22).bind fun r24=>
        if r24<0 then
         some (.inl (-1))
        else
        yI a0 m r24 (w64 (v2+1))
        else
        some (.inl (-1))
       else
       some (.inl (-1))
      else
      some (.inl (-1))
      else
      if(r14.tmod 3)=0 then
      some (.inl (-1))
      else
      if x3.New.Kind=(w64 (r14+1))then
      if x3.New.N=(w64 ((w64 (r14+1))+1))then
       (yj x3.New.S (w64 ((w64 ((w64 (r14+1))+1))+1))).bind fun r20=>
       if r20<0 then
        some (.inl (-1))
       else
       (yw x3.New.K r20).bind fun r22=>
       if r22<0 then
        some (.inl (-1))
       else
       (yB x3.New.L r22).bind fun r24=>
       if r24<0 then
        some (.inl (-1))
       else
       yI a0 m r24 (w64 (v2+1))
      else
      some (.inl (-1))
      else
      some (.inl (-1))
     else
     some (.inl (-1))
    else
    some (.inl (-1))
   else
   some (.inl (-1))
  else
  if(r4.tmod 3)=0 then
   some (.inl (-1))
  else
  if x3.Old.Kind=(w64 (r4+1))then
   if x3.Old.N=(w64 ((w64 (r4+1))+1))then
    (yj x3.Old.S (w64 ((w64 ((w64 (r4+1))+1))+1))).bind fun r10=>
    if r10<0 then
     some (.inl (-1))
    else
    (yw x3.Old.K r10).bind fun r12=>
    if r12<0 then
     some (.inl (-1))
    else
    (yB x3.Old.L r12).bind fun r14=>
    if r14<0 then
     some (.inl (-1))
    else
    if x3.Has=true then
     if(r14.tmod 3)=0 then
      if x3.New.Kind=(w64 (r14+1))then
        if x3.New.N=(w64 ((w64 (r14+1))+1))then
         (yj x3.New.S (w64 ((w64 ((w64 (r14+1))+1))+1))).bind fun r20=>
         if r20<0 then
        some (.inl (-1))
         else
         (yw x3.New.K r20).bind fun r22=>
         if r22<0 then
        some (.inl (-1))
         else
         (yB x3.New.L r22).bind fun r24=>
         if r24<0 then
        some (.inl (-1))
         else
         yI a0 m r24 (w64 (v2+1))
        else
        some (.inl (-1))
      else
      some (.inl (-1))
     else
     some (.inl (-1))
    else
    if(r14.tmod 3)=0 then
     some (.inl (-1))
    else
    if x3.New.Kind=(w64 (r14+1))then
     if x3.New.N=(w64 ((w64 (r14+1))+1))then
      (yj x3.New.S (w64 ((w64 ((w64 (r14+1))+1))+1))).bind fun r20=>
      if r20<0 then
        some (.inl (-1))
      else
      (yw x3.New.K r20).bind fun r22=>
      if r22<0 then
        some (.inl (-1))
      else
      (yB x3.New.L r22).bind fun r24=>
      if r24<0 then
        some (.inl (-1))
      else
      yI a0 m r24 (w64 (v2+1))
     else
     some (.inl (-1))
    else
    some (.inl (-1))
   else
   some (.inl (-1))
  else
  some (.inl (-1))
 else
 some (.inr (a1,v2))
theorem Vb (a0:(List GChange)) (m:Nat):∀(a1:Int) (v2:Int),Ol (yI a0 m a1 v2) 17 (zD Tryz.f17 0) ⟨[(0,vq yg a0),(1,vi a1),(5,vi v2)],[],0⟩ fun o=>match o with | .inl o_0=>(.ret,⟨[(4,vi o_0)],[],0⟩)| .inr (⟨o_1_0,o_1_1⟩)=>(.exit 0,⟨[(0,vq yg a0),(1,vi o_1_0),(5,vi o_1_1),(9,vb false)],[],0⟩):=by
 induction m with
 |zero=>intro a1 v2 o h;cases h
 |succ m ih=>exact fun a1 v2=>tlp (
  .le yg a0<|.lI v2 (a0.length:Int) (fun c1=>.na v2 fun i2=>.ix vV a0 i2 fun x3=>.cl (P8 x3.Path a1) fun r4=>.lI r4 0 (fun c5=>.ret (.inl (-1))) fun c5=>.ag 2<|.ag 1<|.q ⟨.nz 3,.b true,rfl⟩<|.eD (r4.tmod 3) 0<|.sp (x3.Had=true) (fun c6=>.sp ((r4.tmod 3)=0) (fun c7=>.eb c6 (dT c7)<|.ag 2<|.ag 1<|.eI x3.Old.Kind (w64 (r4+1)) (fun c8=>.ag 2<|.ag 1<|.eI x3.Old.N (w64 ((w64 (r4+1))+1)) (fun c9=>.ag 2<|.ag 1<|.cl (xt x3.Old.S (w64 ((w64 ((w64 (r4+1))+1))+1))) fun r10=>.lI r10 0 (fun c11=>.ret (.inl (-1))) fun c11=>.ag 3<|.ag 2<|.cl (wm x3.Old.K r10) fun r12=>.lI r12 0 (fun c13=>.ret (.inl (-1))) fun c13=>.ag 4<|.ag 3<|.cl (qD x3.Old.L r12) fun r14=>.lI r14 0 (fun c15=>.ret (.inl (-1))) fun c15=>.ag 5<|.ag 4<|.q ⟨.nz 3,.b true,rfl⟩<|.eD (r14.tmod 3) 0<|.sp (x3.Has=true) (fun c16=>.sp ((r14.tmod 3)=0) (fun c17=>.eb c16 (dT c17)<|.ag 5<|.ag 4<|.eI x3.New.Kind (w64 (r14+1)) (fun c18=>.ag 5<|.ag 4<|.eI x3.New.N (w64 ((w64 (r14+1))+1)) (fun c19=>.ag 5<|.ag 4<|.cl (xt x3.New.S (w64 ((w64 ((w64 (r14+1))+1))+1))) fun r20=>.lI r20 0 (fun c21=>.ret (.inl (-1))) fun c21=>.ag 6<|.ag 5<|.cl (wm x3.New.K r20) fun r22=>.lI r22 0 (fun c23=>.ret (.inl (-1))) fun c23=>.ag 7<|.ag 6<|.cl (qD x3.New.L r22) fun r24=>.lI r24 0 (fun c25=>.ret (.inl (-1))) fun c25=>.go (ih r24 (w64 (v2+1)))) fun c19=>.ret (.inl (-1))) fun c18=>.ret (.inl (-1))) fun c17=>.eb c16 (dF c17)<|.ret (.inl (-1))) fun c16=>.sp ((r14.tmod 3)=0) (fun c17=>.eb (bF c16) (dT c17)<|.ret (.inl (-1))) fun c17=>.eb (bF c16) (dF c17)<|.ag 5<|.ag 4<|.eI x3.New.Kind (w64 (r14+1)) (fun c18=>.ag 5<|.ag 4<|.eI x3.New.N (w64 ((w64 (r14+1))+1)) (fun c19=>.ag 5<|.ag 4<|.cl (xt x3.New.S (w64 ((w64 ((w64 (r14+1))+1))+1))) fun r20=>.lI r20 0 (fun c21=>.ret (.inl (-1))) fun c21=>.ag 6<|.ag 5<|.cl (wm x3.New.K r20) fun r22=>.lI r22 0 (fun c23=>.ret (.inl (-1))) fun c23=>.ag 7<|.ag 6<|.cl (qD x3.New.L r22) fun r24=>.lI r24 0 (fun c25=>.ret (.inl (-1))) fun c25=>.go (ih r24 (w64 (v2+1)))) fun c19=>.ret (.inl (-1))) fun c18=>.ret (.inl (-1))) fun c9=>.ret (.inl (-1))) fun c8=>.ret (.inl (-1))) fun c7=>.eb c6 (dF c7)<|.ret (.inl (-1))) fun c6=>.sp ((r4.tmod 3)=0) (fun c7=>.eb (bF c6) (dT c7)<|.ret (.inl (-1))) fun c7=>.eb (bF c6) (dF c7)<|.ag 2<|.ag 1<|.eI x3.Old.Kind (w64 (r4+1)) (fun c8=>.ag 2<|.ag 1<|.eI x3.Old.N (w64 ((w64 (r4+1))+1)) (fun c9=>.ag 2<|.ag 1<|.cl (xt x3.Old.S (w64 ((w64 ((w64 (r4+1))+1))+1))) fun r10=>.lI r10 0 (fun c11=>.ret (.inl (-1))) fun c11=>.ag 3<|.ag 2<|.cl (wm x3.Old.K r10) fun r12=>.lI r12 0 (fun c13=>.ret (.inl (-1))) fun c13=>.ag 4<|.ag 3<|.cl (qD x3.Old.L r12) fun r14=>.lI r14 0 (fun c15=>.ret (.inl (-1))) fun c15=>.ag 5<|.ag 4<|.q ⟨.nz 3,.b true,rfl⟩<|.eD (r14.tmod 3) 0<|.sp (x3.Has=true) (fun c16=>.sp ((r14.tmod 3)=0) (fun c17=>.eb c16 (dT c17)<|.ag 5<|.ag 4<|.eI x3.New.Kind (w64 (r14+1)) (fun c18=>.ag 5<|.ag 4<|.eI x3.New.N (w64 ((w64 (r14+1))+1)) (fun c19=>.ag 5<|.ag 4<|.cl (xt x3.New.S (w64 ((w64 ((w64 (r14+1))+1))+1))) fun r20=>.lI r20 0 (fun c21=>.ret (.inl (-1))) fun c21=>.ag 6<|.ag 5<|.cl (wm x3.New.K r20) fun r22=>.lI r22 0 (fun c23=>.ret (.inl (-1))) fun c23=>.ag 7<|.ag 6<|.cl (qD x3.New.L r22) fun r24=>.lI r24 0 (fun c25=>.ret (.inl (-1))) fun c25=>.go (ih r24 (w64 (v2+1)))) fun c19=>.ret (.inl (-1))) fun c18=>.ret (.inl (-1))) fun c17=>.eb c16 (dF c17)<|.ret (.inl (-1))) fun c16=>.sp ((r14.tmod 3)=0) (fun c17=>.eb (bF c16) (dT c17)<|.ret (.inl (-1))) fun c17=>.eb (bF c16) (dF c17)<|.ag 5<|.ag 4<|.eI x3.New.Kind (w64 (r14+1)) (fun c18=>.ag 5<|.ag 4<|.eI x3.New.N (w64 ((w64 (r14+1))+1)) (fun c19=>.ag 5<|.ag 4<|.cl (xt x3.New.S (w64 ((w64 ((w64 (r14+1))+1))+1))) fun r20=>.lI r20 0 (fun c21=>.ret (.inl (-1))) fun c21=>.ag 6<|.ag 5<|.cl (wm x3.New.K r20) fun r22=>.lI r22 0 (fun c23=>.ret (.inl (-1))) fun c23=>.ag 7<|.ag 6<|.cl (qD x3.New.L r22) fun r24=>.lI r24 0 (fun c25=>.ret (.inl (-1))) fun c25=>.go (ih r24 (w64 (v2+1)))) fun c19=>.ret (.inl (-1))) fun c18=>.ret (.inl (-1))) fun c9=>.ret (.inl (-1))) fun c8=>.ret (.inl (-1))) fun c1=>.ret (.inr (a1,v2)))
def YR (n:Nat) (a0:(List GChange)) (a1:Int):Option Int:=
 (yI a0 n a1 0).bind fun o1=>
 match o1 with
 | .inl o1_0=>
  some o1_0
 | .inr (⟨o1_1_0,o1_1_1⟩)=>
  some o1_1_0
theorem Ux (n:Nat):QN (YR n):=fun a0 a1=>tc (
 .l2 (Vb a0 n a1 0) (fun o1_0=>.ret o1_0) fun⟨o1_1_0,o1_1_1⟩=>.ret o1_1_0) (zf Tryz.func17)
theorem OD {a:List GChange}:∀(l p:List GChange) (k:Int) (m:Nat),a=p++l→ZG k l=l→0<=k→k+6*zY l<=2 ^ 39→p.length+l.length<=2 ^ 40→l.length<m→∃z,yI a m k (p.length:Int)=some (.inr (k+vf l,z)):=by
 intro l
 induction l with
 |nil=>
  intro p k m ha _ _ _ _ hm
  subst ha
  obtain⟨m,rfl,_⟩:=zg hm
  exact⟨_,by rw[yI,if_neg (xF p)];simp[vf];rfl⟩
 |cons x l ih=>
  intro p k m ha hm0 h0 h1 h2 hm
  obtain⟨m,rfl,hm'⟩:=zg hm
  simp only[List.length_cons]at h2 hm'
  have hc:=Dk x
  rw[ZG]at hm0
  obtain⟨e1,e2⟩:=List.cons.inj hm0
  simp only[zY]at h1
  obtain⟨z,hz⟩:=ih (p++[x]) (k+cCh x) m (by rw[ha];simp) e2 (by omega) (by omega) (by simp;omega) (by omega)
  have hcp:=UZ x.Path
  have o1:=yT x.Old
  have o2:=R1 x.Old
  have n1:=yT x.New
  have n2:=R1 x.New
  have hcE:cCh x=zy x.Path+cV x.Old+cV x.New+2:=rfl
  unfold X7 at h1 hc
  have f0:je k x.Path=x.Path:=congrArg GChange.Path e1
  have f1:decide ((k+zy x.Path).tmod 3=0)=x.Had:=congrArg GChange.Had e1
  have f2:mV (k+zy x.Path+1) x.Old=x.Old:=congrArg GChange.Old e1
  have f3:decide ((k+zy x.Path+1+cV x.Old).tmod 3=0)=x.Has:=congrArg GChange.Has e1
  have f4:mV (k+zy x.Path+1+cV x.Old+1) x.New=x.New:=congrArg GChange.New e1
  rw[UY]at f2 f4
  refine⟨z,?_⟩
  have tl:((((k+((cCh x:Nat):Int))+((vf l:Nat):Int)):Int),z)=(k+((vf (x::l):Nat):Int),z):=by simp only[vf];congr 1;omega
  rw[tl]at hz
  have hg:a[p.length]? =some x:=by rw[ha];exact zp p x l
  have hlt:(p.length:Int)<(a.length:Int):=by rw[ha];exact ZE p x l
  have hw:w64 ((p.length:Int)+1)=((p++[x]).length:Int):=ye p x (by omega)
  have hcx:k+((cCh x:Nat):Int)<=2 ^ 39:=by omega
  have hh:k+6*(((yu x.Path:Nat):Int)+((vsz x.Old:Nat):Int)+((vsz x.New:Nat):Int))<=2 ^ 39:=by omega
  clear ha e1 e2 ih hm tl h1 hc hcp hm' h2
  generalize ((p++[x]).length:Int)=pl at*
  generalize ((vf (x::l):Nat):Int)=fin at*
  generalize cCh x=cx at*
  generalize cV x.Old=co at*
  generalize cV x.New=cn at*
  generalize vsz x.Old=vo at*
  generalize vsz x.New=vn at*
  rw[yI,if_pos hlt,zb,oB,hg,oB,hw,EG f0 (by omega) (by omega),oB,if_neg (by omega)]
  have g1:x.Old.Kind=(k+(zy x.Path:Int))+1:=(congrArg GValue.Kind f2).symm
  have g2:x.Old.N=(k+(zy x.Path:Int))+1+1:=(congrArg GValue.N f2).symm
  have g3:mB ((k+(zy x.Path:Int))+1+1+1) x.Old.S=x.Old.S:=congrArg GValue.S f2
  have g4:mBB ((k+(zy x.Path:Int))+1+1+1+x.Old.S.length) x.Old.K=x.Old.K:=congrArg GValue.K f2
  have g5:mVs ((k+(zy x.Path:Int))+1+1+1+x.Old.S.length+cB x.Old.K) x.Old.L=x.Old.L:=congrArg GValue.L f2
  have j1:x.New.Kind=(k+(zy x.Path:Int)+1+(co:Int))+1:=(congrArg GValue.Kind f4).symm
  have j2:x.New.N=(k+(zy x.Path:Int)+1+(co:Int))+1+1:=(congrArg GValue.N f4).symm
  have j3:mB ((k+(zy x.Path:Int)+1+(co:Int))+1+1+1) x.New.S=x.New.S:=congrArg GValue.S f4
  have j4:mBB ((k+(zy x.Path:Int)+1+(co:Int))+1+1+1+x.New.S.length) x.New.K=x.New.K:=congrArg GValue.K f4
  have j5:mVs ((k+(zy x.Path:Int)+1+(co:Int))+1+1+1+x.New.S.length+cB x.New.K) x.New.L=x.New.L:=congrArg GValue.L f4
  have e6:(k+(zy x.Path:Int))+1+1+1+(x.Old.S.length:Int)+(cB x.Old.K:Int)+(cVs x.Old.L:Int)=(k+(zy x.Path:Int)+1+(co:Int)):=by omega
  have e7:(k+(zy x.Path:Int)+1+(co:Int))+1+1+1+(x.New.S.length:Int)+(cB x.New.K:Int)+(cVs x.New.L:Int)=k+(cx:Int):=by omega
  have w1:w64 ((k+(zy x.Path:Int))+1)=(k+(zy x.Path:Int))+1:=zR (by omega) (by omega)
  have w2:w64 ((k+(zy x.Path:Int))+1+1)=(k+(zy x.Path:Int))+1+1:=zR (by omega) (by omega)
  have w3:w64 ((k+(zy x.Path:Int))+1+1+1)=(k+(zy x.Path:Int))+1+1+1:=zR (by omega) (by omega)
  have w4:w64 ((k+(zy x.Path:Int)+1+(co:Int))+1)=(k+(zy x.Path:Int)+1+(co:Int))+1:=zR (by omega) (by omega)
  have w5:w64 ((k+(zy x.Path:Int)+1+(co:Int))+1+1)=(k+(zy x.Path:Int)+1+(co:Int))+1+1:=zR (by omega) (by omega)
  have w6:w64 ((k+(zy x.Path:Int)+1+(co:Int))+1+1+1)=(k+(zy x.Path:Int)+1+(co:Int))+1+1+1:=zR (by omega) (by omega)
  have s1:yj x.Old.S ((k+(zy x.Path:Int))+1+1+1)=_:=YQ g3 (by omega) (by omega)
  have s2:yw x.Old.K ((k+(zy x.Path:Int))+1+1+1+x.Old.S.length)=_:=Jg g4 (by omega) (by omega)
  have s3:yB x.Old.L ((k+(zy x.Path:Int))+1+1+1+x.Old.S.length+cB x.Old.K)=_:=RN g5 (by omega) (by omega)
  have s4:yj x.New.S ((k+(zy x.Path:Int)+1+(co:Int))+1+1+1)=_:=YQ j3 (by omega) (by omega)
  have s5:yw x.New.K ((k+(zy x.Path:Int)+1+(co:Int))+1+1+1+x.New.S.length)=_:=Jg j4 (by omega) (by omega)
  have s6:yB x.New.L ((k+(zy x.Path:Int)+1+(co:Int))+1+1+1+x.New.S.length+cB x.New.K)=_:=RN j5 (by omega) (by omega)
  have n1':¬(k+(zy x.Path:Int))+1+1+1+(x.Old.S.length:Int)<0:=by omega
  have n2':¬(k+(zy x.Path:Int))+1+1+1+(x.Old.S.length:Int)+(cB x.Old.K:Int)<0:=by omega
  have n3':¬(k+(zy x.Path:Int)+1+(co:Int))<0:=by omega
  have n4':¬(k+(zy x.Path:Int)+1+(co:Int))+1+1+1+(x.New.S.length:Int)<0:=by omega
  have n5':¬(k+(zy x.Path:Int)+1+(co:Int))+1+1+1+(x.New.S.length:Int)+(cB x.New.K:Int)<0:=by omega
  have n6':¬k+(cx:Int)<0:=by omega
  by_cases c1:(k+(zy x.Path:Int)).tmod 3=0
  ·have hd:x.Had=true:=by rw[<-f1];exact decide_eq_true c1
   rw[if_pos hd,if_pos c1,w1,if_pos g1,w2,if_pos g2,w3,s1,oB,if_neg n1',s2,oB,if_neg n2',s3,oB,e6,if_neg n3']
   by_cases c2:(k+(zy x.Path:Int)+1+(co:Int)).tmod 3=0
   ·have hs:x.Has=true:=by rw[<-f3];exact decide_eq_true c2
    rw[if_pos hs,if_pos c2,w4,if_pos j1,w5,if_pos j2,w6,s4,oB,if_neg n4',s5,oB,if_neg n5',s6,oB,e7,if_neg n6',hz]
   ·have hs:¬x.Has=true:=by rw[<-f3];exact fun h=>c2 (of_decide_eq_true h)
    rw[if_neg hs,if_neg c2,w4,if_pos j1,w5,if_pos j2,w6,s4,oB,if_neg n4',s5,oB,if_neg n5',s6,oB,e7,if_neg n6',hz]
  ·have hd:¬x.Had=true:=by rw[<-f1];exact fun h=>c1 (of_decide_eq_true h)
   rw[if_neg hd,if_neg c1,w1,if_pos g1,w2,if_pos g2,w3,s1,oB,if_neg n1',s2,oB,if_neg n2',s3,oB,e6,if_neg n3']
   by_cases c2:(k+(zy x.Path:Int)+1+(co:Int)).tmod 3=0
   ·have hs:x.Has=true:=by rw[<-f3];exact decide_eq_true c2
    rw[if_pos hs,if_pos c2,w4,if_pos j1,w5,if_pos j2,w6,s4,oB,if_neg n4',s5,oB,if_neg n5',s6,oB,e7,if_neg n6',hz]
   ·have hs:¬x.Has=true:=by rw[<-f3];exact fun h=>c2 (of_decide_eq_true h)
    rw[if_neg hs,if_neg c2,w4,if_pos j1,w5,if_pos j2,w6,s4,oB,if_neg n4',s5,oB,if_neg n5',s6,oB,e7,if_neg n6',hz]
open Classical in
noncomputable def qE (a0:(List GChange)) (a1:Int):Option Int:=if ZG a1 a0=a0∧0<=a1∧a1+6*zY a0<=2 ^ 39 then some (a1+vf a0)else none
theorem NB {a:Int} {s:List GChange} (h:ZG a s=s) (h0:0<=a) (h1:a+6*zY s<=2 ^ 39):qE s a=some (a+vf s):=if_pos ⟨h,h0,h1⟩
theorem V7 (a0:(List GChange)) (a1:Int) (r:Int) (h:qE a0 a1=some r):∃n,YR n a0 a1=some r:=by
 unfold qE at h
 obtain⟨⟨he,h0,h1⟩,h⟩:=zB h
 have:=k9 a0
 obtain⟨z,hz⟩:=OD (a:=a0) a0 [] a1 (a0.length+1) rfl he h0 h1 (by simp;omega) (by omega)
 refine⟨a0.length+1,?_⟩
 unfold YR
 simp only[List.length_nil,Int.natCast_zero]at hz
 rw[hz]
 exact h
theorem Qe:QN qE:=fun a0 a1 r h=>(V7 a0 a1 r h).elim fun n hn=>Ux n a0 a1 r hn
def ZC (a0:GHistory) (a1:Int) (a2:Int) (a3:(List UInt8)):Option Bool:=
 if 1048576<(a3.length:Int)then
  some true
 else
 (ZU a0 1048576).bind fun r2=>
 if r2<0 then
  some true
 else
 (ZV a0).bind fun r4=>
 (y7 a3).bind fun r5=>
 (Xo r4 a1 a2 r5).bind fun⟨r6_0,r6_1⟩=>
 (Xs r4 a1 a2 r5).bind fun⟨r7_0,r7_1⟩=>
 (kX r7_0 r6_0).bind fun r8=>
 match r8 with
 |true=>
  if r7_1=true then
   if r6_1=true then
    (kY r4 r4).bind fun r11=>
    match r11 with
    |true=>
     (zX r5 r5).bind fun r12=>
     match r12 with
     |true=>
      (jO r4.Base.Serial r4.Base.Open r4.Base.Act r4.Safe 1 r4.Base.Pending r4.Base.Entries r4.Events).bind fun⟨r13_0,r13_1,r13_2,r13_3⟩=>
      (yb r13_0 r5).bind fun⟨r14_0,r14_1⟩=>
      if r14_0<0 then
       none
      else
      (qC 1 r7_0).bind fun⟨r16_0,r16_1⟩=>
      (qE r16_1 1).bind fun r17=>
      if r17<0 then
       none
      else
      if r17=r16_0 then
       some true
      else
      none
     |false=>
      none
    |false=>
     none
   else
   none
  else
  if r6_1=true then
   none
  else
  (kY r4 r4).bind fun r11=>
  match r11 with
  |true=>
   (zX r5 r5).bind fun r12=>
   match r12 with
   |true=>
    (jO r4.Base.Serial r4.Base.Open r4.Base.Act r4.Safe 1 r4.Base.Pending r4.Base.Entries r4.Events).bind fun⟨r13_0,r13_1,r13_2,r13_3⟩=>
    (yb r13_0 r5).bind fun⟨r14_0,r14_1⟩=>
    if r14_0<0 then
     none
    else
    (qC 1 r7_0).bind fun⟨r16_0,r16_1⟩=>
    (qE r16_1 1).bind fun r17=>
    if r17<0 then
     none
    else
    if r17=r16_0 then
     some true
    else
    none
   |false=>
    none
  |false=>
   none
 |false=>
  none
theorem ok_laws_FnExactBetween (a0:GHistory) (a1:Int) (a2:Int) (a3:(List UInt8)):Oc (ZC a0 a1 a2 a3) 3 [] [.val true (xv a0),vi a1,vi a2,vq za a3] fun r=>(vb r,[]):=tc (
 .le za a3<|.lI 1048576 (a3.length:Int) (fun c1=>.ret true) fun c1=>.cl (Pc a0 1048576) fun r2=>.lI r2 0 (fun c3=>.ret true) fun c3=>.cl (Pf a0) fun r4=>.cl (jT a3) fun r5=>.vw zH r4.Base.Pending<|.vo j8 r4.Base.Entries<|.vo YS r4.Events<|.vw zH r5<|.cl (LN r4 a1 a2 r5) fun⟨r6_0,r6_1⟩=>.cn zZ r6_0<|.ag 2<|.ag 1<|.vw zH r4.Base.Pending<|.vo j8 r4.Base.Entries<|.vo YS r4.Events<|.vw zH r5<|.cl (LZ r4 a1 a2 r5) fun⟨r7_0,r7_1⟩=>.cn zZ r7_0<|.vo zZ r7_0<|.vo zZ r6_0<|.cl (P1 r7_0 r6_0) fun r8=>.vN 0 r8 (
  .an 0 0<|.an 0 0<|.sp (r7_1=true) (fun c9=>.sp (r6_1=true) (fun c10=>.eb c9 c10<|.an 0 0<|.ag 5<|.vw zH r4.Base.Pending<|.vo j8 r4.Base.Entries<|.vo YS r4.Events<|.vw zH r4.Base.Pending<|.vo j8 r4.Base.Entries<|.vo YS r4.Events<|.cl (Jp r4 r4) fun r11=>.vN 0 r11 (
     .ag 6<|.vw zH r5<|.vw zH r5<|.cl (xX r5 r5) fun r12=>.vN 0 r12 (
      .cl (Qc r4.Base.Serial r4.Base.Open r4.Base.Act r4.Safe 1 r4.Base.Pending r4.Base.Entries r4.Events) fun⟨r13_0,r13_1,r13_2,r13_3⟩=>.cl (yA r13_0 r5) fun⟨r14_0,r14_1⟩=>.lI r14_0 0 (fun c15=>.no) fun c15=>.vo zZ r7_0<|.vo zZ r6_0<|.ag 7<|.an 2 6<|.an 0 6<|.an 0 6<|.eb c9 c10<|.an 0 6<|.cl (Qd 1 r7_0) fun⟨r16_0,r16_1⟩=>.vo zZ r16_1<|.cl (Qe r16_1 1) fun r17=>.lI r17 0 (fun c18=>.no) fun c18=>.eI r17 r16_0 (fun c19=>.ag 13<|.ag 12<|.vw zH r4.Base.Pending<|.vo j8 r4.Base.Entries<|.vo YS r4.Events<|.vw zH r5<|.ag 10<|.cn zZ r7_0<|.vo zZ r7_0<|.vo zZ r6_0<|.ag 9<|.an 0 8<|.an 0 8<|.an 0 8<|.eb c9 c10<|.an 0 8<|.vo zZ r16_1<|.ag 0<|.q (.lF c18)<|.q (.eT c19)<|.ret true) fun c19=>.no)<|.no)<|.no) fun c10=>.no) fun c9=>.sp (r6_1=true) (fun c10=>.no) fun c10=>.eb (bF c9) (bF c10)<|.an 0 0<|.ag 5<|.vw zH r4.Base.Pending<|.vo j8 r4.Base.Entries<|.vo YS r4.Events<|.vw zH r4.Base.Pending<|.vo j8 r4.Base.Entries<|.vo YS r4.Events<|.cl (Jp r4 r4) fun r11=>.vN 0 r11 (
   .ag 6<|.vw zH r5<|.vw zH r5<|.cl (xX r5 r5) fun r12=>.vN 0 r12 (
    .cl (Qc r4.Base.Serial r4.Base.Open r4.Base.Act r4.Safe 1 r4.Base.Pending r4.Base.Entries r4.Events) fun⟨r13_0,r13_1,r13_2,r13_3⟩=>.cl (yA r13_0 r5) fun⟨r14_0,r14_1⟩=>.lI r14_0 0 (fun c15=>.no) fun c15=>.vo zZ r7_0<|.vo zZ r6_0<|.ag 7<|.an 2 6<|.an 0 6<|.an 0 6<|.eb (bF c9) (bF c10)<|.an 0 6<|.cl (Qd 1 r7_0) fun⟨r16_0,r16_1⟩=>.vo zZ r16_1<|.cl (Qe r16_1 1) fun r17=>.lI r17 0 (fun c18=>.no) fun c18=>.eI r17 r16_0 (fun c19=>.ag 13<|.ag 12<|.vw zH r4.Base.Pending<|.vo j8 r4.Base.Entries<|.vo YS r4.Events<|.vw zH r5<|.ag 10<|.cn zZ r7_0<|.vo zZ r7_0<|.vo zZ r6_0<|.ag 9<|.an 0 8<|.an 0 8<|.an 0 8<|.eb (bF c9) (bF c10)<|.an 0 8<|.vo zZ r16_1<|.ag 0<|.q (.lF c18)<|.q (.eT c19)<|.ret true) fun c19=>.no)<|.no)<|.no)<|.no) (zf Tryz.func3)
end
end Go.Am.Try
