
/- The functions of the program in plain Lean, and that the machine answers as they do; conditions at each theorem. -/
import Derived.Test.YtklelfbkffbceaaGreatDoorBCptI
set_option linter.unusedVariables false
set_option linter.unusedSimpArgs false
set_option linter.unusedVariables false
set_option linter.unusedSimpArgs false
namespace Go.Am
open Go.Proofs Go.Shelf Go.RowKit Go.Lib Go.Sort
set_option maxHeartbeats 4000000 in
set_option maxRecDepth 1000000 in
theorem zd7 (enc:Nat→Value) (tx:Nat→List UInt8) (b off n cap:Nat) (w:World) (hO:OneCell enc) (hE:En Tryz.prog 64 enc tx w b off n) (hH:Holds enc w b off (Array.range n)) (hblt:b<w.heap.size) (hn:n<=1048576) (hcap:n<=cap) (h2:¬n<2) (v22:∀w,(zeroValue 22).run Tryz.prog w= .ok (enc n) w):
 Calls Tryz.prog 95 #[.slice (some ⟨b,off,none⟩) n cap,.func (.func 64) #[] #[]] w fun e w'=>e= .returned (.slice (some ⟨b,off,none⟩) (jk tx n).length cap)∧
  SW enc w b off (jk tx n++List.replicate (n - (jk tx n).length) n).toArray w':=by
 have eg:∀args w,(callFunc 64 args).run Tryz.prog w= .ok (.enter 64 args) w:=Go.Proofs.enters_of Tryz.func64 (by kernel_rfl) rfl
 have mixed:Tryz.prog.follows .mixedOrders=true:=by kernel_rfl
 have R:Row1 enc w b off (Array.range n):=⟨hO,hH,hblt⟩
 have hdz:(Array.range n).size=n:=by simp
 have hdg:∀j,j<n→(Array.range n)[j]! =j:=fun j hj=>by rw[getElem!_pos _ j (by rw[hdz];exact hj)];simp
 have hcl0:=hO.cells
 simp only[Value.cells]at hcl0
 have hst:=hO.store Tryz.prog
 have S0:Aside (SW enc w b off (Array.range n) w):=SW.start hH
 have HE:Aside _:=hE
 have DG:Aside _:=hdg
 have hall:Aside (∀kk,CInv tx n n kk (Array.range n)→True):=fun _ _=>trivial
 have START:Aside (∀k0,k0<n→(∀j,j<k0→kpI tx j=true)→kpI tx k0=false→CInv tx n (k0+1) k0 (Array.range n)):=fun k0 h1 h2 h3=>CInv.start h1 h2 h3
 have SAME:Aside ((∀j,j<n→kpI tx j=true)→(jk tx n).length=n∧(jk tx n++List.replicate (n - (jk tx n).length) n).toArray=Array.range n):=fun h=>by
  rw[VW tx n h]
  refine⟨by simp,?_⟩
  simp only[List.length_range,Nat.sub_self,List.replicate_zero,List.append_nil]
  apply Array.ext_getElem?
  intro i
  simp
 have K1:Aside (∀j,j<1→kpI tx j=true):=Ek tx
 generalize Array.range n=d0 at R hdz DG S0 START SAME
 clear hE hH hdg hall
 go_enter Tryz.func95,show Tryz.f95.ntmps=66 from rfl
 go_wp2
 go_loopg [5] n (fun g s5 wr=>∃k:Nat,1<=k∧k<=n∧n - k<=g∧s5= .int .i64 k∧Aside (SW enc w b off d0 wr)∧Aside (∀j,j<k→kpI tx j=true))
 case atStart=>exact⟨1,Nat.le_refl _,by omega,by omega,by go_num,S0,K1⟩
 case round=>
  clear S0
  obtain⟨k,hk1,hk,hg,rfl,S1,A⟩:=hrel
  by_cases hlt:k<n
  ·have hltz:(k:Int)<(n:Int):=by omega
   obtain⟨jp,hjp⟩:∃q,q+1=k:=⟨k - 1,by omega⟩
   have zjp:(k:Int)=(jp:Int)+1:=by omega
   have pa:(0:Int)<=(jp:Int)+1:=by omega
   have ba:(jp:Int)+1<(n:Int):=by omega
   have ra:IntKind.i64.wrap ((jp:Int)+1)=(jp:Int)+1:=by rw[IntKind.wrap_i64];omega
   have pc:(0:Int)<=(jp:Int):=by omega
   have bc:(jp:Int)<(n:Int):=by omega
   have rc:IntKind.i64.wrap ((jp:Int))=(jp:Int):=by rw[IntKind.wrap_i64];omega
   have la:=S1.out.cl R rfl k (by omega)
   have lb:=S1.out.cl R rfl jp (by omega)
   rw[DG.out k hlt]at la
   rw[DG.out jp (by omega)]at lb
   have hc:=SW.eqc S1.out HE.out hdz k jp (by omega) (by omega)
   cases hdup:decide (tx k=tx jp)with
   |true=>
    rw[hdup]at hc
    have hkn:kpI tx k=false:=Em (by omega) (by have:=of_decide_eq_true hdup;rw[this];congr 1;omega)
    have HK:Aside (kpI tx k=false):=hkn
    clear hkn hdup
    go_wp2_with fail
    go_quiet_grown (first|(go_at_fn 64;refine Calls.grown_of (hc _ _)))
    have S2:Aside (SW enc w b off d0 (Go.Sort.grow (wr.drewN nq) osq)):=S1.out.grown nq osq
    clear la lb hc S1
    generalize Go.Sort.grow (wr.drewN nq) osq=w2 at S2 ⊢
    clear nq osq
    go_wp2
    go_loopg [5,7] n (fun g s5 s7 wr2=>∃(kk k2:Nat) (dk:Array Nat),s5= .int .i64 kk∧s7= .int .i64 k2∧1<=k2∧k+k2<=n∧n - (k+k2)<=g∧Aside (SW enc w b off dk wr2)∧Aside (CInv tx n (k+k2) kk dk))
    case atStart=>exact⟨k,1,d0,by go_num,rfl,Nat.le_refl _,by omega,by omega,S2,START.out k hlt A.out HK.out⟩
    case round=>
     clear S2
     obtain⟨kk,k2,dk,rfl,rfl,h1,hle,hg2,SJ,I2⟩:=hrel
     have hkk:=I2.out.lt
     have hds:=I2.out.size
     by_cases hlt2:k+k2<n
     ·obtain⟨kp,hkp⟩:∃q,q+1=k2:=⟨k2 - 1,by omega⟩
      have zkp:(k2:Int)=(kp:Int)+1:=by omega
      have qa:(0:Int)<=(kp:Int)+1:=by omega
      have qb:(kp:Int)+1<((n - k:Nat):Int):=by omega
      have qr:IntKind.i64.wrap ((kp:Int)+1)=(kp:Int)+1:=by rw[IntKind.wrap_i64];omega
      have qc:(0:Int)<=(kp:Int):=by omega
      have qd:(kp:Int)<((n - k:Nat):Int):=by omega
      have qe:IntKind.i64.wrap ((kp:Int))=(kp:Int):=by rw[IntKind.wrap_i64];omega
      have la:=SJ.out.cl R (hds.trans hdz.symm) (k+k2) (by omega)
      have lb:=SJ.out.cl R (hds.trans hdz.symm) (k+kp) (by omega)
      rw[I2.out.high (k+k2) (by omega) hlt2,show off+(k+k2)=off+k+k2 by omega]at la
      rw[I2.out.high (k+kp) (by omega) (by omega),show off+(k+kp)=off+k+kp by omega]at lb
      have hc:=SW.eqc SJ.out HE.out hds (k+k2) (k+kp) (by omega) (by omega)
      obtain⟨xa,hxa⟩:∃x,x=k+k2:=⟨_,rfl⟩
      obtain⟨xb,hxb⟩:∃x,x=k+kp:=⟨_,rfl⟩
      rw[<-hxa]at la hc
      rw[<-hxb]at lb hc
      cases hdup:decide (tx xa=tx xb)with
      |true=>
       rw[hdup]at hc
       have HK2:Aside (kpI tx (k+k2)=false):=Em (by omega) (by have:=of_decide_eq_true hdup;rw[<-hxa,this,hxb];congr 1;omega)
       clear hdup hxa hxb
       go_wp2_with fail
       go_quiet_grown (first|(go_at_fn 64;refine Calls.grown_of (hc _ _)))
       have S3:Aside (SW enc w b off dk (Go.Sort.grow (wr.drewN nq) osq)):=SJ.out.grown nq osq
       clear la lb hc SJ
       generalize Go.Sort.grow (wr.drewN nq) osq=w3 at S3 ⊢
       clear nq osq
       go_wp2
       go_roundg (n - (k+(k2+1)))
       case measure=>omega
       case rel=>exact⟨kk,k2+1,dk,rfl,by go_num,by omega,by omega,Nat.le_refl _,S3,I2.out.skip HK2.out⟩
      |false=>
       rw[hdup]at hc
       have HK2:Aside (kpI tx (k+k2)=true):=El (by have:=of_decide_eq_false hdup;rwa [<-hxa,show xa - 1=xb by omega])
       have XA:Aside (xa=k+k2):=hxa
       clear hdup hxa hxb
       go_wp2_with fail
       go_quiet_grown (first|(go_at_fn 64;refine Calls.grown_of (hc _ _)))
       have S3:Aside (SW enc w b off dk (Go.Sort.grow (wr.drewN nq) osq)):=SJ.out.grown nq osq
       clear la lb hc SJ
       generalize Go.Sort.grow (wr.drewN nq) osq=w3 at S3 ⊢
       clear nq osq
       have cm:=S3.out.c1 R (hds.trans hdz.symm) (k+k2) (by omega)
       have ck:=S3.out.c1 R (hds.trans hdz.symm) kk (by omega)
       have fk:=S3.out.f1 R (hds.trans hdz.symm) kk (by omega)
       rw[I2.out.high (k+k2) (by omega) hlt2,show off+(k+k2)=off+k+k2 by omega,<-XA.out]at cm
       generalize enc dk[kk]! =old at ck
       go_wp2
       go_roundg (n - (k+(k2+1)))
       case measure=>omega
       case rel=>exact⟨kk+1,k2+1,dk.setIfInBounds kk xa,by go_num,by go_num,by omega,by omega,Nat.le_refl _,SW.setOne S3.out hblt kk xa (by omega),by rw[XA.out];exact I2.out.keep hlt2 HK2.out⟩
     ·have hend:k+k2=n:=by omega
      have t23:Tryz.prog.underlying 50=some (.slice 22):=by kernel_rfl
      have hcl:∀ty,(Builtin.clear_ #[50] ty #[.slice (some ⟨b,off+kk,none⟩) (n - kk) (cap - kk)]).run Tryz.prog wr= .ok (.tuple #[]) (wr.setCells b (off+kk) (List.replicate (n - kk) (enc n))):=
       fun ty=>Lib.run_clear_slice wr _ _ ty _ t23 v22 (hO.cells n) (hO n) b (off+kk) _ _ (by omega) (fun j hj=>by rw[show off+kk+j=off+(kk+j) by omega,SJ.out.c1 R (hds.trans hdz.symm) (kk+j) (by omega)];rfl) (fun j hj=>by rw[show off+kk+j=off+(kk+j) by omega];exact SJ.out.f1 R (hds.trans hdz.symm) (kk+j) (by omega))
      go_wp2
      go_ret
      have hI:=I2.out
      rw[hend]at hI
      refine⟨by rw[hI.len];rfl,?_⟩
      rw[hI.len,<-hI.done n,<-List.map_replicate]
      exact SW.setMany SJ.out hblt _ kk (by simp;omega)
   |false=>
    rw[hdup]at hc
    have hkn:kpI tx k=true:=El (by have:=of_decide_eq_false hdup;rwa [show k - 1=jp by omega])
    have HK:Aside (kpI tx k=true):=hkn
    clear hkn hdup
    go_wp2_with fail
    go_quiet_grown (first|(go_at_fn 64;refine Calls.grown_of (hc _ _)))
    have S2:Aside (SW enc w b off d0 (Go.Sort.grow (wr.drewN nq) osq)):=S1.out.grown nq osq
    clear la lb hc S1
    generalize Go.Sort.grow (wr.drewN nq) osq=w2 at S2 ⊢
    clear nq osq
    go_wp2
    go_roundg (n - (k+1))
    case measure=>omega
    case rel=>
     refine⟨k+1,by omega,by omega,Nat.le_refl _,by go_num,S2,fun j hj=> ?_⟩
     by_cases e:j=k
     ·subst e;exact HK.out
     ·exact A.out j (by omega)
  ·have hkn:k=n:=by omega
   subst hkn
   have hltz:¬(k:Int)<(k:Int):=by omega
   go_wp2
   go_ret
   obtain⟨e1,e2⟩:=SAME.out A.out
   exact⟨by rw[e1];rfl,by rw[e2];exact S1.out⟩
end Go.Am
