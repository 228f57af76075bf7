
/- The functions of the program in plain Lean, and that the machine answers as they do; conditions at each theorem. -/
import Derived.Test.YtklelfbkffbceaaGreatDoorBG4
set_option linter.unusedVariables false
set_option linter.unusedSimpArgs false
namespace Go.Am.Try
open Go.Am Go.Proofs
set_option linter.unusedVariables false
set_option maxRecDepth 20000
set_option maxHeartbeats 2000000
noncomputable section
def Jr (F:Int→(List GEntry)→Option (Int×(List GEntry))):Prop:=∀(a0:Int) (e0:(List GEntry)),Oc (F a0 e0) 102 [.obj 9 (eL zQ e0)] [vr 0,vi a0] fun r=>(vi r.1,[.obj 9 (eL zQ r.2)])
def wy:Nat→Int→Int→(List GEntry)→Option (Int×Int×(List GEntry))
 |0,_,_,_=>none
 |m+1,a0,v1,e0=>
 if v1<(e0.length:Int)then
  (zn v1).bind fun i2=>
  (e0[i2]?).bind fun x3=>
  (yb a0 x3.Addr).bind fun⟨r4_0,r4_1⟩=>
  ((e0.set i2 (GEntry.mk r4_1 x3.Val x3.Deps x3.Taint x3.Turned))[i2]?).bind fun x5=>
  (((e0.set i2 (GEntry.mk r4_1 x3.Val x3.Deps x3.Taint x3.Turned)).set i2 (GEntry.mk x5.Addr (GValue.mk r4_0 x5.Val.N x5.Val.S x5.Val.K x5.Val.L) x5.Deps x5.Taint x5.Turned))[i2]?).bind fun x6=>
  ((((e0.set i2 (GEntry.mk r4_1 x3.Val x3.Deps x3.Taint x3.Turned)).set i2 (GEntry.mk x5.Addr (GValue.mk r4_0 x5.Val.N x5.Val.S x5.Val.K x5.Val.L) x5.Deps x5.Taint x5.Turned)).set i2 (GEntry.mk x6.Addr (GValue.mk x6.Val.Kind (w64 (r4_0+1)) x6.Val.S x6.Val.K x6.Val.L) x6.Deps x6.Taint x6.Turned))[i2]?).bind fun x7=>
  (yb (w64 ((w64 (r4_0+1))+1)) x7.Val.S).bind fun⟨r8_0,r8_1⟩=>
  (((((e0.set i2 (GEntry.mk r4_1 x3.Val x3.Deps x3.Taint x3.Turned)).set i2 (GEntry.mk x5.Addr (GValue.mk r4_0 x5.Val.N x5.Val.S x5.Val.K x5.Val.L) x5.Deps x5.Taint x5.Turned)).set i2 (GEntry.mk x6.Addr (GValue.mk x6.Val.Kind (w64 (r4_0+1)) x6.Val.S x6.Val.K x6.Val.L) x6.Deps x6.Taint x6.Turned)).set i2 (GEntry.mk x7.Addr (GValue.mk x7.Val.Kind x7.Val.N r8_1 x7.Val.K x7.Val.L) x7.Deps x7.Taint x7.Turned))[i2]?).bind fun x9=>
  (yM r8_0 x9.Val.K).bind fun⟨r10_0,r10_1⟩=>
  ((((((e0.set i2 (GEntry.mk r4_1 x3.Val x3.Deps x3.Taint x3.Turned)).set i2 (GEntry.mk x5.Addr (GValue.mk r4_0 x5.Val.N x5.Val.S x5.Val.K x5.Val.L) x5.Deps x5.Taint x5.Turned)).set i2 (GEntry.mk x6.Addr (GValue.mk x6.Val.Kind (w64 (r4_0+1)) x6.Val.S x6.Val.K x6.Val.L) x6.Deps x6.Taint x6.Turned)).set i2 (GEntry.mk x7.Addr (GValue.mk x7.Val.Kind x7.Val.N r8_1 x7.Val.K x7.Val.L) x7.Deps x7.Taint x7.Turned)).set i2 (GEntry.mk x9.Addr (GValue.mk x9.Val.Kind x9.Val.N x9.Val.S r10_1 x9.Val.L) x9.Deps x9.Taint x9.Turned))[i2]?).bind fun x11=>
  (xQ r10_0 x11.Val.L).bind fun⟨r12_0,r12_1⟩=>
  (((((((e0.set i2 (GEntry.mk r4_1 x3.Val x3.Deps x3.Taint x3.Turned)).set i2 (GEntry.mk x5.Addr (GValue.mk r4_0 x5.Val.N x5.Val.S x5.Val.K x5.Val.L) x5.Deps x5.Taint x5.Turned)).set i2 (GEntry.mk x6.Addr (GValue.mk x6.Val.Kind (w64 (r4_0+1)) x6.Val.S x6.Val.K x6.Val.L) x6.Deps x6.Taint x6.Turned)).set i2 (GEntry.mk x7.Addr (GValue.mk x7.Val.Kind x7.Val.N r8_1 x7.Val.K x7.Val.L) x7.Deps x7.Taint x7.Turned)).set i2 (GEntry.mk x9.Addr (GValue.mk x9.Val.Kind x9.Val.N x9.Val.S r10_1 x9.Val.L) x9.Deps x9.Taint x9.Turned)).set i2 (GEntry.mk x11.Addr (GValue.mk x11.Val.Kind x11.Val.N x11.Val.S x11.Val.K r12_1) x11.Deps x11.Taint x11.Turned))[i2]?).bind fun x13=>
  (yM r12_0 x13.Deps).bind fun⟨r14_0,r14_1⟩=>
  ((((((((e0.set i2 (GEntry.mk r4_1 x3.Val x3.Deps x3.Taint x3.Turned)).set i2 (GEntry.mk x5.Addr (GValue.mk r4_0 x5.Val.N x5.Val.S x5.Val.K x5.Val.L) x5.Deps x5.Taint x5.Turned)).set i2 (GEntry.mk x6.Addr (GValue.mk x6.Val.Kind (w64 (r4_0+1)) x6.Val.S x6.Val.K x6.Val.L) x6.Deps x6.Taint x6.Turned)).set i2 (GEntry.mk x7.Addr (GValue.mk x7.Val.Kind x7.Val.N r8_1 x7.Val.K x7.Val.L) x7.Deps x7.Taint x7.Turned)).set i2 (GEntry.mk x9.Addr (GValue.mk x9.Val.Kind x9.Val.N x9.Val.S r10_1 x9.Val.L) x9.Deps x9.Taint x9.Turned)).set i2 (GEntry.mk x11.Addr (GValue.mk x11.Val.Kind x11.Val.N x11.Val.S x11.Val.K r12_1) x11.Deps x11.Taint x11.Turned)).set i2 (GEntry.mk x13.Addr x13.Val r14_1 x13.Taint x13.Turned))[i2]?).bind fun x15=>
  (((((((((e0.set i2 (GEntry.mk r4_1 x3.Val x3.Deps x3.Taint x3.Turned)).set i2 (GEntry.mk x5.Addr (GValue.mk r4_0 x5.Val.N x5.Val.S x5.Val.K x5.Val.L) x5.Deps x5.Taint x5.Turned)).set i2 (GEntry.mk x6.Addr (GValue.mk x6.Val.Kind (w64 (r4_0+1)) x6.Val.S x6.Val.K x6.Val.L) x6.Deps x6.Taint x6.Turned)).set i2 (GEntry.mk x7.Addr (GValue.mk x7.Val.Kind x7.Val.N r8_1 x7.Val.K x7.Val.L) x7.Deps x7.Taint x7.Turned)).set i2 (GEntry.mk x9.Addr (GValue.mk x9.Val.Kind x9.Val.N x9.Val.S r10_1 x9.Val.L) x9.Deps x9.Taint x9.Turned)).set i2 (GEntry.mk x11.Addr (GValue.mk x11.Val.Kind x11.Val.N x11.Val.S x11.Val.K r12_1) x11.Deps x11.Taint x11.Turned)).set i2 (GEntry.mk x13.Addr x13.Val r14_1 x13.Taint x13.Turned)).set i2 (GEntry.mk x15.Addr x15.Val x15.Deps (decide ((r14_0.tmod 3)=0)) x15.Turned))[i2]?).bind fun x16=>
  wy m (w64 ((w64 (r14_0+1))+1)) (w64 (v1+1)) (((((((((e0.set i2 (GEntry.mk r4_1 x3.Val x3.Deps x3.Taint x3.Turned)).set i2 (GEntry.mk x5.Addr (GValue.mk r4_0 x5.Val.N x5.Val.S x5.Val.K x5.Val.L) x5.Deps x5.Taint x5.Turned)).set i2 (GEntry.mk x6.Addr (GValue.mk x6.Val.Kind (w64 (r4_0+1)) x6.Val.S x6.Val.K x6.Val.L) x6.Deps x6.Taint x6.Turned)).set i2 (GEntry.mk x7.Addr (GValue.mk x7.Val.Kind x7.Val.N r8_1 x7.Val.K x7.Val.L) x7.Deps x7.Taint x7.Turned)).set i2 (GEntry.mk x9.Addr (GValue.mk x9.Val.Kind x9.Val.N x9.Val.S r10_1 x9.Val.L) x9.Deps x9.Taint x9.Turned)).set i2 (GEntry.mk x11.Addr (GValue.mk x11.Val.Kind x11.Val.N x11.Val.S x11.Val.K r12_1) x11.Deps x11.Taint x11.Turned)).set i2 (GEntry.mk x13.Addr x13.Val r14_1 x13.Taint x13.Turned)).set i2 (GEntry.mk x15.Addr x15.Val x15.Deps (decide ((r14_0.tmod 3)=0)) x15.Turned)).set i2 (GEntry.mk x16.Addr x16.Val x16.Deps x16.Taint (w64 (r14_0+1))))
 else
 some (a0,v1,e0)
theorem V2 (m:Nat):∀(a0:Int) (v1:Int) (e0:(List GEntry)),Ol (wy m a0 v1 e0) 102 (zD Tryz.f102 0) ⟨[(0,vr 0),(1,vi a0),(5,vi v1)],[.obj 9 (eL zQ e0)],1⟩ fun o=>match o with |⟨o_0,o_1,o_2⟩=>(.exit 0,⟨[(0,vr 0),(1,vi o_0),(5,vi o_1),(9,vb false)],[.obj 9 (eL zQ o_2)],1⟩):=by
 induction m with
 |zero=>intro a0 v1 e0 o h;cases h
 |succ m ih=>exact fun a0 v1 e0=>tlp (
  .le zQ e0<|.lI v1 (e0.length:Int) (fun c1=>.na v1 fun i2=>.ix zJ e0 i2 fun x3=>.ag 0<|.cl (yA a0 x3.Addr) fun⟨r4_0,r4_1⟩=>.ag 1<|.sl (zJ (GEntry.mk r4_1 x3.Val x3.Deps x3.Taint x3.Turned)) e0 i2<|.ag 2<|.ix zJ (e0.set i2 (GEntry.mk r4_1 x3.Val x3.Deps x3.Taint x3.Turned)) i2 fun x5=>.ag 0<|.sl (zJ (GEntry.mk x5.Addr (GValue.mk r4_0 x5.Val.N x5.Val.S x5.Val.K x5.Val.L) x5.Deps x5.Taint x5.Turned)) (e0.set i2 (GEntry.mk r4_1 x3.Val x3.Deps x3.Taint x3.Turned)) i2<|.ag 3<|.ix zJ ((e0.set i2 (GEntry.mk r4_1 x3.Val x3.Deps x3.Taint x3.Turned)).set i2 (GEntry.mk x5.Addr (GValue.mk r4_0 x5.Val.N x5.Val.S x5.Val.K x5.Val.L) x5.Deps x5.Taint x5.Turned)) i2 fun x6=>.ag 0<|.sl (zJ (GEntry.mk x6.Addr (GValue.mk x6.Val.Kind (w64 (r4_0+1)) x6.Val.S x6.Val.K x6.Val.L) x6.Deps x6.Taint x6.Turned)) ((e0.set i2 (GEntry.mk r4_1 x3.Val x3.Deps x3.Taint x3.Turned)).set i2 (GEntry.mk x5.Addr (GValue.mk r4_0 x5.Val.N x5.Val.S x5.Val.K x5.Val.L) x5.Deps x5.Taint x5.Turned)) i2<|.ag 4<|.ix zJ (((e0.set i2 (GEntry.mk r4_1 x3.Val x3.Deps x3.Taint x3.Turned)).set i2 (GEntry.mk x5.Addr (GValue.mk r4_0 x5.Val.N x5.Val.S x5.Val.K x5.Val.L) x5.Deps x5.Taint x5.Turned)).set i2 (GEntry.mk x6.Addr (GValue.mk x6.Val.Kind (w64 (r4_0+1)) x6.Val.S x6.Val.K x6.Val.L) x6.Deps x6.Taint x6.Turned)) i2 fun x7=>.ag 0<|.cl (yA (w64 ((w64 (r4_0+1))+1)) x7.Val.S) fun⟨r8_0,r8_1⟩=>.ag 1<|.sl (zJ (GEntry.mk x7.Addr (GValue.mk x7.Val.Kind x7.Val.N r8_1 x7.Val.K x7.Val.L) x7.Deps x7.Taint x7.Turned)) (((e0.set i2 (GEntry.mk r4_1 x3.Val x3.Deps x3.Taint x3.Turned)).set i2 (GEntry.mk x5.Addr (GValue.mk r4_0 x5.Val.N x5.Val.S x5.Val.K x5.Val.L) x5.Deps x5.Taint x5.Turned)).set i2 (GEntry.mk x6.Addr (GValue.mk x6.Val.Kind (w64 (r4_0+1)) x6.Val.S x6.Val.K x6.Val.L) x6.Deps x6.Taint x6.Turned)) i2<|.ag 6<|.ix zJ ((((e0.set i2 (GEntry.mk r4_1 x3.Val x3.Deps x3.Taint x3.Turned)).set i2 (GEntry.mk x5.Addr (GValue.mk r4_0 x5.Val.N x5.Val.S x5.Val.K x5.Val.L) x5.Deps x5.Taint x5.Turned)).set i2 (GEntry.mk x6.Addr (GValue.mk x6.Val.Kind (w64 (r4_0+1)) x6.Val.S x6.Val.K x6.Val.L) x6.Deps x6.Taint x6.Turned)).set i2 (GEntry.mk x7.Addr (GValue.mk x7.Val.Kind x7.Val.N r8_1 x7.Val.K x7.Val.L) x7.Deps x7.Taint x7.Turned)) i2 fun x9=>.ag 0<|.cl (wl r8_0 x9.Val.K) fun⟨r10_0,r10_1⟩=>.ag 1<|.sl (zJ (GEntry.mk x9.Addr (GValue.mk x9.Val.Kind x9.Val.N x9.Val.S r10_1 x9.Val.L) x9.Deps x9.Taint x9.Turned)) ((((e0.set i2 (GEntry.mk r4_1 x3.Val x3.Deps x3.Taint x3.Turned)).set i2 (GEntry.mk x5.Addr (GValue.mk r4_0 x5.Val.N x5.Val.S x5.Val.K x5.Val.L) x5.Deps x5.Taint x5.Turned)).set i2 (GEntry.mk x6.Addr (GValue.mk x6.Val.Kind (w64 (r4_0+1)) x6.Val.S x6.Val.K x6.Val.L) x6.Deps x6.Taint x6.Turned)).set i2 (GEntry.mk x7.Addr (GValue.mk x7.Val.Kind x7.Val.N r8_1 x7.Val.K x7.Val.L) x7.Deps x7.Taint x7.Turned)) i2<|.ag 8<|.ix zJ (((((e0.set i2 (GEntry.mk r4_1 x3.Val x3.Deps x3.Taint x3.Turned)).set i2 (GEntry.mk x5.Addr (GValue.mk r4_0 x5.Val.N x5.Val.S x5.Val.K x5.Val.L) x5.Deps x5.Taint x5.Turned)).set i2 (GEntry.mk x6.Addr (GValue.mk x6.Val.Kind (w64 (r4_0+1)) x6.Val.S x6.Val.K x6.Val.L) x6.Deps x6.Taint x6.Turned)).set i2 (GEntry.mk x7.Addr (GValue.mk x7.Val.Kind x7.Val.N r8_1 x7.Val.K x7.Val.L) x7.Deps x7.Taint x7.Turned)).set i2 (GEntry.mk x9.Addr (GValue.mk x9.Val.Kind x9.Val.N x9.Val.S r10_1 x9.Val.L) x9.Deps x9.Taint x9.Turned)) i2 fun x11=>.ag 0<|.cl (vU r10_0 x11.Val.L) fun⟨r12_0,r12_1⟩=>.ag 1<|.sl (zJ (GEntry.mk x11.Addr (GValue.mk x11.Val.Kind x11.Val.N x11.Val.S x11.Val.K r12_1) x11.Deps x11.Taint x11.Turned)) (((((e0.set i2 (GEntry.mk r4_1 x3.Val x3.Deps x3.Taint x3.Turned)).set i2 (GEntry.mk x5.Addr (GValue.mk r4_0 x5.Val.N x5.Val.S x5.Val.K x5.Val.L) x5.Deps x5.Taint x5.Turned)).set i2 (GEntry.mk x6.Addr (GValue.mk x6.Val.Kind (w64 (r4_0+1)) x6.Val.S x6.Val.K x6.Val.L) x6.Deps x6.Taint x6.Turned)).set i2 (GEntry.mk x7.Addr (GValue.mk x7.Val.Kind x7.Val.N r8_1 x7.Val.K x7.Val.L) x7.Deps x7.Taint x7.Turned)).set i2 (GEntry.mk x9.Addr (GValue.mk x9.Val.Kind x9.Val.N x9.Val.S r10_1 x9.Val.L) x9.Deps x9.Taint x9.Turned)) i2<|.ag 10<|.ix zJ ((((((e0.set i2 (GEntry.mk r4_1 x3.Val x3.Deps x3.Taint x3.Turned)).set i2 (GEntry.mk x5.Addr (GValue.mk r4_0 x5.Val.N x5.Val.S x5.Val.K x5.Val.L) x5.Deps x5.Taint x5.Turned)).set i2 (GEntry.mk x6.Addr (GValue.mk x6.Val.Kind (w64 (r4_0+1)) x6.Val.S x6.Val.K x6.Val.L) x6.Deps x6.Taint x6.Turned)).set i2 (GEntry.mk x7.Addr (GValue.mk x7.Val.Kind x7.Val.N r8_1 x7.Val.K x7.Val.L) x7.Deps x7.Taint x7.Turned)).set i2 (GEntry.mk x9.Addr (GValue.mk x9.Val.Kind x9.Val.N x9.Val.S r10_1 x9.Val.L) x9.Deps x9.Taint x9.Turned)).set i2 (GEntry.mk x11.Addr (GValue.mk x11.Val.Kind x11.Val.N x11.Val.S x11.Val.K r12_1) x11.Deps x11.Taint x11.Turned)) i2 fun x13=>.ag 0<|.cl (wl r12_0 x13.Deps) fun⟨r14_0,r14_1⟩=>.ag 1<|.sl (zJ (GEntry.mk x13.Addr x13.Val r14_1 x13.Taint x13.Turned)) ((((((e0.set i2 (GEntry.mk r4_1 x3.Val x3.Deps x3.Taint x3.Turned)).set i2 (GEntry.mk x5.Addr (GValue.mk r4_0 x5.Val.N x5.Val.S x5.Val.K x5.Val.L) x5.Deps x5.Taint x5.Turned)).set i2 (GEntry.mk x6.Addr (GValue.mk x6.Val.Kind (w64 (r4_0+1)) x6.Val.S x6.Val.K x6.Val.L) x6.Deps x6.Taint x6.Turned)).set i2 (GEntry.mk x7.Addr (GValue.mk x7.Val.Kind x7.Val.N r8_1 x7.Val.K x7.Val.L) x7.Deps x7.Taint x7.Turned)).set i2 (GEntry.mk x9.Addr (GValue.mk x9.Val.Kind x9.Val.N x9.Val.S r10_1 x9.Val.L) x9.Deps x9.Taint x9.Turned)).set i2 (GEntry.mk x11.Addr (GValue.mk x11.Val.Kind x11.Val.N x11.Val.S x11.Val.K r12_1) x11.Deps x11.Taint x11.Turned)) i2<|.q ⟨.nz 3,.b true,rfl⟩<|.eD (r14_0.tmod 3) 0<|.ag 12<|.ix zJ (((((((e0.set i2 (GEntry.mk r4_1 x3.Val x3.Deps x3.Taint x3.Turned)).set i2 (GEntry.mk x5.Addr (GValue.mk r4_0 x5.Val.N x5.Val.S x5.Val.K x5.Val.L) x5.Deps x5.Taint x5.Turned)).set i2 (GEntry.mk x6.Addr (GValue.mk x6.Val.Kind (w64 (r4_0+1)) x6.Val.S x6.Val.K x6.Val.L) x6.Deps x6.Taint x6.Turned)).set i2 (GEntry.mk x7.Addr (GValue.mk x7.Val.Kind x7.Val.N r8_1 x7.Val.K x7.Val.L) x7.Deps x7.Taint x7.Turned)).set i2 (GEntry.mk x9.Addr (GValue.mk x9.Val.Kind x9.Val.N x9.Val.S r10_1 x9.Val.L) x9.Deps x9.Taint x9.Turned)).set i2 (GEntry.mk x11.Addr (GValue.mk x11.Val.Kind x11.Val.N x11.Val.S x11.Val.K r12_1) x11.Deps x11.Taint x11.Turned)).set i2 (GEntry.mk x13.Addr x13.Val r14_1 x13.Taint x13.Turned)) i2 fun x15=>.ag 0<|.sl (zJ (GEntry.mk x15.Addr x15.Val x15.Deps (decide ((r14_0.tmod 3)=0)) x15.Turned)) (((((((e0.set i2 (GEntry.mk r4_1 x3.Val x3.Deps x3.Taint x3.Turned)).set i2 (GEntry.mk x5.Addr (GValue.mk r4_0 x5.Val.N x5.Val.S x5.Val.K x5.Val.L) x5.Deps x5.Taint x5.Turned)).set i2 (GEntry.mk x6.Addr (GValue.mk x6.Val.Kind (w64 (r4_0+1)) x6.Val.S x6.Val.K x6.Val.L) x6.Deps x6.Taint x6.Turned)).set i2 (GEntry.mk x7.Addr (GValue.mk x7.Val.Kind x7.Val.N r8_1 x7.Val.K x7.Val.L) x7.Deps x7.Taint x7.Turned)).set i2 (GEntry.mk x9.Addr (GValue.mk x9.Val.Kind x9.Val.N x9.Val.S r10_1 x9.Val.L) x9.Deps x9.Taint x9.Turned)).set i2 (GEntry.mk x11.Addr (GValue.mk x11.Val.Kind x11.Val.N x11.Val.S x11.Val.K r12_1) x11.Deps x11.Taint x11.Turned)).set i2 (GEntry.mk x13.Addr x13.Val r14_1 x13.Taint x13.Turned)) i2<|.ag 13<|.ix zJ ((((((((e0.set i2 (GEntry.mk r4_1 x3.Val x3.Deps x3.Taint x3.Turned)).set i2 (GEntry.mk x5.Addr (GValue.mk r4_0 x5.Val.N x5.Val.S x5.Val.K x5.Val.L) x5.Deps x5.Taint x5.Turned)).set i2 (GEntry.mk x6.Addr (GValue.mk x6.Val.Kind (w64 (r4_0+1)) x6.Val.S x6.Val.K x6.Val.L) x6.Deps x6.Taint x6.Turned)).set i2 (GEntry.mk x7.Addr (GValue.mk x7.Val.Kind x7.Val.N r8_1 x7.Val.K x7.Val.L) x7.Deps x7.Taint x7.Turned)).set i2 (GEntry.mk x9.Addr (GValue.mk x9.Val.Kind x9.Val.N x9.Val.S r10_1 x9.Val.L) x9.Deps x9.Taint x9.Turned)).set i2 (GEntry.mk x11.Addr (GValue.mk x11.Val.Kind x11.Val.N x11.Val.S x11.Val.K r12_1) x11.Deps x11.Taint x11.Turned)).set i2 (GEntry.mk x13.Addr x13.Val r14_1 x13.Taint x13.Turned)).set i2 (GEntry.mk x15.Addr x15.Val x15.Deps (decide ((r14_0.tmod 3)=0)) x15.Turned)) i2 fun x16=>.ag 0<|.sl (zJ (GEntry.mk x16.Addr x16.Val x16.Deps x16.Taint (w64 (r14_0+1)))) ((((((((e0.set i2 (GEntry.mk r4_1 x3.Val x3.Deps x3.Taint x3.Turned)).set i2 (GEntry.mk x5.Addr (GValue.mk r4_0 x5.Val.N x5.Val.S x5.Val.K x5.Val.L) x5.Deps x5.Taint x5.Turned)).set i2 (GEntry.mk x6.Addr (GValue.mk x6.Val.Kind (w64 (r4_0+1)) x6.Val.S x6.Val.K x6.Val.L) x6.Deps x6.Taint x6.Turned)).set i2 (GEntry.mk x7.Addr (GValue.mk x7.Val.Kind x7.Val.N r8_1 x7.Val.K x7.Val.L) x7.Deps x7.Taint x7.Turned)).set i2 (GEntry.mk x9.Addr (GValue.mk x9.Val.Kind x9.Val.N x9.Val.S r10_1 x9.Val.L) x9.Deps x9.Taint x9.Turned)).set i2 (GEntry.mk x11.Addr (GValue.mk x11.Val.Kind x11.Val.N x11.Val.S x11.Val.K r12_1) x11.Deps x11.Taint x11.Turned)).set i2 (GEntry.mk x13.Addr x13.Val r14_1 x13.Taint x13.Turned)).set i2 (GEntry.mk x15.Addr x15.Val x15.Deps (decide ((r14_0.tmod 3)=0)) x15.Turned)) i2<|.go (ih (w64 ((w64 (r14_0+1))+1)) (w64 (v1+1)) (((((((((e0.set i2 (GEntry.mk r4_1 x3.Val x3.Deps x3.Taint x3.Turned)).set i2 (GEntry.mk x5.Addr (GValue.mk r4_0 x5.Val.N x5.Val.S x5.Val.K x5.Val.L) x5.Deps x5.Taint x5.Turned)).set i2 (GEntry.mk x6.Addr (GValue.mk x6.Val.Kind (w64 (r4_0+1)) x6.Val.S x6.Val.K x6.Val.L) x6.Deps x6.Taint x6.Turned)).set i2 (GEntry.mk x7.Addr (GValue.mk x7.Val.Kind x7.Val.N r8_1 x7.Val.K x7.Val.L) x7.Deps x7.Taint x7.Turned)).set i2 (GEntry.mk x9.Addr (GValue.mk x9.Val.Kind x9.Val.N x9.Val.S r10_1 x9.Val.L) x9.Deps x9.Taint x9.Turned)).set i2 (GEntry.mk x11.Addr (GValue.mk x11.Val.Kind x11.Val.N x11.Val.S x11.Val.K r12_1) x11.Deps x11.Taint x11.Turned)).set i2 (GEntry.mk x13.Addr x13.Val r14_1 x13.Taint x13.Turned)).set i2 (GEntry.mk x15.Addr x15.Val x15.Deps (decide ((r14_0.tmod 3)=0)) x15.Turned)).set i2 (GEntry.mk x16.Addr x16.Val x16.Deps x16.Taint (w64 (r14_0+1)))))) fun c1=>.ret (a0,v1,e0))
def X3 (n:Nat) (a0:Int) (e0:(List GEntry)):Option (Int×(List GEntry)):=
 (wy n a0 0 e0).bind fun⟨o1_0,o1_1,o1_2⟩=>
 some (o1_0,o1_2)
theorem P4 (n:Nat):Jr (X3 n):=fun a0 e0=>tc (
 .lp (V2 n a0 0 e0) fun⟨o1_0,o1_1,o1_2⟩=>.ret (o1_0,o1_2)) (zf Tryz.func102)
theorem Ml:∀(l p:List GEntry) (k:Int) (m:Nat),0<=k→k+4*yG l<=2 ^ 40→p.length+l.length<=2 ^ 40→l.length<m→∃z,wy m k (p.length:Int) (p++l)=some (k+cEs l,z,p++mEs k l):=by
 intro l
 induction l with
 |nil=>
  intro p k m _ _ _ hm
  obtain⟨m,rfl,_⟩:=zg hm
  exact⟨_,by rw[wy,if_neg (xF p)];simp[mEs,cEs];rfl⟩
 |cons x l ih=>
  intro p k m h0 h1 h2 hm
  obtain⟨m,rfl,hm'⟩:=zg hm
  simp only[List.length_cons]at h2 hm'
  have hc:=zhj x
  simp only[yG]at h1
  obtain⟨z,hz⟩:=ih (p++[mE k x]) (k+cE x) m (by omega) (by omega) (by simp;omega) (by omega)
  have hcv:=WU x.Val
  have hcd:=ZF x.Deps
  have hve:=yT x.Val
  have hcq:=R1 x.Val
  have hmq:=UY (k+x.Addr.length) x.Val
  have hb:=ZF x.Val.K
  have hd:=QP x.Val.L
  have hmE:mE k x= .mk (mB k x.Addr) (mV (k+x.Addr.length) x.Val) (mBB (k+x.Addr.length+cV x.Val) x.Deps) (decide ((k+x.Addr.length+cV x.Val+cB x.Deps).tmod 3=0)) (k+x.Addr.length+cV x.Val+cB x.Deps+1):=rfl
  have hcE:cE x=x.Addr.length+cV x.Val+cB x.Deps+2:=rfl
  unfold esz at h1 hc
  obtain⟨ad,v,dp,ta,tu⟩:=x
  obtain⟨kd,n,s,kk,ks⟩:=v
  simp only[GEntry.Addr,GEntry.Val,GEntry.Deps,GValue.S,GValue.K,GValue.L]at*
  rw[wy,if_pos (ZE p _ l),zb,oB,zp,oB]
  simp only[GEntry.Addr,GEntry.Val,GEntry.Deps,GEntry.Taint,GEntry.Turned]
  rw[wk (by omega) (by omega)]
  simp only[oB,yW,zp,GValue.Kind,GValue.N,GValue.S,GValue.K,GValue.L,GEntry.Addr,GEntry.Val,GEntry.Deps,GEntry.Taint,GEntry.Turned]
  rw[zR (x:=k+(ad.length:Int)+1) (by omega) (by omega),zR (x:=k+(ad.length:Int)+1+1) (by omega) (by omega),wk (by omega) (by omega)]
  simp only[oB,yW,zp,GValue.Kind,GValue.N,GValue.S,GValue.K,GValue.L,GEntry.Addr,GEntry.Val,GEntry.Deps,GEntry.Taint,GEntry.Turned]
  rw[ki (by omega) (by omega)]
  simp only[oB,yW,zp,GValue.Kind,GValue.N,GValue.S,GValue.K,GValue.L,GEntry.Addr,GEntry.Val,GEntry.Deps,GEntry.Taint,GEntry.Turned]
  rw[XM (by omega) (by omega)]
  simp only[oB,yW,zp,GValue.Kind,GValue.N,GValue.S,GValue.K,GValue.L,GEntry.Addr,GEntry.Val,GEntry.Deps,GEntry.Taint,GEntry.Turned]
  have e1:k+(ad.length:Int)+1+1+(s.length:Int)+(cB kk:Int)+(cVs ks:Int)=k+(ad.length:Int)+(cV (.mk kd n s kk ks):Int):=by omega
  rw[e1,ki (by omega) (by omega)]
  simp only[oB,yW,zp,GValue.Kind,GValue.N,GValue.S,GValue.K,GValue.L,GEntry.Addr,GEntry.Val,GEntry.Deps,GEntry.Taint,GEntry.Turned]
  rw[zR (x:=k+(ad.length:Int)+(cV (.mk kd n s kk ks):Int)+(cB dp:Int)+1) (by omega) (by omega),zR (x:=k+(ad.length:Int)+(cV (.mk kd n s kk ks):Int)+(cB dp:Int)+1+1) (by omega) (by omega),<-hmq]
  refine⟨z,Eq.trans ?_ (Eq.trans hz ?_)⟩
  ·congr 1
   ·omega
   ·exact ye p (mE k _) (by omega)
   ·rw[List.append_assoc,List.singleton_append,hmE];congr
  simp only[mEs,cEs,List.append_assoc,List.singleton_append]
  rw[show k+((cE (.mk ad (.mk kd n s kk ks) dp ta tu):Nat):Int)+(cEs l:Int)=k+((cE (.mk ad (.mk kd n s kk ks) dp ta tu)+cEs l:Nat):Int) by omega]
def kq (a0:Int) (e0:(List GEntry)):Option (Int×(List GEntry)):=if 0<=a0∧a0+4*yG e0<=2 ^ 40 then some (a0+cEs e0,mEs a0 e0)else none
theorem Hb {a:Int} {s:List GEntry} (h0:0<=a) (h1:a+4*yG s<=2 ^ 40):kq a s=some (a+cEs s,mEs a s):=if_pos ⟨h0,h1⟩
theorem Rl (a0:Int) (e0:(List GEntry)) (r:(Int×(List GEntry))) (h:kq a0 e0=some r):∃n,X3 n a0 e0=some r:=by
 unfold kq at h
 obtain⟨⟨h0,h1⟩,h⟩:=zB h
 have:=kj e0
 obtain⟨z,hz⟩:=Ml e0 [] a0 (e0.length+1) h0 h1 (by simp;omega) (by omega)
 refine⟨e0.length+1,?_⟩
 unfold X3
 simp only[List.nil_append,List.length_nil,Int.natCast_zero]at hz
 rw[hz]
 exact h
theorem Uu:Jr kq:=fun a0 e0 r h=>(Rl a0 e0 r h).elim fun n hn=>P4 n a0 e0 r hn
def XZ (a0_0:Int) (a0_1:Bool) (a0_3:Int) (a1:Int) (e0:(List UInt8)) (e1:(List GEntry)):Option (Int×(List UInt8)×(List GEntry)):=
 (yb a1 e0).bind fun⟨r1_0,r1_1⟩=>
 (kq r1_0 e1).bind fun⟨r2_0,r2_1⟩=>
 some (r2_0,r1_1,r2_1)
theorem P5 (a0_0:Int) (a0_1:Bool) (a0_3:Int) (a1:Int) (e0:(List UInt8)) (e1:(List GEntry)):Oc (XZ a0_0 a0_1 a0_3 a1 e0 e1) 48 [.obj 1 (eL za e0),.obj 9 (eL zQ e1)] [.val true [ci a0_0,.bool a0_1,.ref 0,ci a0_3,.ref 1],vi a1] fun r=>(vi r.1,[.obj 1 (eL za r.2.1),.obj 9 (eL zQ r.2.2)]):=tc (
 .cl (yA a1 e0) fun⟨r1_0,r1_1⟩=>.cl (Uu r1_0 e1) fun⟨r2_0,r2_1⟩=>.ret (r2_0,r1_1,r2_1)) (zf Tryz.func48)
def Js (F:Int→(List GEvent)→Option (Int×(List GEvent))):Prop:=∀(a0:Int) (e0:(List GEvent)),Oc (F a0 e0) 49 [.obj 9 (eL wD e0)] [vr 0,vi a0] fun r=>(vi r.1,[.obj 9 (eL wD r.2)])
def wz:Nat→Int→Int→(List GEvent)→Option (Int×Int×(List GEvent))
 |0,_,_,_=>none
 |m+1,a0,v1,e0=>
 if v1<(e0.length:Int)then
  (zn v1).bind fun i2=>
  (e0[i2]?).bind fun x3=>
  ((e0.set i2 (GEvent.mk a0 x3.Addr x3.Act x3.Val x3.Deps))[i2]?).bind fun x4=>
  (yb (w64 (a0+1)) x4.Addr).bind fun⟨r5_0,r5_1⟩=>
  (((e0.set i2 (GEvent.mk a0 x3.Addr x3.Act x3.Val x3.Deps)).set i2 (GEvent.mk x4.Kind r5_1 x4.Act x4.Val x4.Deps))[i2]?).bind fun x6=>
  ((((e0.set i2 (GEvent.mk a0 x3.Addr x3.Act x3.Val x3.Deps)).set i2 (GEvent.mk x4.Kind r5_1 x4.Act x4.Val x4.Deps)).set i2 (GEvent.mk x6.Kind x6.Addr r5_0 x6.Val x6.Deps))[i2]?).bind fun x7=>
  (((((e0.set i2 (GEvent.mk a0 x3.Addr x3.Act x3.Val x3.Deps)).set i2 (GEvent.mk x4.Kind r5_1 x4.Act x4.Val x4.Deps)).set i2 (GEvent.mk x6.Kind x6.Addr r5_0 x6.Val x6.Deps)).set i2 (GEvent.mk x7.Kind x7.Addr x7.Act (GValue.mk (w64 (r5_0+1)) x7.Val.N x7.Val.S x7.Val.K x7.Val.L) x7.Deps))[i2]?).bind fun x8=>
  ((((((e0.set i2 (GEvent.mk a0 x3.Addr x3.Act x3.Val x3.Deps)).set i2 (GEvent.mk x4.Kind r5_1 x4.Act x4.Val x4.Deps)).set i2 (GEvent.mk x6.Kind x6.Addr r5_0 x6.Val x6.Deps)).set i2 (GEvent.mk x7.Kind x7.Addr x7.Act (GValue.mk (w64 (r5_0+1)) x7.Val.N x7.Val.S x7.Val.K x7.Val.L) x7.Deps)).set i2 (GEvent.mk x8.Kind x8.Addr x8.Act (GValue.mk x8.Val.Kind (w64 ((w64 (r5_0+1))+1)) x8.Val.S x8.Val.K x8.Val.L) x8.Deps))[i2]?).bind fun x9=>
  (yb (w64 ((w64 ((w64 (r5_0+1))+1))+1)) x9.Val.S).bind fun⟨r10_0,r10_1⟩=>
  (((((((e0.set i2 (GEvent.mk a0 x3.Addr x3.Act x3.Val x3.Deps)).set i2 (GEvent.mk x4.Kind r5_1 x4.Act x4.Val x4.Deps)).set i2 (GEvent.mk x6.Kind x6.Addr r5_0 x6.Val x6.Deps)).set i2 (GEvent.mk x7.Kind x7.Addr x7.Act (GValue.mk (w64 (r5_0+1)) x7.Val.N x7.Val.S x7.Val.K x7.Val.L) x7.Deps)).set i2 (GEvent.mk x8.Kind x8.Addr x8.Act (GValue.mk x8.Val.Kind (w64 ((w64 (r5_0+1))+1)) x8.Val.S x8.Val.K x8.Val.L) x8.Deps)).set i2 (GEvent.mk x9.Kind x9.Addr x9.Act (GValue.mk x9.Val.Kind x9.Val.N r10_1 x9.Val.K x9.Val.L) x9.Deps))[i2]?).bind fun x11=>
  (yM r10_0 x11.Val.K).bind fun⟨r12_0,r12_1⟩=>
  ((((((((e0.set i2 (GEvent.mk a0 x3.Addr x3.Act x3.Val x3.Deps)).set i2 (GEvent.mk x4.Kind r5_1 x4.Act x4.Val x4.Deps)).set i2 (GEvent.mk x6.Kind x6.Addr r5_0 x6.Val x6.Deps)).set i2 (GEvent.mk x7.Kind x7.Addr x7.Act (GValue.mk (w64 (r5_0+1)) x7.Val.N x7.Val.S x7.Val.K x7.Val.L) x7.Deps)).set i2 (GEvent.mk x8.Kind x8.Addr x8.Act (GValue.mk x8.Val.Kind (w64 ((w64 (r5_0+1))+1)) x8.Val.S x8.Val.K x8.Val.L) x8.Deps)).set i2 (GEvent.mk x9.Kind x9.Addr x9.Act (GValue.mk x9.Val.Kind x9.Val.N r10_1 x9.Val.K x9.Val.L) x9.Deps)).set i2 (GEvent.mk x11.Kind x11.Addr x11.Act (GValue.mk x11.Val.Kind x11.Val.N x11.Val.S r12_1 x11.Val.L) x11.Deps))[i2]?).bind fun x13=>
  (xQ r12_0 x13.Val.L).bind fun⟨r14_0,r14_1⟩=>
  (((((((((e0.set i2 (GEvent.mk a0 x3.Addr x3.Act x3.Val x3.Deps)).set i2 (GEvent.mk x4.Kind r5_1 x4.Act x4.Val x4.Deps)).set i2 (GEvent.mk x6.Kind x6.Addr r5_0 x6.Val x6.Deps)).set i2 (GEvent.mk x7.Kind x7.Addr x7.Act (GValue.mk (w64 (r5_0+1)) x7.Val.N x7.Val.S x7.Val.K x7.Val.L) x7.Deps)).set i2 (GEvent.mk x8.Kind x8.Addr x8.Act (GValue.mk x8.Val.Kind (w64 ((w64 (r5_0+1))+1)) x8.Val.S x8.Val.K x8.Val.L) x8.Deps)).set i2 (GEvent.mk x9.Kind x9.Addr x9.Act (GValue.mk x9.Val.Kind x9.Val.N r10_1 x9.Val.K x9.Val.L) x9.Deps)).set i2 (GEvent.mk x11.Kind x11.Addr x11.Act (GValue.mk x11.Val.Kind x11.Val.N x11.Val.S r12_1 x11.Val.L) x11.Deps)).set i2 (GEvent.mk x13.Kind x13.Addr x13.Act (GValue.mk x13.Val.Kind x13.Val.N x13.Val.S x13.Val.K r14_1) x13.Deps))[i2]?).bind fun x15=>
  (yM r14_0 x15.Deps).bind fun⟨r16_0,r16_1⟩=>
  wz m r16_0 (w64 (v1+1)) (((((((((e0.set i2 (GEvent.mk a0 x3.Addr x3.Act x3.Val x3.Deps)).set i2 (GEvent.mk x4.Kind r5_1 x4.Act x4.Val x4.Deps)).set i2 (GEvent.mk x6.Kind x6.Addr r5_0 x6.Val x6.Deps)).set i2 (GEvent.mk x7.Kind x7.Addr x7.Act (GValue.mk (w64 (r5_0+1)) x7.Val.N x7.Val.S x7.Val.K x7.Val.L) x7.Deps)).set i2 (GEvent.mk x8.Kind x8.Addr x8.Act (GValue.mk x8.Val.Kind (w64 ((w64 (r5_0+1))+1)) x8.Val.S x8.Val.K x8.Val.L) x8.Deps)).set i2 (GEvent.mk x9.Kind x9.Addr x9.Act (GValue.mk x9.Val.Kind x9.Val.N r10_1 x9.Val.K x9.Val.L) x9.Deps)).set i2 (GEvent.mk x11.Kind x11.Addr x11.Act (GValue.mk x11.Val.Kind x11.Val.N x11.Val.S r12_1 x11.Val.L) x11.Deps)).set i2 (GEvent.mk x13.Kind x13.Addr x13.Act (GValue.mk x13.Val.Kind x13.Val.N x13.Val.S x13.Val.K r14_1) x13.Deps)).set i2 (GEvent.mk x15.Kind x15.Addr x15.Act x15.Val r16_1))
 else
 some (a0,v1,e0)
theorem V3 (m:Nat):∀(a0:Int) (v1:Int) (e0:(List GEvent)),Ol (wz m a0 v1 e0) 49 (zD Tryz.f49 0) ⟨[(0,vr 0),(1,vi a0),(5,vi v1)],[.obj 9 (eL wD e0)],1⟩ fun o=>match o with |⟨o_0,o_1,o_2⟩=>(.exit 0,⟨[(0,vr 0),(1,vi o_0),(5,vi o_1),(9,vb false)],[.obj 9 (eL wD o_2)],1⟩):=by
 induction m with
 |zero=>intro a0 v1 e0 o h;cases h
 |succ m ih=>exact fun a0 v1 e0=>tlp (
  .le wD e0<|.lI v1 (e0.length:Int) (fun c1=>.na v1 fun i2=>.ix yD e0 i2 fun x3=>.ag 0<|.sl (yD (GEvent.mk a0 x3.Addr x3.Act x3.Val x3.Deps)) e0 i2<|.ag 1<|.ix yD (e0.set i2 (GEvent.mk a0 x3.Addr x3.Act x3.Val x3.Deps)) i2 fun x4=>.ag 0<|.cl (yA (w64 (a0+1)) x4.Addr) fun⟨r5_0,r5_1⟩=>.ag 1<|.sl (yD (GEvent.mk x4.Kind r5_1 x4.Act x4.Val x4.Deps)) (e0.set i2 (GEvent.mk a0 x3.Addr x3.Act x3.Val x3.Deps)) i2<|.ag 3<|.ix yD ((e0.set i2 (GEvent.mk a0 x3.Addr x3.Act x3.Val x3.Deps)).set i2 (GEvent.mk x4.Kind r5_1 x4.Act x4.Val x4.Deps)) i2 fun x6=>.ag 0<|.sl (yD (GEvent.mk x6.Kind x6.Addr r5_0 x6.Val x6.Deps)) ((e0.set i2 (GEvent.mk a0 x3.Addr x3.Act x3.Val x3.Deps)).set i2 (GEvent.mk x4.Kind r5_1 x4.Act x4.Val x4.Deps)) i2<|.ag 4<|.ix yD (((e0.set i2 (GEvent.mk a0 x3.Addr x3.Act x3.Val x3.Deps)).set i2 (GEvent.mk x4.Kind r5_1 x4.Act x4.Val x4.Deps)).set i2 (GEvent.mk x6.Kind x6.Addr r5_0 x6.Val x6.Deps)) i2 fun x7=>.ag 0<|.sl (yD (GEvent.mk x7.Kind x7.Addr x7.Act (GValue.mk (w64 (r5_0+1)) x7.Val.N x7.Val.S x7.Val.K x7.Val.L) x7.Deps)) (((e0.set i2 (GEvent.mk a0 x3.Addr x3.Act x3.Val x3.Deps)).set i2 (GEvent.mk x4.Kind r5_1 x4.Act x4.Val x4.Deps)).set i2 (GEvent.mk x6.Kind x6.Addr r5_0 x6.Val x6.Deps)) i2<|.ag 5<|.ix yD ((((e0.set i2 (GEvent.mk a0 x3.Addr x3.Act x3.Val x3.Deps)).set i2 (GEvent.mk x4.Kind r5_1 x4.Act x4.Val x4.Deps)).set i2 (GEvent.mk x6.Kind x6.Addr r5_0 x6.Val x6.Deps)).set i2 (GEvent.mk x7.Kind x7.Addr x7.Act (GValue.mk (w64 (r5_0+1)) x7.Val.N x7.Val.S x7.Val.K x7.Val.L) x7.Deps)) i2 fun x8=>.ag 0<|.sl (yD (GEvent.mk x8.Kind x8.Addr x8.Act (GValue.mk x8.Val.Kind (w64 ((w64 (r5_0+1))+1)) x8.Val.S x8.Val.K x8.Val.L) x8.Deps)) ((((e0.set i2 (GEvent.mk a0 x3.Addr x3.Act x3.Val x3.Deps)).set i2 (GEvent.mk x4.Kind r5_1 x4.Act x4.Val x4.Deps)).set i2 (GEvent.mk x6.Kind x6.Addr r5_0 x6.Val x6.Deps)).set i2 (GEvent.mk x7.Kind x7.Addr x7.Act (GValue.mk (w64 (r5_0+1)) x7.Val.N x7.Val.S x7.Val.K x7.Val.L) x7.Deps)) i2<|.ag 6<|.ix yD (((((e0.set i2 (GEvent.mk a0 x3.Addr x3.Act x3.Val x3.Deps)).set i2 (GEvent.mk x4.Kind r5_1 x4.Act x4.Val x4.Deps)).set i2 (GEvent.mk x6.Kind x6.Addr r5_0 x6.Val x6.Deps)).set i2 (GEvent.mk x7.Kind x7.Addr x7.Act (GValue.mk (w64 (r5_0+1)) x7.Val.N x7.Val.S x7.Val.K x7.Val.L) x7.Deps)).set i2 (GEvent.mk x8.Kind x8.Addr x8.Act (GValue.mk x8.Val.Kind (w64 ((w64 (r5_0+1))+1)) x8.Val.S x8.Val.K x8.Val.L) x8.Deps)) i2 fun x9=>.ag 0<|.cl (yA (w64 ((w64 ((w64 (r5_0+1))+1))+1)) x9.Val.S) fun⟨r10_0,r10_1⟩=>.ag 1<|.sl (yD (GEvent.mk x9.Kind x9.Addr x9.Act (GValue.mk x9.Val.Kind x9.Val.N r10_1 x9.Val.K x9.Val.L) x9.Deps)) (((((e0.set i2 (GEvent.mk a0 x3.Addr x3.Act x3.Val x3.Deps)).set i2 (GEvent.mk x4.Kind r5_1 x4.Act x4.Val x4.Deps)).set i2 (GEvent.mk x6.Kind x6.Addr r5_0 x6.Val x6.Deps)).set i2 (GEvent.mk x7.Kind x7.Addr x7.Act (GValue.mk (w64 (r5_0+1)) x7.Val.N x7.Val.S x7.Val.K x7.Val.L) x7.Deps)).set i2 (GEvent.mk x8.Kind x8.Addr x8.Act (GValue.mk x8.Val.Kind (w64 ((w64 (r5_0+1))+1)) x8.Val.S x8.Val.K x8.Val.L) x8.Deps)) i2<|.ag 8<|.ix yD ((((((e0.set i2 (GEvent.mk a0 x3.Addr x3.Act x3.Val x3.Deps)).set i2 (GEvent.mk x4.Kind r5_1 x4.Act x4.Val x4.Deps)).set i2 (GEvent.mk x6.Kind x6.Addr r5_0 x6.Val x6.Deps)).set i2 (GEvent.mk x7.Kind x7.Addr x7.Act (GValue.mk (w64 (r5_0+1)) x7.Val.N x7.Val.S x7.Val.K x7.Val.L) x7.Deps)).set i2 (GEvent.mk x8.Kind x8.Addr x8.Act (GValue.mk x8.Val.Kind (w64 ((w64 (r5_0+1))+1)) x8.Val.S x8.Val.K x8.Val.L) x8.Deps)).set i2 (GEvent.mk x9.Kind x9.Addr x9.Act (GValue.mk x9.Val.Kind x9.Val.N r10_1 x9.Val.K x9.Val.L) x9.Deps)) i2 fun x11=>.ag 0<|.cl (wl r10_0 x11.Val.K) fun⟨r12_0,r12_1⟩=>.ag 1<|.sl (yD (GEvent.mk x11.Kind x11.Addr x11.Act (GValue.mk x11.Val.Kind x11.Val.N x11.Val.S r12_1 x11.Val.L) x11.Deps)) ((((((e0.set i2 (GEvent.mk a0 x3.Addr x3.Act x3.Val x3.Deps)).set i2 (GEvent.mk x4.Kind r5_1 x4.Act x4.Val x4.Deps)).set i2 (GEvent.mk x6.Kind x6.Addr r5_0 x6.Val x6.Deps)).set i2 (GEvent.mk x7.Kind x7.Addr x7.Act (GValue.mk (w64 (r5_0+1)) x7.Val.N x7.Val.S x7.Val.K x7.Val.L) x7.Deps)).set i2 (GEvent.mk x8.Kind x8.Addr x8.Act (GValue.mk x8.Val.Kind (w64 ((w64 (r5_0+1))+1)) x8.Val.S x8.Val.K x8.Val.L) x8.Deps)).set i2 (GEvent.mk x9.Kind x9.Addr x9.Act (GValue.mk x9.Val.Kind x9.Val.N r10_1 x9.Val.K x9.Val.L) x9.Deps)) i2<|.ag 10<|.ix yD (((((((e0.set i2 (GEvent.mk a0 x3.Addr x3.Act x3.Val x3.Deps)).set i2 (GEvent.mk x4.Kind r5_1 x4.Act x4.Val x4.Deps)).set i2 (GEvent.mk x6.Kind x6.Addr r5_0 x6.Val x6.Deps)).set i2 (GEvent.mk x7.Kind x7.Addr x7.Act (GValue.mk (w64 (r5_0+1)) x7.Val.N x7.Val.S x7.Val.K x7.Val.L) x7.Deps)).set i2 (GEvent.mk x8.Kind x8.Addr x8.Act (GValue.mk x8.Val.Kind (w64 ((w64 (r5_0+1))+1)) x8.Val.S x8.Val.K x8.Val.L) x8.Deps)).set i2 (GEvent.mk x9.Kind x9.Addr x9.Act (GValue.mk x9.Val.Kind x9.Val.N r10_1 x9.Val.K x9.Val.L) x9.Deps)).set i2 (GEvent.mk x11.Kind x11.Addr x11.Act (GValue.mk x11.Val.Kind x11.Val.N x11.Val.S r12_1 x11.Val.L) x11.Deps)) i2 fun x13=>.ag 0<|.cl (vU r12_0 x13.Val.L) fun⟨r14_0,r14_1⟩=>.ag 1<|.sl (yD (GEvent.mk x13.Kind x13.Addr x13.Act (GValue.mk x13.Val.Kind x13.Val.N x13.Val.S x13.Val.K r14_1) x13.Deps)) (((((((e0.set i2 (GEvent.mk a0 x3.Addr x3.Act x3.Val x3.Deps)).set i2 (GEvent.mk x4.Kind r5_1 x4.Act x4.Val x4.Deps)).set i2 (GEvent.mk x6.Kind x6.Addr r5_0 x6.Val x6.Deps)).set i2 (GEvent.mk x7.Kind x7.Addr x7.Act (GValue.mk (w64 (r5_0+1)) x7.Val.N x7.Val.S x7.Val.K x7.Val.L) x7.Deps)).set i2 (GEvent.mk x8.Kind x8.Addr x8.Act (GValue.mk x8.Val.Kind (w64 ((w64 (r5_0+1))+1)) x8.Val.S x8.Val.K x8.Val.L) x8.Deps)).set i2 (GEvent.mk x9.Kind x9.Addr x9.Act (GValue.mk x9.Val.Kind x9.Val.N r10_1 x9.Val.K x9.Val.L) x9.Deps)).set i2 (GEvent.mk x11.Kind x11.Addr x11.Act (GValue.mk x11.Val.Kind x11.Val.N x11.Val.S r12_1 x11.Val.L) x11.Deps)) i2<|.ag 12<|.ix yD ((((((((e0.set i2 (GEvent.mk a0 x3.Addr x3.Act x3.Val x3.Deps)).set i2 (GEvent.mk x4.Kind r5_1 x4.Act x4.Val x4.Deps)).set i2 (GEvent.mk x6.Kind x6.Addr r5_0 x6.Val x6.Deps)).set i2 (GEvent.mk x7.Kind x7.Addr x7.Act (GValue.mk (w64 (r5_0+1)) x7.Val.N x7.Val.S x7.Val.K x7.Val.L) x7.Deps)).set i2 (GEvent.mk x8.Kind x8.Addr x8.Act (GValue.mk x8.Val.Kind (w64 ((w64 (r5_0+1))+1)) x8.Val.S x8.Val.K x8.Val.L) x8.Deps)).set i2 (GEvent.mk x9.Kind x9.Addr x9.Act (GValue.mk x9.Val.Kind x9.Val.N r10_1 x9.Val.K x9.Val.L) x9.Deps)).set i2 (GEvent.mk x11.Kind x11.Addr x11.Act (GValue.mk x11.Val.Kind x11.Val.N x11.Val.S r12_1 x11.Val.L) x11.Deps)).set i2 (GEvent.mk x13.Kind x13.Addr x13.Act (GValue.mk x13.Val.Kind x13.Val.N x13.Val.S x13.Val.K r14_1) x13.Deps)) i2 fun x15=>.ag 0<|.cl (wl r14_0 x15.Deps) fun⟨r16_0,r16_1⟩=>.ag 1<|.sl (yD (GEvent.mk x15.Kind x15.Addr x15.Act x15.Val r16_1)) ((((((((e0.set i2 (GEvent.mk a0 x3.Addr x3.Act x3.Val x3.Deps)).set i2 (GEvent.mk x4.Kind r5_1 x4.Act x4.Val x4.Deps)).set i2 (GEvent.mk x6.Kind x6.Addr r5_0 x6.Val x6.Deps)).set i2 (GEvent.mk x7.Kind x7.Addr x7.Act (GValue.mk (w64 (r5_0+1)) x7.Val.N x7.Val.S x7.Val.K x7.Val.L) x7.Deps)).set i2 (GEvent.mk x8.Kind x8.Addr x8.Act (GValue.mk x8.Val.Kind (w64 ((w64 (r5_0+1))+1)) x8.Val.S x8.Val.K x8.Val.L) x8.Deps)).set i2 (GEvent.mk x9.Kind x9.Addr x9.Act (GValue.mk x9.Val.Kind x9.Val.N r10_1 x9.Val.K x9.Val.L) x9.Deps)).set i2 (GEvent.mk x11.Kind x11.Addr x11.Act (GValue.mk x11.Val.Kind x11.Val.N x11.Val.S r12_1 x11.Val.L) x11.Deps)).set i2 (GEvent.mk x13.Kind x13.Addr x13.Act (GValue.mk x13.Val.Kind x13.Val.N x13.Val.S x13.Val.K r14_1) x13.Deps)) i2<|.go (ih r16_0 (w64 (v1+1)) (((((((((e0.set i2 (GEvent.mk a0 x3.Addr x3.Act x3.Val x3.Deps)).set i2 (GEvent.mk x4.Kind r5_1 x4.Act x4.Val x4.Deps)).set i2 (GEvent.mk x6.Kind x6.Addr r5_0 x6.Val x6.Deps)).set i2 (GEvent.mk x7.Kind x7.Addr x7.Act (GValue.mk (w64 (r5_0+1)) x7.Val.N x7.Val.S x7.Val.K x7.Val.L) x7.Deps)).set i2 (GEvent.mk x8.Kind x8.Addr x8.Act (GValue.mk x8.Val.Kind (w64 ((w64 (r5_0+1))+1)) x8.Val.S x8.Val.K x8.Val.L) x8.Deps)).set i2 (GEvent.mk x9.Kind x9.Addr x9.Act (GValue.mk x9.Val.Kind x9.Val.N r10_1 x9.Val.K x9.Val.L) x9.Deps)).set i2 (GEvent.mk x11.Kind x11.Addr x11.Act (GValue.mk x11.Val.Kind x11.Val.N x11.Val.S r12_1 x11.Val.L) x11.Deps)).set i2 (GEvent.mk x13.Kind x13.Addr x13.Act (GValue.mk x13.Val.Kind x13.Val.N x13.Val.S x13.Val.K r14_1) x13.Deps)).set i2 (GEvent.mk x15.Kind x15.Addr x15.Act x15.Val r16_1)))) fun c1=>.ret (a0,v1,e0))
def X4 (n:Nat) (a0:Int) (e0:(List GEvent)):Option (Int×(List GEvent)):=
 (wz n a0 0 e0).bind fun⟨o1_0,o1_1,o1_2⟩=>
 some (o1_0,o1_2)
theorem P6 (n:Nat):Js (X4 n):=fun a0 e0=>tc (
 .lp (V3 n a0 0 e0) fun⟨o1_0,o1_1,o1_2⟩=>.ret (o1_0,o1_2)) (zf Tryz.func49)
theorem Mm:∀(l p:List GEvent) (k:Int) (m:Nat),0<=k→k+4*y3 l<=2 ^ 40→p.length+l.length<=2 ^ 40→l.length<m→∃z,wz m k (p.length:Int) (p++l)=some (k+Ko l,z,p++NL k l):=by
 intro l
 induction l with
 |nil=>
  intro p k m _ _ _ hm
  obtain⟨m,rfl,_⟩:=zg hm
  exact⟨_,by rw[wz,if_neg (xF p)];simp[NL,Ko];rfl⟩
 |cons x l ih=>
  intro p k m h0 h1 h2 hm
  obtain⟨m,rfl,hm'⟩:=zg hm
  simp only[List.length_cons]at h2 hm'
  have hc:=zcd x
  simp only[y3]at h1
  obtain⟨z,hz⟩:=ih (p++[mEv k x]) (k+cEv x) m (by omega) (by omega) (by simp;omega) (by omega)
  have hcv:=WU x.Val
  have hcd:=ZF x.Deps
  have hve:=yT x.Val
  have hcq:=R1 x.Val
  have hmq:=UY (k+1+x.Addr.length+1) x.Val
  have hb:=ZF x.Val.K
  have hd:=QP x.Val.L
  have hmE:mEv k x= .mk k (mB (k+1) x.Addr) (k+1+x.Addr.length) (mV (k+1+x.Addr.length+1) x.Val) (mBB (k+1+x.Addr.length+1+cV x.Val) x.Deps):=rfl
  have hcE:cEv x=x.Addr.length+cV x.Val+cB x.Deps+2:=rfl
  unfold jA at h1 hc
  obtain⟨ek,ad,ac,v,dp⟩:=x
  obtain⟨kd,n,s,kk,ks⟩:=v
  simp only[GEvent.Addr,GEvent.Val,GEvent.Deps,GValue.S,GValue.K,GValue.L]at*
  rw[wz,if_pos (ZE p _ l),zb,oB,zp,oB]
  simp only[yW,zp,oB,GEvent.Kind,GEvent.Addr,GEvent.Act,GEvent.Val,GEvent.Deps]
  rw[zR (x:=k+1) (by omega) (by omega),wk (by omega) (by omega)]
  simp only[oB,yW,zp,GValue.Kind,GValue.N,GValue.S,GValue.K,GValue.L,GEvent.Kind,GEvent.Addr,GEvent.Act,GEvent.Val,GEvent.Deps]
  rw[zR (x:=k+1+(ad.length:Int)+1) (by omega) (by omega),zR (x:=k+1+(ad.length:Int)+1+1) (by omega) (by omega),zR (x:=k+1+(ad.length:Int)+1+1+1) (by omega) (by omega),wk (by omega) (by omega)]
  simp only[oB,yW,zp,GValue.Kind,GValue.N,GValue.S,GValue.K,GValue.L,GEvent.Kind,GEvent.Addr,GEvent.Act,GEvent.Val,GEvent.Deps]
  rw[ki (by omega) (by omega)]
  simp only[oB,yW,zp,GValue.Kind,GValue.N,GValue.S,GValue.K,GValue.L,GEvent.Kind,GEvent.Addr,GEvent.Act,GEvent.Val,GEvent.Deps]
  rw[XM (by omega) (by omega)]
  simp only[oB,yW,zp,GValue.Kind,GValue.N,GValue.S,GValue.K,GValue.L,GEvent.Kind,GEvent.Addr,GEvent.Act,GEvent.Val,GEvent.Deps]
  have e1:k+1+(ad.length:Int)+1+1+1+(s.length:Int)+(cB kk:Int)+(cVs ks:Int)=k+1+(ad.length:Int)+1+(cV (.mk kd n s kk ks):Int):=by omega
  rw[e1,ki (by omega) (by omega)]
  simp only[oB,yW,zp,GValue.Kind,GValue.N,GValue.S,GValue.K,GValue.L,GEvent.Kind,GEvent.Addr,GEvent.Act,GEvent.Val,GEvent.Deps]
  rw[<-hmq]
  refine⟨z,Eq.trans ?_ (Eq.trans hz ?_)⟩
  ·congr 1
   ·omega
   ·exact ye p (mEv k _) (by omega)
   ·rw[List.append_assoc,List.singleton_append,hmE]
  simp only[NL,Ko,List.append_assoc,List.singleton_append]
  rw[show k+((cEv (.mk ek ad ac (.mk kd n s kk ks) dp):Nat):Int)+(Ko l:Int)=k+((cEv (.mk ek ad ac (.mk kd n s kk ks) dp)+Ko l:Nat):Int) by omega]
def kr (a0:Int) (e0:(List GEvent)):Option (Int×(List GEvent)):=if 0<=a0∧a0+4*y3 e0<=2 ^ 40 then some (a0+Ko e0,NL a0 e0)else none
theorem Hc {a:Int} {s:List GEvent} (h0:0<=a) (h1:a+4*y3 s<=2 ^ 40):kr a s=some (a+Ko s,NL a s):=if_pos ⟨h0,h1⟩
theorem Rm (a0:Int) (e0:(List GEvent)) (r:(Int×(List GEvent))) (h:kr a0 e0=some r):∃n,X4 n a0 e0=some r:=by
 unfold kr at h
 obtain⟨⟨h0,h1⟩,h⟩:=zB h
 have:=YT e0
 obtain⟨z,hz⟩:=Mm e0 [] a0 (e0.length+1) h0 h1 (by simp;omega) (by omega)
 refine⟨e0.length+1,?_⟩
 unfold X4
 simp only[List.nil_append,List.length_nil,Int.natCast_zero]at hz
 rw[hz]
 exact h
theorem Uv:Js kr:=fun a0 e0 r h=>(Rm a0 e0 r h).elim fun n hn=>P6 n a0 e0 r hn
def jO (a0_0:Int) (a0_1:Bool) (a0_3:Int) (a0_6:Int) (a1:Int) (e0:(List UInt8)) (e1:(List GEntry)) (e2:(List GEvent)):Option (Int×(List UInt8)×(List GEntry)×(List GEvent)):=
 (XZ a0_0 a0_1 a0_3 a1 e0 e1).bind fun⟨r1_0,r1_1,r1_2⟩=>
 (kr r1_0 e2).bind fun⟨r2_0,r2_1⟩=>
 some (r2_0,r1_1,r1_2,r2_1)
theorem Qc (a0_0:Int) (a0_1:Bool) (a0_3:Int) (a0_6:Int) (a1:Int) (e0:(List UInt8)) (e1:(List GEntry)) (e2:(List GEvent)):Oc (jO a0_0 a0_1 a0_3 a0_6 a1 e0 e1 e2) 14 [.obj 1 (eL za e0),.obj 9 (eL zQ e1),.obj 9 (eL wD e2)] [.val true [ci a0_0,.bool a0_1,.ref 0,ci a0_3,.ref 1,.ref 2,ci a0_6],vi a1] fun r=>(vi r.1,[.obj 1 (eL za r.2.1),.obj 9 (eL zQ r.2.2.1),.obj 9 (eL wD r.2.2.2)]):=tc (
 .cl (P5 a0_0 a0_1 a0_3 a1 e0 e1) fun⟨r1_0,r1_1,r1_2⟩=>.cl (Uv r1_0 e2) fun⟨r2_0,r2_1⟩=>.ret (r2_0,r1_1,r1_2,r2_1)) (zf Tryz.func14)
def Kh (F:Int→(List GStep)→Option (Int×(List GStep))):Prop:=∀(a0:Int) (e0:(List GStep)),Oc (F a0 e0) 50 [.obj 3 (eL qY e0)] [vr 0,vi a0] fun r=>(vi r.1,[.obj 3 (eL qY r.2)])
def wQ:Nat→Int→Int→(List GStep)→Option (Int×Int×(List GStep))
 |0,_,_,_=>none
 |m+1,a0,v1,e0=>
 if v1<(e0.length:Int)then
  (zn v1).bind fun i2=>
  (e0[i2]?).bind fun x3=>
  ((e0.set i2 (GStep.mk a0 x3.Key x3.I))[i2]?).bind fun x4=>
  (yb (w64 (a0+1)) x4.Key).bind fun⟨r5_0,r5_1⟩=>
  (((e0.set i2 (GStep.mk a0 x3.Key x3.I)).set i2 (GStep.mk x4.Kind r5_1 x4.I))[i2]?).bind fun x6=>
  wQ m (w64 (r5_0+1)) (w64 (v1+1)) (((e0.set i2 (GStep.mk a0 x3.Key x3.I)).set i2 (GStep.mk x4.Kind r5_1 x4.I)).set i2 (GStep.mk x6.Kind x6.Key r5_0))
 else
 some (a0,v1,e0)
theorem Rn (m:Nat):∀(a0:Int) (v1:Int) (e0:(List GStep)),Ol (wQ m a0 v1 e0) 50 (zD Tryz.f50 0) ⟨[(0,vr 0),(1,vi a0),(5,vi v1)],[.obj 3 (eL qY e0)],1⟩ fun o=>match o with |⟨o_0,o_1,o_2⟩=>(.exit 0,⟨[(0,vr 0),(1,vi o_0),(5,vi o_1),(9,vb false)],[.obj 3 (eL qY o_2)],1⟩):=by
 induction m with
 |zero=>intro a0 v1 e0 o h;cases h
 |succ m ih=>exact fun a0 v1 e0=>tlp (
  .le qY e0<|.lI v1 (e0.length:Int) (fun c1=>.na v1 fun i2=>.ix Wq e0 i2 fun x3=>.ag 0<|.sl (Wq (GStep.mk a0 x3.Key x3.I)) e0 i2<|.ag 1<|.ix Wq (e0.set i2 (GStep.mk a0 x3.Key x3.I)) i2 fun x4=>.ag 0<|.cl (yA (w64 (a0+1)) x4.Key) fun⟨r5_0,r5_1⟩=>.ag 1<|.sl (Wq (GStep.mk x4.Kind r5_1 x4.I)) (e0.set i2 (GStep.mk a0 x3.Key x3.I)) i2<|.ag 3<|.ix Wq ((e0.set i2 (GStep.mk a0 x3.Key x3.I)).set i2 (GStep.mk x4.Kind r5_1 x4.I)) i2 fun x6=>.ag 0<|.sl (Wq (GStep.mk x6.Kind x6.Key r5_0)) ((e0.set i2 (GStep.mk a0 x3.Key x3.I)).set i2 (GStep.mk x4.Kind r5_1 x4.I)) i2<|.go (ih (w64 (r5_0+1)) (w64 (v1+1)) (((e0.set i2 (GStep.mk a0 x3.Key x3.I)).set i2 (GStep.mk x4.Kind r5_1 x4.I)).set i2 (GStep.mk x6.Kind x6.Key r5_0)))) fun c1=>.ret (a0,v1,e0))
def Wa (n:Nat) (a0:Int) (e0:(List GStep)):Option (Int×(List GStep)):=
 (wQ n a0 0 e0).bind fun⟨o1_0,o1_1,o1_2⟩=>
 some (o1_0,o1_2)
theorem O9 (n:Nat):Kh (Wa n):=fun a0 e0=>tc (
 .lp (Rn n a0 0 e0) fun⟨o1_0,o1_1,o1_2⟩=>.ret (o1_0,o1_2)) (zf Tryz.func50)
theorem N7:∀(l p:List GStep) (k:Int) (m:Nat),0<=k→k+4*yu l<=2 ^ 40→p.length+l.length<=2 ^ 40→l.length<m→∃z,wQ m k (p.length:Int) (p++l)=some (k+zy l,z,p++je k l):=by
 intro l
 induction l with
 |nil=>
  intro p k m _ _ _ hm
  obtain⟨m,rfl,_⟩:=zg hm
  exact⟨_,by rw[wQ,if_neg (xF p)];simp[je,zy];rfl⟩
 |cons x l ih=>
  intro p k m h0 h1 h2 hm
  obtain⟨m,rfl,hm'⟩:=zg hm
  simp only[List.length_cons]at h2 hm'
  simp only[yu,Wh]at h1
  obtain⟨z,hz⟩:=ih (p++[mSt k x]) (k+((x.Key.length+2:Nat):Int)) m (by omega) (by omega) (by simp;omega) (by omega)
  obtain⟨kd,ky,i⟩:=x
  simp only[GStep.Key]at*
  rw[wQ,if_pos (ZE p _ l),zb,oB,zp,oB]
  simp only[yW,zp,oB,GStep.Kind,GStep.Key,GStep.I]
  rw[zR (x:=k+1) (by omega) (by omega),wk (by omega) (by omega)]
  simp only[oB,yW,zp,GStep.Kind,GStep.Key,GStep.I]
  rw[zR (x:=k+1+(ky.length:Int)+1) (by omega) (by omega)]
  refine⟨z,Eq.trans ?_ (Eq.trans hz ?_)⟩
  ·congr 1
   ·omega
   ·exact ye p (mSt k _) (by omega)
   ·rw[List.append_assoc,List.singleton_append];rfl
  simp only[je,zy,GStep.Key,List.append_assoc,List.singleton_append]
  rw[show k+((ky.length+2:Nat):Int)+(zy l:Int)=k+((ky.length+2+zy l:Nat):Int) by omega]
def kZ (a0:Int) (e0:(List GStep)):Option (Int×(List GStep)):=if 0<=a0∧a0+4*yu e0<=2 ^ 40 then some (a0+zy e0,je a0 e0)else none
theorem EF {a:Int} {s:List GStep} (h0:0<=a) (h1:a+4*yu s<=2 ^ 40):kZ a s=some (a+zy s,je a s):=if_pos ⟨h0,h1⟩
theorem To (a0:Int) (e0:(List GStep)) (r:(Int×(List GStep))) (h:kZ a0 e0=some r):∃n,Wa n a0 e0=some r:=by
 unfold kZ at h
 obtain⟨⟨h0,h1⟩,h⟩:=zB h
 have:=k8 e0
 obtain⟨z,hz⟩:=N7 e0 [] a0 (e0.length+1) h0 h1 (by simp;omega) (by omega)
 refine⟨e0.length+1,?_⟩
 unfold Wa
 simp only[List.nil_append,List.length_nil,Int.natCast_zero]at hz
 rw[hz]
 exact h
theorem P7:Kh kZ:=fun a0 e0 r h=>(To a0 e0 r h).elim fun n hn=>O9 n a0 e0 r hn
def QM (F:Int→(List GChange)→Option (Int×(List GChange))):Prop:=∀(a0:Int) (e0:(List GChange)),Oc (F a0 e0) 16 [.obj 13 (eL yO e0)] [vr 0,vi a0] fun r=>(vi r.1,[.obj 13 (eL yO r.2)])
def wa:Nat→Int→Int→(List GChange)→Option (Int×Int×(List GChange))
 |0,_,_,_=>none
 |m+1,a0,v1,e0=>
 if v1<(e0.length:Int)then
  (zn v1).bind fun i2=>
  (e0[i2]?).bind fun x3=>
  (kZ a0 x3.Path).bind fun⟨r4_0,r4_1⟩=>
  ((e0.set i2 (GChange.mk r4_1 x3.Had x3.Old x3.Has x3.New))[i2]?).bind fun x5=>
  (((e0.set i2 (GChange.mk r4_1 x3.Had x3.Old x3.Has x3.New)).set i2 (GChange.mk x5.Path (decide ((r4_0.tmod 3)=0)) x5.Old x5.Has x5.New))[i2]?).bind fun x6=>
  ((((e0.set i2 (GChange.mk r4_1 x3.Had x3.Old x3.Has x3.New)).set i2 (GChange.mk x5.Path (decide ((r4_0.tmod 3)=0)) x5.Old x5.Has x5.New)).set i2 (GChange.mk x6.Path x6.Had (GValue.mk (w64 (r4_0+1)) x6.Old.N x6.Old.S x6.Old.K x6.Old.L) x6.Has x6.New))[i2]?).bind fun x7=>
  (((((e0.set i2 (GChange.mk r4_1 x3.Had x3.Old x3.Has x3.New)).set i2 (GChange.mk x5.Path (decide ((r4_0.tmod 3)=0)) x5.Old x5.Has x5.New)).set i2 (GChange.mk x6.Path x6.Had (GValue.mk (w64 (r4_0+1)) x6.Old.N x6.Old.S x6.Old.K x6.Old.L) x6.Has x6.New)).set i2 (GChange.mk x7.Path x7.Had (GValue.mk x7.Old.Kind (w64 ((w64 (r4_0+1))+1)) x7.Old.S x7.Old.K x7.Old.L) x7.Has x7.New))[i2]?).bind fun x8=>
  (yb (w64 ((w64 ((w64 (r4_0+1))+1))+1)) x8.Old.S).bind fun⟨r9_0,r9_1⟩=>
  ((((((e0.set i2 (GChange.mk r4_1 x3.Had x3.Old x3.Has x3.New)).set i2 (GChange.mk x5.Path (decide ((r4_0.tmod 3)=0)) x5.Old x5.Has x5.New)).set i2 (GChange.mk x6.Path x6.Had (GValue.mk (w64 (r4_0+1)) x6.Old.N x6.Old.S x6.Old.K x6.Old.L) x6.Has x6.New)).set i2 (GChange.mk x7.Path x7.Had (GValue.mk x7.Old.Kind (w64 ((w64 (r4_0+1))+1)) x7.Old.S x7.Old.K x7.Old.L) x7.Has x7.New)).set i2 (GChange.mk x8.Path x8.Had (GValue.mk x8.Old.Kind x8.Old.N r9_1 x8.Old.K x8.Old.L) x8.Has x8.New))[i2]?).bind fun x10=>
  (yM r9_0 x10.Old.K).bind fun⟨r11_0,r11_1⟩=>
  (((((((e0.set i2 (GChange.mk r4_1 x3.Had x3.Old x3.Has x3.New)).set i2 (GChange.mk x5.Path (decide ((r4_0.tmod 3)=0)) x5.Old x5.Has x5.New)).set i2 (GChange.mk x6.Path x6.Had (GValue.mk (w64 (r4_0+1)) x6.Old.N x6.Old.S x6.Old.K x6.Old.L) x6.Has x6.New)).set i2 (GChange.mk x7.Path x7.Had (GValue.mk x7.Old.Kind (w64 ((w64 (r4_0+1))+1)) x7.Old.S x7.Old.K x7.Old.L) x7.Has x7.New)).set i2 (GChange.mk x8.Path x8.Had (GValue.mk x8.Old.Kind x8.Old.N r9_1 x8.Old.K x8.Old.L) x8.Has x8.New)).set i2 (GChange.mk x10.Path x10.Had (GValue.mk x10.Old.Kind x10.Old.N x10.Old.S r11_1 x10.Old.L) x10.Has x10.New))[i2]?).bind fun x12=>
  (xQ r11_0 x12.Old.L).bind fun⟨r13_0,r13_1⟩=>
  ((((((((e0.set i2 (GChange.mk r4_1 x3.Had x3.Old x3.Has x3.New)).set i2 (GChange.mk x5.Path (decide ((r4_0.tmod 3)=0)) x5.Old x5.Has x5.New)).set i2 (GChange.mk x6.Path x6.Had (GValue.mk (w64 (r4_0+1)) x6.Old.N x6.Old.S x6.Old.K x6.Old.L) x6.Has x6.New)).set i2 (GChange.mk x7.Path x7.Had (GValue.mk x7.Old.Kind (w64 ((w64 (r4_0+1))+1)) x7.Old.S x7.Old.K x7.Old.L) x7.Has x7.New)).set i2 (GChange.mk x8.Path x8.Had (GValue.mk x8.Old.Kind x8.Old.N r9_1 x8.Old.K x8.Old.L) x8.Has x8.New)).set i2 (GChange.mk x10.Path x10.Had (GValue.mk x10.Old.Kind x10.Old.N x10.Old.S r11_1 x10.Old.L) x10.Has x10.New)).set i2 (GChange.mk x12.Path x12.Had (GValue.mk x12.Old.Kind x12.Old.N x12.Old.S x12.Old.K r13_1) x12.Has x12.New))[i2]?).bind fun x14=>
  (((((((((e0.set i2 (GChange.mk r4_1 x3.Had x3.Old x3.Has x3.New)).set i2 (GChange.mk x5.Path (decide ((r4_0.tmod 3)=0)) x5.Old x5.Has x5.New)).set i2 (GChange.mk x6.Path x6.Had (GValue.mk (w64 (r4_0+1)) x6.Old.N x6.Old.S x6.Old.K x6.Old.L) x6.Has x6.New)).set i2 (GChange.mk x7.Path x7.Had (GValue.mk x7.Old.Kind (w64 ((w64 (r4_0+1))+1)) x7.Old.S x7.Old.K x7.Old.L) x7.Has x7.New)).set i2 (GChange.mk x8.Path x8.Had (GValue.mk x8.Old.Kind x8.Old.N r9_1 x8.Old.K x8.Old.L) x8.Has x8.New)).set i2 (GChange.mk x10.Path x10.Had (GValue.mk x10.Old.Kind x10.Old.N x10.Old.S r11_1 x10.Old.L) x10.Has x10.New)).set i2 (GChange.mk x12.Path x12.Had (GValue.mk x12.Old.Kind x12.Old.N x12.Old.S x12.Old.K r13_1) x12.Has x12.New)).set i2 (GChange.mk x14.Path x14.Had x14.Old (decide ((r13_0.tmod 3)=0)) x14.New))[i2]?).bind fun x15=>
  ((((((((((e0.set i2 (GChange.mk r4_1 x3.Had x3.Old x3.Has x3.New)).set i2 (GChange.mk x5.Path (decide ((r4_0.tmod 3)=0)) x5.Old x5.Has x5.New)).set i2 (GChange.mk x6.Path x6.Had (GValue.mk (w64 (r4_0+1)) x6.Old.N x6.Old.S x6.Old.K x6.Old.L) x6.Has x6.New)).set i2 (GChange.mk x7.Path x7.Had (GValue.mk x7.Old.Kind (w64 ((w64 (r4_0+1))+1)) x7.Old.S x7.Old.K x7.Old.L) x7.Has x7.New)).set i2 (GChange.mk x8.Path x8.Had (GValue.mk x8.Old.Kind x8.Old.N r9_1 x8.Old.K x8.Old.L) x8.Has x8.New)).set i2 (GChange.mk x10.Path x10.Had (GValue.mk x10.Old.Kind x10.Old.N x10.Old.S r11_1 x10.Old.L) x10.Has x10.New)).set i2 (GChange.mk x12.Path x12.Had (GValue.mk x12.Old.Kind x12.Old.N x12.Old.S x12.Old.K r13_1) x12.Has x12.New)).set i2 (GChange.mk x14.Path x14.Had x14.Old (decide ((r13_0.tmod 3)=0)) x14.New)).set i2 (GChange.mk x15.Path x15.Had x15.Old x15.Has (GValue.mk (w64 (r13_0+1)) x15.New.N x15.New.S x15.New.K x15.New.L)))[i2]?).bind fun x16=>
  (((((((((((e0.set i2 (GChange.mk r4_1 x3.Had x3.Old x3.Has x3.New)).set i2 (GChange.mk x5.Path (decide ((r4_0.tmod 3)=0)) x5.Old x5.Has x5.New)).set i2 (GChange.mk x6.Path x6.Had (GValue.mk (w64 (r4_0+1)) x6.Old.N x6.Old.S x6.Old.K x6.Old.L) x6.Has x6.New)).set i2 (GChange.mk x7.Path x7.Had (GValue.mk x7.Old.Kind (w64 ((w64 (r4_0+1))+1)) x7.Old.S x7.Old.K x7.Old.L) x7.Has x7.New)).set i2 (GChange.mk x8.Path x8.Had (GValue.mk x8.Old.Kind x8.Old.N r9_1 x8.Old.K x8.Old.L) x8.Has x8.New)).set i2 (GChange.mk x10.Path x10.Had (GValue.mk x10.Old.Kind x10.Old.N x10.Old.S r11_1 x10.Old.L) x10.Has x10.New)).set i2 (GChange.mk x12.Path x12.Had (GValue.mk x12.Old.Kind x12.Old.N x12.Old.S x12.Old.K r13_1) x12.Has x12.New)).set i2 (GChange.mk x14.Path x14.Had x14.Old (decide ((r13_0.tmod 3)=0)) x14.New)).set i2 (GChange.mk x15.Path x15.Had x15.Old x15.Has (GValue.mk (w64 (r13_0+1)) x15.New.N x15.New.S x15.New.K x15.New.L))).set i2 (GChange.mk x16.Path x16.Had x16.Old x16.Has (GValue.mk x16.New.Kind (w64 ((w64 (r13_0+1))+1)) x16.New.S x16.New.K x16.New.L)))[i2]?).bind fun x17=>
  (yb (w64 ((w64 ((w64 (r13_0+1))+1))+1)) x17.New.S).bind fun⟨r18_0,r18_1⟩=>
  ((((((((((((e0.set i2 (GChange.mk r4_1 x3.Had x3.Old x3.Has x3.New)).set i2 (GChange.mk x5.Path (decide ((r4_0.tmod 3)=0)) x5.Old x5.Has x5.New)).set i2 (GChange.mk x6.Path x6.Had (GValue.mk (w64 (r4_0+1)) x6.Old.N x6.Old.S x6.Old.K x6.Old.L) x6.Has x6.New)).set i2 (GChange.mk x7.Path x7.Had (GValue.mk x7.Old.Kind (w64 ((w64 (r4_0+1))+1)) x7.Old.S x7.Old.K x7.Old.L) x7.Has x7.New)).set i2 (GChange.mk x8.Path x8.Had (GValue.mk x8.Old.Kind x8.Old.N r9_1 x8.Old.K x8.Old.L) x8.Has x8.New)).set i2 (GChange.mk x10.Path x10.Had (GValue.mk x10.Old.Kind x10.Old.N x10.Old.S r11_1 x10.Old.L) x10.Has x10.New)).set i2 (GChange.mk x12.Path x12.Had (GValue.mk x12.Old.Kind x12.Old.N x12.Old.S x12.Old.K r13_1) x12.Has x12.New)).set i2 (GChange.mk x14.Path x14.Had x14.Old (decide ((r13_0.tmod 3)=0)) x14.New)).set i2 (GChange.mk x15.Path x15.Had x15.Old x15.Has (GValue.mk (w64 (r13_0+1)) x15.New.N x15.New.S x15.New.K x15.New.L))).set i2 (GChange.mk x16.Path x16.Had x16.Old x16.Has (GValue.mk x16.New.Kind (w64 ((w64 (r13_0+1))+1)) x16.New.S x16.New.K x16.New.L))).set i2 (GChange.mk x17.Path x17.Had x17.Old x17.Has (GValue.mk x17.New.Kind x17.New.N r18_1 x17.New.K x17.New.L)))[i2]?).bind fun x19=>
  (yM r18_0 x19.New.K).bind fun⟨r20_0,r20_1⟩=>
  (((((((((((((e0.set i2 (GChange.mk r4_1 x3.Had x3.Old x3.Has x3.New)).set i2 (GChange.mk x5.Path (decide ((r4_0.tmod 3)=0)) x5.Old x5.Has x5.New)).set i2 (GChange.mk x6.Path x6.Had (GValue.mk (w64 (r4_0+1)) x6.Old.N x6.Old.S x6.Old.K x6.Old.L) x6.Has x6.New)).set i2 (GChange.mk x7.Path x7.Had (GValue.mk x7.Old.Kind (w64 ((w64 (r4_0+1))+1)) x7.Old.S x7.Old.K x7.Old.L) x7.Has x7.New)).set i2 (GChange.mk x8.Path x8.Had (GValue.mk x8.Old.Kind x8.Old.N r9_1 x8.Old.K x8.Old.L) x8.Has x8.New)).set i2 (GChange.mk x10.Path x10.Had (GValue.mk x10.Old.Kind x10.Old.N x10.Old.S r11_1 x10.Old.L) x10.Has x10.New)).set i2 (GChange.mk x12.Path x12.Had (GValue.mk x12.Old.Kind x12.Old.N x12.Old.S x12.Old.K r13_1) x12.Has x12.New)).set i2 (GChange.mk x14.Path x14.Had x14.Old (decide ((r13_0.tmod 3)=0)) x14.New)).set i2 (GChange.mk x15.Path x15.Had x15.Old x15.Has (GValue.mk (w64 (r13_0+1)) x15.New.N x15.New.S x15.New.K x15.New.L))).set i2 (GChange.mk x16.Path x16.Had x16.Old x16.Has (GValue.mk x16.New.Kind (w64 ((w64 (r13_0+1))+1)) x16.New.S x16.New.K x16.New.L))).set i2 (GChange.mk x17.Path x17.Had x17.Old x17.Has (GValue.mk x17.New.Kind x17.New.N r18_1 x17.New.K x17.New.L))).set i2 (GChange.mk x19.Path x19.Had x19.Old x19.Has (GValue.mk x19.New.Kind x19.New.N x19.New.S r20_1 x19.New.L)))[i2]?).bind fun x21=>
  (xQ r20_0 x21.New.L).bind fun⟨r22_0,r22_1⟩=>
  wa m r22_0 (w64 (v1+1)) (((((((((((((e0.set i2 (GChange.mk r4_1 x3.Had x3.Old x3.Has x3.New)).set i2 (GChange.mk x5.Path (decide ((r4_0.tmod 3)=0)) x5.Old x5.Has x5.New)).set i2 (GChange.mk x6.Path x6.Had (GValue.mk (w64 (r4_0+1)) x6.Old.N x6.Old.S x6.Old.K x6.Old.L) x6.Has x6.New)).set i2 (GChange.mk x7.Path x7.Had (GValue.mk x7.Old.Kind (w64 ((w64 (r4_0+1))+1)) x7.Old.S x7.Old.K x7.Old.L) x7.Has x7.New)).set i2 (GChange.mk x8.Path x8.Had (GValue.mk x8.Old.Kind x8.Old.N r9_1 x8.Old.K x8.Old.L) x8.Has x8.New)).set i2 (GChange.mk x10.Path x10.Had (GValue.mk x10.Old.Kind x10.Old.N x10.Old.S r11_1 x10.Old.L) x10.Has x10.New)).set i2 (GChange.mk x12.Path x12.Had (GValue.mk x12.Old.Kind x12.Old.N x12.Old.S x12.Old.K r13_1) x12.Has x12.New)).set i2 (GChange.mk x14.Path x14.Had x14.Old (decide ((r13_0.tmod 3)=0)) x14.New)).set i2 (GChange.mk x15.Path x15.Had x15.Old x15.Has (GValue.mk (w64 (r13_0+1)) x15.New.N x15.New.S x15.New.K x15.New.L))).set i2 (GChange.mk x16.Path x16.Had x16.Old x16.Has (GValue.mk x16.New.Kind (w64 ((w64 (r13_0+1))+1)) x16.New.S x16.New.K x16.New.L))).set i2 (GChange.mk x17.Path x17.Had x17.Old x17.Has (GValue.mk x17.New.Kind x17.New.N r18_1 x17.New.K x17.New.L))).set i2 (GChange.mk x19.Path x19.Had x19.Old x19.Has (GValue.mk x19.New.Kind x19.New.N x19.New.S r20_1 x19.New.L))).set i2 (GChange.mk x21.Path x21.Had x21.Old x21.Has (GValue.mk x21.New.Kind x21.New.N x21.New.S x21.New.K r22_1)))
 else
 some (a0,v1,e0)
theorem Va (m:Nat):∀(a0:Int) (v1:Int) (e0:(List GChange)),Ol (wa m a0 v1 e0) 16 (zD Tryz.f16 0) ⟨[(0,vr 0),(1,vi a0),(5,vi v1)],[.obj 13 (eL yO e0)],1⟩ fun o=>match o with |⟨o_0,o_1,o_2⟩=>(.exit 0,⟨[(0,vr 0),(1,vi o_0),(5,vi o_1),(9,vb false)],[.obj 13 (eL yO o_2)],1⟩):=by
 induction m with
 |zero=>intro a0 v1 e0 o h;cases h
 |succ m ih=>exact fun a0 v1 e0=>tlp (
  .le yO e0<|.lI v1 (e0.length:Int) (fun c1=>.na v1 fun i2=>.ix zO e0 i2 fun x3=>.ag 0<|.cl (P7 a0 x3.Path) fun⟨r4_0,r4_1⟩=>.ag 1<|.sl (zO (GChange.mk r4_1 x3.Had x3.Old x3.Has x3.New)) e0 i2<|.q ⟨.nz 3,.b true,rfl⟩<|.eD (r4_0.tmod 3) 0<|.ag 2<|.ix zO (e0.set i2 (GChange.mk r4_1 x3.Had x3.Old x3.Has x3.New)) i2 fun x5=>.ag 0<|.sl (zO (GChange.mk x5.Path (decide ((r4_0.tmod 3)=0)) x5.Old x5.Has x5.New)) (e0.set i2 (GChange.mk r4_1 x3.Had x3.Old x3.Has x3.New)) i2<|.ag 3<|.ix zO ((e0.set i2 (GChange.mk r4_1 x3.Had x3.Old x3.Has x3.New)).set i2 (GChange.mk x5.Path (decide ((r4_0.tmod 3)=0)) x5.Old x5.Has x5.New)) i2 fun x6=>.ag 0<|.sl (zO (GChange.mk x6.Path x6.Had (GValue.mk (w64 (r4_0+1)) x6.Old.N x6.Old.S x6.Old.K x6.Old.L) x6.Has x6.New)) ((e0.set i2 (GChange.mk r4_1 x3.Had x3.Old x3.Has x3.New)).set i2 (GChange.mk x5.Path (decide ((r4_0.tmod 3)=0)) x5.Old x5.Has x5.New)) i2<|.ag 4<|.ix zO (((e0.set i2 (GChange.mk r4_1 x3.Had x3.Old x3.Has x3.New)).set i2 (GChange.mk x5.Path (decide ((r4_0.tmod 3)=0)) x5.Old x5.Has x5.New)).set i2 (GChange.mk x6.Path x6.Had (GValue.mk (w64 (r4_0+1)) x6.Old.N x6.Old.S x6.Old.K x6.Old.L) x6.Has x6.New)) i2 fun x7=>.ag 0<|.sl (zO (GChange.mk x7.Path x7.Had (GValue.mk x7.Old.Kind (w64 ((w64 (r4_0+1))+1)) x7.Old.S x7.Old.K x7.Old.L) x7.Has x7.New)) (((e0.set i2 (GChange.mk r4_1 x3.Had x3.Old x3.Has x3.New)).set i2 (GChange.mk x5.Path (decide ((r4_0.tmod 3)=0)) x5.Old x5.Has x5.New)).set i2 (GChange.mk x6.Path x6.Had (GValue.mk (w64 (r4_0+1)) x6.Old.N x6.Old.S x6.Old.K x6.Old.L) x6.Has x6.New)) i2<|.ag 5<|.ix zO ((((e0.set i2 (GChange.mk r4_1 x3.Had x3.Old x3.Has x3.New)).set i2 (GChange.mk x5.Path (decide ((r4_0.tmod 3)=0)) x5.Old x5.Has x5.New)).set i2 (GChange.mk x6.Path x6.Had (GValue.mk (w64 (r4_0+1)) x6.Old.N x6.Old.S x6.Old.K x6.Old.L) x6.Has x6.New)).set i2 (GChange.mk x7.Path x7.Had (GValue.mk x7.Old.Kind (w64 ((w64 (r4_0+1))+1)) x7.Old.S x7.Old.K x7.Old.L) x7.Has x7.New)) i2 fun x8=>.ag 0<|.cl (yA (w64 ((w64 ((w64 (r4_0+1))+1))+1)) x8.Old.S) fun⟨r9_0,r9_1⟩=>.ag 1<|.sl (zO (GChange.mk x8.Path x8.Had (GValue.mk x8.Old.Kind x8.Old.N r9_1 x8.Old.K x8.Old.L) x8.Has x8.New)) ((((e0.set i2 (GChange.mk r4_1 x3.Had x3.Old x3.Has x3.New)).set i2 (GChange.mk x5.Path (decide ((r4_0.tmod 3)=0)) x5.Old x5.Has x5.New)).set i2 (GChange.mk x6.Path x6.Had (GValue.mk (w64 (r4_0+1)) x6.Old.N x6.Old.S x6.Old.K x6.Old.L) x6.Has x6.New)).set i2 (GChange.mk x7.Path x7.Had (GValue.mk x7.Old.Kind (w64 ((w64 (r4_0+1))+1)) x7.Old.S x7.Old.K x7.Old.L) x7.Has x7.New)) i2<|.ag 7<|.ix zO (((((e0.set i2 (GChange.mk r4_1 x3.Had x3.Old x3.Has x3.New)).set i2 (GChange.mk x5.Path (decide ((r4_0.tmod 3)=0)) x5.Old x5.Has x5.New)).set i2 (GChange.mk x6.Path x6.Had (GValue.mk (w64 (r4_0+1)) x6.Old.N x6.Old.S x6.Old.K x6.Old.L) x6.Has x6.New)).set i2 (GChange.mk x7.Path x7.Had (GValue.mk x7.Old.Kind (w64 ((w64 (r4_0+1))+1)) x7.Old.S x7.Old.K x7.Old.L) x7.Has x7.New)).set i2 (GChange.mk x8.Path x8.Had (GValue.mk x8.Old.Kind x8.Old.N r9_1 x8.Old.K x8.Old.L) x8.Has x8.New)) i2 fun x10=>.ag 0<|.cl (wl r9_0 x10.Old.K) fun⟨r11_0,r11_1⟩=>.ag 1<|.sl (zO (GChange.mk x10.Path x10.Had (GValue.mk x10.Old.Kind x10.Old.N x10.Old.S r11_1 x10.Old.L) x10.Has x10.New)) (((((e0.set i2 (GChange.mk r4_1 x3.Had x3.Old x3.Has x3.New)).set i2 (GChange.mk x5.Path (decide ((r4_0.tmod 3)=0)) x5.Old x5.Has x5.New)).set i2 (GChange.mk x6.Path x6.Had (GValue.mk (w64 (r4_0+1)) x6.Old.N x6.Old.S x6.Old.K x6.Old.L) x6.Has x6.New)).set i2 (GChange.mk x7.Path x7.Had (GValue.mk x7.Old.Kind (w64 ((w64 (r4_0+1))+1)) x7.Old.S x7.Old.K x7.Old.L) x7.Has x7.New)).set i2 (GChange.mk x8.Path x8.Had (GValue.mk x8.Old.Kind x8.Old.N r9_1 x8.Old.K x8.Old.L) x8.Has x8.New)) i2<|.ag 9<|.ix zO ((((((e0.set i2 (GChange.mk r4_1 x3.Had x3.Old x3.Has x3.New)).set i2 (GChange.mk x5.Path (decide ((r4_0.tmod 3)=0)) x5.Old x5.Has x5.New)).set i2 (GChange.mk x6.Path x6.Had (GValue.mk (w64 (r4_0+1)) x6.Old.N x6.Old.S x6.Old.K x6.Old.L) x6.Has x6.New)).set i2 (GChange.mk x7.Path x7.Had (GValue.mk x7.Old.Kind (w64 ((w64 (r4_0+1))+1)) x7.Old.S x7.Old.K x7.Old.L) x7.Has x7.New)).set i2 (GChange.mk x8.Path x8.Had (GValue.mk x8.Old.Kind x8.Old.N r9_1 x8.Old.K x8.Old.L) x8.Has x8.New)).set i2 (GChange.mk x10.Path x10.Had (GValue.mk x10.Old.Kind x10.Old.N x10.Old.S r11_1 x10.Old.L) x10.Has x10.New)) i2 fun x12=>.ag 0<|.cl (vU r11_0 x12.Old.L) fun⟨r13_0,r13_1⟩=>.ag 1<|.sl (zO (GChange.mk x12.Path x12.Had (GValue.mk x12.Old.Kind x12.Old.N x12.Old.S x12.Old.K r13_1) x12.Has x12.New)) ((((((e0.set i2 (GChange.mk r4_1 x3.Had x3.Old x3.Has x3.New)).set i2 (GChange.mk x5.Path (decide ((r4_0.tmod 3)=0)) x5.Old x5.Has x5.New)).set i2 (GChange.mk x6.Path x6.Had (GValue.mk (w64 (r4_0+1)) x6.Old.N x6.Old.S x6.Old.K x6.Old.L) x6.Has x6.New)).set i2 (GChange.mk x7.Path x7.Had (GValue.mk x7.Old.Kind (w64 ((w64 (r4_0+1))+1)) x7.Old.S x7.Old.K x7.Old.L) x7.Has x7.New)).set i2 (GChange.mk x8.Path x8.Had (GValue.mk x8.Old.Kind x8.Old.N r9_1 x8.Old.K x8.Old.L) x8.Has x8.New)).set i2 (GChange.mk x10.Path x10.Had (GValue.mk x10.Old.Kind x10.Old.N x10.Old.S r11_1 x10.Old.L) x10.Has x10.New)) i2<|.q ⟨.nz 3,.b true,rfl⟩<|.eD (r13_0.tmod 3) 0<|.ag 11<|.ix zO (((((((e0.set i2 (GChange.mk r4_1 x3.Had x3.Old x3.Has x3.New)).set i2 (GChange.mk x5.Path (decide ((r4_0.tmod 3)=0)) x5.Old x5.Has x5.New)).set i2 (GChange.mk x6.Path x6.Had (GValue.mk (w64 (r4_0+1)) x6.Old.N x6.Old.S x6.Old.K x6.Old.L) x6.Has x6.New)).set i2 (GChange.mk x7.Path x7.Had (GValue.mk x7.Old.Kind (w64 ((w64 (r4_0+1))+1)) x7.Old.S x7.Old.K x7.Old.L) x7.Has x7.New)).set i2 (GChange.mk x8.Path x8.Had (GValue.mk x8.Old.Kind x8.Old.N r9_1 x8.Old.K x8.Old.L) x8.Has x8.New)).set i2 (GChange.mk x10.Path x10.Had (GValue.mk x10.Old.Kind x10.Old.N x10.Old.S r11_1 x10.Old.L) x10.Has x10.New)).set i2 (GChange.mk x12.Path x12.Had (GValue.mk x12.Old.Kind x12.Old.N x12.Old.S x12.Old.K r13_1) x12.Has x12.New)) i2 fun x14=>.ag 0<|.sl (zO (GChange.mk x14.Path x14.Had x14.Old (decide ((r13_0.tmod 3)=0)) x14.New)) (((((((e0.set i2 (GChange.mk r4_1 x3.Had x3.Old x3.Has x3.New)).set i2 (GChange.mk x5.Path (decide ((r4_0.tmod 3)=0)) x5.Old x5.Has x5.New)).set i2 (GChange.mk x6.Path x6.Had (GValue.mk (w64 (r4_0+1)) x6.Old.N x6.Old.S x6.Old.K x6.Old.L) x6.Has x6.New)).set i2 (GChange.mk x7.Path x7.Had (GValue.mk x7.Old.Kind (w64 ((w64 (r4_0+1))+1)) x7.Old.S x7.Old.K x7.Old.L) x7.Has x7.New)).set i2 (GChange.mk x8.Path x8.Had (GValue.mk x8.Old.Kind x8.Old.N r9_1 x8.Old.K x8.Old.L) x8.Has x8.New)).set i2 (GChange.mk x10.Path x10.Had (GValue.mk x10.Old.Kind x10.Old.N x10.Old.S r11_1 x10.Old.L) x10.Has x10.New)).set i2 (GChange.mk x12.Path x12.Had (GValue.mk x12.Old.Kind x12.Old.N x12.Old.S x12.Old.K r13_1) x12.Has x12.New)) i2<|.ag 12<|.ix zO ((((((((e0.set i2 (GChange.mk r4_1 x3.Had x3.Old x3.Has x3.New)).set i2 (GChange.mk x5.Path (decide ((r4_0.tmod 3)=0)) x5.Old x5.Has x5.New)).set i2 (GChange.mk x6.Path x6.Had (GValue.mk (w64 (r4_0+1)) x6.Old.N x6.Old.S x6.Old.K x6.Old.L) x6.Has x6.New)).set i2 (GChange.mk x7.Path x7.Had (GValue.mk x7.Old.Kind (w64 ((w64 (r4_0+1))+1)) x7.Old.S x7.Old.K x7.Old.L) x7.Has x7.New)).set i2 (GChange.mk x8.Path x8.Had (GValue.mk x8.Old.Kind x8.Old.N r9_1 x8.Old.K x8.Old.L) x8.Has x8.New)).set i2 (GChange.mk x10.Path x10.Had (GValue.mk x10.Old.Kind x10.Old.N x10.Old.S r11_1 x10.Old.L) x10.Has x10.New)).set i2 (GChange.mk x12.Path x12.Had (GValue.mk x12.Old.Kind x12.Old.N x12.Old.S x12.Old.K r13_1) x12.Has x12.New)).set i2 (GChange.mk x14.Path x14.Had x14.Old (decide ((r13_0.tmod 3)=0)) x14.New)) i2 fun x15=>.ag 0<|.sl (zO (GChange.mk x15.Path x15.Had x15.Old x15.Has (GValue.mk (w64 (r13_0+1)) x15.New.N x15.New.S x15.New.K x15.New.L))) ((((((((e0.set i2 (GChange.mk r4_1 x3.Had x3.Old x3.Has x3.New)).set i2 (GChange.mk x5.Path (decide ((r4_0.tmod 3)=0)) x5.Old x5.Has x5.New)).set i2 (GChange.mk x6.Path x6.Had (GValue.mk (w64 (r4_0+1)) x6.Old.N x6.Old.S x6.Old.K x6.Old.L) x6.Has x6.New)).set i2 (GChange.mk x7.Path x7.Had (GValue.mk x7.Old.Kind (w64 ((w64 (r4_0+1))+1)) x7.Old.S x7.Old.K x7.Old.L) x7.Has x7.New)).set i2 (GChange.mk x8.Path x8.Had (GValue.mk x8.Old.Kind x8.Old.N r9_1 x8.Old.K x8.Old.L) x8.Has x8.New)).set i2 (GChange.mk x10.Path x10.Had (GValue.mk x10.Old.Kind x10.Old.N x10.Old.S r11_1 x10.Old.L) x10.Has x10.New)).set i2 (GChange.mk x12.Path x12.Had (GValue.mk x12.Old.Kind x12.Old.N x12.Old.S x12.Old.K r13_1) x12.Has x12.New)).set i2 (GChange.mk x14.Path x14.Had x14.Old (decide ((r13_0.tmod 3)=0)) x14.New)) i2<|.ag 13<|.ix zO (((((((((e0.set i2 (GChange.mk r4_1 x3.Had x3.Old x3.Has x3.New)).set i2 (GChange.mk x5.Path (decide ((r4_0.tmod 3)=0)) x5.Old x5.Has x5.New)).set i2 (GChange.mk x6.Path x6.Had (GValue.mk (w64 (r4_0+1)) x6.Old.N x6.Old.S x6.Old.K x6.Old.L) x6.Has x6.New)).set i2 (GChange.mk x7.Path x7.Had (GValue.mk x7.Old.Kind (w64 ((w64 (r4_0+1))+1)) x7.Old.S x7.Old.K x7.Old.L) x7.Has x7.New)).set i2 (GChange.mk x8.Path x8.Had (GValue.mk x8.Old.Kind x8.Old.N r9_1 x8.Old.K x8.Old.L) x8.Has x8.New)).set i2 (GChange.mk x10.Path x10.Had (GValue.mk x10.Old.Kind x10.Old.N x10.Old.S r11_1 x10.Old.L) x10.Has x10.New)).set i2 (GChange.mk x12.Path x12.Had (GValue.mk x12.Old.Kind x12.Old.N x12.Old.S x12.Old.K r13_1) x12.Has x12.New)).set i2 (GChange.mk x14.Path x14.Had x14.Old (decide ((r13_0.tmod 3)=0)) x14.New)).set i2 (GChange.mk x15.Path x15.Had x15.Old x15.Has (GValue.mk (w64 (r13_0+1)) x15.New.N x15.New.S x15.New.K x15.New.L))) i2 fun x16=>.ag 0<|.sl (zO (GChange.mk x16.Path x16.Had x16.Old x16.Has (GValue.mk x16.New.Kind (w64 ((w64 (r13_0+1))+1)) x16.New.S x16.New.K x16.New.L))) (((((((((e0.set i2 (GChange.mk r4_1 x3.Had x3.Old x3.Has x3.New)).set i2 (GChange.mk x5.Path (decide ((r4_0.tmod 3)=0)) x5.Old x5.Has x5.New)).set i2 (GChange.mk x6.Path x6.Had (GValue.mk (w64 (r4_0+1)) x6.Old.N x6.Old.S x6.Old.K x6.Old.L) x6.Has x6.New)).set i2 (GChange.mk x7.Path x7.Had (GValue.mk x7.Old.Kind (w64 ((w64 (r4_0+1))+1)) x7.Old.S x7.Old.K x7.Old.L) x7.Has x7.New)).set i2 (GChange.mk x8.Path x8.Had (GValue.mk x8.Old.Kind x8.Old.N r9_1 x8.Old.K x8.Old.L) x8.Has x8.New)).set i2 (GChange.mk x10.Path x10.Had (GValue.mk x10.Old.Kind x10.Old.N x10.Old.S r11_1 x10.Old.L) x10.Has x10.New)).set i2 (GChange.mk x12.Path x12.Had (GValue.mk x12.Old.Kind x12.Old.N x12.Old.S x12.Old.K r13_1) x12.Has x12.New)).set i2 (GChange.mk x14.Path x14.Had x14.Old (decide ((r13_0.tmod 3)=0)) x14.New)).set i2 (GChange.mk x15.Path x15.Had x15.Old x15.Has (GValue.mk (w64 (r13_0+1)) x15.New.N x15.New.S x15.New.K x15.New.L))) i2<|.ag 14<|.ix zO ((((((((((e0.set i2 (GChange.mk r4_1 x3.Had x3.Old x3.Has x3.New)).set i2 (GChange.mk x5.Path (decide ((r4_0.tmod 3)=0)) x5.Old x5.Has x5.New)).set i2 (GChange.mk x6.Path x6.Had (GValue.mk (w64 (r4_0+1)) x6.Old.N x6.Old.S x6.Old.K x6.Old.L) x6.Has x6.New)).set i2 (GChange.mk x7.Path x7.Had (GValue.mk x7.Old.Kind (w64 ((w64 (r4_0+1))+1)) x7.Old.S x7.Old.K x7.Old.L) x7.Has x7.New)).set i2 (GChange.mk x8.Path x8.Had (GValue.mk x8.Old.Kind x8.Old.N r9_1 x8.Old.K x8.Old.L) x8.Has x8.New)).set i2 (GChange.mk x10.Path x10.Had (GValue.mk x10.Old.Kind x10.Old.N x10.Old.S r11_1 x10.Old.L) x10.Has x10.New)).set i2 (GChange.mk x12.Path x12.Had (GValue.mk x12.Old.Kind x12.Old.N x12.Old.S x12.Old.K r13_1) x12.Has x12.New)).set i2 (GChange.mk x14.Path x14.Had x14.Old (decide ((r13_0.tmod 3)=0)) x14.New)).set i2 (GChange.mk x15.Path x15.Had x15.Old x15.Has (GValue.mk (w64 (r13_0+1)) x15.New.N x15.New.S x15.New.K x15.New.L))).set i2 (GChange.mk x16.Path x16.Had x16.Old x16.Has (GValue.mk x16.New.Kind (w64 ((w64 (r13_0+1))+1)) x16.New.S x16.New.K x16.New.L))) i2 fun x17=>.ag 0<|.cl (yA (w64 ((w64 ((w64 (r13_0+1))+1))+1)) x17.New.S) fun⟨r18_0,r18_1⟩=>.ag 1<|.sl (zO (GChange.mk x17.Path x17.Had x17.Old x17.Has (GValue.mk x17.New.Kind x17.New.N r18_1 x17.New.K x17.New.L))) ((((((((((e0.set i2 (GChange.mk r4_1 x3.Had x3.Old x3.Has x3.New)).set i2 (GChange.mk x5.Path (decide ((r4_0.tmod 3)=0)) x5.Old x5.Has x5.New)).set i2 (GChange.mk x6.Path x6.Had (GValue.mk (w64 (r4_0+1)) x6.Old.N x6.Old.S x6.Old.K x6.Old.L) x6.Has x6.New)).set i2 (GChange.mk x7.Path x7.Had (GValue.mk x7.Old.Kind (w64 ((w64 (r4_0+1))+1)) x7.Old.S x7.Old.K x7.Old.L) x7.Has x7.New)).set i2 (GChange.mk x8.Path x8.Had (GValue.mk x8.Old.Kind x8.Old.N r9_1 x8.Old.K x8.Old.L) x8.Has x8.New)).set i2 (GChange.mk x10.Path x10.Had (GValue.mk x10.Old.Kind x10.Old.N x10.Old.S r11_1 x10.Old.L) x10.Has x10.New)).set i2 (GChange.mk x12.Path x12.Had (GValue.mk x12.Old.Kind x12.Old.N x12.Old.S x12.Old.K r13_1) x12.Has x12.New)).set i2 (GChange.mk x14.Path x14.Had x14.Old (decide ((r13_0.tmod 3)=0)) x14.New)).set i2 (GChange.mk x15.Path x15.Had x15.Old x15.Has (GValue.mk (w64 (r13_0+1)) x15.New.N x15.New.S x15.New.K x15.New.L))).set i2 (GChange.mk x16.Path x16.Had x16.Old x16.Has (GValue.mk x16.New.Kind (w64 ((w64 (r13_0+1))+1)) x16.New.S x16.New.K x16.New.L))) i2<|.ag 16<|.ix zO (((((((((((e0.set i2 (GChange.mk r4_1 x3.Had x3.Old x3.Has x3.New)).set i2 (GChange.mk x5.Path (decide ((r4_0.tmod 3)=0)) x5.Old x5.Has x5.New)).set i2 (GChange.mk x6.Path x6.Had (GValue.mk (w64 (r4_0+1)) x6.Old.N x6.Old.S x6.Old.K x6.Old.L) x6.Has x6.New)).set i2 (GChange.mk x7.Path x7.Had (GValue.mk x7.Old.Kind (w64 ((w64 (r4_0+1))+1)) x7.Old.S x7.Old.K x7.Old.L) x7.Has x7.New)).set i2 (GChange.mk x8.Path x8.Had (GValue.mk x8.Old.Kind x8.Old.N r9_1 x8.Old.K x8.Old.L) x8.Has x8.New)).set i2 (GChange.mk x10.Path x10.Had (GValue.mk x10.Old.Kind x10.Old.N x10.Old.S r11_1 x10.Old.L) x10.Has x10.New)).set i2 (GChange.mk x12.Path x12.Had (GValue.mk x12.Old.Kind x12.Old.N x12.Old.S x12.Old.K r13_1) x12.Has x12.New)).set i2 (GChange.mk x14.Path x14.Had x14.Old (decide ((r13_0.tmod 3)=0)) x14.New)).set i2 (GChange.mk x15.Path x15.Had x15.Old x15.Has (GValue.mk (w64 (r13_0+1)) x15.New.N x15.New.S x15.New.K x15.New.L))).set i2 (GChange.mk x16.Path x16.Had x16.Old x16.Has (GValue.mk x16.New.Kind (w64 ((w64 (r13_0+1))+1)) x16.New.S x16.New.K x16.New.L))).set i2 (GChange.mk x17.Path x17.Had x17.Old x17.Has (GValue.mk x17.New.Kind x17.New.N r18_1 x17.New.K x17.New.L))) i2 fun x19=>.ag 0<|.cl (wl r18_0 x19.New.K) fun⟨r20_0,r20_1⟩=>.ag 1<|.sl (zO (GChange.mk x19.Path x19.Had x19.Old x19.Has (GValue.mk x19.New.Kind x19.New.N x19.New.S r20_1 x19.New.L))) (((((((((((e0.set i2 (GChange.mk r4_1 x3.Had x3.Old x3.Has x3.New)).set i2 (GChange.mk x5.Path (decide ((r4_0.tmod 3)=0)) x5.Old x5.Has x5.New)).set i2 (GChange.mk x6.Path x6.Had (GValue.mk (w64 (r4_0+1)) x6.Old.N x6.Old.S x6.Old.K x6.Old.L) x6.Has x6.New)).set i2 (GChange.mk x7.Path x7.Had (GValue.mk x7.Old.Kind (w64 ((w64 (r4_0+1))+1)) x7.Old.S x7.Old.K x7.Old.L) x7.Has x7.New)).set i2 (GChange.mk x8.Path x8.Had (GValue.mk x8.Old.Kind x8.Old.N r9_1 x8.Old.K x8.Old.L) x8.Has x8.New)).set i2 (GChange.mk x10.Path x10.Had (GValue.mk x10.Old.Kind x10.Old.N x10.Old.S r11_1 x10.Old.L) x10.Has x10.New)).set i2 (GChange.mk x12.Path x12.Had (GValue.mk x12.Old.Kind x12.Old.N x12.Old.S x12.Old.K r13_1) x12.Has x12.New)).set i2 (GChange.mk x14.Path x14.Had x14.Old (decide ((r13_0.tmod 3)=0)) x14.New)).set i2 (GChange.mk x15.Path x15.Had x15.Old x15.Has (GValue.mk (w64 (r13_0+1)) x15.New.N x15.New.S x15.New.K x15.New.L))).set i2 (GChange.mk x16.Path x16.Had x16.Old x16.Has (GValue.mk x16.New.Kind (w64 ((w64 (r13_0+1))+1)) x16.New.S x16.New.K x16.New.L))).set i2 (GChange.mk x17.Path x17.Had x17.Old x17.Has (GValue.mk x17.New.Kind x17.New.N r18_1 x17.New.K x17.New.L))) i2<|.ag 18<|.ix zO ((((((((((((e0.set i2 (GChange.mk r4_1 x3.Had x3.Old x3.Has x3.New)).set i2 (GChange.mk x5.Path (decide ((r4_0.tmod 3)=0)) x5.Old x5.Has x5.New)).set i2 (GChange.mk x6.Path x6.Had (GValue.mk (w64 (r4_0+1)) x6.Old.N x6.Old.S x6.Old.K x6.Old.L) x6.Has x6.New)).set i2 (GChange.mk x7.Path x7.Had (GValue.mk x7.Old.Kind (w64 ((w64 (r4_0+1))+1)) x7.Old.S x7.Old.K x7.Old.L) x7.Has x7.New)).set i2 (GChange.mk x8.Path x8.Had (GValue.mk x8.Old.Kind x8.Old.N r9_1 x8.Old.K x8.Old.L) x8.Has x8.New)).set i2 (GChange.mk x10.Path x10.Had (GValue.mk x10.Old.Kind x10.Old.N x10.Old.S r11_1 x10.Old.L) x10.Has x10.New)).set i2 (GChange.mk x12.Path x12.Had (GValue.mk x12.Old.Kind x12.Old.N x12.Old.S x12.Old.K r13_1) x12.Has x12.New)).set i2 (GChange.mk x14.Path x14.Had x14.Old (decide ((r13_0.tmod 3)=0)) x14.New)).set i2 (GChange.mk x15.Path x15.Had x15.Old x15.Has (GValue.mk (w64 (r13_0+1)) x15.New.N x15.New.S x15.New.K x15.New.L))).set i2 (GChange.mk x16.Path x16.Had x16.Old x16.Has (GValue.mk x16.New.Kind (w64 ((w64 (r13_0+1))+1)) x16.New.S x16.New.K x16.New.L))).set i2 (GChange.mk x17.Path x17.Had x17.Old x17.Has (GValue.mk x17.New.Kind x17.New.N r18_1 x17.New.K x17.New.L))).set i2 (GChange.mk x19.Path x19.Had x19.Old x19.Has (GValue.mk x19.New.Kind x19.New.N x19.New.S r20_1 x19.New.L))) i2 fun x21=>.ag 0<|.cl (vU r20_0 x21.New.L) fun⟨r22_0,r22_1⟩=>.ag 1<|.sl (zO (GChange.mk x21.Path x21.Had x21.Old x21.Has (GValue.mk x21.New.Kind x21.New.N x21.New.S x21.New.K r22_1))) ((((((((((((e0.set i2 (GChange.mk r4_1 x3.Had x3.Old x3.Has x3.New)).set i2 (GChange.mk x5.Path (decide ((r4_0.tmod 3)=0)) x5.Old x5.Has x5.New)).set i2 (GChange.mk x6.Path x6.Had (GValue.mk (w64 (r4_0+1)) x6.Old.N x6.Old.S x6.Old.K x6.Old.L) x6.Has x6.New)).set i2 (GChange.mk x7.Path x7.Had (GValue.mk x7.Old.Kind (w64 ((w64 (r4_0+1))+1)) x7.Old.S x7.Old.K x7.Old.L) x7.Has x7.New)).set i2 (GChange.mk x8.Path x8.Had (GValue.mk x8.Old.Kind x8.Old.N r9_1 x8.Old.K x8.Old.L) x8.Has x8.New)).set i2 (GChange.mk x10.Path x10.Had (GValue.mk x10.Old.Kind x10.Old.N x10.Old.S r11_1 x10.Old.L) x10.Has x10.New)).set i2 (GChange.mk x12.Path x12.Had (GValue.mk x12.Old.Kind x12.Old.N x12.Old.S x12.Old.K r13_1) x12.Has x12.New)).set i2 (GChange.mk x14.Path x14.Had x14.Old (decide ((r13_0.tmod 3)=0)) x14.New)).set i2 (GChange.mk x15.Path x15.Had x15.Old x15.Has (GValue.mk (w64 (r13_0+1)) x15.New.N x15.New.S x15.New.K x15.New.L))).set i2 (GChange.mk x16.Path x16.Had x16.Old x16.Has (GValue.mk x16.New.Kind (w64 ((w64 (r13_0+1))+1)) x16.New.S x16.New.K x16.New.L))).set i2 (GChange.mk x17.Path x17.Had x17.Old x17.Has (GValue.mk x17.New.Kind x17.New.N r18_1 x17.New.K x17.New.L))).set i2 (GChange.mk x19.Path x19.Had x19.Old x19.Has (GValue.mk x19.New.Kind x19.New.N x19.New.S r20_1 x19.New.L))) i2<|.go (ih r22_0 (w64 (v1+1)) (((((((((((((e0.set i2 (GChange.mk r4_1 x3.Had x3.Old x3.Has x3.New)).set i2 (GChange.mk x5.Path (decide ((r4_0.tmod 3)=0)) x5.Old x5.Has x5.New)).set i2 (GChange.mk x6.Path x6.Had (GValue.mk (w64 (r4_0+1)) x6.Old.N x6.Old.S x6.Old.K x6.Old.L) x6.Has x6.New)).set i2 (GChange.mk x7.Path x7.Had (GValue.mk x7.Old.Kind (w64 ((w64 (r4_0+1))+1)) x7.Old.S x7.Old.K x7.Old.L) x7.Has x7.New)).set i2 (GChange.mk x8.Path x8.Had (GValue.mk x8.Old.Kind x8.Old.N r9_1 x8.Old.K x8.Old.L) x8.Has x8.New)).set i2 (GChange.mk x10.Path x10.Had (GValue.mk x10.Old.Kind x10.Old.N x10.Old.S r11_1 x10.Old.L) x10.Has x10.New)).set i2 (GChange.mk x12.Path x12.Had (GValue.mk x12.Old.Kind x12.Old.N x12.Old.S x12.Old.K r13_1) x12.Has x12.New)).set i2 (GChange.mk x14.Path x14.Had x14.Old (decide ((r13_0.tmod 3)=0)) x14.New)).set i2 (GChange.mk x15.Path x15.Had x15.Old x15.Has (GValue.mk (w64 (r13_0+1)) x15.New.N x15.New.S x15.New.K x15.New.L))).set i2 (GChange.mk x16.Path x16.Had x16.Old x16.Has (GValue.mk x16.New.Kind (w64 ((w64 (r13_0+1))+1)) x16.New.S x16.New.K x16.New.L))).set i2 (GChange.mk x17.Path x17.Had x17.Old x17.Has (GValue.mk x17.New.Kind x17.New.N r18_1 x17.New.K x17.New.L))).set i2 (GChange.mk x19.Path x19.Had x19.Old x19.Has (GValue.mk x19.New.Kind x19.New.N x19.New.S r20_1 x19.New.L))).set i2 (GChange.mk x21.Path x21.Had x21.Old x21.Has (GValue.mk x21.New.Kind x21.New.N x21.New.S x21.New.K r22_1))))) fun c1=>.ret (a0,v1,e0))
def YP (n:Nat) (a0:Int) (e0:(List GChange)):Option (Int×(List GChange)):=
 (wa n a0 0 e0).bind fun⟨o1_0,o1_1,o1_2⟩=>
 some (o1_0,o1_2)
theorem Uw (n:Nat):QM (YP n):=fun a0 e0=>tc (
 .lp (Va n a0 0 e0) fun⟨o1_0,o1_1,o1_2⟩=>.ret (o1_0,o1_2)) (zf Tryz.func16)
theorem OA:∀(l p:List GChange) (k:Int) (m:Nat),0<=k→k+6*zY l<=2 ^ 39→p.length+l.length<=2 ^ 40→l.length<m→∃z,wa m k (p.length:Int) (p++l)=some (k+vf l,z,p++ZG k l):=by
 intro l
 induction l with
 |nil=>
  intro p k m _ _ _ hm
  obtain⟨m,rfl,_⟩:=zg hm
  exact⟨_,by rw[wa,if_neg (xF p)];simp[ZG,vf];rfl⟩
 |cons x l ih=>
  intro p k m h0 h1 h2 hm
  obtain⟨m,rfl,hm'⟩:=zg hm
  simp only[List.length_cons]at h2 hm'
  have hc:=Dk x
  simp only[zY]at h1
  obtain⟨z,hz⟩:=ih (p++[mCh k x]) (k+cCh x) m (by omega) (by omega) (by simp;omega) (by omega)
  have hcp:=UZ x.Path
  have o1:=yT x.Old
  have o2:=R1 x.Old
  have o3:=ZF x.Old.K
  have o4:=QP x.Old.L
  have o5:=WU x.Old
  have n1:=yT x.New
  have n2:=R1 x.New
  have n3:=ZF x.New.K
  have n4:=QP x.New.L
  have n5:=WU x.New
  have hmE:mCh k x= .mk (je k x.Path) (decide ((k+zy x.Path).tmod 3=0)) (mV (k+zy x.Path+1) x.Old) (decide ((k+zy x.Path+1+cV x.Old).tmod 3=0)) (mV (k+zy x.Path+1+cV x.Old+1) x.New):=rfl
  have hcE:cCh x=zy x.Path+cV x.Old+cV x.New+2:=rfl
  have q1:=UY (k+zy x.Path+1) x.Old
  have q2:=UY (k+zy x.Path+1+cV x.Old+1) x.New
  have fin:some (k+((cCh x:Nat):Int)+((vf l:Nat):Int),z,p++[mCh k x]++ZG (k+cCh x) l)=some (k+((vf (x::l):Nat):Int),z,p++ZG k (x::l)):=by
   simp only[ZG,vf,List.append_assoc,List.singleton_append]
   rw[show k+((cCh x:Nat):Int)+((vf l:Nat):Int)=k+((cCh x+vf l:Nat):Int) by omega]
  unfold X7 at h1 hc
  refine⟨z,Eq.trans ?_ (hz.trans fin)⟩
  clear hz fin ih
  generalize mCh k x=mx at*
  generalize cCh x=cx at*
  generalize cV x.Old=co at*
  generalize cV x.New=cn at*
  generalize vsz x.Old=vo at*
  generalize vsz x.New=vn at*
  generalize hmo:mV (k+zy x.Path+1) x.Old=mo at*
  generalize hmn:mV (k+zy x.Path+1+co+1) x.New=mn at*
  subst hmE
  obtain⟨pt,hd,⟨ok,on,os,okk,ol⟩,hs,⟨nk,nn,ns,nkk,nl⟩⟩:=x
  simp only[GChange.Path,GChange.Old,GChange.New,GValue.S,GValue.K,GValue.L]at*
  rw[wa,if_pos (ZE p _ l),zb,oB,zp,oB]
  simp only[GChange.Path]
  rw[EF (by omega) (by omega),oB]
  simp only[yW,zp,oB,GChange.Path,GChange.Had,GChange.Old,GChange.Has,GChange.New,GValue.Kind,GValue.N,GValue.S,GValue.K,GValue.L]
  rw[zR (x:=k+(zy pt:Int)+1) (by omega) (by omega),zR (x:=k+(zy pt:Int)+1+1) (by omega) (by omega),zR (x:=k+(zy pt:Int)+1+1+1) (by omega) (by omega),wk (by omega) (by omega)]
  simp only[yW,zp,oB,GChange.Path,GChange.Had,GChange.Old,GChange.Has,GChange.New,GValue.Kind,GValue.N,GValue.S,GValue.K,GValue.L]
  rw[ki (by omega) (by omega)]
  simp only[yW,zp,oB,GChange.Path,GChange.Had,GChange.Old,GChange.Has,GChange.New,GValue.Kind,GValue.N,GValue.S,GValue.K,GValue.L]
  rw[XM (by omega) (by omega)]
  simp only[yW,zp,oB,GChange.Path,GChange.Had,GChange.Old,GChange.Has,GChange.New,GValue.Kind,GValue.N,GValue.S,GValue.K,GValue.L]
  rw[show k+(zy pt:Int)+1+1+1+(os.length:Int)+(cB okk:Int)+(cVs ol:Int)=k+(zy pt:Int)+1+(co:Int) by omega]
  rw[zR (x:=k+(zy pt:Int)+1+(co:Int)+1) (by omega) (by omega),zR (x:=k+(zy pt:Int)+1+(co:Int)+1+1) (by omega) (by omega),zR (x:=k+(zy pt:Int)+1+(co:Int)+1+1+1) (by omega) (by omega),wk (by omega) (by omega)]
  simp only[yW,zp,oB,GChange.Path,GChange.Had,GChange.Old,GChange.Has,GChange.New,GValue.Kind,GValue.N,GValue.S,GValue.K,GValue.L]
  rw[ki (by omega) (by omega)]
  simp only[yW,zp,oB,GChange.Path,GChange.Had,GChange.Old,GChange.Has,GChange.New,GValue.Kind,GValue.N,GValue.S,GValue.K,GValue.L]
  rw[XM (by omega) (by omega)]
  simp only[yW,zp,oB,GChange.Path,GChange.Had,GChange.Old,GChange.Has,GChange.New,GValue.Kind,GValue.N,GValue.S,GValue.K,GValue.L]
  rw[<-q1,<-q2,ye p (GChange.mk (je k pt) (decide ((k+(zy pt:Int)).tmod 3=0)) mo (decide ((k+(zy pt:Int)+1+(co:Int)).tmod 3=0)) mn) (by omega),Qz p _ l,
   show k+(zy pt:Int)+1+(co:Int)+1+1+1+(ns.length:Int)+(cB nkk:Int)+(cVs nl:Int)=k+(cx:Int) by omega]
  congr
def qC (a0:Int) (e0:(List GChange)):Option (Int×(List GChange)):=if 0<=a0∧a0+6*zY e0<=2 ^ 39 then some (a0+vf e0,ZG a0 e0)else none
theorem N8 {a:Int} {s:List GChange} (h0:0<=a) (h1:a+6*zY s<=2 ^ 39):qC a s=some (a+vf s,ZG a s):=if_pos ⟨h0,h1⟩
theorem V4 (a0:Int) (e0:(List GChange)) (r:(Int×(List GChange))) (h:qC a0 e0=some r):∃n,YP n a0 e0=some r:=by
 unfold qC at h
 obtain⟨⟨h0,h1⟩,h⟩:=zB h
 have:=k9 e0
 obtain⟨z,hz⟩:=OA e0 [] a0 (e0.length+1) h0 h1 (by simp;omega) (by omega)
 refine⟨e0.length+1,?_⟩
 unfold YP
 simp only[List.nil_append,List.length_nil,Int.natCast_zero]at hz
 rw[hz]
 exact h
theorem Qd:QM qC:=fun a0 e0 r h=>(V4 a0 e0 r h).elim fun n hn=>Uw n a0 e0 r hn
def Ki (F:(List UInt8)→Int→Option Int):Prop:=∀(a0:(List UInt8)) (a1:Int),Oc (F a0 a1) 53 [] [vq za a0,vi a1] fun r=>(vi r,[])
def wR (a0:(List UInt8)):Nat→Int→Int→Option (Int⊕(Int×Int))
 |0,_,_=>none
 |m+1,a1,v2=>
 if v2<(a0.length:Int)then
  (zn v2).bind fun i2=>
  (a0[i2]?).bind fun x3=>
  if((x3.toNat:Nat):Int)=(((b8 a1).toNat:Nat):Int)then
   wR a0 m (w64 (a1+1)) (w64 (v2+1))
  else
  some (.inl (-1))
 else
 some (.inr (a1,v2))
theorem Ro (a0:(List UInt8)) (m:Nat):∀(a1:Int) (v2:Int),Ol (wR a0 m a1 v2) 53 (zD Tryz.f53 0) ⟨[(0,vq za a0),(1,vi a1),(5,vi v2)],[],0⟩ fun o=>match o with | .inl o_0=>(.ret,⟨[(4,vi o_0)],[],0⟩)| .inr (⟨o_1_0,o_1_1⟩)=>(.exit 0,⟨[(0,vq za a0),(1,vi o_1_0),(5,vi o_1_1),(9,vb false)],[],0⟩):=by
 induction m with
 |zero=>intro a1 v2 o h;cases h
 |succ m ih=>exact fun a1 v2=>tlp (
  .le za a0<|.lI v2 (a0.length:Int) (fun c1=>.na v2 fun i2=>.ix0 za a0 i2 fun x3=>.eI ((x3.toNat:Nat):Int) (((b8 a1).toNat:Nat):Int) (fun c4=>.go (ih (w64 (a1+1)) (w64 (v2+1)))) fun c4=>.ret (.inl (-1))) fun c1=>.ret (.inr (a1,v2)))
def Wb (n:Nat) (a0:(List UInt8)) (a1:Int):Option Int:=
 (wR a0 n a1 0).bind fun o1=>
 match o1 with
 | .inl o1_0=>
  some o1_0
 | .inr (⟨o1_1_0,o1_1_1⟩)=>
  some o1_1_0
theorem OB (n:Nat):Ki (Wb n):=fun a0 a1=>tc (
 .l2 (Ro a0 n a1 0) (fun o1_0=>.ret o1_0) fun⟨o1_1_0,o1_1_1⟩=>.ret o1_1_0) (zf Tryz.func53)
theorem N9 {a:List UInt8}:∀(l p:List UInt8) (k:Int) (m:Nat),a=p++l→mB k l=l→0<=k→k+2*l.length<=2 ^ 41→p.length+l.length<=2 ^ 41→l.length<m→∃z,wR a m k (p.length:Int)=some (.inr (k+l.length,z)):=by
 intro l
 induction l with
 |nil=>
  intro p k m ha _ _ _ _ hm
  subst ha
  obtain⟨m,rfl,_⟩:=zg hm
  exact⟨_,by rw[wR,if_neg (xF p)];simp;rfl⟩
 |cons x l ih=>
  intro p k m ha hm0 h0 h1 h2 hm
  obtain⟨m,rfl,hm'⟩:=zg hm
  simp only[List.length_cons]at h1 h2 hm'
  rw[mB]at hm0
  obtain⟨e1,e2⟩:=List.cons.inj hm0
  obtain⟨z,hz⟩:=ih (p++[x]) (k+1) m (by rw[ha];simp) e2 (by omega) (by omega) (by simp;omega) (by omega)
  refine⟨z,?_⟩
  rw[wR,if_pos (by rw[ha];exact ZE p x l),zb,oB,show a[p.length]? =some x by rw[ha];exact zp p x l,oB,if_pos (by rw[e1]),ye p x (by omega),zR (x:=k+1) (by omega) (by omega),hz]
  simp only[List.length_cons]
  rw[show k+1+(l.length:Int)=k+((l.length+1:Nat):Int) by omega]
def yj (a0:(List UInt8)) (a1:Int):Option Int:=if mB a1 a0=a0∧0<=a1∧a1+2*a0.length<=2 ^ 41 then some (a1+a0.length)else none
theorem YQ {a:Int} {s:List UInt8} (h:mB a s=s) (h0:0<=a) (h1:a+2*s.length<=2 ^ 41):yj s a=some (a+s.length):=if_pos ⟨h,h0,h1⟩
theorem Tp (a0:(List UInt8)) (a1:Int) (r:Int) (h:yj a0 a1=some r):∃n,Wb n a0 a1=some r:=by
 unfold yj at h
 obtain⟨⟨he,h0,h1⟩,h⟩:=zB h
 obtain⟨z,hz⟩:=N9 (a:=a0) a0 [] a1 (a0.length+1) rfl he h0 h1 (by simp;omega) (by omega)
 refine⟨a0.length+1,?_⟩
 unfold Wb
 simp only[List.length_nil,Int.natCast_zero]at hz
 rw[hz]
 exact h
theorem xt:Ki yj:=fun a0 a1 r h=>(Tp a0 a1 r h).elim fun n hn=>OB n a0 a1 r hn
def Kj (F:(List GStep)→Int→Option Int):Prop:=∀(a0:(List GStep)) (a1:Int),Oc (F a0 a1) 52 [] [vq zU a0,vi a1] fun r=>(vi r,[])
def wS (a0:(List GStep)):Nat→Int→Int→Option (Int⊕(Int×Int))
 |0,_,_=>none
 |m+1,a1,v2=>
 if v2<(a0.length:Int)then
  (zn v2).bind fun i2=>
  (a0[i2]?).bind fun x3=>
  if x3.Kind=a1 then
   (yj x3.Key (w64 (a1+1))).bind fun r5=>
   if r5<0 then
    some (.inl (-1))
   else
   if x3.I=r5 then
    wS a0 m (w64 (r5+1)) (w64 (v2+1))
   else
   some (.inl (-1))
  else
  some (.inl (-1))
 else
 some (.inr (a1,v2))
theorem Rp (a0:(List GStep)) (m:Nat):∀(a1:Int) (v2:Int),Ol (wS a0 m a1 v2) 52 (zD Tryz.f52 0) ⟨[(0,vq zU a0),(1,vi a1),(5,vi v2)],[],0⟩ fun o=>match o with | .inl o_0=>(.ret,⟨[(4,vi o_0)],[],0⟩)| .inr (⟨o_1_0,o_1_1⟩)=>(.exit 0,⟨[(0,vq zU a0),(1,vi o_1_0),(5,vi o_1_1),(9,vb false)],[],0⟩):=by
 induction m with
 |zero=>intro a1 v2 o h;cases h
 |succ m ih=>exact fun a1 v2=>tlp (
  .le zU a0<|.lI v2 (a0.length:Int) (fun c1=>.na v2 fun i2=>.ix Ya a0 i2 fun x3=>.eI x3.Kind a1 (fun c4=>.ag 1<|.ag 0<|.cl (xt x3.Key (w64 (a1+1))) fun r5=>.lI r5 0 (fun c6=>.ret (.inl (-1))) fun c6=>.ag 2<|.ag 1<|.eI x3.I r5 (fun c7=>.go (ih (w64 (r5+1)) (w64 (v2+1)))) fun c7=>.ret (.inl (-1))) fun c4=>.ret (.inl (-1))) fun c1=>.ret (.inr (a1,v2)))
def Wc (n:Nat) (a0:(List GStep)) (a1:Int):Option Int:=
 (wS a0 n a1 0).bind fun o1=>
 match o1 with
 | .inl o1_0=>
  some o1_0
 | .inr (⟨o1_1_0,o1_1_1⟩)=>
  some o1_1_0
theorem OC (n:Nat):Kj (Wc n):=fun a0 a1=>tc (
 .l2 (Rp a0 n a1 0) (fun o1_0=>.ret o1_0) fun⟨o1_1_0,o1_1_1⟩=>.ret o1_1_0) (zf Tryz.func52)
theorem NA {a:List GStep}:∀(l p:List GStep) (k:Int) (m:Nat),a=p++l→je k l=l→0<=k→k+4*yu l<=2 ^ 40→p.length+l.length<=2 ^ 40→l.length<m→∃z,wS a m k (p.length:Int)=some (.inr (k+zy l,z)):=by
 intro l
 induction l with
 |nil=>
  intro p k m ha _ _ _ _ hm
  subst ha
  obtain⟨m,rfl,_⟩:=zg hm
  exact⟨_,by rw[wS,if_neg (xF p)];simp[zy];rfl⟩
 |cons x l ih=>
  intro p k m ha hm0 h0 h1 h2 hm
  obtain⟨m,rfl,hm'⟩:=zg hm
  simp only[List.length_cons]at h2 hm'
  rw[je]at hm0
  obtain⟨e1,e2⟩:=List.cons.inj hm0
  simp only[yu,Wh]at h1
  obtain⟨z,hz⟩:=ih (p++[x]) (k+((x.Key.length+2:Nat):Int)) m (by rw[ha];simp) e2 (by omega) (by omega) (by simp;omega) (by omega)
  refine⟨z,?_⟩
  rw[wS,if_pos (by rw[ha];exact ZE p x l),zb,oB,show a[p.length]? =some x by rw[ha];exact zp p x l,oB,ye p x (by omega)]
  have f0:k=x.Kind:=congrArg GStep.Kind e1
  have f1:mB (k+1) x.Key=x.Key:=congrArg GStep.Key e1
  have f2:k+1+x.Key.length=x.I:=congrArg GStep.I e1
  rw[if_pos f0.symm,zR (x:=k+1) (by omega) (by omega),YQ f1 (by omega) (by omega),oB,if_neg (by omega),if_pos f2.symm,zR (x:=k+1+(x.Key.length:Int)+1) (by omega) (by omega),show k+1+(x.Key.length:Int)+1=k+((x.Key.length+2:Nat):Int) by omega,hz]
  simp only[zy]
  rw[show k+((x.Key.length+2:Nat):Int)+(zy l:Int)=k+((x.Key.length+2+zy l:Nat):Int) by omega]
open Classical in
noncomputable def vd (a0:(List GStep)) (a1:Int):Option Int:=if je a1 a0=a0∧0<=a1∧a1+4*yu a0<=2 ^ 40 then some (a1+zy a0)else none
theorem EG {a:Int} {s:List GStep} (h:je a s=s) (h0:0<=a) (h1:a+4*yu s<=2 ^ 40):vd s a=some (a+zy s):=if_pos ⟨h,h0,h1⟩
theorem Tq (a0:(List GStep)) (a1:Int) (r:Int) (h:vd a0 a1=some r):∃n,Wc n a0 a1=some r:=by
 unfold vd at h
 obtain⟨⟨he,h0,h1⟩,h⟩:=zB h
 have:=k8 a0
 obtain⟨z,hz⟩:=NA (a:=a0) a0 [] a1 (a0.length+1) rfl he h0 h1 (by simp;omega) (by omega)
 refine⟨a0.length+1,?_⟩
 unfold Wc
 simp only[List.length_nil,Int.natCast_zero]at hz
 rw[hz]
 exact h
theorem P8:Kj vd:=fun a0 a1 r h=>(Tq a0 a1 r h).elim fun n hn=>OC n a0 a1 r hn
def Jt (F:(List (List UInt8))→Int→Option Int):Prop:=∀(a0:(List (List UInt8))) (a1:Int),Oc (F a0 a1) 26 [] [vq (zl za) a0,vi a1] fun r=>(vi r,[])
def w7 (a0:(List (List UInt8))):Nat→Int→Int→Option (Int⊕(Int×Int))
 |0,_,_=>none
 |m+1,a1,v2=>
 if v2<(a0.length:Int)then
  (zn v2).bind fun i2=>
  (a0[i2]?).bind fun x3=>
  (yj x3 a1).bind fun r4=>
  if r4<0 then
   some (.inl (-1))
  else
  w7 a0 m r4 (w64 (v2+1))
 else
 some (.inr (a1,v2))
theorem V5 (a0:(List (List UInt8))) (m:Nat):∀(a1:Int) (v2:Int),Ol (w7 a0 m a1 v2) 26 (zD Tryz.f26 0) ⟨[(0,vq (zl za) a0),(1,vi a1),(5,vi v2)],[],0⟩ fun o=>match o with | .inl o_0=>(.ret,⟨[(4,vi o_0)],[],0⟩)| .inr (⟨o_1_0,o_1_1⟩)=>(.exit 0,⟨[(0,vq (zl za) a0),(1,vi o_1_0),(5,vi o_1_1),(9,vb false)],[],0⟩):=by
 induction m with
 |zero=>intro a1 v2 o h;cases h
 |succ m ih=>exact fun a1 v2=>tlp (
  .le (zl za) a0<|.lI v2 (a0.length:Int) (fun c1=>.na v2 fun i2=>.ix0 (zl za) a0 i2 fun x3=>.cl (xt x3 a1) fun r4=>.lI r4 0 (fun c5=>.ret (.inl (-1))) fun c5=>.go (ih r4 (w64 (v2+1)))) fun c1=>.ret (.inr (a1,v2)))
def X5 (n:Nat) (a0:(List (List UInt8))) (a1:Int):Option Int:=
 (w7 a0 n a1 0).bind fun o1=>
 match o1 with
 | .inl o1_0=>
  some o1_0
 | .inr (⟨o1_1_0,o1_1_1⟩)=>
  some o1_1_0
theorem P9 (n:Nat):Jt (X5 n):=fun a0 a1=>tc (
 .l2 (V5 a0 n a1 0) (fun o1_0=>.ret o1_0) fun⟨o1_1_0,o1_1_1⟩=>.ret o1_1_0) (zf Tryz.func26)
theorem Mn {a:List (List UInt8)}:∀(l p:List (List UInt8)) (k:Int) (m:Nat),a=p++l→mBB k l=l→0<=k→k+2*bsz l<=2 ^ 41→p.length+l.length<=2 ^ 41→l.length<m→∃z,w7 a m k (p.length:Int)=some (.inr (k+cB l,z)):=by
 intro l
 induction l with
 |nil=>
  intro p k m ha _ _ _ _ hm
  subst ha
  obtain⟨m,rfl,_⟩:=zg hm
  exact⟨_,by rw[w7,if_neg (xF p)];simp[cB];rfl⟩
 |cons x l ih=>
  intro p k m ha hm0 h0 h1 h2 hm
  obtain⟨m,rfl,hm'⟩:=zg hm
  rw[Dc]at h1
  simp only[List.length_cons]at h2 hm'
  rw[mBB]at hm0
  obtain⟨e1,e2⟩:=List.cons.inj hm0
  obtain⟨z,hz⟩:=ih (p++[x]) (k+x.length) m (by rw[ha];simp) e2 (by omega) (by omega) (by simp;omega) (by omega)
  refine⟨z,?_⟩
  rw[w7,if_pos (by rw[ha];exact ZE p x l),zb,oB,show a[p.length]? =some x by rw[ha];exact zp p x l,oB,YQ e1 (by omega) (by omega),oB,if_neg (by omega),ye p x (by omega),hz,Br]
  rw[show k+(x.length:Int)+(cB l:Int)=k+((x.length+cB l:Nat):Int) by omega]
def yw (a0:(List (List UInt8))) (a1:Int):Option Int:=if mBB a1 a0=a0∧0<=a1∧a1+2*bsz a0<=2 ^ 41 then some (a1+cB a0)else none
theorem Jg {a:Int} {s:List (List UInt8)} (h:mBB a s=s) (h0:0<=a) (h1:a+2*bsz s<=2 ^ 41):yw s a=some (a+cB s):=if_pos ⟨h,h0,h1⟩
theorem Rq (a0:(List (List UInt8))) (a1:Int) (r:Int) (h:yw a0 a1=some r):∃n,X5 n a0 a1=some r:=by
 unfold yw at h
 obtain⟨⟨he,h0,h1⟩,h⟩:=zB h
 have:=wT a0
 obtain⟨z,hz⟩:=Mn (a:=a0) a0 [] a1 (a0.length+1) rfl he h0 h1 (by simp;omega) (by omega)
 refine⟨a0.length+1,?_⟩
 unfold X5
 simp only[List.length_nil,Int.natCast_zero]at hz
 rw[hz]
 exact h
theorem wm:Jt yw:=fun a0 a1 r h=>(Rq a0 a1 r h).elim fun n hn=>P9 n a0 a1 r hn
def ku (F:(List GValue)→Int→Option Int):Prop:=∀(a0:(List GValue)) (a1:Int),Oc (F a0 a1) 54 [] [vq zd a0,vi a1] fun r=>(vi r,[])
def w8 (G_laws_heldValueS:(List GValue)→Int→Option Int) (a0:(List GValue)):Nat→Int→Int→Option (Int⊕(Int×Int))
 |0,_,_=>none
 |m+1,a1,v2=>
 if v2<(a0.length:Int)then
  (zn v2).bind fun i2=>
  (a0[i2]?).bind fun x3=>
  if x3.Kind=a1 then
   if x3.N=(w64 (a1+1))then
    (yj x3.S (w64 ((w64 (a1+1))+1))).bind fun r6=>
    if r6<0 then
     some (.inl (-1))
    else
    (yw x3.K r6).bind fun r8=>
    if r8<0 then
     some (.inl (-1))
    else
    (G_laws_heldValueS x3.L r8).bind fun r10=>
    if r10<0 then
     some (.inl (-1))
    else
    w8 G_laws_heldValueS a0 m r10 (w64 (v2+1))
   else
   some (.inl (-1))
  else
  some (.inl (-1))
 else
 some (.inr (a1,v2))
theorem V6 (G_laws_heldValueS:(List GValue)→Int→Option Int) (H_laws_heldValueS:ku G_laws_heldValueS) (a0:(List GValue)) (m:Nat):∀(a1:Int) (v2:Int),Ol (w8 G_laws_heldValueS a0 m a1 v2) 54 (zD Tryz.f54 0) ⟨[(0,vq zd a0),(1,vi a1),(5,vi v2)],[],0⟩ fun o=>match o with | .inl o_0=>(.ret,⟨[(4,vi o_0)],[],0⟩)| .inr (⟨o_1_0,o_1_1⟩)=>(.exit 0,⟨[(0,vq zd a0),(1,vi o_1_0),(5,vi o_1_1),(9,vb false)],[],0⟩):=by
 induction m with
 |zero=>intro a1 v2 o h;cases h
 |succ m ih=>exact fun a1 v2=>tlp (
  .le zd a0<|.lI v2 (a0.length:Int) (fun c1=>.na v2 fun i2=>.ix zr a0 i2 fun x3=>.eI x3.Kind a1 (fun c4=>.ag 1<|.ag 0<|.eI x3.N (w64 (a1+1)) (fun c5=>.ag 1<|.ag 0<|.cl (xt x3.S (w64 ((w64 (a1+1))+1))) fun r6=>.lI r6 0 (fun c7=>.ret (.inl (-1))) fun c7=>.ag 2<|.ag 1<|.cl (wm x3.K r6) fun r8=>.lI r8 0 (fun c9=>.ret (.inl (-1))) fun c9=>.ag 3<|.ag 2<|.cl (H_laws_heldValueS x3.L r8) fun r10=>.lI r10 0 (fun c11=>.ret (.inl (-1))) fun c11=>.go (ih r10 (w64 (v2+1)))) fun c5=>.ret (.inl (-1))) fun c4=>.ret (.inl (-1))) fun c1=>.ret (.inr (a1,v2)))
def X6 (G_laws_heldValueS:(List GValue)→Int→Option Int) (n:Nat) (a0:(List GValue)) (a1:Int):Option Int:=
 (w8 G_laws_heldValueS a0 n a1 0).bind fun o1=>
 match o1 with
 | .inl o1_0=>
  some o1_0
 | .inr (⟨o1_1_0,o1_1_1⟩)=>
  some o1_1_0
theorem PA (G_laws_heldValueS:(List GValue)→Int→Option Int) (H_laws_heldValueS:ku G_laws_heldValueS) (n:Nat):ku (X6 G_laws_heldValueS n):=fun a0 a1=>tc (
 .l2 (V6 G_laws_heldValueS H_laws_heldValueS a0 n a1 0) (fun o1_0=>.ret o1_0) fun⟨o1_1_0,o1_1_1⟩=>.ret o1_1_0) (zf Tryz.func54)
def xu:Nat→(List GValue)→Int→Option Int
 |0,_,_=>none
 |n+1,a0,a1=>X6 (xu n) n a0 a1
theorem Ts (n:Nat):ku (xu n):=by
 induction n with
 |zero=>exact fun _ _ _ h=>(by rw[xu]at h;cases h)
 |succ n ih=>
  have ih_laws_heldValueS:=ih
  exact fun a0 a1 r h=>PA (xu n) ih_laws_heldValueS n a0 a1 r (by rw[xu]at h;exact h)
theorem Mo {G:List GValue→Int→Option Int} {a:List GValue}:∀(l p:List GValue) (k:Int) (m:Nat),a=p++l→mVs k l=l→(∀v∈l,∀i:Int,mVs i v.L=v.L→0<=i→i+2*yX v.L<=2 ^ 41→G v.L i=some (i+cVs v.L))→0<=k→k+2*yX l<=2 ^ 41→p.length+l.length<=2 ^ 41→l.length<m→∃z,w8 G a m k (p.length:Int)=some (.inr (k+cVs l,z)):=by
 intro l
 induction l with
 |nil=>
  intro p k m ha _ _ _ _ _ hm
  subst ha
  obtain⟨m,rfl,_⟩:=zg hm
  exact⟨_,by rw[w8,if_neg (xF p)];simp[cVs];rfl⟩
 |cons x l ih=>
  intro p k m ha hm0 hG h0 h1 h2 hm
  obtain⟨m,rfl,hm'⟩:=zg hm
  simp only[List.length_cons]at h2 hm'
  have hx:=hG x List.mem_cons_self
  have hc:=WU x
  rw[mVs]at hm0
  obtain⟨e1,e2⟩:=List.cons.inj hm0
  simp only[yX]at h1
  obtain⟨z,hz⟩:=ih (p++[x]) (k+cV x) m (by rw[ha];simp) e2 (fun v hv=>hG v (List.mem_cons_of_mem _ hv)) (by omega) (by omega) (by simp;omega) (by omega)
  refine⟨z,?_⟩
  rw[w8,if_pos (by rw[ha];exact ZE p x l),zb,oB,show a[p.length]? =some x by rw[ha];exact zp p x l,oB,ye p x (by omega)]
  have hb:=ZF x.K
  have hd:=QP x.L
  have hq:=yT x
  have hr:=R1 x
  rw[UY]at e1
  have f1:x.Kind=k:=(congrArg GValue.Kind e1).symm
  have f2:x.N=k+1:=(congrArg GValue.N e1).symm
  have f3:mB (k+1+1) x.S=x.S:=congrArg GValue.S e1
  have f4:mBB (k+1+1+x.S.length) x.K=x.K:=congrArg GValue.K e1
  have f5:mVs (k+1+1+x.S.length+cB x.K) x.L=x.L:=congrArg GValue.L e1
  rw[zR (x:=k+1) (by omega) (by omega),zR (x:=k+1+1) (by omega) (by omega),if_pos f1,if_pos f2,YQ f3 (by omega) (by omega),oB,if_neg (by omega),Jg f4 (by omega) (by omega),oB,if_neg (by omega),hx _ f5 (by omega) (by omega),oB,if_neg (by omega),
   show k+1+1+(x.S.length:Int)+(cB x.K:Int)+(cVs x.L:Int)=k+((cV x:Nat):Int) by omega,hz]
  simp only[cVs]
  rw[show k+((cV x:Nat):Int)+(cVs l:Int)=k+((cV x+cVs l:Nat):Int) by omega]
theorem EH:∀(N:Nat) (l:List GValue),yX l<N→∀(k:Int) (f:Nat),mVs k l=l→0<=k→k+2*yX l<=2 ^ 41→yX l+2<=f→xu f l k=some (k+cVs l):=by
 intro N
 induction N with
 |zero=>intro l hl;omega
 |succ N ih=>
  intro l hl k f he h0 h1 hf
  obtain⟨f,rfl,_⟩:=zg (show 0<f by omega)
  have hlen:=yS l
  rw[xu]
  unfold X6
  obtain⟨z,hz⟩:=Mo (G:=xu f) (a:=l) l [] k f rfl he (fun v hv i ge g0 g1=>by
   have:=yN hv
   have:=yT v
   exact ih v.L (by omega) i f ge g0 g1 (by omega)) h0 h1 (by simp;omega) (by omega)
  simp only[List.length_nil,Int.natCast_zero]at hz
  rw[hz];rfl
open Classical in
noncomputable def yB (a0:(List GValue)) (a1:Int):Option Int:=if mVs a1 a0=a0∧0<=a1∧a1+2*yX a0<=2 ^ 41 then some (a1+cVs a0)else none
theorem RN {a:Int} {s:List GValue} (h:mVs a s=s) (h0:0<=a) (h1:a+2*yX s<=2 ^ 41):yB s a=some (a+cVs s):=if_pos ⟨h,h0,h1⟩
theorem Rr (a0:(List GValue)) (a1:Int) (r:Int) (h:yB a0 a1=some r):∃n,xu n a0 a1=some r:=by
 unfold yB at h
 obtain⟨⟨he,h0,h1⟩,h⟩:=zB h
 exact⟨yX a0+2,by rw[EH _ a0 (Nat.lt_succ_self _) a1 _ he h0 h1 (Nat.le_refl _),h]⟩
theorem qD:ku yB:=by
 intro a0 a1 r h
 obtain⟨n,hn⟩:=Rr a0 a1 r h
 exact(Ts n) a0 a1 r hn
end
end Go.Am.Try
