
/- The row of FnExactBetween: its arguments read, the law's answer, the statement, and its card. -/
import Derived.Test.YtklelfbkffbceaaGreatDoorBLBetween
import Derived.Test.YtklelfbkffbceaaGreatDoorBS2b
import Derived.Test.YtklelfbkffbceaaGreatDoorBAmD
import Derived.ProofKit
import Derived.Test.YtklelfbkffbceaaGreatDoorCards
import Derived.Test.YtklelfbkffbceaaGreatDoorTie
import Derived.SevenTiedAt
import Derived.LaidLaws
import Derived.Stop.LaidErr
import Derived.Lib.LaidTab
import Derived.Deep.DeepLaidRun
set_option linter.unusedVariables false
set_option linter.unusedSimpArgs false
namespace Go.Am.Try
open Go.Am Go.Proofs
theorem rd_arg {τ:Type} {t:TypeId} {i:TI} {e:τ→List C} {md:τ→Prop} (R:Rd Q0 t e md) (hi:Q0 t=some i) {a:V} (h:Lf Q0 t a):∃x,md x∧a= .val i.agg (e x):=by
 obtain⟨j,cs,hj,rfl,hw⟩:=h
 rw[hi]at hj
 injection hj with hj
 subst hj
 obtain⟨x,rfl,hx⟩:=R cs hw
 exact⟨x,hx,rfl⟩
theorem ze8 {l:List GEntry} (h:∀v∈l,Er v):J1 l:=by
 induction l with
 |nil=>simp only[J1]
 |cons v l ih=>simp only[J1];exact⟨h v (by simp),ih fun x hx=>h x (by simp[hx])⟩
theorem zji {l:List GValue} (h:∀v∈l,MdV v):VX l:=by
 induction l with
 |nil=>simp only[VX]
 |cons v l ih=>simp only[VX];exact⟨h v (by simp),ih fun x hx=>h x (by simp[hx])⟩
theorem R5:Rd Q0 50 (zl (zl za)) MdB:=
 Nc (J0 (i:=⟨.slice 22,false,1,24,[.nils]⟩) rfl rfl (J0 (i:=⟨.slice 5,false,1,24,[.nils]⟩) rfl rfl (UQ (i:=⟨.int .u8,false,1,1,[.int .u8 0]⟩) rfl rfl))) fun _ h=>⟨h.1,fun b hb=>(h.2 b hb).1⟩
theorem UB:Rd Q0 125 zd MdV:=by
 intro cs
 generalize hn:SizeOf.sizeOf cs+1=n
 have hlt:SizeOf.sizeOf cs<n:=by omega
 clear hn
 induction n generalizing cs with
 |zero=>omega
 |succ n ih=>
  intro hw
  obtain⟨css,rfl,hc⟩:=hw.struct_inv (i:=⟨.struct [(0,3),(1,3),(2,22),(3,50),(4,123)],true,5,88,[.int .i64 0,.int .i64 0,.nils,.nils,.nils]⟩) rfl rfl
  obtain⟨c1,_,rfl,h1,hc⟩:=yl hc
  obtain⟨c2,_,rfl,h2,hc⟩:=yl hc
  obtain⟨c3,_,rfl,h3,hc⟩:=yl hc
  obtain⟨c4,_,rfl,h4,hc⟩:=yl hc
  obtain⟨c5,_,rfl,h5,hc⟩:=yl hc
  obtain rfl:=Qi hc
  obtain⟨x1,rfl,-⟩:=(X9 (i:=⟨.int .i64,false,1,8,[.int .i64 0]⟩) rfl rfl) c1 h1
  obtain⟨x2,rfl,-⟩:=(X9 (i:=⟨.int .i64,false,1,8,[.int .i64 0]⟩) rfl rfl) c2 h2
  obtain⟨x3,rfl,m3⟩:=(J0 (i:=⟨.slice 5,false,1,24,[.nils]⟩) rfl rfl (UQ (i:=⟨.int .u8,false,1,1,[.int .u8 0]⟩) rfl rfl)) c3 h3
  obtain⟨x4,rfl,m4⟩:=R5 c4 h4
  obtain⟨l,rfl,hl,hs⟩:=h5.slice_inv (i:=⟨.slice 125,false,1,24,[.nils]⟩) rfl rfl
  obtain⟨x5,rfl,m5⟩:=Bb fun x hx=>ih x (by have:=zl7 (cs:=List.flatten [Jz x1,Jz x2,(zl za) x3,(zl (zl za)) x4,[C.seq l]]) hx (by simp);omega) (hs x hx)
  refine⟨.mk x1 x2 x3 x4 x5,?_,?_⟩
  ·rw[zr];rfl
  ·rw[za4]at hl
   rw[za8]
   exact⟨m3.1,m4,hl,zji m5⟩
theorem Dl:Rd Q0 180 zq Er:=by
 intro cs hw
 obtain⟨css,rfl,hc⟩:=hw.struct_inv (i:=⟨.struct [(0,22),(1,125),(6,50),(7,4),(8,3)],true,9,152,[.nils,.int .i64 0,.int .i64 0,.nils,.nils,.nils,.nils,.bool false,.int .i64 0]⟩) rfl rfl
 obtain⟨c1,_,rfl,h1,hc⟩:=yl hc
 obtain⟨c2,_,rfl,h2,hc⟩:=yl hc
 obtain⟨c3,_,rfl,h3,hc⟩:=yl hc
 obtain⟨c4,_,rfl,h4,hc⟩:=yl hc
 obtain⟨c5,_,rfl,h5,hc⟩:=yl hc
 obtain rfl:=Qi hc
 obtain⟨x1,rfl,m1⟩:=(J0 (i:=⟨.slice 5,false,1,24,[.nils]⟩) rfl rfl (UQ (i:=⟨.int .u8,false,1,1,[.int .u8 0]⟩) rfl rfl)) c1 h1
 obtain⟨x2,rfl,m2⟩:=UB c2 h2
 obtain⟨x3,rfl,m3⟩:=R5 c3 h3
 obtain⟨x4,rfl,-⟩:=(Ba (i:=⟨.bool,false,1,1,[.bool false]⟩) rfl rfl) c4 h4
 obtain⟨x5,rfl,-⟩:=(X9 (i:=⟨.int .i64,false,1,8,[.int .i64 0]⟩) rfl rfl) c5 h5
 refine⟨.mk x1 x2 x3 x4 x5,?_,⟨m1.1,m2,m3⟩⟩
 simp only[ym,zr];rfl
theorem zcg:Rd Q0 23 (zl zq) (fun l=>l.length<=2 ^ 63 - 1∧J1 l):=
 Nc (J0 (i:=⟨.slice 180,false,1,24,[.nils]⟩) rfl rfl Dl) fun _ h=>⟨h.1,ze8 h.2⟩
theorem DK:Rd Q0 25 Wd MdS:=by
 intro cs hw
 obtain⟨css,rfl,hc⟩:=hw.struct_inv (i:=⟨.struct [(0,3),(1,4),(2,22),(3,3),(4,23)],true,5,72,[.int .i64 0,.bool false,.nils,.int .i64 0,.nils]⟩) rfl rfl
 obtain⟨c1,_,rfl,h1,hc⟩:=yl hc
 obtain⟨c2,_,rfl,h2,hc⟩:=yl hc
 obtain⟨c3,_,rfl,h3,hc⟩:=yl hc
 obtain⟨c4,_,rfl,h4,hc⟩:=yl hc
 obtain⟨c5,_,rfl,h5,hc⟩:=yl hc
 obtain rfl:=Qi hc
 obtain⟨x1,rfl,-⟩:=(X9 (i:=⟨.int .i64,false,1,8,[.int .i64 0]⟩) rfl rfl) c1 h1
 obtain⟨x2,rfl,-⟩:=(Ba (i:=⟨.bool,false,1,1,[.bool false]⟩) rfl rfl) c2 h2
 obtain⟨x3,rfl,m3⟩:=(J0 (i:=⟨.slice 5,false,1,24,[.nils]⟩) rfl rfl (UQ (i:=⟨.int .u8,false,1,1,[.int .u8 0]⟩) rfl rfl)) c3 h3
 obtain⟨x4,rfl,-⟩:=(X9 (i:=⟨.int .i64,false,1,8,[.int .i64 0]⟩) rfl rfl) c4 h4
 obtain⟨x5,rfl,m5⟩:=zcg c5 h5
 refine⟨.mk x1 x2 x3 x4 x5,?_,⟨m3.1,m5⟩⟩
 simp only[ZN];rfl
theorem ze9 {l:List GEvent} (h:∀v∈l,Es v):J2 l:=by
 induction l with
 |nil=>simp only[J2]
 |cons v l ih=>simp only[J2];exact⟨h v (by simp),ih fun x hx=>h x (by simp[hx])⟩
theorem Dm:Rd Q0 127 zN Es:=by
 intro cs hw
 obtain⟨css,rfl,hc⟩:=hw.struct_inv (i:=⟨.struct [(0,3),(1,22),(2,3),(3,125),(8,50)],true,9,152,[.int .i64 0,.nils,.int .i64 0,.int .i64 0,.int .i64 0,.nils,.nils,.nils,.nils]⟩) rfl rfl
 obtain⟨c1,_,rfl,h1,hc⟩:=yl hc
 obtain⟨c2,_,rfl,h2,hc⟩:=yl hc
 obtain⟨c3,_,rfl,h3,hc⟩:=yl hc
 obtain⟨c4,_,rfl,h4,hc⟩:=yl hc
 obtain⟨c5,_,rfl,h5,hc⟩:=yl hc
 obtain rfl:=Qi hc
 obtain⟨x1,rfl,-⟩:=(X9 (i:=⟨.int .i64,false,1,8,[.int .i64 0]⟩) rfl rfl) c1 h1
 obtain⟨x2,rfl,m2⟩:=(J0 (i:=⟨.slice 5,false,1,24,[.nils]⟩) rfl rfl (UQ (i:=⟨.int .u8,false,1,1,[.int .u8 0]⟩) rfl rfl)) c2 h2
 obtain⟨x3,rfl,-⟩:=(X9 (i:=⟨.int .i64,false,1,8,[.int .i64 0]⟩) rfl rfl) c3 h3
 obtain⟨x4,rfl,m4⟩:=UB c4 h4
 obtain⟨x5,rfl,m5⟩:=R5 c5 h5
 refine⟨.mk x1 x2 x3 x4 x5,?_,⟨m2.1,m4,m5⟩⟩
 simp only[ZO,zr];rfl
theorem zch:Rd Q0 26 (zl zN) (fun l=>l.length<=2 ^ 63 - 1∧J2 l):=
 Nc (J0 (i:=⟨.slice 127,false,1,24,[.nils]⟩) rfl rfl Dm) fun _ h=>⟨h.1,ze9 h.2⟩
theorem rd_GHistory28:Rd Q0 28 Mx MdH:=by
 intro cs hw
 obtain⟨css,rfl,hc⟩:=hw.struct_inv (i:=⟨.struct [(0,25),(5,26),(6,3)],true,7,104,[.int .i64 0,.bool false,.nils,.int .i64 0,.nils,.nils,.int .i64 0]⟩) rfl rfl
 obtain⟨c1,_,rfl,h1,hc⟩:=yl hc
 obtain⟨c2,_,rfl,h2,hc⟩:=yl hc
 obtain⟨c3,_,rfl,h3,hc⟩:=yl hc
 obtain rfl:=Qi hc
 obtain⟨x1,rfl,m1⟩:=DK c1 h1
 obtain⟨x2,rfl,m2⟩:=zch c2 h2
 obtain⟨x3,rfl,-⟩:=(X9 (i:=⟨.int .i64,false,1,8,[.int .i64 0]⟩) rfl rfl) c3 h3
 refine⟨.mk x1 x2 x3,?_,⟨m1,m2⟩⟩
 simp only[eq_GHistory,ZN];rfl
end Go.Am.Try
namespace Go.Proofs.YtklelfbkffbceaaGreatDoor
open Go.ChangeShapes Go.WideShapes Go.ChangeAt Go.RowKit Go.Am
theorem Try.own:ownKnob Tryz.prog.godebug=none:=by kernel_rfl
theorem Try.laidOut:laidOutB Tryz.prog=true:=by kernel_rfl
theorem znr:True:=trivial
noncomputable def B1:Nat:=(World.holding Tryz.prog default ⟨#[],#[],[]⟩).heap.size
noncomputable def G0 (os:Os):World:=
 let w0:=World.holding Tryz.prog os ⟨#[.cells #[.string { data:=#[118,97,108,117,101,32,111,117,116,32,111,102,32,114,97,110,103,101] }] 334,.cells #[.string { data:=#[105,110,118,97,108,105,100,32,115,121,110,116,97,120] }] 334],#[],[]⟩
 {w0 with heap:=(((((w0.heap).modify 4 (fun
  | .cells _ t frozen=> .cells #[.int .u8 0,.int .u8 1,.int .u8 28,.int .u8 2,.int .u8 29,.int .u8 14,.int .u8 24,.int .u8 3,.int .u8 30,.int .u8 22,.int .u8 20,.int .u8 15,.int .u8 25,.int .u8 17,.int .u8 4,.int .u8 8,.int .u8 31,.int .u8 27,.int .u8 13,.int .u8 23,.int .u8 21,.int .u8 19,.int .u8 16,.int .u8 7,.int .u8 26,.int .u8 12,.int .u8 18,.int .u8 6,.int .u8 11,.int .u8 5,.int .u8 10,.int .u8 9] t frozen
  |o=>o)).modify 5 (fun
  | .cells _ t frozen=> .cells #[.int .u8 0,.int .u8 1,.int .u8 56,.int .u8 2,.int .u8 57,.int .u8 49,.int .u8 28,.int .u8 3,.int .u8 61,.int .u8 58,.int .u8 42,.int .u8 50,.int .u8 38,.int .u8 29,.int .u8 17,.int .u8 4,.int .u8 62,.int .u8 47,.int .u8 59,.int .u8 36,.int .u8 45,.int .u8 43,.int .u8 51,.int .u8 22,.int .u8 53,.int .u8 39,.int .u8 33,.int .u8 30,.int .u8 24,.int .u8 18,.int .u8 12,.int .u8 5,.int .u8 63,.int .u8 55,.int .u8 48,.int .u8 27,.int .u8 60,.int .u8 41,.int .u8 37,.int .u8 16,.int .u8 46,.int .u8 35,.int .u8 44,.int .u8 21,.int .u8 52,.int .u8 32,.int .u8 23,.int .u8 11,.int .u8 54,.int .u8 26,.int .u8 40,.int .u8 15,.int .u8 34,.int .u8 20,.int .u8 31,.int .u8 10,.int .u8 25,.int .u8 14,.int .u8 19,.int .u8 9,.int .u8 13,.int .u8 8,.int .u8 7,.int .u8 6] t frozen
  |o=>o)).modify 3 (fun
  | .cells _ t frozen=> .cells #[.int .u64 1,.int .u64 10,.int .u64 100,.int .u64 1000,.int .u64 10000,.int .u64 100000,.int .u64 1000000,.int .u64 10000000,.int .u64 100000000,.int .u64 1000000000,.int .u64 10000000000,.int .u64 100000000000,.int .u64 1000000000000,.int .u64 10000000000000,.int .u64 100000000000000,.int .u64 1000000000000000,.int .u64 10000000000000000,.int .u64 100000000000000000,.int .u64 1000000000000000000,.int .u64 10000000000000000000] t frozen
  |o=>o)).modify 2 (fun
  | .cells _ t frozen=> .cells #[.iface 332 (.pointer (some ⟨B1+0,0,none⟩))] t frozen
  |o=>o)).modify 1 (fun
  | .cells _ t frozen=> .cells #[.iface 332 (.pointer (some ⟨B1+1,0,none⟩))] t frozen
  |o=>o) }
def Pa:List (String×DataW Unit):=[("math/bits.deBruijn32tab",Rows.laid_math_bits_deBruijn32tab),("math/bits.deBruijn64tab",Rows.laid_math_bits_deBruijn64tab),("internal/strconv.uint64pow10",Rows.laid_internal_strconv_uint64pow10),("strconv.ErrRange",Rows.laid_strconv_ErrRange),("strconv.ErrSyntax",Rows.laid_strconv_ErrSyntax)]
set_option maxRecDepth 100000 in
theorem Hd (os:Os) (args:Array Value):laidMet Tryz.prog Pa ((G0 os).forCall (fun _ _=>0) ⟨#[],args,[]⟩).memory:=
 laidMet_of_run3 8 (by kernel_rfl) (by kernel_rfl) (by kernel_rfl)
theorem G1:"*"++"errors.errorString"="*errors.errorString":=by decide
theorem zfa (u:TypeId) (h:Tryz.prog.typeName? 3 u=some "*errors.errorString"):u=332:=
 typeName_ptr_named (nm:="errors.errorString") (by rw[G1];kernel_rfl) (by kernel_rfl) (by decide) u (by rw[G1];exact h)
theorem Dn {n:String} {text:List UInt8} {g:Nat} {r:List (String×DataW Unit)} {W:World} (h:laidMet Tryz.prog ((n,.iface "*errors.errorString" (.ptr (.agg [.lit (.string text)])))::r) W) (hg:Tryz.prog.globalNamed n=some g) (ht:(Tryz.prog.globals[g]?).map (·.type)=some 235):
 ∃v,W.cell? ⟨g,0,none⟩=some (.iface 332 v)∧∀vs,W.var? Tryz.prog n=some vs→vs.size=1:=by
 obtain⟨a,s,hv,-,-,-⟩:=laid_sentinel h hg ht Tryz.underlying235 zfa Tryz.underlying332 Tryz.underlying334 rfl rfl Tryz.underlying9 (by kernel_rfl) (by kernel_rfl)
 have:=World.var?_cell hg hv 0
 exact⟨_,by simpa using this,fun vs h=>by rw[hv]at h;obtain rfl:=Option.some.inj h;rfl⟩
theorem R6 {W:World} {g i:Nat} {v:Value} (h:W.cell? ⟨g,i,none⟩=some v):g<W.heap.size:=Go.Am.cell_lt h
theorem zjj {W:World} (h:laidMet Tryz.prog Pa W):Yr Tryz.prog W (fun _=>none) (fun _=> .nilIface):=by
 intro n cs hm g hg
 simp only[JK,List.mem_cons,Prod.mk.injEq,List.not_mem_nil,or_false]at hm
 rcases hm with⟨rfl,rfl⟩|⟨rfl,rfl⟩|⟨rfl,rfl⟩
 ·have hn:Tryz.prog.globalNamed "strconv.ErrSyntax"=some 1:=by kernel_rfl
  obtain rfl:=Option.some.inj (hn.symm.trans hg)
  obtain⟨v,hv,hz⟩:=Dn h.tail.tail.tail.tail hn (by kernel_rfl)
  refine⟨R6 hv,rfl,fun i c hc=> ?_,hz⟩
  cases i with
  |zero=>
   obtain rfl:=Option.some.inj hc
   exact⟨_,hv,RepC.opq _ _ _⟩
  |succ i=>simp at hc
 ·have hn:Tryz.prog.globalNamed "strconv.ErrRange"=some 2:=by kernel_rfl
  obtain rfl:=Option.some.inj (hn.symm.trans hg)
  obtain⟨v,hv,hz⟩:=Dn h.tail.tail.tail hn (by kernel_rfl)
  refine⟨R6 hv,rfl,fun i c hc=> ?_,hz⟩
  cases i with
  |zero=>
   obtain rfl:=Option.some.inj hc
   exact⟨_,hv,RepC.opq _ _ _⟩
  |succ i=>simp at hc
 ·have hn:Tryz.prog.globalNamed "internal/strconv.uint64pow10"=some 3:=by kernel_rfl
  obtain rfl:=Option.some.inj (hn.symm.trans hg)
  have ht:=Lib.tabIs_of_head (k:= .u64) (zs:=(List.range 20).map fun i=>((10 ^ i:Nat):Int)) hn (by kernel_rfl) Tryz.underlying336 Tryz.underlying251 (by kernel_rfl) (by kernel_rfl) h.tail.tail
  have hcell:∀i,i<20→W.cell? ⟨3,i,none⟩=some (.int .u64 ((10 ^ i:Nat):Int)):=fun i hi=>by
   have:=ht.cell hn i (by simpa using hi)
   rw[this]
   simp[List.getD,List.getElem?_range hi]
  refine⟨R6 (hcell 0 (by decide)),rfl,fun i c hc=> ?_,fun vs hv=>by rw[show W.var? Tryz.prog "internal/strconv.uint64pow10"=_ from ht]at hv;obtain rfl:=Option.some.inj hv;simp⟩
  rw[List.getElem?_map]at hc
  obtain⟨j,hj,rfl⟩:=oM hc
  have hi:i<20:=by
   have:=(oE hj).1
   simpa using this
  rw[List.getElem?_range hi]at hj
  obtain rfl:=Option.some.inj hj
  exact⟨_,hcell i hi,RepC.int _ _ _⟩
set_option maxRecDepth 100000 in
theorem DL {H:Type} {enc:TypeId×Value→H} {W:World} {base:Nat} {args:Array Value} {ds:List (DataW H)} {ps:List MemPlace}
 (hv:∀(j:Nat) t v,Tryz.f3.params[j]? =some t→args[j]? =some v→Value.okWide Tryz.prog W .any base t v)
 (hA:DataW.TrodAll enc Tryz.prog W 0 (fun _=>true) true Tryz.f3.params.toList args.toList ds ps) (hL:laidMet Tryz.prog Pa W):
 Calls Tryz.prog 3 args W fun e W'=>e= .returned (.bool true)∧Below W.heap.size W W':=
 zap (cfg:=Am.Try.cfg) Am.Try.tblGood Am.Try.fnsGood Am.Try.xGood Am.Try.mixOk (S:=[28,25,3,4,22,5,23,180,125,50,123,26,127]) (List.all_eq_true.1 (by kernel_rfl)) Tryz.func3 (by kernel_rfl) (by kernel_rfl) (by rw[Tryz.params3];intro t ht;simp at ht;rcases ht with rfl|rfl|rfl <;> simp) (zjj hL) hv hA fun xs h=>by
  rw[Tryz.params3]at h
  obtain⟨a0,xs,rfl,ha0,h⟩:=yl h
  obtain⟨a1,xs,rfl,ha1,h⟩:=yl h
  obtain⟨a2,xs,rfl,ha2,h⟩:=yl h
  obtain⟨a3,xs,rfl,ha3,h⟩:=yl h
  obtain rfl:=Qi h
  obtain⟨x0,hx0,rfl⟩:=Am.Try.rd_arg (i:=⟨.struct [(0,25),(5,26),(6,3)],true,7,104,[.int .i64 0,.bool false,.nils,.int .i64 0,.nils,.nils,.int .i64 0]⟩) Am.Try.rd_GHistory28 rfl ha0
  obtain⟨x1,-,rfl⟩:=Am.Try.rd_arg (i:=⟨.int .i64,false,1,8,[.int .i64 0]⟩) (X9 (i:=⟨.int .i64,false,1,8,[.int .i64 0]⟩) rfl rfl) rfl ha1
  obtain⟨x2,-,rfl⟩:=Am.Try.rd_arg (i:=⟨.int .i64,false,1,8,[.int .i64 0]⟩) (X9 (i:=⟨.int .i64,false,1,8,[.int .i64 0]⟩) rfl rfl) rfl ha2
  obtain⟨x3,hx3,rfl⟩:=Am.Try.rd_arg (i:=⟨.slice 5,false,1,24,[.nils]⟩) (J0 (i:=⟨.slice 5,false,1,24,[.nils]⟩) rfl rfl (UQ (i:=⟨.int .u8,false,1,1,[.int .u8 0]⟩) rfl rfl)) rfl ha3
  rw[Am.Try.eq_GHistory]
  exact Am.Try.ok_laws_FnExactBetween x0 x1 x2 x3 true (Am.Try.law_Between hx0 (hx3.1))
set_option maxRecDepth 100000 in
theorem NM (os:Os) (started:os.Started) (H:Type) (enc:TypeId×Value→H):
 ReturnsInHanded {} Tryz.checked os 3 .any (fun w args=>(Rows.fnExactBetweenSpec.pre enc Tryz.prog Tryz.f3 Rows.fnExactBetweenRow.domain false w args∧laidMet Tryz.prog Pa w)∧sizedMet enc Tryz.prog Tryz.f3 (OpenSpec.ofChange Rows.fnExactBetweenSpec) false w args)
  (Rows.fnExactBetweenSpec.post enc Tryz.prog Tryz.f3 false true false false):=by
 refine returnsInHanded_of_change_and (C:=Tryz.checked) (X:=fun w _=>laidMet Tryz.prog Pa w) (fun _ _ _ hh h=>h.of_heap hh) Try.own started (by kernel_rfl) Tryz.func3
  (ChangeSpec.witness_at (enc:=enc) (C:=Tryz.checked) (os:=os) (X:=fun w _=>laidMet Tryz.prog Pa w) false (G0 os) #[.agg #[.int .i64 0,.bool false,.slice none 0 0,.int .i64 0,.slice none 0 0,.slice none 0 0,.int .i64 0],.int .i64 0,.int .i64 0,.slice none 0 0] 8 rfl (by kernel_rfl) (by kernel_rfl) (by kernel_rfl) (by kernel_rfl) (by kernel_rfl) (Hd os _)) ?_
 intro W base args ds gs before hval0 hW _ _ hL _
 have hW':=hW
 obtain⟨p,q,hA,hV,rfl,hfz,hnd⟩:=hW
 obtain⟨rfl,_⟩:=trodVars_none hV
 have hds:∃d0 d1 d2 d3,ds=[d0,d1,d2,d3]:=by
  have hA0:=hA
  rw[Tryz.params3]at hA0
  obtain⟨v0,vs0,d0,ds0,p0,q0,_,rfl,_,_,hA1⟩:=trodAll_cons hA0
  obtain⟨v1,vs1,d1,ds1,p1,q1,_,rfl,_,_,hA2⟩:=trodAll_cons hA1
  obtain⟨v2,vs2,d2,ds2,p2,q2,_,rfl,_,_,hA3⟩:=trodAll_cons hA2
  obtain⟨v3,vs3,d3,ds3,p3,q3,_,rfl,_,_,hA4⟩:=trodAll_cons hA3
  obtain⟨_,rfl,_⟩:=trodAll_nil hA4
  exact⟨d0,d1,d2,d3,rfl⟩
 obtain⟨d0,d1,d2,d3,rfl⟩:=hds
 exact(DL hval0 hA hL).mono fun e W' ⟨he,hb⟩=>⟨_,he,
  zds (tb:=4) Try.laidOut rfl (by kernel_rfl) (by kernel_rfl) (by rw[Tryz.params3];intro t ht;simp at ht;rcases ht with rfl|rfl|rfl <;> exact⟨by kernel_rfl,by decide+kernel⟩) hW' rfl hb⟩
end Go.Proofs.YtklelfbkffbceaaGreatDoor
