/- The row of FnExactConfigText: its arguments read, the law's answer, the statement, and its card. -/
import Derived.Test.YtfbfbebalpnkbaaDoorELConfigText
import Derived.Test.YtfbfbebalpnkbaaDoorES2b
import Derived.Test.YtfbfbebalpnkbaaDoorEAmD
import Derived.ProofKit
import Derived.Test.YtfbfbebalpnkbaaDoorCards
import Derived.Test.YtfbfbebalpnkbaaDoorTie
import Derived.SevenTiedAt
import Derived.LaidLaws
import Derived.Stop.LaidErr
import Derived.Lib.LaidTab
import Derived.Deep.DeepLaidRun
set_option linter.unusedVariables false
set_option linter.unusedSimpArgs false
namespace Go.Am.Try
open Go.Am Go.Proofs
theorem rd_arg {τ : Type} {t : TypeId} {i : TI} {e : τ → List C} {md : τ → Prop} (R : Rd XG t e md) (hi : XG t = some i) {a : V} (h : Vt XG t a) : ∃ x, md x ∧ a = .val i.agg (e x) := by
 obtain ⟨j, cs, hj, rfl, hw⟩ := h
 rw [hi] at hj
 injection hj with hj
 subst hj
 obtain ⟨x, rfl, hx⟩ := R cs hw
 exact ⟨x, hx, rfl⟩
theorem GF {l : List GItem} (h : ∀ v ∈ l, Pv v) : Y3 l := by
 induction l with
 | nil => simp only [Y3]
 | cons v l ih => simp only [Y3]; exact ⟨h v (by simp), ih fun x hx => h x (by simp [hx])⟩
theorem OQ {l : List GExpr} (h : ∀ v ∈ l, MdX v) : YR l := by
 induction l with
 | nil => simp only [YR]
 | cons v l ih => simp only [YR]; exact ⟨h v (by simp), ih fun x hx => h x (by simp [hx])⟩
theorem VY : Rd XG 24 (z7 (z7 za)) MdB :=
 RE (J6 (i := ⟨.slice 23, false, 1, 24, [.nils]⟩) rfl rfl (J6 (i := ⟨.slice 5, false, 1, 24, [.nils]⟩) rfl rfl (L9 (i := ⟨.int .u8, false, 1, 1, [.int .u8 0]⟩) rfl rfl))) fun _ h => ⟨h.1, fun b hb => (h.2 b hb).1⟩
theorem VZ : Rd XG 68 ze MdX := by
 intro cs
 generalize hn : SizeOf.sizeOf cs + 1 = n
 have hlt : SizeOf.sizeOf cs < n := by omega
 clear hn
 induction n generalizing cs with
 | zero => omega
 | succ n ih =>
  intro hw
  obtain ⟨css, rfl, hc⟩ := hw.struct_inv (i := ⟨.struct [(0, 3), (1, 3), (2, 23), (3, 24), (4, 66)], true, 5, 88, [.int .i64 0, .int .i64 0, .nils, .nils, .nils]⟩) rfl rfl
  obtain ⟨c1, _, rfl, h1, hc⟩ := wh hc
  obtain ⟨c2, _, rfl, h2, hc⟩ := wh hc
  obtain ⟨c3, _, rfl, h3, hc⟩ := wh hc
  obtain ⟨c4, _, rfl, h4, hc⟩ := wh hc
  obtain ⟨c5, _, rfl, h5, hc⟩ := wh hc
  obtain rfl := Ky hc
  obtain ⟨x1, rfl, -⟩ := (V8 (i := ⟨.int .i64, false, 1, 8, [.int .i64 0]⟩) rfl rfl) c1 h1
  obtain ⟨x2, rfl, -⟩ := (V8 (i := ⟨.int .i64, false, 1, 8, [.int .i64 0]⟩) rfl rfl) c2 h2
  obtain ⟨x3, rfl, m3⟩ := (J6 (i := ⟨.slice 5, false, 1, 24, [.nils]⟩) rfl rfl (L9 (i := ⟨.int .u8, false, 1, 1, [.int .u8 0]⟩) rfl rfl)) c3 h3
  obtain ⟨x4, rfl, m4⟩ := VY c4 h4
  obtain ⟨l, rfl, hl, hs⟩ := h5.slice_inv (i := ⟨.slice 68, false, 1, 24, [.nils]⟩) rfl rfl
  obtain ⟨x5, rfl, m5⟩ := OA fun x hx => ih x (by have := DB (cs := List.flatten [J5 x1, J5 x2, (z7 za) x3, (z7 (z7 za)) x4, [C.seq l]]) hx (by simp); omega) (hs x hx)
  refine ⟨.mk x1 x2 x3 x4 x5, ?_, ?_⟩
  ·rw [zA]; rfl
  ·rw [MO] at hl
   rw [MP]
   exact ⟨m3.1, m4, hl, OQ m5⟩
theorem Ns : Rd XG 66 (z7 ze) (fun l => l.length <= 2 ^ 63 - 1 ∧ YR l) :=
 RE (J6 (i := ⟨.slice 68, false, 1, 24, [.nils]⟩) rfl rfl VZ) fun _ h => ⟨h.1, OQ h.2⟩
theorem LN : Rd XG 70 zo Pv := by
 intro cs hw
 obtain ⟨css, rfl, hc⟩ := hw.struct_inv (i := ⟨.struct [(0, 3), (1, 23), (2, 3), (3, 68), (8, 24), (9, 66)], true, 10, 176, [.int .i64 0, .nils, .int .i64 0, .int .i64 0, .int .i64 0, .nils, .nils, .nils, .nils, .nils]⟩) rfl rfl
 obtain ⟨c1, _, rfl, h1, hc⟩ := wh hc
 obtain ⟨c2, _, rfl, h2, hc⟩ := wh hc
 obtain ⟨c3, _, rfl, h3, hc⟩ := wh hc
 obtain ⟨c4, _, rfl, h4, hc⟩ := wh hc
 obtain ⟨c5, _, rfl, h5, hc⟩ := wh hc
 obtain ⟨c6, _, rfl, h6, hc⟩ := wh hc
 obtain rfl := Ky hc
 obtain ⟨x1, rfl, -⟩ := (V8 (i := ⟨.int .i64, false, 1, 8, [.int .i64 0]⟩) rfl rfl) c1 h1
 obtain ⟨x2, rfl, m2⟩ := (J6 (i := ⟨.slice 5, false, 1, 24, [.nils]⟩) rfl rfl (L9 (i := ⟨.int .u8, false, 1, 1, [.int .u8 0]⟩) rfl rfl)) c2 h2
 obtain ⟨x3, rfl, -⟩ := (V8 (i := ⟨.int .i64, false, 1, 8, [.int .i64 0]⟩) rfl rfl) c3 h3
 obtain ⟨x4, rfl, m4⟩ := VZ c4 h4
 obtain ⟨x5, rfl, m5⟩ := VY c5 h5
 obtain ⟨x6, rfl, m6⟩ := Ns c6 h6
 refine ⟨.mk x1 x2 x3 x4 x5 x6, ?_, ⟨m2.1, m4, m5, m6⟩⟩
 simp only [xB, zA]; rfl
theorem rd_list44 : Rd XG 44 (z7 zo) (fun l => l.length <= 2 ^ 63 - 1 ∧ Y3 l) :=
 RE (J6 (i := ⟨.slice 70, false, 1, 24, [.nils]⟩) rfl rfl LN) fun _ h => ⟨h.1, GF h.2⟩
end Go.Am.Try
namespace Go.Proofs.YtfbfbebalpnkbaaDoor
open Go.ChangeShapes Go.WideShapes Go.ChangeAt Go.RowKit Go.Am
theorem Try.own : ownKnob Tryd.prog.godebug = none := by kernel_rfl
theorem Try.laidOut : laidOutB Tryd.prog = true := by kernel_rfl
theorem AG : True := trivial
noncomputable def Aw : Nat := (World.holding Tryd.prog default ⟨#[], #[], []⟩).heap.size
noncomputable def TR (os : Os) : World :=
 let w0 := World.holding Tryd.prog os ⟨#[], #[], []⟩
 {w0 with heap := (((w0.heap).modify 2 (fun
   | .cells _ t frozen => .cells #[.int .u8 0, .int .u8 1, .int .u8 28, .int .u8 2, .int .u8 29, .int .u8 14, .int .u8 24, .int .u8 3, .int .u8 30, .int .u8 22, .int .u8 20, .int .u8 15, .int .u8 25, .int .u8 17, .int .u8 4, .int .u8 8, .int .u8 31, .int .u8 27, .int .u8 13, .int .u8 23, .int .u8 21, .int .u8 19, .int .u8 16, .int .u8 7, .int .u8 26, .int .u8 12, .int .u8 18, .int .u8 6, .int .u8 11, .int .u8 5, .int .u8 10, .int .u8 9] t frozen
   | o => o)).modify 3 (fun
   | .cells _ t frozen => .cells #[.int .u8 0, .int .u8 1, .int .u8 56, .int .u8 2, .int .u8 57, .int .u8 49, .int .u8 28, .int .u8 3, .int .u8 61, .int .u8 58, .int .u8 42, .int .u8 50, .int .u8 38, .int .u8 29, .int .u8 17, .int .u8 4, .int .u8 62, .int .u8 47, .int .u8 59, .int .u8 36, .int .u8 45, .int .u8 43, .int .u8 51, .int .u8 22, .int .u8 53, .int .u8 39, .int .u8 33, .int .u8 30, .int .u8 24, .int .u8 18, .int .u8 12, .int .u8 5, .int .u8 63, .int .u8 55, .int .u8 48, .int .u8 27, .int .u8 60, .int .u8 41, .int .u8 37, .int .u8 16, .int .u8 46, .int .u8 35, .int .u8 44, .int .u8 21, .int .u8 52, .int .u8 32, .int .u8 23, .int .u8 11, .int .u8 54, .int .u8 26, .int .u8 40, .int .u8 15, .int .u8 34, .int .u8 20, .int .u8 31, .int .u8 10, .int .u8 25, .int .u8 14, .int .u8 19, .int .u8 9, .int .u8 13, .int .u8 8, .int .u8 7, .int .u8 6] t frozen
   | o => o)).modify 1 (fun
   | .cells _ t frozen => .cells #[.int .u64 1, .int .u64 10, .int .u64 100, .int .u64 1000, .int .u64 10000, .int .u64 100000, .int .u64 1000000, .int .u64 10000000, .int .u64 100000000, .int .u64 1000000000, .int .u64 10000000000, .int .u64 100000000000, .int .u64 1000000000000, .int .u64 10000000000000, .int .u64 100000000000000, .int .u64 1000000000000000, .int .u64 10000000000000000, .int .u64 100000000000000000, .int .u64 1000000000000000000, .int .u64 10000000000000000000] t frozen
   | o => o) }
def JE : List (String × DataW Unit) := [("math/bits.deBruijn32tab", Rows.laid_math_bits_deBruijn32tab), ("math/bits.deBruijn64tab", Rows.laid_math_bits_deBruijn64tab), ("internal/strconv.uint64pow10", Rows.laid_internal_strconv_uint64pow10)]
set_option maxRecDepth 100000 in
theorem Uq (os : Os) (args : Array Value) : laidMet Tryd.prog JE ((TR os).forCall (fun _ _ => 0) ⟨#[], args, []⟩).memory :=
 laidMet_of_run3 8 (by kernel_rfl) (by kernel_rfl) (by kernel_rfl)
theorem LO {W : World} {g i : Nat} {v : Value} (h : W.cell? ⟨g, i, none⟩ = some v) : g < W.heap.size := Go.Am.cell_lt h
theorem En {W : World} (h : laidMet Tryd.prog JE W) : qW Tryd.prog W (fun _ => none) (fun _ => .nilIface) := by
 intro n cs hm g hg
 simp only [vJ, List.mem_cons, Prod.mk.injEq, List.not_mem_nil, or_false] at hm
 rcases hm with ⟨rfl, rfl⟩ | ⟨rfl, rfl⟩ | ⟨rfl, rfl⟩
 ·have : Tryd.prog.globalNamed "strconv.ErrSyntax" = none := by kernel_rfl
  rw [this] at hg; cases hg
 ·have : Tryd.prog.globalNamed "strconv.ErrRange" = none := by kernel_rfl
  rw [this] at hg; cases hg
 ·have hn : Tryd.prog.globalNamed "internal/strconv.uint64pow10" = some 1 := by kernel_rfl
  obtain rfl := Option.some.inj (hn.symm.trans hg)
  have ht := Lib.tabIs_of_head (k := .u64) (zs := (List.range 20).map fun i => ((10 ^ i : Nat) : Int)) hn (by kernel_rfl) Tryd.underlying148 Tryd.underlying133 (by kernel_rfl) (by kernel_rfl) h.tail.tail
  have hcell : ∀ i, i < 20 → W.cell? ⟨1, i, none⟩ = some (.int .u64 ((10 ^ i : Nat) : Int)) := fun i hi => by
   have := ht.cell hn i (by simpa using hi)
   rw [this]
   simp [List.getD, List.getElem?_range hi]
  refine ⟨LO (hcell 0 (by decide)), rfl, fun i c hc => ?_, fun vs hv => by rw [show W.var? Tryd.prog "internal/strconv.uint64pow10" = _ from ht] at hv; obtain rfl := Option.some.inj hv; simp⟩
  rw [List.getElem?_map] at hc
  obtain ⟨j, hj, rfl⟩ := Option.map_eq_some_iff.1 hc
  have hi : i < 20 := by
   have := (List.getElem?_eq_some_iff.1 hj).1
   simpa using this
  rw [List.getElem?_range hi] at hj
  obtain rfl := Option.some.inj hj
  exact ⟨_, hcell i hi, RepC.int _ _ _⟩
set_option maxRecDepth 100000 in
theorem Tj {H : Type} {enc : TypeId × Value → H} {W : World} {base : Nat} {args : Array Value} {ds : List (DataW H)} {ps : List MemPlace}
  (hv : ∀ (j : Nat) t v, Tryd.f4.params[j]? = some t → args[j]? = some v → Value.okWide Tryd.prog W .any base t v)
  (hA : DataW.TrodAll enc Tryd.prog W 0 (fun _ => true) true Tryd.f4.params.toList args.toList ds ps) (hL : laidMet Tryd.prog JE W) :
  Calls Tryd.prog 4 args W fun e W' => e = .returned (.bool true) ∧ Below W.heap.size W W' :=
 M9 (cfg := Am.Try.cfg) Am.Try.tblGood Am.Try.fnsGood Am.Try.xGood Am.Try.mixOk (S := [44, 70, 3, 23, 5, 68, 24, 66]) (List.all_eq_true.1 (by kernel_rfl)) Tryd.func4 (by kernel_rfl) (by kernel_rfl) (by rw [Tryd.params4]; intro t ht; simp at ht; subst ht <;> simp) (En hL) hv hA fun xs h => by
  rw [Tryd.params4] at h
  obtain ⟨a0, xs, rfl, ha0, h⟩ := wh h
  obtain rfl := Ky h
  obtain ⟨x0, hx0, rfl⟩ := Am.Try.rd_arg (i := ⟨.slice 70, false, 1, 24, [.nils]⟩) Am.Try.rd_list44 rfl ha0
  exact Am.Try.ok_laws_FnExactConfigText x0 true (Am.Try.law_ConfigText hx0)
set_option maxRecDepth 100000 in
theorem Kg (os : Os) (started : os.Started) (H : Type) (enc : TypeId × Value → H) :
  ReturnsInHanded {} Tryd.checked os 4 .any (fun w args => (Rows.fnExactConfigTextSpec.pre enc Tryd.prog Tryd.f4 Rows.fnExactConfigTextRow.domain false w args ∧ laidMet Tryd.prog JE w) ∧ sizedMet enc Tryd.prog Tryd.f4 (OpenSpec.ofChange Rows.fnExactConfigTextSpec) false w args)
   (Rows.fnExactConfigTextSpec.post enc Tryd.prog Tryd.f4 false true false false) := by
 refine returnsInHanded_of_change_and (C := Tryd.checked) (X := fun w _ => laidMet Tryd.prog JE w) (fun _ _ _ hh h => h.of_heap hh) Try.own started (by kernel_rfl) Tryd.func4
  (ChangeSpec.witness_at (enc := enc) (C := Tryd.checked) (os := os) (X := fun w _ => laidMet Tryd.prog JE w) false (TR os) #[.slice none 0 0] 8 rfl (by kernel_rfl) (by kernel_rfl) (by kernel_rfl) (by kernel_rfl) (by kernel_rfl) (Uq os _)) ?_
 intro W base args ds gs before hval0 hW _ _ hL _
 have hW' := hW
 obtain ⟨p, q, hA, hV, rfl, hfz, hnd⟩ := hW
 obtain ⟨rfl, _⟩ := trodVars_none hV
 have hds : ∃ d0, ds = [d0] := by
  have hA0 := hA
  rw [Tryd.params4] at hA0
  obtain ⟨v0, vs0, d0, ds0, p0, q0, _, rfl, _, _, hA1⟩ := trodAll_cons hA0
  obtain ⟨_, rfl, _⟩ := trodAll_nil hA1
  exact ⟨d0, rfl⟩
 obtain ⟨d0, rfl⟩ := hds
 exact (Tj hval0 hA hL).mono fun e W' ⟨he, hb⟩ => ⟨_, he,
  Gc (tb := 4) Try.laidOut rfl (by kernel_rfl) (by kernel_rfl) (by rw [Tryd.params4]; intro t ht; simp at ht; subst ht <;> exact ⟨by kernel_rfl, by decide +kernel⟩) hW' rfl hb⟩
end Go.Proofs.YtfbfbebalpnkbaaDoor
