/- The row of FnExactEventRead: its arguments read, the law's answer, the statement, and its card. -/
import Derived.Test.YtegcaaobpbocfaaGreatDoorRLEventRead
import Derived.Test.YtegcaaobpbocfaaGreatDoorRS2b
import Derived.Test.YtegcaaobpbocfaaGreatDoorRAmD
import Derived.ProofKit
import Derived.Test.YtegcaaobpbocfaaGreatDoorCards
import Derived.Test.YtegcaaobpbocfaaGreatDoorTie
import Derived.SevenTiedAt
import Derived.LaidLaws
import Derived.Stop.LaidErr
import Derived.Lib.LaidTab
import Derived.Deep.DeepLaidRun
set_option linter.unusedVariables false
set_option linter.unusedSimpArgs false
namespace Go.Am.Try
open Go.Am Go.Proofs
theorem rd_arg {τ : Type} {t : TypeId} {i : TI} {e : τ → List C} {md : τ → Prop} (R : Rd tblT t e md) (hi : tblT t = some i) {a : V} (h : ArgOf tblT t a) : ∃ x, md x ∧ a = .val i.agg (e x) := by
  obtain ⟨j, cs, hj, rfl, hw⟩ := h
  rw [hi] at hj
  injection hj with hj
  subst hj
  obtain ⟨x, rfl, hx⟩ := R cs hw
  exact ⟨x, hx, rfl⟩
end Go.Am.Try
namespace Go.Proofs.YtegcaaobpbocfaaGreatDoor
open Go.ChangeShapes Go.WideShapes Go.ChangeAt Go.RowKit Go.Am
theorem Try.own : ownKnob Tryz.prog.godebug = none := by kernel_rfl
theorem Try.laidOut : laidOutB Tryz.prog = true := by kernel_rfl
theorem gl_low : True := trivial
noncomputable def laidLow : Nat := (World.holding Tryz.prog default ⟨#[], #[], []⟩).heap.size
noncomputable def laidWorld (os : Os) : World :=
  let w0 := World.holding Tryz.prog os ⟨#[.cells #[.string { data := #[118, 97, 108, 117, 101, 32, 111, 117, 116, 32, 111, 102, 32, 114, 97, 110, 103, 101] }] 114, .cells #[.string { data := #[105, 110, 118, 97, 108, 105, 100, 32, 115, 121, 110, 116, 97, 120] }] 114], #[], []⟩
  { w0 with heap := (((((w0.heap).modify 4 (fun
      | .cells _ t frozen => .cells #[.int .u8 0, .int .u8 1, .int .u8 28, .int .u8 2, .int .u8 29, .int .u8 14, .int .u8 24, .int .u8 3, .int .u8 30, .int .u8 22, .int .u8 20, .int .u8 15, .int .u8 25, .int .u8 17, .int .u8 4, .int .u8 8, .int .u8 31, .int .u8 27, .int .u8 13, .int .u8 23, .int .u8 21, .int .u8 19, .int .u8 16, .int .u8 7, .int .u8 26, .int .u8 12, .int .u8 18, .int .u8 6, .int .u8 11, .int .u8 5, .int .u8 10, .int .u8 9] t frozen
      | o => o)).modify 5 (fun
      | .cells _ t frozen => .cells #[.int .u8 0, .int .u8 1, .int .u8 56, .int .u8 2, .int .u8 57, .int .u8 49, .int .u8 28, .int .u8 3, .int .u8 61, .int .u8 58, .int .u8 42, .int .u8 50, .int .u8 38, .int .u8 29, .int .u8 17, .int .u8 4, .int .u8 62, .int .u8 47, .int .u8 59, .int .u8 36, .int .u8 45, .int .u8 43, .int .u8 51, .int .u8 22, .int .u8 53, .int .u8 39, .int .u8 33, .int .u8 30, .int .u8 24, .int .u8 18, .int .u8 12, .int .u8 5, .int .u8 63, .int .u8 55, .int .u8 48, .int .u8 27, .int .u8 60, .int .u8 41, .int .u8 37, .int .u8 16, .int .u8 46, .int .u8 35, .int .u8 44, .int .u8 21, .int .u8 52, .int .u8 32, .int .u8 23, .int .u8 11, .int .u8 54, .int .u8 26, .int .u8 40, .int .u8 15, .int .u8 34, .int .u8 20, .int .u8 31, .int .u8 10, .int .u8 25, .int .u8 14, .int .u8 19, .int .u8 9, .int .u8 13, .int .u8 8, .int .u8 7, .int .u8 6] t frozen
      | o => o)).modify 3 (fun
      | .cells _ t frozen => .cells #[.int .u64 1, .int .u64 10, .int .u64 100, .int .u64 1000, .int .u64 10000, .int .u64 100000, .int .u64 1000000, .int .u64 10000000, .int .u64 100000000, .int .u64 1000000000, .int .u64 10000000000, .int .u64 100000000000, .int .u64 1000000000000, .int .u64 10000000000000, .int .u64 100000000000000, .int .u64 1000000000000000, .int .u64 10000000000000000, .int .u64 100000000000000000, .int .u64 1000000000000000000, .int .u64 10000000000000000000] t frozen
      | o => o)).modify 2 (fun
      | .cells _ t frozen => .cells #[.iface 112 (.pointer (some ⟨laidLow + 0, 0, none⟩))] t frozen
      | o => o)).modify 1 (fun
      | .cells _ t frozen => .cells #[.iface 112 (.pointer (some ⟨laidLow + 1, 0, none⟩))] t frozen
      | o => o) }
def laidL : List (String × DataW Unit) := [("math/bits.deBruijn32tab", Rows.laid_math_bits_deBruijn32tab), ("math/bits.deBruijn64tab", Rows.laid_math_bits_deBruijn64tab), ("internal/strconv.uint64pow10", Rows.laid_internal_strconv_uint64pow10), ("strconv.ErrRange", Rows.laid_strconv_ErrRange), ("strconv.ErrSyntax", Rows.laid_strconv_ErrSyntax)]
set_option maxRecDepth 100000 in
theorem laidWorld_met (os : Os) (args : Array Value) : laidMet Tryz.prog laidL ((laidWorld os).forCall (fun _ _ => 0) ⟨#[], args, []⟩).memory :=
  laidMet_of_run3 8 (by kernel_rfl) (by kernel_rfl) (by kernel_rfl)
theorem laid_star : "*" ++ "errors.errorString" = "*errors.errorString" := by decide
theorem laid_row (u : TypeId) (h : Tryz.prog.typeName? 3 u = some "*errors.errorString") : u = 112 :=
  typeName_ptr_named (nm := "errors.errorString") (by rw [laid_star]; kernel_rfl) (by kernel_rfl) (by decide) u (by rw [laid_star]; exact h)
theorem laid_err {n : String} {text : List UInt8} {g : Nat} {r : List (String × DataW Unit)} {W : World} (h : laidMet Tryz.prog ((n, .iface "*errors.errorString" (.ptr (.agg [.lit (.string text)]))) :: r) W) (hg : Tryz.prog.globalNamed n = some g) (ht : (Tryz.prog.globals[g]?).map (·.type) = some 74) :
    ∃ v, W.cell? ⟨g, 0, none⟩ = some (.iface 112 v) := by
  obtain ⟨a, s, hv, -, -, -⟩ := laid_sentinel h hg ht Tryz.underlying74 laid_row Tryz.underlying112 Tryz.underlying114 rfl rfl Tryz.underlying9 (by kernel_rfl) (by kernel_rfl)
  have := World.var?_cell hg hv 0
  exact ⟨_, by simpa using this⟩
theorem lt_of_cell {W : World} {g i : Nat} {v : Value} (h : W.cell? ⟨g, i, none⟩ = some v) : g < W.heap.size := Go.Am.cell_lt h
theorem glob_of {W : World} (h : laidMet Tryz.prog laidL W) : Glob Tryz.prog W (fun _ => none) (fun _ => .nilIface) := by
  intro n cs hm g hg
  simp only [globList, List.mem_cons, Prod.mk.injEq, List.not_mem_nil, or_false] at hm
  rcases hm with ⟨rfl, rfl⟩ | ⟨rfl, rfl⟩ | ⟨rfl, rfl⟩
  · have hn : Tryz.prog.globalNamed "strconv.ErrSyntax" = some 1 := by kernel_rfl
    obtain rfl := Option.some.inj (hn.symm.trans hg)
    obtain ⟨v, hv⟩ := laid_err h.tail.tail.tail.tail hn (by kernel_rfl)
    refine ⟨lt_of_cell hv, rfl, fun i c hc => ?_⟩
    cases i with
    | zero =>
      obtain rfl := Option.some.inj hc
      exact ⟨_, hv, RepC.opq _ _ _⟩
    | succ i => simp at hc
  · have hn : Tryz.prog.globalNamed "strconv.ErrRange" = some 2 := by kernel_rfl
    obtain rfl := Option.some.inj (hn.symm.trans hg)
    obtain ⟨v, hv⟩ := laid_err h.tail.tail.tail hn (by kernel_rfl)
    refine ⟨lt_of_cell hv, rfl, fun i c hc => ?_⟩
    cases i with
    | zero =>
      obtain rfl := Option.some.inj hc
      exact ⟨_, hv, RepC.opq _ _ _⟩
    | succ i => simp at hc
  · have hn : Tryz.prog.globalNamed "internal/strconv.uint64pow10" = some 3 := by kernel_rfl
    obtain rfl := Option.some.inj (hn.symm.trans hg)
    have ht := Lib.tabIs_of_head (k := .u64) (zs := (List.range 20).map fun i => ((10 ^ i : Nat) : Int)) hn (by kernel_rfl) Tryz.underlying116 Tryz.underlying97 (by kernel_rfl) (by kernel_rfl) h.tail.tail
    have hcell : ∀ i, i < 20 → W.cell? ⟨3, i, none⟩ = some (.int .u64 ((10 ^ i : Nat) : Int)) := fun i hi => by
      have := ht.cell hn i (by simpa using hi)
      rw [this]
      simp [List.getD, List.getElem?_range hi]
    refine ⟨lt_of_cell (hcell 0 (by decide)), rfl, fun i c hc => ?_⟩
    rw [List.getElem?_map] at hc
    obtain ⟨j, hj, rfl⟩ := Option.map_eq_some_iff.1 hc
    have hi : i < 20 := by
      have := (List.getElem?_eq_some_iff.1 hj).1
      simpa using this
    rw [List.getElem?_range hi] at hj
    obtain rfl := Option.some.inj hj
    exact ⟨_, hcell i hi, RepC.int _ _ _⟩
set_option maxRecDepth 100000 in
theorem eventRead_any {H : Type} {enc : TypeId × Value → H} {W : World} {base : Nat} {args : Array Value} {ds : List (DataW H)} {ps : List MemPlace}
    (hv : ∀ (j : Nat) t v, Tryz.f3.params[j]? = some t → args[j]? = some v → Value.okWide Tryz.prog W .any base t v)
    (hA : DataW.TrodAll enc Tryz.prog W 0 (fun _ => true) true Tryz.f3.params.toList args.toList ds ps) (hL : laidMet Tryz.prog laidL W) :
    Calls Tryz.prog 3 args W fun e W' => e = .returned (.bool true) ∧ Below W.heap.size W W' :=
  law_calls (cfg := Am.Try.cfg) Am.Try.tblGood Am.Try.fnsGood Am.Try.xGood Am.Try.mixOk (S := [22, 5]) (List.all_eq_true.1 (by kernel_rfl)) Tryz.func3 (by kernel_rfl) (by kernel_rfl) (by rw [Tryz.params3]; intro t ht; simp at ht; subst ht <;> simp) (glob_of hL) hv hA fun xs h => by
    rw [Tryz.params3] at h
    obtain ⟨a0, xs, rfl, ha0, h⟩ := all2_cons h
    obtain rfl := all2_nil h
    obtain ⟨x0, hx0, rfl⟩ := Am.Try.rd_arg (i := ⟨.slice 5, false, 1, 24, [.nils]⟩) (rd_sl (i := ⟨.slice 5, false, 1, 24, [.nils]⟩) rfl rfl (rd_u8 (i := ⟨.int .u8, false, 1, 1, [.int .u8 0]⟩) rfl rfl)) rfl ha0
    exact Am.Try.ok_laws_FnExactEventRead x0 true (Am.Try.law_EventRead (hx0.1))
set_option maxRecDepth 100000 in
theorem eventRead_lifted (os : Os) (started : os.Started) (H : Type) (enc : TypeId × Value → H) :
    ReturnsInHanded {} Tryz.checked os 3 .any (fun w args => (Rows.fnExactEventReadSpec.pre enc Tryz.prog Tryz.f3 Rows.fnExactEventReadRow.domain false w args ∧ laidMet Tryz.prog laidL w) ∧ sizedMet enc Tryz.prog Tryz.f3 (OpenSpec.ofChange Rows.fnExactEventReadSpec) false w args)
      (Rows.fnExactEventReadSpec.post enc Tryz.prog Tryz.f3 false true false false) := by
  refine returnsInHanded_of_change_and (C := Tryz.checked) (X := fun w _ => laidMet Tryz.prog laidL w) (fun _ _ _ hh h => h.of_heap hh) Try.own started (by kernel_rfl) Tryz.func3
    (ChangeSpec.witness_at (enc := enc) (C := Tryz.checked) (os := os) (X := fun w _ => laidMet Tryz.prog laidL w) false (laidWorld os) #[.slice none 0 0] 8 rfl (by kernel_rfl) (by kernel_rfl) (by kernel_rfl) (by kernel_rfl) (by kernel_rfl) (laidWorld_met os _)) ?_
  intro W base args ds gs before hval0 hW _ _ hL _
  have hW' := hW
  obtain ⟨p, q, hA, hV, rfl, hfz, hnd⟩ := hW
  obtain ⟨rfl, _⟩ := trodVars_none hV
  have hds : ∃ d0, ds = [d0] := by
    have hA0 := hA
    rw [Tryz.params3] at hA0
    obtain ⟨v0, vs0, d0, ds0, p0, q0, _, rfl, _, _, hA1⟩ := trodAll_cons hA0
    obtain ⟨_, rfl, _⟩ := trodAll_nil hA1
    exact ⟨d0, rfl⟩
  obtain ⟨d0, rfl⟩ := hds
  exact (eventRead_any hval0 hA hL).mono fun e W' ⟨he, hb⟩ => ⟨_, he,
    law_post (tb := 4) Try.laidOut rfl (by kernel_rfl) (by kernel_rfl) (by rw [Tryz.params3]; intro t ht; simp at ht; subst ht <;> exact ⟨by kernel_rfl, by decide +kernel⟩) hW' rfl hb⟩
theorem eventRead_row : Rows.FnExactEventReadSaid :=
  OpenClaim.holds_of_wide 3 Tryz.f3 rfl rfl rfl rfl rfl rfl rfl ⟨rfl, rfl, rfl, rfl, rfl⟩ rfl rfl rfl rfl rfl (by kernel_rfl) Tryz.func3 (by kernel_rfl)
    (of_decide_eq_true (by kernel_rfl)) (by unfold Func.isWrapper; rw [if_neg (by decide +kernel)]; exact ⟨rfl, rfl⟩)
    (fun os started H enc _ => eventRead_lifted os started H enc)
theorem eventRead_holds : Rows.FnExactEventReadCardSaid :=
  Claim7.holds_tied_plain_at .later [] [.data, .data, .data, .sentinel, .sentinel] true (true, "2971fe2a1413d8aa3de97bd886bb0f16e72cdbc7c38f58e30e1d1cf7f799f54a") true
    eventRead_row (fun _ h => by cases h) (by kernel_rfl) (fun _ h => by cases h) fnExactEventRead_row_tie rfl ⟨rfl, rfl⟩ (by kernel_rfl) rfl
    (fun f fn hf hfn => by
      obtain rfl : f = 3 := Option.some.inj ((show Tryz.prog.funcNamed "loop.example/g00407/laws.FnExactEventRead" = some 3 by kernel_rfl).symm.trans hf) |>.symm
      obtain rfl : fn = Tryz.f3 := (Option.some.inj (Tryz.func3.symm.trans hfn)).symm
      exact ⟨by kernel_rfl, fun j t ht => by
        rw [Tryz.params3] at ht
        have hj : t = 22 := by
          have hm : t ∈ ([22] : List TypeId) := List.mem_of_getElem? (by simpa using ht)
          simpa using hm
        subst hj
        · exact (show Tryz.prog.wantsStandIn 22 = false by kernel_rfl)⟩)
    (by kernel_rfl)
end Go.Proofs.YtegcaaobpbocfaaGreatDoor
