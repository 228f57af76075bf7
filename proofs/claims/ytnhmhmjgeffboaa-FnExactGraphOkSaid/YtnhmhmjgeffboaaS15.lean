/- Equations of functions of the program, as the machine answers them; conditions at each theorem. -/
import Derived.Test.YtnhmhmjgeffboaaS14
import Derived.Test.YtnhmhmjgeffboaaS2b
import Derived.Test.YtnhmhmjgeffboaaAmC
import Derived.ProofKit
namespace Go.Am.Try
open Go.Am Go.Proofs

theorem argEdges {l : List (List C)} (h : ∀ x ∈ l, WT tblT 113 x) : ∃ l' : List (Int × Int), l = encE l' := by
  induction l with
  | nil => exact ⟨[], rfl⟩
  | cons x l ih =>
    obtain ⟨l', rfl⟩ := ih fun x hx => h x (by simp [hx])
    obtain ⟨css, rfl, hc⟩ := (h x (by simp)).struct_inv (i := ⟨.struct [(0, 3), (1, 3)], true, 2, 16, [.int .i64 0, .int .i64 0]⟩) rfl rfl
    cases hc with
    | cons h1 hc => cases hc with
      | cons h2 hc => cases hc with
        | nil =>
          obtain ⟨a, rfl, _⟩ := h1.int_inv (i := ⟨.int .i64, false, 1, 8, [.int .i64 0]⟩) rfl rfl
          obtain ⟨b, rfl, _⟩ := h2.int_inv (i := ⟨.int .i64, false, 1, 8, [.int .i64 0]⟩) rfl rfl
          exact ⟨(a, b) :: l', rfl⟩

theorem argGraph {a : V} (h : ArgOf tblT 24 a) : ∃ (N : Int) (l : List (Int × Int)), l.length ≤ maxLen ∧ a = .val true [.int .i64 N, .seq (encE l)] := by
  obtain ⟨i, cs, hi, rfl, hw⟩ := h
  have hi' : tblT 24 = some ⟨.struct [(0, 3), (1, 22)], true, 2, 32, [.int .i64 0, .nils]⟩ := rfl
  rw [hi'] at hi
  injection hi with hi
  subst hi
  obtain ⟨css, rfl, hc⟩ := hw.struct_inv hi' rfl
  cases hc with
  | cons h1 hc => cases hc with
    | cons h2 hc => cases hc with
      | nil =>
        obtain ⟨N, rfl, _⟩ := h1.int_inv (i := ⟨.int .i64, false, 1, 8, [.int .i64 0]⟩) rfl rfl
        obtain ⟨l, rfl, hl, hs⟩ := h2.slice_inv (e := 113) (i := ⟨.slice 113, false, 1, 24, [.nils]⟩) rfl rfl
        obtain ⟨l', rfl⟩ := argEdges hs
        exact ⟨N, l', by rw [encE_len] at hl; exact hl, rfl⟩
end Go.Am.Try

namespace Go.Proofs.Ytnhmhmjgeffboaa
open Go.ChangeShapes Go.WideShapes Go.ChangeAt Go.RowKit Go.Am

theorem Try.own : ownKnob Try.prog.godebug = none := by kernel_rfl
theorem Try.laidOut : laidOutB Try.prog = true := by kernel_rfl

theorem all2_one {α β : Type} {R : α → β → Prop} {a : α} {bs : List β} (h : All2 R [a] bs) : ∃ b, bs = [b] ∧ R a b := by
  cases h with
  | cons h1 h2 => cases h2; exact ⟨_, rfl, h1⟩

set_option maxRecDepth 100000 in
theorem graph_any {H : Type} {enc : TypeId × Value → H} {W : World} {base : Nat} {args : Array Value} {ds : List (DataW H)} {ps : List MemPlace}
    (hv : ∀ (j : Nat) t v, Try.f3.params[j]? = some t → args[j]? = some v → Value.okWide Try.prog W .any base t v)
    (hA : DataW.TrodAll enc Try.prog W 0 (fun _ => true) true Try.f3.params.toList args.toList ds ps) :
    Calls Try.prog 3 args W fun e W' => e = .returned (.bool true) ∧ Below W.heap.size W W' :=
  law_calls (cfg := Am.Try.cfg) Am.Try.tblGood Am.Try.fnsGood (fun f st xs r h => by cases h) Am.Try.mixOk (S := [24, 3, 22, 113]) (List.all_eq_true.1 (by kernel_rfl)) Try.func3 (by kernel_rfl) (by kernel_rfl) (by rw [Try.params3]; intro t ht; simp at ht; subst ht; simp) hv hA fun xs h => by
    rw [Try.params3] at h
    obtain ⟨a, rfl, ha⟩ := all2_one h
    obtain ⟨N, l, hl, rfl⟩ := Am.Try.argGraph ha
    exact Am.Try.c3 N l hl

set_option maxRecDepth 100000 in
theorem graph_lifted (os : Os) (started : os.Started) (H : Type) (enc : TypeId × Value → H) :
    ReturnsInHanded {} Try.checked os 3 .any (Rows.fnExactGraphOkSpec.pre6 enc Try.prog Try.f3 Rows.fnExactGraphOkRow.domain false) (Rows.fnExactGraphOkSpec.post enc Try.prog Try.f3 false true false false) := by
  refine returnsInHanded_of_change (C := Try.checked) Try.own started (by kernel_rfl) Try.func3
    (ChangeSpec.witness6 (enc := enc) (C := Try.checked) false ⟨#[], #[.agg #[.int .i64 0, .slice none 0 0]], []⟩ 8 (by kernel_rfl) (by kernel_rfl) (by kernel_rfl) (by kernel_rfl)) ?_
  intro W base args ds gs before hval0 hW hcnd _
  have hW' := hW
  obtain ⟨p, q, hA, hV, rfl, hfz, hnd⟩ := hW
  obtain ⟨rfl, _⟩ := trodVars_none hV
  have hds : ∃ d, ds = [d] := by
    have hA' := hA
    rw [Try.params3] at hA'
    obtain ⟨v0, vs, d0, ds', p0, q0, h1, rfl, h3, h4, h5⟩ := trodAll_cons hA'
    obtain ⟨h6, rfl, h7⟩ := trodAll_nil h5
    exact ⟨d0, rfl⟩
  obtain ⟨d, rfl⟩ := hds
  exact (graph_any hval0 hA).mono fun e W' ⟨he, hb⟩ => ⟨_, he,
    law_post (tb := 4) Try.laidOut rfl (by kernel_rfl) (by kernel_rfl) (by rw [Try.params3]; intro t ht; simp at ht; subst ht; exact ⟨by kernel_rfl, by decide +kernel⟩) hW' rfl hb⟩

theorem graph_holds : Rows.FnExactGraphOkSaid :=
  OpenClaim.holds_of_wide 3 Try.f3 rfl rfl rfl rfl rfl rfl rfl ⟨rfl, rfl, rfl, rfl, rfl⟩ rfl rfl rfl rfl rfl (by kernel_rfl) Try.func3 (by kernel_rfl)
    (of_decide_eq_true (by kernel_rfl)) (by unfold Func.isWrapper; rw [if_neg (by decide +kernel)]; exact ⟨rfl, rfl⟩)
    (fun os started H enc _ => graph_lifted os started H enc)
end Go.Proofs.Ytnhmhmjgeffboaa
