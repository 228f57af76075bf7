/- Equations of functions of the program, as the machine answers them; conditions at each theorem. -/
import Derived.Test.YtnhmhmjgeffboaaS13
import Derived.Test.YtnhmhmjgeffboaaS8
namespace Go.Am.Try
open Go.Am Go.Proofs
set_option maxHeartbeats 2000000

theorem cmpI_neg (a b : Int) : (cmpI a b < 0) = (a < b) := by
  unfold cmpI
  by_cases h : a < b
  · simp [h]
  · by_cases h2 : b < a <;> simp [h, h2]
theorem cmpI_zero (a b : Int) : (cmpI a b = 0) = (a = b) := by
  unfold cmpI
  by_cases h : a < b
  · simp [h]; omega
  · by_cases h2 : b < a
    · simp [h, h2]; omega
    · simp [h, h2]; omega
theorem cmpE_less (x y : Int × Int) : decide (cmpE x y < 0) = less2 x y := by
  unfold cmpE less2
  by_cases h : cmpI x.1 y.1 = 0
  · rw [if_pos h]
    rw [cmpI_zero] at h
    simp only [cmpI_neg, h, Int.lt_irrefl, false_or, true_and]
  · rw [if_neg h]
    rw [cmpI_zero] at h
    simp only [cmpI_neg, h, false_and, or_false]

theorem ok_same {N M : Int} (h0 : 0 ≤ N) (h1 : N ≤ 20) (hM : IntKind.i64.wrap (N - 1) = M) (l : List (Int × Int)) (j : Nat) : okI M l j = okS N l j := by
  rw [wrap_id (by omega) (by omega)] at hM
  subst hM
  unfold okI okS
  cases hl : l[j]? with
  | none => rfl
  | some e =>
    simp only [inI]
    have ha : decide (0 ≤ e.1 ∧ e.1 ≤ N - 1) = (decide (0 ≤ e.1) && decide (e.1 < N)) := by rw [Bool.eq_iff_iff]; simp; omega
    have hb : decide (0 ≤ e.2 ∧ e.2 ≤ N - 1) = (decide (0 ≤ e.2) && decide (e.2 < N)) := by rw [Bool.eq_iff_iff]; simp; omega
    rw [ha, hb]
    cases l[j - 1]? with
    | none => simp only [Bool.and_assoc]
    | some e0 => simp only [cmpE_less, Bool.and_assoc]

theorem graph_same {N M : Int} (hM : IntKind.i64.wrap (N - 1) = M) (l : List (Int × Int)) :
    ((∀ j, okI M l j = true) ∧ inI N 0 20 = true ∧ l.length ≤ 400) = (0 ≤ N ∧ N ≤ 20 ∧ l.length ≤ 400 ∧ ∀ j, okS N l j = true) := by
  simp only [inI, decide_eq_true_eq, eq_iff_iff]
  constructor
  · rintro ⟨h1, ⟨h2, h3⟩, h4⟩
    exact ⟨h2, h3, h4, fun j => by rw [← ok_same h2 h3 hM]; exact h1 j⟩
  · rintro ⟨h2, h3, h4, h1⟩
    exact ⟨fun j => by rw [ok_same h2 h3 hM]; exact h1 j, ⟨h2, h3⟩, h4⟩

theorem viewE_encE (l : List (Int × Int)) : viewL (encE l) = encE l := by
  induction l with
  | nil => rfl
  | cons e l ih =>
    have : encE (e :: l) = [C.int .i64 e.1, C.int .i64 e.2] :: encE l := rfl
    rw [this]; simp only [viewL, viewE, viewC, ih]

open Classical in
theorem c3 (N : Int) (l : List (Int × Int)) (hl : l.length ≤ maxLen) : (mach cfg).call 3 [] [.val true [.int .i64 N, .seq (encE l)]] = some (.val false [.bool true], []) := by
  refine call_intro rfl (fn_of Try.func3 rfl rfl) ?_
  intro add sub mul quo rem neg conv nz eqI ltI leI maxI minI eqB notB eqS fits catS len lenS nat idx idxS byteI setL app cut cutS rep view pl uni room made bytes ofStr cln call loop L
  obtain ⟨M, hM⟩ : ∃ M, IntKind.i64.wrap (N - 1) = M := ⟨_, rfl⟩
  have hl2 : l.length ≤ 2 ^ 63 - 1 := hl
  have k8 := c8 N (encE l) 1048576 (by rw [encE_len]; omega) (by decide)
  rw [encE_len] at k8
  by_cases hn : l.length ≤ 2 ^ 20
  · have k10 := c10 N l hn
    obtain ⟨B, hB⟩ : ∃ B, B = decide (0 ≤ N ∧ N ≤ 20 ∧ l.length ≤ 400 ∧ ∀ j, okS N l j = true) := ⟨_, rfl⟩
    have k9 := c9 N l (by omega) B hB
    have k11 := c11 N M hM l (by omega) B (by rw [hB]; exact decide_eq_decide.2 (by rw [graph_same hM]))
    have k12 := c12 N l (by omega)
    have hv : view (encE l) = encE l := by rw [L.hview]; exact viewE_encE l
    have e0 : (if (1048576 : Int) - l.length < 0 then -1 else (1048576 : Int) - l.length) = (1048576 : Int) - l.length := by rw [if_neg (by omega)]
    rw [e0] at k8
    have e1 : ltI ((1048576 : Int) - l.length) 0 = false := by rw [L.hltI]; simp; omega
    generalize (1048576 : Int) - l.length = m at *
    rw [← L.hcall] at k8 k9 k10 k11 k12
    generalize encE l = X at *
    have nT : notB true = false := by rw [L.hnotB]; rfl
    have e2 : notB (eqB B B) = false := by rw [L.hnotB, L.heqB]; simp
    cbv; rw [k8]; cbv; rw [e1]; cbv; rw [k10]; cbv; rw [hv]; cbv; rw [k9]; cbv; rw [k10]; cbv; rw [hv]; cbv; rw [k11]; cbv; rw [e2]; cbv; rw [k10]; cbv; rw [hv]; cbv; rw [k12]; cbv; rw [nT]; cbv
  · rw [if_pos (by omega), ← L.hcall] at k8
    have e1 : ltI (-1) 0 = true := by rw [L.hltI]; rfl
    generalize encE l = X at *
    cbv; rw [k8]; cbv; rw [e1]; cbv
end Go.Am.Try
