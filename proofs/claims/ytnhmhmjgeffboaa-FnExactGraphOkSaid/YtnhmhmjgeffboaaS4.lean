/- Equations of functions of the program, as the machine answers them; conditions at each theorem. -/
import Derived.Test.YtnhmhmjgeffboaaS3
namespace Go.Am.Try
open Go.Am Go.Proofs
set_option maxHeartbeats 1000000

theorem c38 (a b c : Int) : (mach cfg).call 38 [] [.val false [.int .i64 a], .val false [.int .i64 b], .val false [.int .i64 c]] = some (.val false [.bool (decide (b ≤ a ∧ a ≤ c))], []) := by
  refine call_intro rfl (fn_of Try.func38 rfl rfl) ?_
  intro add sub mul quo rem neg conv nz eqI ltI leI maxI minI eqB notB eqS fits catS len lenS nat idx idxS byteI setL app cut cutS rep view pl uni room made bytes ofStr cln call loop L
  have e1 : leI b a = decide (b ≤ a) := L.hleI _ _
  have e2 : leI a c = decide (a ≤ c) := L.hleI _ _
  by_cases h1 : b ≤ a
  · by_cases h2 : a ≤ c <;> simp only [h1, h2, decide_true, decide_false, and_self, and_false] at e1 e2 ⊢
    · cbv; rw [e1]; cbv; rw [e2]
    · cbv; rw [e1]; cbv; rw [e2]
  · simp only [h1, decide_false, false_and] at e1 ⊢
    cbv; rw [e1]; cbv

theorem c98 (a b : Int) : (mach cfg).call 98 [] [.val false [.int .i64 a], .val false [.int .i64 b]] = some (.val false [.int .i64 (if a < b then -1 else if b < a then 1 else 0)], []) := by
  refine call_intro rfl (fn_of Try.func98 rfl rfl) ?_
  intro add sub mul quo rem neg conv nz eqI ltI leI maxI minI eqB notB eqS fits catS len lenS nat idx idxS byteI setL app cut cutS rep view pl uni room made bytes ofStr cln call loop L
  have k113 : ∀ n, call 113 [] [.val false [.int .i64 n]] = some (.val false [.bool false], []) := fun n => by rw [L.hcall]; exact c113 n
  have e1 : ltI a b = decide (a < b) := L.hltI _ _
  have e2 : ltI b a = decide (b < a) := L.hltI _ _
  by_cases h1 : a < b
  · rw [if_pos h1]; simp only [h1, decide_true] at e1
    cbv; rw [k113]; cbv; rw [k113]; cbv; rw [e1]; cbv
  · rw [if_neg h1]; simp only [h1, decide_false] at e1
    by_cases h2 : b < a
    · rw [if_pos h2]; simp only [h2, decide_true] at e2
      cbv; rw [k113]; cbv; rw [k113]; cbv; rw [e1]; cbv; rw [e2]; cbv
    · rw [if_neg h2]; simp only [h2, decide_false] at e2
      cbv; rw [k113]; cbv; rw [k113]; cbv; rw [e1]; cbv; rw [e2]; cbv

theorem c33 (a b c d : Int) : (mach cfg).call 33 [] [.val true [.int .i64 a, .int .i64 b], .val true [.int .i64 c, .int .i64 d]] = some (.val false [.bool (decide (a < c ∨ (a = c ∧ b < d)))], []) := by
  refine call_intro rfl (fn_of Try.func33 rfl rfl) ?_
  intro add sub mul quo rem neg conv nz eqI ltI leI maxI minI eqB notB eqS fits catS len lenS nat idx idxS byteI setL app cut cutS rep view pl uni room made bytes ofStr cln call loop L
  have e1 : ltI a c = decide (a < c) := L.hltI _ _
  have e2 : eqI a c = decide (a = c) := L.heqI _ _
  have e3 : ltI b d = decide (b < d) := L.hltI _ _
  by_cases h1 : a < c
  · simp only [h1, decide_true, true_or] at e1 ⊢
    cbv; rw [e1]; cbv
  · by_cases h2 : a = c
    · subst h2
      have e1' : ltI a a = false := by rw [e1]; simp
      have e2' : eqI a a = true := by rw [e2]; simp
      by_cases h3 : b < d
      · have e3' : ltI b d = true := by rw [e3]; simp [h3]
        rw [show decide (a < a ∨ a = a ∧ b < d) = true by simp [h3]]
        cbv; rw [e1']; cbv; rw [e2']; cbv; rw [e3']
      · have e3' : ltI b d = false := by rw [e3]; simp [h3]
        rw [show decide (a < a ∨ a = a ∧ b < d) = false by simp [h3]]
        cbv; rw [e1']; cbv; rw [e2']; cbv; rw [e3']
    · simp only [h1, h2, decide_false, false_or, false_and] at e1 e2 ⊢
      cbv; rw [e1]; cbv; rw [e2]; cbv

theorem c70 (a b : Int) : (mach cfg).call 70 [] [.val true [.int .i64 a, .int .i64 b]] = some (.val true [.int .i64 a, .int .i64 b], []) := by
  refine call_intro rfl (fn_of Try.func70 rfl rfl) ?_
  intro add sub mul quo rem neg conv nz eqI ltI leI maxI minI eqB notB eqS fits catS len lenS nat idx idxS byteI setL app cut cutS rep view pl uni room made bytes ofStr cln call loop L
  cbv

theorem c72 (a b c d : Int) : (mach cfg).call 72 [] [.val true [.int .i64 a, .int .i64 b], .val true [.int .i64 c, .int .i64 d]] = some (.val false [.bool (decide (a = c ∧ b = d))], []) := by
  refine call_intro rfl (fn_of Try.func72 rfl rfl) ?_
  intro add sub mul quo rem neg conv nz eqI ltI leI maxI minI eqB notB eqS fits catS len lenS nat idx idxS byteI setL app cut cutS rep view pl uni room made bytes ofStr cln call loop L
  have e1 : notB (eqI a c) = !decide (a = c) := by rw [L.hnotB, L.heqI]; rfl
  have e2 : notB (eqI b d) = !decide (b = d) := by rw [L.hnotB, L.heqI]; rfl
  by_cases h1 : a = c
  · by_cases h2 : b = d <;> simp only [h1, h2, decide_true, decide_false, Bool.not_true, Bool.not_false, and_self, and_false] at e1 e2 ⊢
    · cbv; rw [e1]; cbv; rw [e2]; cbv
    · cbv; rw [e1]; cbv; rw [e2]; cbv
  · simp only [h1, decide_false, Bool.not_false, false_and] at e1 ⊢
    cbv; rw [e1]; cbv
end Go.Am.Try
