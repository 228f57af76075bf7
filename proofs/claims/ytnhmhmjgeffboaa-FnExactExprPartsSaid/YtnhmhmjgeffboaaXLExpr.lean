/- The law of FnExactExprParts, in plain terms. -/
import Derived.Test.YtnhmhmjgeffboaaXG5
set_option linter.unusedVariables false
set_option linter.unusedSimpArgs false
namespace Go.Am.Try
open Go.Am
noncomputable section

open Classical in
def exB (v : GExpr) : Bool := decide (frX 10 v = true ∧ (ptX v : Int) ≤ 150)
theorem specX_eq {v : GExpr} (h : xsz v ≤ 2 ^ 20) : S_spec_ExprOk v = some (exB v) := by
  unfold S_spec_ExprOk S_spec_l6expr
  rw [if_pos ⟨h, by decide, by decide, by decide⟩, Option.bind_some]
  congr 1
  unfold exB
  rw [show (11 - (1 : Int)).toNat = 10 from rfl]
  by_cases hc : frX 10 v = true ∧ (ptX v : Int) ≤ 150
  · rw [show okX 10 150 v = 150 - ptX v from if_pos hc, decide_eq_true hc]; exact decide_eq_true (by omega)
  · rw [show okX 10 150 v = -1 from if_neg hc, decide_eq_false hc]; rfl
theorem implX_eq {v : GExpr} (h : xsz v ≤ 2 ^ 20) : S_impl_isExpr v = some (exB v) := by
  unfold S_impl_isExpr S_impl_isFormed S_impl_Expr_parts exB
  rw [if_pos ⟨h, by decide, by decide⟩, Option.bind_some]
  rw [show (10 : Int).toNat = 10 from rfl]
  cases hs : frX 10 v
  · simp
  · dsimp only
    rw [if_pos h, Option.bind_some]
    simp
def prX (v : GExpr) : Int := if exB v = true then ptX v else 0
theorem specP_eq {v : GExpr} (h : xsz v ≤ 2 ^ 20) : S_spec_ExprParts v = some (prX v) := by
  unfold S_spec_ExprParts S_spec_l7parts prX
  rw [specX_eq h, Option.bind_some, if_pos h]
  cases exB v <;> rfl
theorem implP_eq {v : GExpr} (h : xsz v ≤ 2 ^ 20) : S_impl_ExprParts v = some (prX v) := by
  unfold S_impl_ExprParts S_impl_Expr_parts prX
  rw [implX_eq h, Option.bind_some, if_pos h]
  cases exB v <;> rfl
theorem law_ExprParts {v : GExpr} (h : MdX v) : S_laws_FnExactExprParts v = some true := by
  unfold S_laws_FnExactExprParts S_laws_szExpr S_laws_toExpr S_laws_eqExpr
  rw [if_pos ⟨h, by decide, by decide⟩, Option.bind_some]
  unfold leftV
  by_cases c : (xsz v : Int) ≤ 1048576
  · have h : xsz v ≤ 2 ^ 20 := by omega
    rw [if_pos c, if_neg (by omega), if_pos h, Option.bind_some, specP_eq h, Option.bind_some, implP_eq h, Option.bind_some, if_pos rfl, if_pos ⟨rfl, h⟩]
    rfl
  · rw [if_neg c, if_pos (by omega)]
end
end Go.Am.Try
