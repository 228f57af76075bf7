/- The law of FnExactExprOf, in plain terms. -/
import Derived.Test.YtoopljdbjefgoaaEG7
set_option linter.unusedVariables false
set_option linter.unusedSimpArgs false
namespace Go.Am.Try
open Go.Am
noncomputable section

def valB (v : GValue) : Bool := decide (shV 5 v = true ∧ (ptV v : Int) ≤ 40)
theorem szV_eq {v : GValue} {n : Int} (h : MdV v) (h0 : 0 ≤ n) (h1 : n ≤ 2 ^ 20) : S_laws_szValue v n = some (leftV (vsz v) n) := if_pos ⟨h, h0, h1⟩
theorem toV_eq {v : GValue} (h : vsz v ≤ 2 ^ 20) : S_laws_toValue v = some v := if_pos h
theorem eqV_eq {v : GValue} (h : vsz v ≤ 2 ^ 20) : S_laws_eqValue v v = some true := if_pos ⟨rfl, by omega⟩
theorem eqX_eq {v : GExpr} (h : xsz v ≤ 2 ^ 22) : S_laws_eqExpr v v = some true := if_pos ⟨rfl, by omega⟩
theorem specV_eq {v : GValue} (h : vsz v ≤ 2 ^ 20) : S_spec_ValOk v = some (valB v) := by
  unfold S_spec_ValOk S_spec_l2ok
  rw [if_pos ⟨h, by decide, by decide, by decide⟩, Option.bind_some]
  congr 1
  unfold okV valB
  rw [show (6 - (1 : Int)).toNat = 5 from rfl]
  by_cases hc : shV 5 v = true ∧ (ptV v : Int) ≤ 40
  · rw [if_pos hc, decide_eq_true hc]; exact decide_eq_true (by omega)
  · rw [if_neg hc, decide_eq_false hc]; rfl
theorem implV_eq {v : GValue} (h : vsz v ≤ 2 ^ 20) : S_impl_isValue v = some (valB v) := by
  unfold S_impl_isValue S_impl_isShaped S_impl_Value_parts valB
  rw [if_pos ⟨h, by decide, by decide⟩, Option.bind_some]
  rw [show (5 : Int).toNat = 5 from rfl]
  cases hs : shV 5 v
  · simp
  · dsimp only
    rw [if_pos h, Option.bind_some]
    simp
/-- What the expression of a value is, and whether there is one. -/
def eofB (v : GValue) : Bool := valB v && knV v
def eofX (v : GValue) : GExpr := if eofB v = true then xOf v else .mk 0 0 [] [] []
theorem specE_eq {v : GValue} (h : vsz v ≤ 2 ^ 20) : S_spec_ExprOf v = some (eofX v, eofB v) := by
  unfold S_spec_ExprOf eofX eofB
  rw [specV_eq h, Option.bind_some]
  cases hv : valB v with
  | false => rfl
  | true =>
    have hd : shV 5 v = true := by unfold valB at hv; exact (of_decide_eq_true hv).1
    dsimp only
    unfold S_spec_l7of
    rw [if_pos ⟨by omega, hd⟩, Option.bind_some]
    unfold ofR
    have hx := xsz_xOf v
    by_cases hk : knV v = true
    · rw [if_pos hk, hk]
      dsimp only
      unfold S_spec_l6ownExpr
      rw [if_pos (by omega), Option.bind_some]; rfl
    · rw [if_neg hk, Bool.eq_false_iff.2 hk]; rfl
theorem implE_eq {v : GValue} (h : vsz v ≤ 2 ^ 20) : S_impl_ExprOf v = some (eofX v, eofB v) := by
  unfold S_impl_ExprOf eofX eofB
  rw [implV_eq h, Option.bind_some]
  cases hv : valB v with
  | false => rfl
  | true =>
    dsimp only
    unfold S_impl_Value_known
    rw [if_pos (by omega), Option.bind_some]
    cases hk : knV v with
    | false => rfl
    | true =>
      dsimp only
      unfold S_impl_exprOf
      rw [if_pos (by omega), Option.bind_some]; rfl
theorem eofX_sz {v : GValue} (h : vsz v ≤ 2 ^ 20) : xsz (eofX v) ≤ 2 ^ 22 := by
  have := xsz_xOf v
  unfold eofX
  split
  · omega
  · simp [xsz, xszs, bsz]
theorem markV_eq {v : GValue} (h : vsz v ≤ 2 ^ 22) : ∃ k a b c, S_laws_markValue v.Kind v.N 1 v.S v.K v.L = some (k, a, b, c) ∧ 0 ≤ k := by
  have he := vsz_eq v
  have hb := bsz_cB v.K
  unfold S_laws_markValue
  rw [markByteS_eq (by decide) (by omega), Option.bind_some]
  dsimp only
  rw [markByteSS_eq (by omega) (by omega), Option.bind_some]
  dsimp only
  rw [markValueS_eq (by omega) (by omega), Option.bind_some]
  exact ⟨_, _, _, _, rfl, by omega⟩
theorem markX_eq {g : GExpr} (h : xsz g ≤ 2 ^ 22) : ∃ k a b c, S_laws_markExpr g.Kind g.N 1 g.S g.K g.Kids = some (k, a, b, c) ∧ 0 ≤ k ∧ S_laws_heldExpr (GExpr.mk g.Kind g.N a b c) 1 = some k := by
  have he := xsz_eq g
  have hb := bsz_cB g.K
  have hc := cXs_le g.Kids
  unfold S_laws_markExpr
  rw [markByteS_eq (by decide) (by omega), Option.bind_some]
  dsimp only
  rw [markByteSS_eq (by omega) (by omega), Option.bind_some]
  dsimp only
  rw [markExprS_eq (by omega) (by omega), Option.bind_some]
  refine ⟨_, _, _, _, rfl, by omega, ?_⟩
  unfold S_laws_heldExpr
  rw [heldByteS_eq (s := (GExpr.mk g.Kind g.N _ _ _).S) (mB_idem _ _) (by decide) (by rw [show (GExpr.mk g.Kind g.N (mB 1 g.S) (mBB (1 + g.S.length) g.K) (mXs (1 + g.S.length + cB g.K) g.Kids)).S = mB 1 g.S from rfl, mB_len]; omega), Option.bind_some]
  rw [show (GExpr.mk g.Kind g.N (mB 1 g.S) (mBB (1 + g.S.length) g.K) (mXs (1 + g.S.length + cB g.K) g.Kids)).S = mB 1 g.S from rfl, show (GExpr.mk g.Kind g.N (mB 1 g.S) (mBB (1 + g.S.length) g.K) (mXs (1 + g.S.length + cB g.K) g.Kids)).K = mBB (1 + g.S.length) g.K from rfl, show (GExpr.mk g.Kind g.N (mB 1 g.S) (mBB (1 + g.S.length) g.K) (mXs (1 + g.S.length + cB g.K) g.Kids)).Kids = mXs (1 + g.S.length + cB g.K) g.Kids from rfl, mB_len]
  rw [if_neg (by omega), heldByteSS_eq (mBB_idem _ _) (by omega) (by rw [bsz_mBB]; omega), Option.bind_some, cB_mBB, if_neg (by omega), heldExprS_eq (mXs_idem _ _) (by omega) (by rw [xszs_m]; omega), Option.bind_some, cXs_m, if_neg (by omega)]
theorem law_ExprOf {v : GValue} (h : MdV v) : S_laws_FnExactExprOf v = some true := by
  unfold S_laws_FnExactExprOf
  rw [szV_eq h (by decide) (by decide), Option.bind_some]
  unfold leftV
  by_cases c : (vsz v : Int) ≤ 1048576
  · have h : vsz v ≤ 2 ^ 20 := by omega
    obtain ⟨k, a, b, d, hm, hk⟩ := markV_eq (v := v) (by omega)
    obtain ⟨k', a', b', d', hm', hk', hh⟩ := markX_eq (eofX_sz h)
    rw [if_pos c, if_neg (by omega), toV_eq h, Option.bind_some, specE_eq h, Option.bind_some, implE_eq h]
    dsimp only
    rw [Option.bind_some]
    dsimp only
    rw [eqX_eq (eofX_sz h), Option.bind_some]
    dsimp only
    rw [eqV_eq h, hm, hm']
    cases eofB v with
    | true =>
      simp only [Option.bind_some]
      rw [if_neg (by omega), hh]
      simp only [Option.bind_some]
      rw [if_neg (by omega)]; simp
    | false =>
      simp only [Option.bind_some]
      rw [if_neg (by omega), hh]
      simp only [Option.bind_some]
      rw [if_neg (by omega)]; simp
  · rw [if_neg c, if_pos (by omega)]
end
end Go.Am.Try
