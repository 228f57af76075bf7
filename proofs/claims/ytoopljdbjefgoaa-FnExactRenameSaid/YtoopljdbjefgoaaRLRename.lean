/- The law of FnExactRename, in plain terms. -/
import Derived.Test.YtoopljdbjefgoaaRG5
set_option linter.unusedVariables false
set_option linter.unusedSimpArgs false
namespace Go.Am.Try
open Go.Am
noncomputable section
theorem szX_eq {v : GExpr} {n : Int} (h : MdX v) (h0 : 0 ≤ n) (h1 : n ≤ 2 ^ 20) : S_laws_szExpr v n = some (leftV (xsz v) n) := if_pos ⟨h, h0, h1⟩
theorem toX_eq {v : GExpr} (h : xsz v ≤ 2 ^ 20) : S_laws_toExpr v = some v := if_pos h
theorem eqX_eq {v : GExpr} (h : xsz v ≤ 2 ^ 39) : S_laws_eqExpr v v = some true := if_pos ⟨rfl, by omega⟩
theorem toB_eq {s : List UInt8} (h : s.length ≤ 2 ^ 20) : S_laws_toByteS s = some s := if_pos h
theorem eqB_eq {s : List UInt8} (h : s.length ≤ 2 ^ 39) : S_laws_eqByteS s s = some true := if_pos ⟨rfl, by omega⟩
open Classical in
def exB (v : GExpr) : Bool := decide (frX 10 v = true ∧ (ptX v : Int) ≤ 150)
theorem specX_eq {v : GExpr} (h : xsz v ≤ 2 ^ 20) : S_spec_ExprOk v = some (exB v) := by
  unfold S_spec_ExprOk S_spec_l6expr
  rw [if_pos ⟨h, by decide, by decide, by decide⟩, Option.bind_some]
  congr 1
  unfold exB
  rw [show (11 - (1 : Int)).toNat = 10 from rfl]
  by_cases hc : frX 10 v = true ∧ (ptX v : Int) ≤ 150
  · rw [show okX 10 150 v = 150 - ptX v from if_pos hc, decide_eq_true hc]; exact decide_eq_true (by omega)
  · rw [show okX 10 150 v = -1 from if_neg hc, decide_eq_false hc]; rfl
theorem implX_eq {v : GExpr} (h : xsz v ≤ 2 ^ 20) : S_impl_isExpr v = some (exB v) := by
  unfold S_impl_isExpr S_impl_isFormed S_impl_Expr_parts exB
  rw [if_pos ⟨h, by decide, by decide⟩, Option.bind_some]
  rw [show (10 : Int).toNat = 10 from rfl]
  cases hs : frX 10 v
  · simp
  · dsimp only
    rw [if_pos h, Option.bind_some]
    simp
theorem markX0_eq {v : GExpr} {i : Int} (h : xsz v ≤ 2 ^ 30) (h0 : 0 ≤ i) (h1 : i ≤ 2 ^ 40) : ∃ k a b c, S_laws_markExpr v.Kind v.N i v.S v.K v.Kids = some (k, a, b, c) ∧ 0 ≤ k ∧ k ≤ i + 2 * xsz v := by
  have he := xsz_eq v
  have hb := bsz_cB v.K
  have hc := cXs_le v.Kids
  unfold S_laws_markExpr
  rw [markByteS_eq (by omega) (by omega), Option.bind_some]
  dsimp only
  rw [markByteSS_eq (by omega) (by omega), Option.bind_some]
  dsimp only
  rw [markExprS_eq (by omega) (by omega), Option.bind_some]
  exact ⟨_, _, _, _, rfl, by omega, by omega⟩
theorem markX_eq {g : GExpr} (h : xsz g ≤ 2 ^ 30) : ∃ k a b c, S_laws_markExpr g.Kind g.N 1 g.S g.K g.Kids = some (k, a, b, c) ∧ 0 ≤ k ∧ S_laws_heldExpr (GExpr.mk g.Kind g.N a b c) 1 = some k := by
  have he := xsz_eq g
  have hb := bsz_cB g.K
  have hc := cXs_le g.Kids
  unfold S_laws_markExpr
  rw [markByteS_eq (by decide) (by omega), Option.bind_some]
  dsimp only
  rw [markByteSS_eq (by omega) (by omega), Option.bind_some]
  dsimp only
  rw [markExprS_eq (by omega) (by omega), Option.bind_some]
  refine ⟨_, _, _, _, rfl, by omega, ?_⟩
  unfold S_laws_heldExpr
  rw [heldByteS_eq (s := (GExpr.mk g.Kind g.N _ _ _).S) (mB_idem _ _) (by decide) (by rw [show (GExpr.mk g.Kind g.N (mB 1 g.S) (mBB (1 + g.S.length) g.K) (mXs (1 + g.S.length + cB g.K) g.Kids)).S = mB 1 g.S from rfl, mB_len]; omega), Option.bind_some]
  rw [show (GExpr.mk g.Kind g.N (mB 1 g.S) (mBB (1 + g.S.length) g.K) (mXs (1 + g.S.length + cB g.K) g.Kids)).S = mB 1 g.S from rfl, show (GExpr.mk g.Kind g.N (mB 1 g.S) (mBB (1 + g.S.length) g.K) (mXs (1 + g.S.length + cB g.K) g.Kids)).K = mBB (1 + g.S.length) g.K from rfl, show (GExpr.mk g.Kind g.N (mB 1 g.S) (mBB (1 + g.S.length) g.K) (mXs (1 + g.S.length + cB g.K) g.Kids)).Kids = mXs (1 + g.S.length + cB g.K) g.Kids from rfl, mB_len]
  rw [if_neg (by omega), heldByteSS_eq (mBB_idem _ _) (by omega) (by rw [bsz_mBB]; omega), Option.bind_some, cB_mBB, if_neg (by omega), heldExprS_eq (mXs_idem _ _) (by omega) (by rw [xszs_m]; omega), Option.bind_some, cXs_m, if_neg (by omega)]
theorem specN_eq {s : List UInt8} (h : s.length ≤ 2 ^ 20) : S_spec_NameOk s = some (nameB s) := if_pos h
theorem implN_eq {s : List UInt8} (h : s.length ≤ 2 ^ 20) : S_impl_isName s = some (nameB s) := if_pos h
def renB (v : GExpr) (a b : List UInt8) : Bool := exB v && (nameB a && nameB b)
def renX (v : GExpr) (a b : List UInt8) : GExpr := if renB v a b = true then rnX a b v else .mk 0 0 [] [] []
theorem name_len {b : List UInt8} (h : nameB b = true) : b.length ≤ 8 := by
  unfold nameB at h
  rw [Bool.and_eq_true] at h
  exact (of_decide_eq_true h.1).2
theorem specR_eq {v : GExpr} {a b : List UInt8} (h : xsz v ≤ 2 ^ 20) (ha : a.length ≤ 2 ^ 20) (hb : b.length ≤ 2 ^ 20) : S_spec_Rename v a b = some (renX v a b, renB v a b) := by
  unfold S_spec_Rename renX renB
  rw [specX_eq h, specN_eq ha, specN_eq hb]
  cases exB v with
  | false => rfl
  | true =>
    cases nameB a with
    | false => rfl
    | true =>
      cases hn : nameB b with
      | false => rfl
      | true =>
        have := xsz_rn a b (name_len hn) v
        simp only [Option.bind_some]
        unfold S_spec_l7rename S_spec_l6ownExpr
        rw [if_pos (by omega), Option.bind_some, if_pos (by omega)]; rfl
theorem implR_eq {v : GExpr} {a b : List UInt8} (h : xsz v ≤ 2 ^ 20) (ha : a.length ≤ 2 ^ 20) (hb : b.length ≤ 2 ^ 20) : S_impl_Rename v a b = some (renX v a b, renB v a b) := by
  unfold S_impl_Rename renX renB
  rw [implX_eq h, implN_eq ha, implN_eq hb]
  cases exB v with
  | false => rfl
  | true =>
    cases nameB a with
    | false => rfl
    | true =>
      cases hn : nameB b with
      | false => rfl
      | true =>
        simp only [Option.bind_some]
        unfold S_impl_Expr_renamed
        rw [if_pos ⟨by omega, by omega⟩]; rfl
theorem renX_sz {v : GExpr} {a b : List UInt8} (h : xsz v ≤ 2 ^ 20) : xsz (renX v a b) ≤ 2 ^ 25 := by
  unfold renX renB
  split
  · rename_i hc
    rw [Bool.and_eq_true, Bool.and_eq_true] at hc
    have := xsz_rn a b (name_len hc.2.2) v
    omega
  · simp [xsz, xszs, bsz]
theorem law_Rename {v : GExpr} {a b : List UInt8} (h : MdX v) (_ : a.length ≤ 2 ^ 63 - 1) (_ : b.length ≤ 2 ^ 63 - 1) : S_laws_FnExactRename v a b = some true := by
  unfold S_laws_FnExactRename
  by_cases ca : 1048576 < ((a.length : Nat) : Int)
  · rw [if_pos ca]
  by_cases cb : 1048576 < ((b.length : Nat) : Int)
  · rw [if_neg ca, if_pos cb]
  rw [if_neg ca, if_neg cb, szX_eq h (by decide) (by decide), Option.bind_some]
  unfold leftV
  by_cases c : (xsz v : Int) ≤ 1048576
  · have h : xsz v ≤ 2 ^ 20 := by omega
    have ha : a.length ≤ 2 ^ 20 := by omega
    have hb : b.length ≤ 2 ^ 20 := by omega
    obtain ⟨k, x, y, z, hm, hk, hk2⟩ := markX0_eq (v := v) (i := 1) (by omega) (by decide) (by decide)
    obtain ⟨k', x', y', z', hm', hk', hh⟩ := markX_eq (g := renX v a b) (by have := renX_sz (a := a) (b := b) h; omega)
    rw [if_pos c, if_neg (by omega), toX_eq h, Option.bind_some, toB_eq ha, Option.bind_some, toB_eq hb, Option.bind_some, specR_eq h ha hb, Option.bind_some, implR_eq h ha hb]
    dsimp only
    rw [Option.bind_some]
    dsimp only
    rw [eqX_eq (v := renX v a b) (by have := renX_sz (a := a) (b := b) h; omega), Option.bind_some]
    dsimp only
    rw [eqX_eq (v := v) (by omega), eqB_eq (s := a) (by omega), eqB_eq (s := b) (by omega), hm, hm']
    cases renB v a b with
    | true =>
      simp only [Option.bind_some]
      rw [markByteS_eq (by omega) (by omega), Option.bind_some]
      dsimp only
      rw [markByteS_eq (by omega) (by omega), Option.bind_some]
      dsimp only
      rw [if_neg (by omega), hh]
      simp only [Option.bind_some]
      rw [if_neg (by omega)]; simp
    | false =>
      simp only [Option.bind_some]
      rw [markByteS_eq (by omega) (by omega), Option.bind_some]
      dsimp only
      rw [markByteS_eq (by omega) (by omega), Option.bind_some]
      dsimp only
      rw [if_neg (by omega), hh]
      simp only [Option.bind_some]
      rw [if_neg (by omega)]; simp
  · rw [if_neg c, if_pos (by omega)]
end
end Go.Am.Try
