/- The law of FnExactCall, in plain terms. -/
import Derived.Test.YtoopljdbjefgoaaCG5
set_option linter.unusedVariables false
set_option linter.unusedSimpArgs false
namespace Go.Am.Try
open Go.Am
noncomputable section
theorem szV_eq {v : GValue} {n : Int} (h : MdV v) (h0 : 0 ≤ n) (h1 : n ≤ 2 ^ 20) : S_laws_szValue v n = some (leftV (vsz v) n) := if_pos ⟨h, h0, h1⟩
theorem toV_eq {v : GValue} (h : vsz v ≤ 2 ^ 20) : S_laws_toValue v = some v := if_pos h
theorem eqV_eq {v : GValue} (h : vsz v ≤ 2 ^ 39) : S_laws_eqValue v v = some true := if_pos ⟨rfl, by omega⟩
theorem toB_eq {s : List UInt8} (h : s.length ≤ 2 ^ 20) : S_laws_toByteS s = some s := if_pos h
theorem eqB_eq {s : List UInt8} (h : s.length ≤ 2 ^ 39) : S_laws_eqByteS s s = some true := if_pos ⟨rfl, by omega⟩
theorem markVh_eq {g : GValue} (h : vsz g ≤ 2 ^ 30) : ∃ k a b c, S_laws_markValue g.Kind g.N 1 g.S g.K g.L = some (k, a, b, c) ∧ 0 ≤ k ∧ S_laws_heldValue (GValue.mk g.Kind g.N a b c) 1 = some k := by
  have he := vsz_eq g
  have hb := bsz_cB g.K
  have hc := cVs_le g.L
  unfold S_laws_markValue
  rw [markByteS_eq (by decide) (by omega), Option.bind_some]
  dsimp only
  rw [markByteSS_eq (by omega) (by omega), Option.bind_some]
  dsimp only
  rw [markValueS_eq (by omega) (by omega), Option.bind_some]
  refine ⟨_, _, _, _, rfl, by omega, ?_⟩
  unfold S_laws_heldValue
  rw [heldByteS_eq (s := (GValue.mk g.Kind g.N _ _ _).S) (mB_idem _ _) (by decide) (by rw [show (GValue.mk g.Kind g.N (mB 1 g.S) (mBB (1 + g.S.length) g.K) (mVs (1 + g.S.length + cB g.K) g.L)).S = mB 1 g.S from rfl, mB_len]; omega), Option.bind_some]
  rw [show (GValue.mk g.Kind g.N (mB 1 g.S) (mBB (1 + g.S.length) g.K) (mVs (1 + g.S.length + cB g.K) g.L)).S = mB 1 g.S from rfl, show (GValue.mk g.Kind g.N (mB 1 g.S) (mBB (1 + g.S.length) g.K) (mVs (1 + g.S.length + cB g.K) g.L)).K = mBB (1 + g.S.length) g.K from rfl, show (GValue.mk g.Kind g.N (mB 1 g.S) (mBB (1 + g.S.length) g.K) (mVs (1 + g.S.length + cB g.K) g.L)).L = mVs (1 + g.S.length + cB g.K) g.L from rfl, mB_len]
  rw [if_neg (by omega), heldByteSS_eq (mBB_idem _ _) (by omega) (by rw [bsz_mBB]; omega), Option.bind_some, cB_mBB, if_neg (by omega), heldValueS_eq (mVs_idem _ _) (by omega) (by rw [vszs_m]; omega), Option.bind_some, cVs_m, if_neg (by omega)]
theorem szVs_eq {l : List GValue} {n : Int} (hl : l.length ≤ 2 ^ 63 - 1) (h : MdVs l) (h0 : 0 ≤ n) (h1 : n ≤ 2 ^ 20) : S_laws_szValueS l n = some (leftV (vszs l) n) := if_pos ⟨hl, h, h0, h1⟩
theorem callS_code (a : List UInt8) (l : List GValue) (h : (callS a l).2 ≠ 0) : (callS a l).1 = zV := by
  revert h
  unfold callS callR
  split
  · exact fun _ => rfl
  split
  · split
    · exact fun _ => rfl
    split
    · split
      · split
        · unfold appR
          intro h
          revert h
          split
          · intro h; exact (h rfl).elim
          split
          · split
            · exact fun _ => rfl
            · intro h; exact (h rfl).elim
          split
          · intro h; exact (h rfl).elim
          split
          · intro h; exact (h rfl).elim
          split
          · intro h; exact (h rfl).elim
          split <;> (intro h; exact (h rfl).elim)
        · intro h; exact (h rfl).elim
      · exact fun _ => rfl
    · exact fun _ => rfl
  · exact fun _ => rfl
theorem implC_eq {a : List UInt8} {l : List GValue} (hs : ∀ v ∈ l, vsz v ≤ 2 ^ 20) (hl : l.length ≤ 2 ^ 39) : S_impl_Call a l = some (callS a l) := by
  unfold S_impl_Call S_impl_call
  rw [if_pos ⟨hs, hl⟩, Option.bind_some]
  have hz := vsz_app (a := a) hs
  have hc := callS_code a l
  generalize callS a l = r at hz hc
  obtain ⟨x, k⟩ := r
  dsimp only at hz hc ⊢
  by_cases h : k = 0
  · subst h
    rw [if_pos rfl]
    unfold S_impl_copyValue
    rw [if_pos (by omega)]; rfl
  · rw [if_neg h, hc h]; rfl
theorem specC_eq {a : List UInt8} {l : List GValue} (hs : ∀ v ∈ l, vsz v ≤ 2 ^ 20) (hl : l.length ≤ 2 ^ 39) : S_spec_Call a l = some (callS a l) := if_pos ⟨hs, hl⟩
theorem law_Call {a : List UInt8} {l : List GValue} (_ : a.length ≤ 2 ^ 63 - 1) (hl : l.length ≤ 2 ^ 63 - 1 ∧ MdVs l) : S_laws_FnExactCall a l = some true := by
  unfold S_laws_FnExactCall
  by_cases ca : 1048576 < ((a.length : Nat) : Int)
  · rw [if_pos ca]
  rw [if_neg ca, szVs_eq hl.1 hl.2 (by decide) (by decide), Option.bind_some]
  unfold leftV
  by_cases c : (vszs l : Int) ≤ 1048576
  · have hz : vszs l ≤ 2 ^ 20 := by omega
    have ha : a.length ≤ 2 ^ 20 := by omega
    have hll := vszs_len l
    have hs : ∀ v ∈ l, vsz v ≤ 2 ^ 20 := fun v hv => by have := vszs_mem hv; omega
    have hr := vsz_app (a := a) hs
    rw [if_pos c, if_neg (by omega), toB_eq ha, Option.bind_some]
    unfold S_laws_toValueS S_laws_eqValueS
    rw [if_pos hz, Option.bind_some, specC_eq hs (by omega), Option.bind_some, implC_eq hs (by omega)]
    generalize callS a l = r at hr
    obtain ⟨x, k⟩ := r
    dsimp only at hr
    obtain ⟨k', x', y', z', hm', hk', hh⟩ := markVh_eq (g := x) (by omega)
    have hc := cVs_le l
    dsimp only
    rw [Option.bind_some]
    dsimp only
    rw [eqV_eq (v := x) (by omega), Option.bind_some]
    dsimp only
    rw [if_pos rfl, eqB_eq (s := a) (by omega), Option.bind_some]
    dsimp only
    rw [if_pos ⟨rfl, by omega⟩, Option.bind_some]
    dsimp only
    rw [markByteS_eq (by omega) (by omega), Option.bind_some]
    dsimp only
    rw [markValueS_eq (by omega) (by omega), Option.bind_some]
    dsimp only
    rw [if_neg (by omega), hm', Option.bind_some]
    dsimp only
    rw [hh, Option.bind_some, if_neg (by omega)]; simp
  · rw [if_neg c, if_pos (by omega)]
end
end Go.Am.Try
