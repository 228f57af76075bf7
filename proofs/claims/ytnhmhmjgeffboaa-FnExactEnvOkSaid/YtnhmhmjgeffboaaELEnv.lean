/- The law of FnExactEnvOk, in plain terms. -/
import Derived.Test.YtnhmhmjgeffboaaEG4
set_option linter.unusedVariables false
set_option linter.unusedSimpArgs false
namespace Go.Am.Try
open Go.Am
noncomputable section

def valB (v : GValue) : Bool := decide (shV 5 v = true ∧ (ptV v : Int) ≤ 40)
theorem szV_eq {v : GValue} {n : Int} (h : MdV v) (h0 : 0 ≤ n) (h1 : n ≤ 2 ^ 20) : S_laws_szValue v n = some (leftV (vsz v) n) := if_pos ⟨h, h0, h1⟩
theorem toV_eq {v : GValue} (h : vsz v ≤ 2 ^ 20) : S_laws_toValue v = some v := if_pos h
theorem eqV_eq {v : GValue} (h : vsz v ≤ 2 ^ 20) : S_laws_eqValue v v = some true := if_pos ⟨rfl, h⟩
theorem specV_eq {v : GValue} (h : vsz v ≤ 2 ^ 20) : S_spec_ValOk v = some (valB v) := by
  unfold S_spec_ValOk S_spec_l2ok
  rw [if_pos ⟨h, by decide, by decide, by decide⟩, Option.bind_some]
  congr 1
  unfold okV valB
  rw [show (6 - (1 : Int)).toNat = 5 from rfl]
  by_cases hc : shV 5 v = true ∧ (ptV v : Int) ≤ 40
  · rw [if_pos hc, decide_eq_true hc]; exact decide_eq_true (by omega)
  · rw [if_neg hc, decide_eq_false hc]; rfl
theorem implV_eq {v : GValue} (h : vsz v ≤ 2 ^ 20) : S_impl_isValue v = some (valB v) := by
  unfold S_impl_isValue S_impl_isShaped S_impl_Value_parts valB
  rw [if_pos ⟨h, by decide, by decide⟩, Option.bind_some]
  rw [show (5 : Int).toNat = 5 from rfl]
  cases hs : shV 5 v
  · simp
  · dsimp only
    rw [if_pos h, Option.bind_some]
    simp
def envB (e : GEnv) : Bool := valB e.Locals && (decide (e.Locals.Kind = 5) && (valB e.Res && (decide (e.Res.Kind = 5) && (valB e.Index && (valB e.Key && valB e.Val)))))
structure SmE (e : GEnv) : Prop where
  l : vsz e.Locals ≤ 2 ^ 20
  r : vsz e.Res ≤ 2 ^ 20
  i : vsz e.Index ≤ 2 ^ 20
  k : vsz e.Key ≤ 2 ^ 20
  v : vsz e.Val ≤ 2 ^ 20
theorem specEnv_eq {e : GEnv} (h : SmE e) : S_spec_EnvOk e = some (envB e) := by
  unfold S_spec_EnvOk envB
  rw [specV_eq h.l, specV_eq h.r, specV_eq h.i, specV_eq h.k, specV_eq h.v]
  simp only [Option.bind_some]
  cases valB e.Locals <;> by_cases h1 : e.Locals.Kind = 5 <;> cases valB e.Res <;> by_cases h2 : e.Res.Kind = 5 <;> cases valB e.Index <;> cases valB e.Key <;> simp [h1, h2]
theorem implEnv_eq {e : GEnv} (h : SmE e) : S_impl_EnvOk e = some (envB e) := by
  unfold S_impl_EnvOk S_impl_isEnv S_impl_isMap envB
  rw [implV_eq h.l, implV_eq h.r, implV_eq h.i, implV_eq h.k, implV_eq h.v]
  simp only [Option.bind_some]
  cases valB e.Locals <;> by_cases h1 : e.Locals.Kind = 5 <;> cases valB e.Res <;> by_cases h2 : e.Res.Kind = 5 <;> cases valB e.Index <;> cases valB e.Key <;> simp [h1, h2]
theorem toEnv_eq {e : GEnv} (h : SmE e) : S_laws_toEnv e = some e := by
  unfold S_laws_toEnv
  rw [toV_eq h.l, toV_eq h.r, toV_eq h.i, toV_eq h.k, toV_eq h.v]
  simp only [Option.bind_some]
  cases e; rfl
theorem eqEnv_eq {e : GEnv} (h : SmE e) : S_laws_eqEnv e e = some true := by
  unfold S_laws_eqEnv
  rw [eqV_eq h.l, eqV_eq h.r, eqV_eq h.i, eqV_eq h.k, eqV_eq h.v]
  rfl
structure MdE (e : GEnv) : Prop where
  l : MdV e.Locals
  r : MdV e.Res
  i : MdV e.Index
  k : MdV e.Key
  v : MdV e.Val
theorem szEnv_eq {e : GEnv} (h : MdE e) : ∃ r, S_laws_szEnv e 1048576 = some r ∧ (¬ r < 0 → SmE e) := by
  unfold S_laws_szEnv
  rw [szV_eq h.l (by decide) (by decide), Option.bind_some]
  unfold leftV
  by_cases c1 : (vsz e.Locals : Int) ≤ 1048576
  · rw [if_pos c1, if_neg (by omega), szV_eq h.r (by omega) (by omega), Option.bind_some]
    unfold leftV
    by_cases c2 : (vsz e.Res : Int) ≤ 1048576 - vsz e.Locals
    · rw [if_pos c2, if_neg (by omega), szV_eq h.i (by omega) (by omega), Option.bind_some]
      unfold leftV
      by_cases c3 : (vsz e.Index : Int) ≤ 1048576 - vsz e.Locals - vsz e.Res
      · rw [if_pos c3, if_neg (by omega), szV_eq h.k (by omega) (by omega), Option.bind_some]
        unfold leftV
        by_cases c4 : (vsz e.Key : Int) ≤ 1048576 - vsz e.Locals - vsz e.Res - vsz e.Index
        · rw [if_pos c4, if_neg (by omega), szV_eq h.v (by omega) (by omega), Option.bind_some]
          unfold leftV
          by_cases c5 : (vsz e.Val : Int) ≤ 1048576 - vsz e.Locals - vsz e.Res - vsz e.Index - vsz e.Key
          · rw [if_pos c5, if_neg (by omega)]
            exact ⟨_, rfl, fun _ => ⟨by omega, by omega, by omega, by omega, by omega⟩⟩
          · rw [if_neg c5]
            exact ⟨_, if_pos (by omega), fun h => absurd (by omega) h⟩
        · rw [if_neg c4]
          exact ⟨_, if_pos (by omega), fun h => absurd (by omega) h⟩
      · rw [if_neg c3]
        exact ⟨_, if_pos (by omega), fun h => absurd (by omega) h⟩
    · rw [if_neg c2]
      exact ⟨_, if_pos (by omega), fun h => absurd (by omega) h⟩
  · rw [if_neg c1]
    exact ⟨_, if_pos (by omega), fun h => absurd (by omega) h⟩
theorem law_EnvOk {e : GEnv} (h : MdE e) : S_laws_FnExactEnvOk e = some true := by
  unfold S_laws_FnExactEnvOk
  obtain ⟨r, hr, hs⟩ := szEnv_eq h
  rw [hr, Option.bind_some]
  by_cases hn : r < 0
  · rw [if_pos hn]
  · have h := hs hn
    rw [if_neg hn, toEnv_eq h, Option.bind_some, specEnv_eq h, Option.bind_some, implEnv_eq h, Option.bind_some, eqEnv_eq h]
    simp only [Option.bind_some]
    cases envB e <;> rfl
end
end Go.Am.Try
