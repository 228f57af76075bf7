/- The law of FnExactEventOk, in plain terms. -/
import Derived.Test.YtabecknjhcjpfaaDoorEG4
set_option linter.unusedVariables false
set_option linter.unusedSimpArgs false
namespace Go.Am.Try
open Go.Am
noncomputable section
theorem specV_eq {v : GValue} (h : vsz v <= 2 ^ 20) : S_spec_ValOk v = some (valB v) := by
  unfold S_spec_ValOk S_spec_l2ok
  rw [if_pos ⟨h, by decide, by decide, by decide⟩, Option.bind_some]
  congr 1
  unfold okV valB
  rw [show (6 - (1 : Int)).toNat = 5 from rfl]
  by_cases hc : shV 5 v = true ∧ (ptV v : Int) <= 40
  · rw [if_pos hc, decide_eq_true hc]; exact decide_eq_true (by omega)
  · rw [if_neg hc, decide_eq_false hc]; rfl
theorem implV_eq {v : GValue} (h : vsz v <= 2 ^ 20) : S_impl_isValue v = some (valB v) := by
  unfold S_impl_isValue S_impl_isShaped S_impl_Value_parts valB
  rw [if_pos ⟨h, by decide, by decide⟩, Option.bind_some]
  rw [show (5 : Int).toNat = 5 from rfl]
  cases hs : shV 5 v
  · simp
  · dsimp only
    rw [if_pos h, Option.bind_some]
    simp
theorem szV_eq {v : GValue} {n : Int} (h : MdV v) (h0 : 0 <= n) (h1 : n <= 2 ^ 20) : S_laws_szValue v n = some (leftV (vsz v) n) := if_pos ⟨h, h0, h1⟩
theorem toV_eq {v : GValue} (h : vsz v <= 2 ^ 20) : S_laws_toValue v = some v := if_pos h
theorem eqV_eq {v : GValue} (h : vsz v <= 2 ^ 39) : S_laws_eqValue v v = some true := if_pos ⟨rfl, by omega⟩
theorem toB_eq {s : List UInt8} (h : s.length <= 2 ^ 20) : S_laws_toByteS s = some s := if_pos h
theorem eqB_eq {s : List UInt8} (h : s.length <= 2 ^ 39) : S_laws_eqByteS s s = some true := if_pos ⟨rfl, by omega⟩
def evsz (e : GEvent) : Nat := e.Addr.length + vsz e.Val + bsz e.Deps
def MdEv (e : GEvent) : Prop := e.Addr.length <= 2 ^ 63 - 1 ∧ MdV e.Val ∧ MdB e.Deps
theorem szEv_eq {e : GEvent} {n : Int} (h : MdEv e) (h0 : 0 <= n) (h1 : n <= 2 ^ 20) : S_laws_szEvent e n = some (leftV (evsz e) n) := by
  unfold S_laws_szEvent
  rw [szByteS_eq h.1 h0 h1, Option.bind_some]
  unfold leftV evsz
  by_cases c1 : (e.Addr.length : Int) <= n
  · rw [if_pos c1, if_neg (by omega), szV_eq h.2.1 (by omega) (by omega), Option.bind_some]
    unfold leftV
    by_cases c2 : (vsz e.Val : Int) <= n - e.Addr.length
    · rw [if_pos c2, if_neg (by omega), show S_laws_szByteSS e.Deps (n - e.Addr.length - vsz e.Val) = some (leftV (bsz e.Deps) (n - e.Addr.length - vsz e.Val)) from if_pos ⟨h.2.2, by omega, by omega⟩, Option.bind_some]
      unfold leftV
      by_cases c3 : (bsz e.Deps : Int) <= n - e.Addr.length - vsz e.Val
      · rw [if_pos c3, if_neg (by omega), if_pos (by omega)]; congr 1; omega
      · rw [if_neg c3, if_pos (by omega), if_neg (by omega)]
    · rw [if_neg c2, if_pos (by omega), if_neg (by omega)]
  · rw [if_neg c1, if_pos (by omega), if_neg (by omega)]
theorem toEv_eq {e : GEvent} (h : evsz e <= 2 ^ 20) : S_laws_toEvent e = some e := by
  unfold evsz at h
  unfold S_laws_toEvent S_laws_toByteS S_laws_toByteSS
  rw [if_pos (by omega), Option.bind_some, toV_eq (by omega), Option.bind_some, if_pos (by omega), Option.bind_some]
  cases e; rfl
theorem eqEv_eq {e : GEvent} (h : evsz e <= 2 ^ 39) : S_laws_eqEvent e e = some true := by
  unfold evsz at h
  unfold S_laws_eqEvent S_laws_eqByteS S_laws_eqByteSS
  rw [if_pos rfl, if_pos ⟨rfl, by omega⟩, Option.bind_some]
  dsimp only
  rw [if_pos rfl, eqV_eq (by omega), Option.bind_some]
  dsimp only
  rw [if_pos ⟨rfl, by omega⟩, Option.bind_some]
def zeroB (v : GValue) : Bool := decide (v.Kind = 0 ∧ v.N = 0 ∧ v.S.length = 0 ∧ v.K.length = 0 ∧ v.L.length = 0)
def evB (e : GEvent) : Bool :=
  if e.Kind = 2 then addrB e.Addr && decide (e.Act = 0) && kmapB e.Val && addrsB e.Deps
  else zeroB e.Val && decide (e.Deps.length = 0) &&
    (if e.Kind = 0 ∨ e.Kind = 5 ∨ e.Kind = 6 then decide (e.Addr.length = 0) && decide (e.Act = 0)
     else if e.Kind = 1 then addrB e.Addr && decide (1 <= e.Act ∧ e.Act <= 4)
     else if e.Kind = 3 ∨ e.Kind = 4 then addrB e.Addr && decide (e.Act = 0) else false)
theorem ekmI_eq {v : GValue} (h : vsz v <= 2 ^ 20) : S_impl_isKnownMap v = some (kmapB v) := by
  unfold S_impl_isKnownMap S_impl_isMap kmapB
  by_cases h5 : v.Kind = 5
  · rw [if_pos h5, implV_eq h, Option.bind_some, decide_eq_true h5, Bool.true_and]
    cases hv : valB v with
    | false => rfl
    | true =>
      simp only [Bool.true_and]
      unfold S_impl_Value_known
      rw [if_pos (by omega)]; rfl
  · rw [if_neg h5, decide_eq_false h5]; rfl
theorem ekmS_eq {v : GValue} (h : vsz v <= 2 ^ 20) : S_spec_l4map v = some (kmapB v) := by
  unfold S_spec_l4map kmapB
  by_cases h5 : v.Kind = 5
  · rw [if_pos h5, specV_eq h, Option.bind_some, decide_eq_true h5, Bool.true_and]
    cases hv : valB v with
    | false => rfl
    | true =>
      simp only [Bool.true_and]
      unfold S_spec_l2known
      rw [if_pos (by omega)]; rfl
  · rw [if_neg h5, decide_eq_false h5]; rfl
theorem isZero_eq (v : GValue) : S_impl_isZero v = some (zeroB v) := by
  unfold S_impl_isZero zeroB
  by_cases h1 : v.Kind = 0 <;> by_cases h2 : v.N = 0 <;> by_cases h3 : v.S.length = 0 <;> by_cases h4 : v.K.length = 0 <;> by_cases h5 : v.L.length = 0 <;> simp [h1, h2, h3, h4, h5, List.length_eq_zero_iff.1] <;> simp_all
theorem l2num_zero (a : Int) : ∃ r, S_spec_l2num a 0 = some r ∧ (r = 0 ↔ a = 0) := by
  unfold S_spec_l2num
  by_cases h : a < 0
  · exact ⟨_, if_pos h, by omega⟩
  · rw [if_neg h]
    by_cases h' : 0 < a
    · exact ⟨_, if_pos h', by omega⟩
    · exact ⟨_, if_neg h', by omega⟩
theorem l2cmp_zero (G : GValue → GValue → Option Int) (n : Nat) (v z : GValue) (hk : z.Kind = 0) (hn : z.N = 0) (hl : z.L.length = 0) : ∃ r, T_spec_l2cmp G (n + 1) v z = some r ∧ ((r = 0 ∧ v.N = 0) ↔ (v.Kind = 0 ∧ v.N = 0 ∧ v.L.length = 0)) := by
  unfold T_spec_l2cmp
  rw [hk]
  by_cases h1 : v.Kind = 0
  · rw [if_pos h1, if_neg (by omega), hn]
    by_cases h2 : v.N = 0
    · rw [if_pos h2, L_spec_l2cmp_l0, hl]
      obtain ⟨r, hr, hr2⟩ := l2num_zero (v.L.length : Int)
      refine ⟨r, ?_, by simp only [h1, h2, true_and, and_true]; omega⟩
      by_cases h3 : (0 : Int) < (v.L.length : Int)
      · rw [if_pos h3, if_neg (by omega), Option.bind_some]
        dsimp only
        rw [show ((0 : Nat) : Int) = 0 from rfl, hr, Option.bind_some]
      · rw [if_neg h3, Option.bind_some]
        dsimp only
        rw [show ((0 : Nat) : Int) = 0 from rfl, hr, Option.bind_some]
    · rw [if_neg h2]
      obtain ⟨r, hr, hr2⟩ := l2num_zero v.N
      exact ⟨r, by rw [hr, Option.bind_some], ⟨fun h => absurd h.2 h2, fun h => absurd h.2.1 h2⟩⟩
  · rw [if_neg h1]
    obtain ⟨r, hr, hr2⟩ := l2num_zero v.Kind
    exact ⟨r, by rw [hr, Option.bind_some], ⟨fun h => absurd (hr2.1 h.1) h1, fun h => absurd h.1 h1⟩⟩
theorem l4zero_eq (v : GValue) : S_spec_l4zero v = some (decide (v.Kind = 0 ∧ v.N = 0 ∧ v.L.length = 0)) := by
  unfold S_spec_l4zero S_spec_l2cmp
  rw [show vsz v + 3 = (vsz v + 1 + 1) + 1 from rfl, U_spec_l2cmp]
  obtain ⟨r, hr, hr2⟩ := l2cmp_zero (U_spec_l2cmp (vsz v + 1 + 1)) (vsz v + 1) v (GValue.mk 0 0 [] [] []) rfl rfl rfl
  rw [hr, Option.bind_some]
  by_cases h : r = 0
  · rw [if_pos h]; exact congrArg some (decide_eq_decide.2 (by rw [<- hr2]; simp [h]))
  · rw [if_neg h]; exact congrArg some (decide_eq_false (fun h' => h (hr2.2 h').1)).symm
theorem zero_val {v : GValue} (h : zeroB v = true) : valB v = true := by
  unfold zeroB at h
  cases v
  simp only [GValue.Kind, GValue.N, GValue.S, GValue.K, GValue.L, decide_eq_true_eq, List.length_eq_zero_iff] at h
  obtain ⟨rfl, rfl, rfl, rfl, rfl⟩ := h
  exact decide_eq_true ⟨by simp [shV, locV, GValue.Kind, GValue.N, GValue.S, GValue.K, GValue.L], by simp [ptV, ptVs]⟩
theorem zero_of {v : GValue} (h : valB v = true) : zeroB v = decide (v.Kind = 0 ∧ v.N = 0 ∧ v.L.length = 0) := by
  unfold zeroB
  refine decide_eq_decide.2 ⟨fun ⟨a, b, _, _, c⟩ => ⟨a, b, c⟩, fun ⟨a, b, c⟩ => ?_⟩
  have := (of_decide_eq_true h).1
  rw [shV] at this
  have hl := (Bool.and_eq_true _ _ ▸ this).1
  unfold locV at hl
  rw [if_pos (Or.inl a)] at hl
  have := of_decide_eq_true hl
  exact ⟨a, this⟩
theorem addrB_ne {a : List UInt8} (h : addrB a = true) : 0 < a.length := by
  rcases a with _ | ⟨x, l⟩
  · revert h; decide
  · simp
theorem implEv_eq {e : GEvent} (h : evsz e <= 2 ^ 20) : S_impl_isEvent e = some (evB e) := by
  unfold evsz at h
  unfold S_impl_isEvent evB
  by_cases k2 : e.Kind = 2
  · rw [if_pos k2, if_pos k2, implAd_eq (by omega), Option.bind_some]
    cases addrB e.Addr with
    | false => rfl
    | true =>
      dsimp only
      by_cases ha : e.Act = 0
      · rw [if_pos ha, ekmI_eq (by omega), Option.bind_some, decide_eq_true ha]
        cases kmapB e.Val with
        | false => rfl
        | true =>
          dsimp only
          rw [show S_impl_areAddrs e.Deps = some (addrsB e.Deps) from if_pos (by omega)]
          simp
      · rw [if_neg ha, decide_eq_false ha]; rfl
  · rw [if_neg k2, if_neg k2, isZero_eq, Option.bind_some]
    cases zeroB e.Val with
    | false => rfl
    | true =>
      dsimp only
      by_cases d : e.Deps.length = 0
      · rw [if_neg (by omega), decide_eq_true d, Bool.true_and, Bool.true_and]
        by_cases k0 : e.Kind = 0 ∨ e.Kind = 5 ∨ e.Kind = 6
        · rw [if_pos k0]
          have hh : (if ((e.Addr.length : Nat) : Int) = 0 then some (decide (e.Act = 0)) else some false) = some (decide (e.Addr.length = 0) && decide (e.Act = 0)) := by
            by_cases hl : e.Addr.length = 0
            · rw [if_pos (by omega), decide_eq_true hl, Bool.true_and]
            · rw [if_neg (by omega), decide_eq_false hl, Bool.false_and]
          rw [hh]
          by_cases k00 : e.Kind = 0
          · rw [if_pos k00]
          · rw [if_neg k00]
            by_cases k05 : e.Kind = 5
            · rw [if_pos k05]
            · rw [if_neg k05, if_pos (by omega)]
        · rw [if_neg k0, if_neg (by omega), if_neg (by omega), if_neg (by omega)]
          by_cases k1 : e.Kind = 1
          · rw [if_pos k1, if_pos k1, implAd_eq (by omega), Option.bind_some]
            cases addrB e.Addr with
            | false => rfl
            | true => dsimp only; rw [in_eq, Option.bind_some]; rfl
          · rw [if_neg k1, if_neg k1]
            by_cases k3 : e.Kind = 3
            · rw [if_pos k3, if_pos (Or.inl k3), implAd_eq (by omega), Option.bind_some]
              cases addrB e.Addr <;> rfl
            · rw [if_neg k3]
              by_cases k4 : e.Kind = 4
              · rw [if_pos k4, if_pos (Or.inr k4), implAd_eq (by omega), Option.bind_some]
                cases addrB e.Addr <;> rfl
              · rw [if_neg k4, if_neg (by omega)]
      · rw [if_pos (by omega), decide_eq_false d]; rfl
theorem zvd {v : GValue} (h : vsz v <= 2 ^ 20) (d : Nat) : ((S_spec_ValOk v).bind fun r => match r with | true => (S_spec_l4zero v).bind fun r => (match r with | true => some (decide (((d : Nat) : Int) = 0)) | false => some false) | false => some false) = some (zeroB v && decide (d = 0)) := by
  rw [specV_eq h, Option.bind_some]
  cases hv : valB v with
  | true =>
    dsimp only
    rw [l4zero_eq, Option.bind_some, zero_of hv]
    cases decide (v.Kind = 0 ∧ v.N = 0 ∧ v.L.length = 0) with
    | true => exact congrArg some (by rw [Bool.true_and]; exact decide_eq_decide.2 (by omega))
    | false => rfl
  | false =>
    dsimp only
    cases hz : zeroB v with
    | true => rw [zero_val hz] at hv; cases hv
    | false => rfl
theorem specEv_eq {e : GEvent} (h : evsz e <= 2 ^ 20) : S_spec_EventOk e = some (evB e) := by
  unfold evsz at h
  unfold S_spec_EventOk evB
  rw [specAd_eq (by omega)]
  simp only [Option.bind_some]
  have Z := zvd (v := e.Val) (by omega) e.Deps.length
  have hb := @addrB_ne e.Addr
  by_cases r0 : e.Kind < 0
  · rw [if_pos r0, if_neg (show ¬ e.Kind = 2 by omega), if_neg (show ¬ (e.Kind = 0 ∨ e.Kind = 5 ∨ e.Kind = 6) by omega), if_neg (show ¬ e.Kind = 1 by omega), if_neg (show ¬ (e.Kind = 3 ∨ e.Kind = 4) by omega), Bool.and_false]
  rw [if_neg r0]
  by_cases r6 : 6 < e.Kind
  · rw [if_pos r6, if_neg (show ¬ e.Kind = 2 by omega), if_neg (show ¬ (e.Kind = 0 ∨ e.Kind = 5 ∨ e.Kind = 6) by omega), if_neg (show ¬ e.Kind = 1 by omega), if_neg (show ¬ (e.Kind = 3 ∨ e.Kind = 4) by omega), Bool.and_false]
  rw [if_neg r6]
  generalize (zeroB e.Val && decide (e.Deps.length = 0)) = z at Z ⊢
  by_cases k1 : e.Kind = 1
  · rw [if_pos k1, if_neg (show ¬ e.Kind = 2 by omega), if_neg (show ¬ (e.Kind = 0 ∨ e.Kind = 5 ∨ e.Kind = 6) by omega), if_pos k1]
    cases hA : addrB e.Addr with
    | false =>
      dsimp only
      rw [Bool.false_and, Bool.and_false]
      split <;> rfl
    | true =>
      have := hb hA
      rw [if_pos (show (0 : Int) < ((e.Addr.length : Nat) : Int) by omega)]
      dsimp only
      by_cases a1 : e.Act < 1
      · rw [if_pos a1, decide_eq_false (by omega)]; simp
      · rw [if_neg a1]
        by_cases a2 : 4 < e.Act
        · rw [if_pos a2, decide_eq_false (by omega)]; simp
        · rw [if_neg a2, decide_eq_true (show 1 <= e.Act ∧ e.Act <= 4 by omega)]; exact Z.trans (by simp)
  rw [if_neg k1]
  by_cases k2 : e.Kind = 2
  · rw [if_pos k2, if_pos k2]
    cases hA : addrB e.Addr with
    | false =>
      dsimp only
      split <;> rfl
    | true =>
      have := hb hA
      rw [if_pos (show (0 : Int) < ((e.Addr.length : Nat) : Int) by omega)]
      dsimp only
      by_cases ha : e.Act = 0
      · rw [if_pos ha, ekmS_eq (by omega), Option.bind_some, decide_eq_true ha]
        cases kmapB e.Val with
        | false => rfl
        | true =>
          dsimp only
          rw [show S_spec_l4addrs e.Deps = some (addrsB e.Deps) from if_pos (by omega)]
          simp
      · rw [if_neg ha, decide_eq_false ha]; rfl
  rw [if_neg k2, if_neg k2]
  by_cases k3 : e.Kind = 3
  · rw [if_pos k3, if_neg (show ¬ (e.Kind = 0 ∨ e.Kind = 5 ∨ e.Kind = 6) by omega), if_neg k1, if_pos (Or.inl k3)]
    cases hA : addrB e.Addr with
    | false => dsimp only; rw [Bool.false_and, Bool.and_false]; split <;> rfl
    | true =>
      have := hb hA
      rw [if_pos (show (0 : Int) < ((e.Addr.length : Nat) : Int) by omega)]
      dsimp only
      by_cases ha : e.Act = 0
      · rw [if_pos ha, decide_eq_true ha]; exact Z.trans (by simp)
      · rw [if_neg ha, decide_eq_false ha]; simp
  rw [if_neg k3]
  by_cases k4 : e.Kind = 4
  · rw [if_pos k4, if_neg (show ¬ (e.Kind = 0 ∨ e.Kind = 5 ∨ e.Kind = 6) by omega), if_neg k1, if_pos (Or.inr k4)]
    cases hA : addrB e.Addr with
    | false => dsimp only; rw [Bool.false_and, Bool.and_false]; split <;> rfl
    | true =>
      have := hb hA
      rw [if_pos (show (0 : Int) < ((e.Addr.length : Nat) : Int) by omega)]
      dsimp only
      by_cases ha : e.Act = 0
      · rw [if_pos ha, decide_eq_true ha]; exact Z.trans (by simp)
      · rw [if_neg ha, decide_eq_false ha]; simp
  rw [if_neg k4, if_pos (show e.Kind = 0 ∨ e.Kind = 5 ∨ e.Kind = 6 by omega)]
  by_cases hl : e.Addr.length = 0
  · rw [if_neg (by omega), decide_eq_true hl, Bool.true_and]
    by_cases ha : e.Act = 0
    · rw [if_pos ha, decide_eq_true ha]; exact Z.trans (by simp)
    · rw [if_neg ha, decide_eq_false ha]; simp
  · rw [if_pos (by omega), decide_eq_false hl, Bool.false_and, Bool.and_false]
theorem law_EventOk {e : GEvent} (hs : MdEv e) : S_laws_FnExactEventOk e = some true := by
  unfold S_laws_FnExactEventOk
  rw [szEv_eq hs (by decide) (by decide), Option.bind_some]
  unfold leftV
  by_cases c : (evsz e : Int) <= 1048576
  · have hz : evsz e <= 2 ^ 20 := by omega
    rw [if_pos c, if_neg (by omega), toEv_eq hz, Option.bind_some, specEv_eq hz, Option.bind_some]
    unfold S_impl_EventOk
    rw [implEv_eq hz, Option.bind_some, Option.bind_some, eqEv_eq (by omega)]
    cases evB e <;> rfl
  · rw [if_neg c, if_pos (by omega)]
end
end Go.Am.Try
