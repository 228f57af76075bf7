/- The law of FnExactEventBytes, in plain terms. -/
import Derived.Test.YtabecknjhcjpfaaGreatDoorBG4
set_option linter.unusedVariables false
set_option linter.unusedSimpArgs false
namespace Go.Am.Try
open Go.Am
noncomputable section
theorem specV_eq {v : GValue} (h : vsz v <= 2 ^ 20) : S_spec_ValOk v = some (valB v) := by
  unfold S_spec_ValOk S_spec_l2ok
  rw [if_pos ⟨h, by decide, by decide, by decide⟩, Option.bind_some]
  congr 1
  unfold okV valB
  rw [show (6 - (1 : Int)).toNat = 5 from rfl]
  by_cases hc : shV 5 v = true ∧ (ptV v : Int) <= 40
  · rw [if_pos hc, decide_eq_true hc]; exact decide_eq_true (by omega)
  · rw [if_neg hc, decide_eq_false hc]; rfl
theorem implV_eq {v : GValue} (h : vsz v <= 2 ^ 20) : S_impl_isValue v = some (valB v) := by
  unfold S_impl_isValue S_impl_isShaped S_impl_Value_parts valB
  rw [if_pos ⟨h, by decide, by decide⟩, Option.bind_some]
  rw [show (5 : Int).toNat = 5 from rfl]
  cases hs : shV 5 v
  · simp
  · dsimp only
    rw [if_pos h, Option.bind_some]
    simp
theorem szV_eq {v : GValue} {n : Int} (h : MdV v) (h0 : 0 <= n) (h1 : n <= 2 ^ 20) : S_laws_szValue v n = some (leftV (vsz v) n) := if_pos ⟨h, h0, h1⟩
theorem toV_eq {v : GValue} (h : vsz v <= 2 ^ 20) : S_laws_toValue v = some v := if_pos h
theorem eqV_eq {v : GValue} (h : vsz v <= 2 ^ 39) : S_laws_eqValue v v = some true := if_pos ⟨rfl, by omega⟩
theorem toB_eq {s : List UInt8} (h : s.length <= 2 ^ 20) : S_laws_toByteS s = some s := if_pos h
theorem eqB_eq {s : List UInt8} (h : s.length <= 2 ^ 39) : S_laws_eqByteS s s = some true := if_pos ⟨rfl, by omega⟩
def evsz (e : GEvent) : Nat := e.Addr.length + vsz e.Val + bsz e.Deps
def MdEv (e : GEvent) : Prop := e.Addr.length <= 2 ^ 63 - 1 ∧ MdV e.Val ∧ MdB e.Deps
theorem szEv_eq {e : GEvent} {n : Int} (h : MdEv e) (h0 : 0 <= n) (h1 : n <= 2 ^ 20) : S_laws_szEvent e n = some (leftV (evsz e) n) := by
  unfold S_laws_szEvent
  rw [szByteS_eq h.1 h0 h1, Option.bind_some]
  unfold leftV evsz
  by_cases c1 : (e.Addr.length : Int) <= n
  · rw [if_pos c1, if_neg (by omega), szV_eq h.2.1 (by omega) (by omega), Option.bind_some]
    unfold leftV
    by_cases c2 : (vsz e.Val : Int) <= n - e.Addr.length
    · rw [if_pos c2, if_neg (by omega), show S_laws_szByteSS e.Deps (n - e.Addr.length - vsz e.Val) = some (leftV (bsz e.Deps) (n - e.Addr.length - vsz e.Val)) from if_pos ⟨h.2.2, by omega, by omega⟩, Option.bind_some]
      unfold leftV
      by_cases c3 : (bsz e.Deps : Int) <= n - e.Addr.length - vsz e.Val
      · rw [if_pos c3, if_neg (by omega), if_pos (by omega)]; congr 1; omega
      · rw [if_neg c3, if_pos (by omega), if_neg (by omega)]
    · rw [if_neg c2, if_pos (by omega), if_neg (by omega)]
  · rw [if_neg c1, if_pos (by omega), if_neg (by omega)]
theorem toEv_eq {e : GEvent} (h : evsz e <= 2 ^ 20) : S_laws_toEvent e = some e := by
  unfold evsz at h
  unfold S_laws_toEvent S_laws_toByteS S_laws_toByteSS
  rw [if_pos (by omega), Option.bind_some, toV_eq (by omega), Option.bind_some, if_pos (by omega), Option.bind_some]
  cases e; rfl
theorem eqEv_eq {e : GEvent} (h : evsz e <= 2 ^ 39) : S_laws_eqEvent e e = some true := by
  unfold evsz at h
  unfold S_laws_eqEvent S_laws_eqByteS S_laws_eqByteSS
  rw [if_pos rfl, if_pos ⟨rfl, by omega⟩, Option.bind_some]
  dsimp only
  rw [if_pos rfl, eqV_eq (by omega), Option.bind_some]
  dsimp only
  rw [if_pos ⟨rfl, by omega⟩, Option.bind_some]
def zeroB (v : GValue) : Bool := decide (v.Kind = 0 ∧ v.N = 0 ∧ v.S.length = 0 ∧ v.K.length = 0 ∧ v.L.length = 0)
def evB (e : GEvent) : Bool :=
  if e.Kind = 2 then addrB e.Addr && decide (e.Act = 0) && kmapB e.Val && addrsB e.Deps
  else zeroB e.Val && decide (e.Deps.length = 0) &&
    (if e.Kind = 0 ∨ e.Kind = 5 ∨ e.Kind = 6 then decide (e.Addr.length = 0) && decide (e.Act = 0)
     else if e.Kind = 1 then addrB e.Addr && decide (1 <= e.Act ∧ e.Act <= 4)
     else if e.Kind = 3 ∨ e.Kind = 4 then addrB e.Addr && decide (e.Act = 0) else false)
theorem ekmI_eq {v : GValue} (h : vsz v <= 2 ^ 20) : S_impl_isKnownMap v = some (kmapB v) := by
  unfold S_impl_isKnownMap S_impl_isMap kmapB
  by_cases h5 : v.Kind = 5
  · rw [if_pos h5, implV_eq h, Option.bind_some, decide_eq_true h5, Bool.true_and]
    cases hv : valB v with
    | false => rfl
    | true =>
      simp only [Bool.true_and]
      unfold S_impl_Value_known
      rw [if_pos (by omega)]; rfl
  · rw [if_neg h5, decide_eq_false h5]; rfl
theorem ekmS_eq {v : GValue} (h : vsz v <= 2 ^ 20) : S_spec_l4map v = some (kmapB v) := by
  unfold S_spec_l4map kmapB
  by_cases h5 : v.Kind = 5
  · rw [if_pos h5, specV_eq h, Option.bind_some, decide_eq_true h5, Bool.true_and]
    cases hv : valB v with
    | false => rfl
    | true =>
      simp only [Bool.true_and]
      unfold S_spec_l2known
      rw [if_pos (by omega)]; rfl
  · rw [if_neg h5, decide_eq_false h5]; rfl
theorem isZero_eq (v : GValue) : S_impl_isZero v = some (zeroB v) := by
  unfold S_impl_isZero zeroB
  by_cases h1 : v.Kind = 0 <;> by_cases h2 : v.N = 0 <;> by_cases h3 : v.S.length = 0 <;> by_cases h4 : v.K.length = 0 <;> by_cases h5 : v.L.length = 0 <;> simp [h1, h2, h3, h4, h5, List.length_eq_zero_iff.1] <;> simp_all
theorem l2num_zero (a : Int) : ∃ r, S_spec_l2num a 0 = some r ∧ (r = 0 ↔ a = 0) := by
  unfold S_spec_l2num
  by_cases h : a < 0
  · exact ⟨_, if_pos h, by omega⟩
  · rw [if_neg h]
    by_cases h' : 0 < a
    · exact ⟨_, if_pos h', by omega⟩
    · exact ⟨_, if_neg h', by omega⟩
theorem l2cmp_zero (G : GValue → GValue → Option Int) (n : Nat) (v z : GValue) (hk : z.Kind = 0) (hn : z.N = 0) (hl : z.L.length = 0) : ∃ r, T_spec_l2cmp G (n + 1) v z = some r ∧ ((r = 0 ∧ v.N = 0) ↔ (v.Kind = 0 ∧ v.N = 0 ∧ v.L.length = 0)) := by
  unfold T_spec_l2cmp
  rw [hk]
  by_cases h1 : v.Kind = 0
  · rw [if_pos h1, if_neg (by omega), hn]
    by_cases h2 : v.N = 0
    · rw [if_pos h2, L_spec_l2cmp_l0, hl]
      obtain ⟨r, hr, hr2⟩ := l2num_zero (v.L.length : Int)
      refine ⟨r, ?_, by simp only [h1, h2, true_and, and_true]; omega⟩
      by_cases h3 : (0 : Int) < (v.L.length : Int)
      · rw [if_pos h3, if_neg (by omega), Option.bind_some]
        dsimp only
        rw [show ((0 : Nat) : Int) = 0 from rfl, hr, Option.bind_some]
      · rw [if_neg h3, Option.bind_some]
        dsimp only
        rw [show ((0 : Nat) : Int) = 0 from rfl, hr, Option.bind_some]
    · rw [if_neg h2]
      obtain ⟨r, hr, hr2⟩ := l2num_zero v.N
      exact ⟨r, by rw [hr, Option.bind_some], ⟨fun h => absurd h.2 h2, fun h => absurd h.2.1 h2⟩⟩
  · rw [if_neg h1]
    obtain ⟨r, hr, hr2⟩ := l2num_zero v.Kind
    exact ⟨r, by rw [hr, Option.bind_some], ⟨fun h => absurd (hr2.1 h.1) h1, fun h => absurd h.1 h1⟩⟩
theorem l4zero_eq (v : GValue) : S_spec_l4zero v = some (decide (v.Kind = 0 ∧ v.N = 0 ∧ v.L.length = 0)) := by
  unfold S_spec_l4zero S_spec_l2cmp
  rw [show vsz v + 3 = (vsz v + 1 + 1) + 1 from rfl, U_spec_l2cmp]
  obtain ⟨r, hr, hr2⟩ := l2cmp_zero (U_spec_l2cmp (vsz v + 1 + 1)) (vsz v + 1) v (GValue.mk 0 0 [] [] []) rfl rfl rfl
  rw [hr, Option.bind_some]
  by_cases h : r = 0
  · rw [if_pos h]; exact congrArg some (decide_eq_decide.2 (by rw [<- hr2]; simp [h]))
  · rw [if_neg h]; exact congrArg some (decide_eq_false (fun h' => h (hr2.2 h').1)).symm
theorem zero_val {v : GValue} (h : zeroB v = true) : valB v = true := by
  unfold zeroB at h
  cases v
  simp only [GValue.Kind, GValue.N, GValue.S, GValue.K, GValue.L, decide_eq_true_eq, List.length_eq_zero_iff] at h
  obtain ⟨rfl, rfl, rfl, rfl, rfl⟩ := h
  exact decide_eq_true ⟨by simp [shV, locV, GValue.Kind, GValue.N, GValue.S, GValue.K, GValue.L], by simp [ptV, ptVs]⟩
theorem zero_of {v : GValue} (h : valB v = true) : zeroB v = decide (v.Kind = 0 ∧ v.N = 0 ∧ v.L.length = 0) := by
  unfold zeroB
  refine decide_eq_decide.2 ⟨fun ⟨a, b, _, _, c⟩ => ⟨a, b, c⟩, fun ⟨a, b, c⟩ => ?_⟩
  have := (of_decide_eq_true h).1
  rw [shV] at this
  have hl := (Bool.and_eq_true _ _ ▸ this).1
  unfold locV at hl
  rw [if_pos (Or.inl a)] at hl
  have := of_decide_eq_true hl
  exact ⟨a, this⟩
theorem addrB_ne {a : List UInt8} (h : addrB a = true) : 0 < a.length := by
  rcases a with _ | ⟨x, l⟩
  · revert h; decide
  · simp
theorem implEv_eq {e : GEvent} (h : evsz e <= 2 ^ 20) : S_impl_isEvent e = some (evB e) := by
  unfold evsz at h
  unfold S_impl_isEvent evB
  by_cases k2 : e.Kind = 2
  · rw [if_pos k2, if_pos k2, implAd_eq (by omega), Option.bind_some]
    cases addrB e.Addr with
    | false => rfl
    | true =>
      dsimp only
      by_cases ha : e.Act = 0
      · rw [if_pos ha, ekmI_eq (by omega), Option.bind_some, decide_eq_true ha]
        cases kmapB e.Val with
        | false => rfl
        | true =>
          dsimp only
          rw [show S_impl_areAddrs e.Deps = some (addrsB e.Deps) from if_pos (by omega)]
          simp
      · rw [if_neg ha, decide_eq_false ha]; rfl
  · rw [if_neg k2, if_neg k2, isZero_eq, Option.bind_some]
    cases zeroB e.Val with
    | false => rfl
    | true =>
      dsimp only
      by_cases d : e.Deps.length = 0
      · rw [if_neg (by omega), decide_eq_true d, Bool.true_and, Bool.true_and]
        by_cases k0 : e.Kind = 0 ∨ e.Kind = 5 ∨ e.Kind = 6
        · rw [if_pos k0]
          have hh : (if ((e.Addr.length : Nat) : Int) = 0 then some (decide (e.Act = 0)) else some false) = some (decide (e.Addr.length = 0) && decide (e.Act = 0)) := by
            by_cases hl : e.Addr.length = 0
            · rw [if_pos (by omega), decide_eq_true hl, Bool.true_and]
            · rw [if_neg (by omega), decide_eq_false hl, Bool.false_and]
          rw [hh]
          by_cases k00 : e.Kind = 0
          · rw [if_pos k00]
          · rw [if_neg k00]
            by_cases k05 : e.Kind = 5
            · rw [if_pos k05]
            · rw [if_neg k05, if_pos (by omega)]
        · rw [if_neg k0, if_neg (by omega), if_neg (by omega), if_neg (by omega)]
          by_cases k1 : e.Kind = 1
          · rw [if_pos k1, if_pos k1, implAd_eq (by omega), Option.bind_some]
            cases addrB e.Addr with
            | false => rfl
            | true => dsimp only; rw [in_eq, Option.bind_some]; rfl
          · rw [if_neg k1, if_neg k1]
            by_cases k3 : e.Kind = 3
            · rw [if_pos k3, if_pos (Or.inl k3), implAd_eq (by omega), Option.bind_some]
              cases addrB e.Addr <;> rfl
            · rw [if_neg k3]
              by_cases k4 : e.Kind = 4
              · rw [if_pos k4, if_pos (Or.inr k4), implAd_eq (by omega), Option.bind_some]
                cases addrB e.Addr <;> rfl
              · rw [if_neg k4, if_neg (by omega)]
      · rw [if_pos (by omega), decide_eq_false d]; rfl
theorem zvd {v : GValue} (h : vsz v <= 2 ^ 20) (d : Nat) : ((S_spec_ValOk v).bind fun r => match r with | true => (S_spec_l4zero v).bind fun r => (match r with | true => some (decide (((d : Nat) : Int) = 0)) | false => some false) | false => some false) = some (zeroB v && decide (d = 0)) := by
  rw [specV_eq h, Option.bind_some]
  cases hv : valB v with
  | true =>
    dsimp only
    rw [l4zero_eq, Option.bind_some, zero_of hv]
    cases decide (v.Kind = 0 ∧ v.N = 0 ∧ v.L.length = 0) with
    | true => exact congrArg some (by rw [Bool.true_and]; exact decide_eq_decide.2 (by omega))
    | false => rfl
  | false =>
    dsimp only
    cases hz : zeroB v with
    | true => rw [zero_val hz] at hv; cases hv
    | false => rfl
theorem specEv_eq {e : GEvent} (h : evsz e <= 2 ^ 20) : S_spec_EventOk e = some (evB e) := by
  unfold evsz at h
  unfold S_spec_EventOk evB
  rw [specAd_eq (by omega)]
  simp only [Option.bind_some]
  have Z := zvd (v := e.Val) (by omega) e.Deps.length
  have hb := @addrB_ne e.Addr
  by_cases r0 : e.Kind < 0
  · rw [if_pos r0, if_neg (show ¬ e.Kind = 2 by omega), if_neg (show ¬ (e.Kind = 0 ∨ e.Kind = 5 ∨ e.Kind = 6) by omega), if_neg (show ¬ e.Kind = 1 by omega), if_neg (show ¬ (e.Kind = 3 ∨ e.Kind = 4) by omega), Bool.and_false]
  rw [if_neg r0]
  by_cases r6 : 6 < e.Kind
  · rw [if_pos r6, if_neg (show ¬ e.Kind = 2 by omega), if_neg (show ¬ (e.Kind = 0 ∨ e.Kind = 5 ∨ e.Kind = 6) by omega), if_neg (show ¬ e.Kind = 1 by omega), if_neg (show ¬ (e.Kind = 3 ∨ e.Kind = 4) by omega), Bool.and_false]
  rw [if_neg r6]
  generalize (zeroB e.Val && decide (e.Deps.length = 0)) = z at Z ⊢
  by_cases k1 : e.Kind = 1
  · rw [if_pos k1, if_neg (show ¬ e.Kind = 2 by omega), if_neg (show ¬ (e.Kind = 0 ∨ e.Kind = 5 ∨ e.Kind = 6) by omega), if_pos k1]
    cases hA : addrB e.Addr with
    | false =>
      dsimp only
      rw [Bool.false_and, Bool.and_false]
      split <;> rfl
    | true =>
      have := hb hA
      rw [if_pos (show (0 : Int) < ((e.Addr.length : Nat) : Int) by omega)]
      dsimp only
      by_cases a1 : e.Act < 1
      · rw [if_pos a1, decide_eq_false (by omega)]; simp
      · rw [if_neg a1]
        by_cases a2 : 4 < e.Act
        · rw [if_pos a2, decide_eq_false (by omega)]; simp
        · rw [if_neg a2, decide_eq_true (show 1 <= e.Act ∧ e.Act <= 4 by omega)]; exact Z.trans (by simp)
  rw [if_neg k1]
  by_cases k2 : e.Kind = 2
  · rw [if_pos k2, if_pos k2]
    cases hA : addrB e.Addr with
    | false =>
      dsimp only
      split <;> rfl
    | true =>
      have := hb hA
      rw [if_pos (show (0 : Int) < ((e.Addr.length : Nat) : Int) by omega)]
      dsimp only
      by_cases ha : e.Act = 0
      · rw [if_pos ha, ekmS_eq (by omega), Option.bind_some, decide_eq_true ha]
        cases kmapB e.Val with
        | false => rfl
        | true =>
          dsimp only
          rw [show S_spec_l4addrs e.Deps = some (addrsB e.Deps) from if_pos (by omega)]
          simp
      · rw [if_neg ha, decide_eq_false ha]; rfl
  rw [if_neg k2, if_neg k2]
  by_cases k3 : e.Kind = 3
  · rw [if_pos k3, if_neg (show ¬ (e.Kind = 0 ∨ e.Kind = 5 ∨ e.Kind = 6) by omega), if_neg k1, if_pos (Or.inl k3)]
    cases hA : addrB e.Addr with
    | false => dsimp only; rw [Bool.false_and, Bool.and_false]; split <;> rfl
    | true =>
      have := hb hA
      rw [if_pos (show (0 : Int) < ((e.Addr.length : Nat) : Int) by omega)]
      dsimp only
      by_cases ha : e.Act = 0
      · rw [if_pos ha, decide_eq_true ha]; exact Z.trans (by simp)
      · rw [if_neg ha, decide_eq_false ha]; simp
  rw [if_neg k3]
  by_cases k4 : e.Kind = 4
  · rw [if_pos k4, if_neg (show ¬ (e.Kind = 0 ∨ e.Kind = 5 ∨ e.Kind = 6) by omega), if_neg k1, if_pos (Or.inr k4)]
    cases hA : addrB e.Addr with
    | false => dsimp only; rw [Bool.false_and, Bool.and_false]; split <;> rfl
    | true =>
      have := hb hA
      rw [if_pos (show (0 : Int) < ((e.Addr.length : Nat) : Int) by omega)]
      dsimp only
      by_cases ha : e.Act = 0
      · rw [if_pos ha, decide_eq_true ha]; exact Z.trans (by simp)
      · rw [if_neg ha, decide_eq_false ha]; simp
  rw [if_neg k4, if_pos (show e.Kind = 0 ∨ e.Kind = 5 ∨ e.Kind = 6 by omega)]
  by_cases hl : e.Addr.length = 0
  · rw [if_neg (by omega), decide_eq_true hl, Bool.true_and]
    by_cases ha : e.Act = 0
    · rw [if_pos ha, decide_eq_true ha]; exact Z.trans (by simp)
    · rw [if_neg ha, decide_eq_false ha]; simp
  · rw [if_pos (by omega), decide_eq_false hl, Bool.false_and, Bool.and_false]
theorem markV0_eq {v : GValue} {i : Int} (h : vsz v <= 2 ^ 30) (h0 : 0 <= i) (h1 : i <= 2 ^ 39) : ∃ (k : Int) (a : List UInt8) (b : List (List UInt8)) (c : List GValue), S_laws_markValue v.Kind v.N i v.S v.K v.L = some (k, a, b, c) ∧ 0 <= k ∧ k <= i + 2 * vsz v := by
  have he := vsz_eq v
  have hb := bsz_cB v.K
  have hc := cVs_le v.L
  unfold S_laws_markValue
  rw [markByteS_eq (by omega) (by omega), Option.bind_some]
  dsimp only
  rw [markByteSS_eq (by omega) (by omega), Option.bind_some]
  dsimp only
  rw [markValueS_eq (by omega) (by omega), Option.bind_some]
  exact ⟨_, _, _, _, rfl, by omega, by omega⟩
theorem markEv_eq {e : GEvent} (h : evsz e <= 2 ^ 30) : ∃ (k : Int) (x1 x2 : List UInt8) (x3 : List (List UInt8)) (x4 : List GValue) (x5 : List (List UInt8)), S_laws_markEvent e.Kind e.Act e.Val.Kind e.Val.N 1 e.Addr e.Val.S e.Val.K e.Val.L e.Deps = some (k, x1, x2, x3, x4, x5) ∧ 0 <= k := by
  unfold evsz at h
  have hb := bsz_cB e.Deps
  obtain ⟨k, a, b, c, hm, h1, h2⟩ := markV0_eq (v := e.Val) (i := 1 + (e.Addr.length : Int)) (by omega) (by omega) (by omega)
  unfold S_laws_markEvent
  rw [markByteS_eq (by decide) (by omega), Option.bind_some]
  dsimp only
  rw [hm, Option.bind_some]
  dsimp only
  rw [markByteSS_eq (by omega) (by omega), Option.bind_some]
  exact ⟨_, _, _, _, _, _, rfl, by omega⟩
theorem putLoop : ∀ (f m : Nat) (n : Int) (v : List UInt8), 0 <= n → n < 128 ^ (f + 1) → n < 2 ^ 31 → v.length + f <= 2 ^ 30 → f < m → ∃ n' v', L_spec_PutNum_l0a m n v = some (n', v') ∧ L_impl_putNum_2_l0a m n v = some (n', v') ∧ L_impl_putNum_l0a m n v = some (n', v') ∧ v'.length <= v.length + f := by
  intro f
  induction f with
  | zero =>
    intro m n v h0 h1 _ hv hm
    obtain ⟨m, rfl, _⟩ := fuel hm
    exact ⟨n, v, by rw [L_spec_PutNum_l0a, if_neg (by omega)], by rw [L_impl_putNum_2_l0a, if_neg (by omega)], by rw [L_impl_putNum_l0a, if_neg (by omega)], by omega⟩
  | succ f ih =>
    intro m n v h0 h1 h31 hv hm
    obtain ⟨m, rfl, hm'⟩ := fuel hm
    by_cases hn : 127 < n
    · have hd : n.tdiv 128 = n / 128 := Int.tdiv_eq_ediv_of_nonneg h0
      have hp : (128 : Int) ^ (f + 1 + 1) = 128 ^ (f + 1) * 128 := Int.pow_succ ..
      have hlt : n / 128 < 128 ^ (f + 1) := Int.ediv_lt_of_lt_mul (by decide) (by rw [<- hp]; exact h1)
      have hw : w64 (n.tdiv 128) = n / 128 := by rw [hd]; exact w64_id (by omega) (by omega)
      obtain ⟨n', v', e1, e2, e3, e4⟩ := ih m (n / 128) (v ++ [(b8 (w64 ((n.tmod 128) + 128)))]) (by omega) hlt (by omega) (by simp only [List.length_append, List.length_singleton]; omega) (by omega)
      have hr : roomP 1 (v.length + [(b8 (w64 ((n.tmod 128) + 128)))].length) := room_ok (by decide) (by simp only [List.length_singleton]; omega)
      refine ⟨n', v', ?_, ?_, ?_, by simp only [List.length_append, List.length_singleton] at e4; omega⟩
      · rw [L_spec_PutNum_l0a, if_pos hn, if_pos hr, hw, e1]
      · rw [L_impl_putNum_2_l0a, if_pos (by omega), if_pos hr, hw, e2]
      · rw [L_impl_putNum_l0a, if_pos (by omega), if_pos hr, hw, e3]
    · exact ⟨n, v, by rw [L_spec_PutNum_l0a, if_neg hn], by rw [L_impl_putNum_2_l0a, if_neg (by omega)], by rw [L_impl_putNum_l0a, if_neg (by omega)], by omega⟩
theorem putFirst {n : Int} {v : List UInt8} (h0 : 0 <= n) (h31 : n < 2 ^ 31) (hv : v.length <= 2 ^ 29) : ∃ n' v', L_spec_PutNum_l0 10 n false v 10 = some (n', v') ∧ L_impl_putNum_2_l0 10 n false v 10 = some (n', v') ∧ L_impl_putNum_l0 10 n false v 10 = some (n', v') ∧ v'.length <= v.length + 5 := by
  show ∃ n' v', L_spec_PutNum_l0 10 n false v (9 + 1) = some (n', v') ∧ L_impl_putNum_2_l0 10 n false v (9 + 1) = some (n', v') ∧ L_impl_putNum_l0 10 n false v (9 + 1) = some (n', v') ∧ _
  rw [L_spec_PutNum_l0, L_impl_putNum_2_l0, L_impl_putNum_l0]
  by_cases hn : 127 < n
  · have hd : n.tdiv 128 = n / 128 := Int.tdiv_eq_ediv_of_nonneg h0
    have hw : w64 (n.tdiv 128) = n / 128 := by rw [hd]; exact w64_id (by omega) (by omega)
    have hr : roomP 1 (v.length + [(b8 (w64 ((n.tmod 128) + 128)))].length) := room_ok (by decide) (by simp only [List.length_singleton]; omega)
    obtain ⟨n', v', e1, e2, e3, e4⟩ := putLoop 4 10 (n / 128) (v ++ [(b8 (w64 ((n.tmod 128) + 128)))]) (by omega) (by rw [show (128 : Int) ^ (4 + 1) = 34359738368 from rfl]; omega) (by omega) (by simp only [List.length_append, List.length_singleton]; omega) (by decide)
    rw [if_pos hn, if_pos hr, if_pos (show (128 : Int) <= n by omega), if_pos hr, if_pos (show (128 : Int) <= n by omega), if_pos hr, hw, e1, e2, e3]
    exact ⟨n', v', rfl, rfl, rfl, by simp only [List.length_append, List.length_singleton] at e4; omega⟩
  · rw [if_neg hn, if_neg (show ¬ (128 : Int) <= n by omega), if_neg (show ¬ (128 : Int) <= n by omega)]
    exact ⟨n, v, rfl, rfl, rfl, by omega⟩
theorem putNum_both (n : Int) {b : List UInt8} (hb : b.length <= 2 ^ 29) : ∃ r, S_spec_PutNum b n = some r ∧ S_impl_putNum_2 n b = some r ∧ r.length <= b.length + 6 ∧ (b = [] → S_impl_putNum n = some r) := by
  unfold S_spec_PutNum S_impl_putNum_2 S_impl_putNum T_spec_PutNum T_impl_putNum_2 T_impl_putNum
  rw [if_pos (room_ok (by decide) (by omega)), in_eq, Option.bind_some, Option.bind_some]
  by_cases h0 : n < 0
  · rw [if_pos h0, decide_eq_false (by omega)]
    exact ⟨b, rfl, rfl, by omega, fun h => by rw [h]⟩
  rw [if_neg h0]
  by_cases h1 : 2147483647 < n
  · rw [if_pos h1, decide_eq_false (by omega)]
    exact ⟨b, rfl, rfl, by omega, fun h => by rw [h]⟩
  rw [if_neg h1, decide_eq_true (by omega)]
  obtain ⟨n', v', e1, e2, e3, e4⟩ := putFirst (n := n) (v := b) (by omega) (by omega) hb
  have hr : roomP 1 (v'.length + [(b8 n')].length) := room_ok (by decide) (by simp only [List.length_singleton]; omega)
  dsimp only
  rw [e1, e2]
  simp only [Option.bind_some]
  rw [if_pos hr]
  refine ⟨_, rfl, rfl, by simp only [List.length_append, List.length_singleton]; omega, fun h => ?_⟩
  subst h
  rw [e3, Option.bind_some]
  dsimp only
  rw [if_pos hr]
theorem putText_both (t : List UInt8) {b : List UInt8} (hb : b.length <= 2 ^ 28) : ∃ r, S_spec_PutText b t = some r ∧ S_impl_putText t b = some r ∧ r.length <= b.length + 26 := by
  unfold S_spec_PutText S_impl_putText
  by_cases h : (20 : Int) < ((t.length : Nat) : Int)
  · rw [if_pos h, if_pos h, if_pos (room_ok (by decide) (by omega))]
    exact ⟨b, rfl, rfl, by omega⟩
  · rw [if_neg h, if_neg h]
    obtain ⟨r, h1, h2, h3, _⟩ := putNum_both ((t.length : Nat) : Int) (b := b) (by omega)
    rw [h1, h2]
    simp only [Option.bind_some]
    rw [if_pos (room_ok (by decide) (by omega))]
    exact ⟨_, rfl, rfl, by rw [List.length_append]; omega⟩
theorem put_val : ∀ (d : Nat) (f : Nat) (v : GValue) (b : List UInt8), shV d v = true → d + 50 <= f → b.length + 60 * ptV v <= 2 ^ 28 + 26 → ∃ r, U_spec_l2put f b v = some r ∧ U_impl_Value_bytes f v b = some r ∧ r.length + 26 <= b.length + 60 * ptV v := by
  intro d
  induction d with
  | zero => intro f v b h; cases h
  | succ d ih =>
    intro f v b h hf hb
    have hpt := ptV_eq v
    obtain ⟨f, rfl, _⟩ := fuel (show 0 < f by omega)
    rw [shV, Bool.and_eq_true] at h
    obtain ⟨hl, hk⟩ := h
    have hk := List.all_eq_true.1 hk
    have hloop : v.Kind = 4 ∨ v.Kind = 5 → ∀ (j i m : Nat) (c : List UInt8), i + j = v.L.length → j < m → c.length + 60 * ptVs (v.L.drop i) <= 2 ^ 28 → ∃ z r, L_spec_l2put_l0 (U_spec_l2put f) v m (i : Int) c = some (z, r) ∧ L_impl_Value_bytes_l0 (U_impl_Value_bytes f) v.L ((v.L.length : Nat) : Int) v m (i : Int) c = some (z, r) ∧ r.length <= c.length + 60 * ptVs (v.L.drop i) := by
      intro h45 j
      induction j with
      | zero =>
        intro i m c hi hm hc
        obtain ⟨m, rfl, _⟩ := fuel hm
        exact ⟨_, _, by rw [L_spec_l2put_l0, if_neg (by omega)], by rw [L_impl_Value_bytes_l0, if_neg (by omega)], by omega⟩
      | succ j jh =>
        intro i m c hi hm hc
        obtain ⟨m, rfl, hm'⟩ := fuel hm
        have hil : i < v.L.length := by omega
        have h40 : v.L.length <= 40 := by
          unfold locV at hl
          rcases h45 with h4 | h5
          · rw [if_neg (by omega), if_neg (by omega), if_neg (by omega), if_neg (by omega), if_pos h4] at hl
            exact (of_decide_eq_true hl).2.2.2
          · rw [if_neg (by omega), if_neg (by omega), if_neg (by omega), if_neg (by omega), if_neg (by omega), if_pos h5, Bool.and_eq_true] at hl
            exact (of_decide_eq_true hl.1).2.2.2
        have hdr : v.L.drop i = v.L[i] :: v.L.drop (i + 1) := List.drop_eq_getElem_cons hil
        rw [hdr, ptVs] at hc
        have hsh := hk _ (List.getElem_mem hil)
        rw [hdr, ptVs]
        rw [L_spec_l2put_l0, L_impl_Value_bytes_l0, if_pos (show (i : Int) < ((v.L.length : Nat) : Int) by omega), if_pos (show (i : Int) < ((v.L.length : Nat) : Int) by omega), natO_nat]
        simp only [Option.bind_some]
        rw [get_some hil]
        simp only [Option.bind_some]
        have hp1 := ptV_eq v.L[i]
        by_cases h5 : v.Kind = 5
        · have hkl : v.K.length = v.L.length := by
            unfold locV at hl
            rw [if_neg (by omega), if_neg (by omega), if_neg (by omega), if_neg (by omega), if_neg (by omega), if_pos h5, Bool.and_eq_true] at hl
            exact (of_decide_eq_true hl.1).1
          rw [if_pos h5, if_pos h5, get_some (show i < v.K.length by omega)]
          simp only [Option.bind_some]
          obtain ⟨r1, a1, a2, a3⟩ := putText_both v.K[i] (b := c) (by omega)
          rw [a1, a2]
          simp only [Option.bind_some]
          obtain ⟨r2, b1, b2, b3⟩ := ih f v.L[i] r1 hsh (by omega) (by omega)
          rw [b1, b2]
          simp only [Option.bind_some]
          rw [w64_succ (by omega)]
          obtain ⟨z, r, c1, c2, c3⟩ := jh (i + 1) m r2 (by omega) (by omega) (by omega)
          exact ⟨z, r, c1, c2, by omega⟩
        · rw [if_neg h5, if_neg h5]
          obtain ⟨r2, b1, b2, b3⟩ := ih f v.L[i] c hsh (by omega) (by omega)
          rw [b1, b2]
          simp only [Option.bind_some]
          rw [w64_succ (by omega)]
          obtain ⟨z, r, c1, c2, c3⟩ := jh (i + 1) m r2 (by omega) (by omega) (by omega)
          exact ⟨z, r, c1, c2, by omega⟩
    rw [U_spec_l2put, U_impl_Value_bytes]
    unfold T_spec_l2put T_impl_Value_bytes
    obtain ⟨r1, a1, a2, a3, _⟩ := putNum_both v.Kind (b := b) (by omega)
    rw [a1, a2]
    simp only [Option.bind_some]
    have h40 : v.Kind = 4 ∨ v.Kind = 5 → v.L.length <= 40 := by
      unfold locV at hl
      rintro (h4 | h5)
      · rw [if_neg (by omega), if_neg (by omega), if_neg (by omega), if_neg (by omega), if_pos h4] at hl
        exact (of_decide_eq_true hl).2.2.2
      · rw [if_neg (by omega), if_neg (by omega), if_neg (by omega), if_neg (by omega), if_neg (by omega), if_pos h5, Bool.and_eq_true] at hl
        exact (of_decide_eq_true hl.1).2.2.2
    by_cases k1 : v.Kind = 1
    · rw [if_pos k1, if_pos k1]
      obtain ⟨r2, b1, b2, b3, _⟩ := putNum_both v.N (b := r1) (by omega)
      rw [b1, b2]
      exact ⟨r2, rfl, rfl, by omega⟩
    rw [if_neg k1, if_neg k1]
    by_cases k2 : v.Kind = 2
    · rw [if_pos k2, if_pos k2]
      by_cases hn : v.N < 0
      · rw [if_pos hn, if_pos hn]
        obtain ⟨r2, b1, b2, b3, _⟩ := putNum_both 1 (b := r1) (by omega)
        rw [b1, b2]
        simp only [Option.bind_some]
        obtain ⟨r3, c1, c2, c3, _⟩ := putNum_both (w64 ((w64 (0 - v.N)).tdiv 1000000)) (b := r2) (by omega)
        rw [c1, c2]
        simp only [Option.bind_some]
        obtain ⟨r4, d1, d2, d3, _⟩ := putNum_both ((w64 (0 - v.N)).tmod 1000000) (b := r3) (by omega)
        rw [d1, d2]
        exact ⟨r4, rfl, rfl, by omega⟩
      · rw [if_neg hn, if_neg hn]
        obtain ⟨r2, b1, b2, b3, _⟩ := putNum_both 0 (b := r1) (by omega)
        rw [b1, b2]
        simp only [Option.bind_some]
        obtain ⟨r3, c1, c2, c3, _⟩ := putNum_both (w64 (v.N.tdiv 1000000)) (b := r2) (by omega)
        rw [c1, c2]
        simp only [Option.bind_some]
        obtain ⟨r4, d1, d2, d3, _⟩ := putNum_both (v.N.tmod 1000000) (b := r3) (by omega)
        rw [d1, d2]
        exact ⟨r4, rfl, rfl, by omega⟩
    rw [if_neg k2, if_neg k2]
    by_cases k3 : v.Kind = 3
    · rw [if_pos k3, if_pos k3]
      obtain ⟨r2, b1, b2, b3⟩ := putText_both v.S (b := r1) (by omega)
      rw [b1, b2]
      exact ⟨r2, rfl, rfl, by omega⟩
    rw [if_neg k3, if_neg k3]
    by_cases k45 : v.Kind = 4 ∨ v.Kind = 5
    · obtain ⟨r2, b1, b2, b3, _⟩ := putNum_both ((v.L.length : Nat) : Int) (b := r1) (by omega)
      have hc := h40 k45
      obtain ⟨z, r3, c1, c2, c3⟩ := hloop k45 v.L.length 0 f r2 (by omega) (by omega) (by rw [List.drop_zero]; omega)
      rw [List.drop_zero] at c3
      by_cases k4 : v.Kind = 4
      · rw [if_pos k4, if_pos k4, b1, b2]
        simp only [Option.bind_some]
        rw [show (0 : Int) = ((0 : Nat) : Int) from rfl, c1, c2]
        exact ⟨r3, rfl, rfl, by omega⟩
      · have k5 : v.Kind = 5 := by omega
        rw [if_neg k4, if_neg k4, if_pos k5, if_pos k5, b1, b2]
        simp only [Option.bind_some]
        rw [show (0 : Int) = ((0 : Nat) : Int) from rfl, c1, c2]
        exact ⟨r3, rfl, rfl, by omega⟩
    · rw [if_neg (show ¬ v.Kind = 4 by omega), if_neg (show ¬ v.Kind = 4 by omega), if_neg (show ¬ v.Kind = 5 by omega), if_neg (show ¬ v.Kind = 5 by omega)]
      exact ⟨r1, rfl, rfl, by omega⟩
theorem deps_both {e : GEvent} (h8 : e.Deps.length <= 8) : ∀ (j i m : Nat) (c : List UInt8), i + j = e.Deps.length → j < m → c.length + 30 * j <= 2 ^ 20 → ∃ z r, L_spec_l4bytes_l0 e m (i : Int) c = some (z, r) ∧ L_impl_eventBytes_l0 e.Deps ((e.Deps.length : Nat) : Int) e m (i : Int) c = some (z, r) ∧ r.length <= c.length + 30 * j := by
  intro j
  induction j with
  | zero =>
    intro i m c hi hm hc
    obtain ⟨m, rfl, _⟩ := fuel hm
    exact ⟨_, _, by rw [L_spec_l4bytes_l0, if_neg (by omega)], by rw [L_impl_eventBytes_l0, if_neg (by omega)], by omega⟩
  | succ j jh =>
    intro i m c hi hm hc
    obtain ⟨m, rfl, hm'⟩ := fuel hm
    have hil : i < e.Deps.length := by omega
    rw [L_spec_l4bytes_l0, L_impl_eventBytes_l0, if_pos (show (i : Int) < ((e.Deps.length : Nat) : Int) by omega), if_pos (show (i : Int) < ((e.Deps.length : Nat) : Int) by omega), natO_nat]
    simp only [Option.bind_some]
    rw [get_some hil]
    simp only [Option.bind_some]
    obtain ⟨r1, a1, a2, a3⟩ := putText_both e.Deps[i] (b := c) (by omega)
    rw [a1, a2]
    simp only [Option.bind_some]
    rw [w64_succ (by omega)]
    obtain ⟨z, r, c1, c2, c3⟩ := jh (i + 1) m r1 (by omega) (by omega) (by omega)
    exact ⟨z, r, c1, c2, by omega⟩
theorem event_bytes {e : GEvent} (h : evB e = true) : ∃ r, S_spec_l4bytes e = some r ∧ S_impl_eventBytes e = some r ∧ r.length <= 2 ^ 20 := by
  unfold S_spec_l4bytes S_impl_eventBytes T_spec_l4bytes T_impl_eventBytes
  obtain ⟨r1, a1, _, a3, a2⟩ := putNum_both e.Kind (b := []) (by simp)
  rw [a1, a2 rfl]
  simp only [Option.bind_some, List.length_nil] at a3 ⊢
  unfold evB at h
  by_cases k0 : e.Kind = 0 ∨ e.Kind = 5 ∨ e.Kind = 6
  · rw [if_neg (show ¬ e.Kind = 2 by omega), if_pos k0] at h
    simp only [Bool.and_eq_true] at h
    have hl := of_decide_eq_true h.2.1
    rw [if_neg (show ¬ (0 : Int) < ((e.Addr.length : Nat) : Int) by omega), if_neg (show ¬ e.Kind = 1 by omega), if_neg (show ¬ e.Kind = 2 by omega)]
    refine ⟨r1, ?_, rfl, by omega⟩
    rcases k0 with k | k | k
    · rw [if_pos k]
    · rw [if_neg (by omega), if_pos k]
    · rw [if_neg (by omega), if_neg (by omega), if_pos k]
  · have hA : 0 < e.Addr.length := by
      by_cases k2 : e.Kind = 2
      · rw [if_pos k2, Bool.and_eq_true, Bool.and_eq_true, Bool.and_eq_true] at h
        exact addrB_ne h.1.1.1
      · rw [if_neg k2, if_neg k0, Bool.and_eq_true] at h
        have h := h.2
        by_cases k1 : e.Kind = 1
        · rw [if_pos k1, Bool.and_eq_true] at h; exact addrB_ne h.1
        · rw [if_neg k1] at h
          by_cases k3 : e.Kind = 3 ∨ e.Kind = 4
          · rw [if_pos k3, Bool.and_eq_true] at h; exact addrB_ne h.1
          · rw [if_neg k3] at h; cases h
    rw [if_neg (show ¬ e.Kind = 0 by omega), if_neg (show ¬ e.Kind = 5 by omega), if_neg (show ¬ e.Kind = 6 by omega), if_pos (show (0 : Int) < ((e.Addr.length : Nat) : Int) by omega)]
    obtain ⟨r2, b1, b2, b3⟩ := putText_both e.Addr (b := r1) (by omega)
    rw [b1, b2]
    simp only [Option.bind_some]
    by_cases k1 : e.Kind = 1
    · rw [if_pos k1, if_pos k1]
      obtain ⟨r3, c1, c2, c3, _⟩ := putNum_both e.Act (b := r2) (by omega)
      rw [c1, c2]
      exact ⟨r3, rfl, rfl, by omega⟩
    rw [if_neg k1, if_neg k1]
    by_cases k2 : e.Kind = 2
    · rw [if_pos k2, if_pos k2]
      rw [if_pos k2, Bool.and_eq_true, Bool.and_eq_true, Bool.and_eq_true] at h
      have hd := h.2
      have hv := h.1.2
      unfold addrsB at hd
      rw [Bool.and_eq_true] at hd
      have h8 := of_decide_eq_true hd.1
      unfold kmapB at hv
      rw [Bool.and_eq_true, Bool.and_eq_true] at hv
      have hs := of_decide_eq_true hv.1.2
      obtain ⟨r3, c1, c2, c3, _⟩ := putNum_both ((e.Deps.length : Nat) : Int) (b := r2) (by omega)
      rw [c1, c2]
      simp only [Option.bind_some]
      obtain ⟨z, r4, d1, d2, d3⟩ := deps_both h8 e.Deps.length 0 100 r3 (by omega) (by omega) (by omega)
      rw [show (0 : Int) = ((0 : Nat) : Int) from rfl, d1, d2]
      simp only [Option.bind_some]
      obtain ⟨r5, f1, f2, f3⟩ := put_val 5 100 e.Val r4 hs.1 (by decide) (by omega)
      unfold S_spec_l2put S_impl_Value_bytes
      rw [f1, f2]
      exact ⟨r5, rfl, rfl, by omega⟩
    rw [if_neg k2, if_neg k2]
    exact ⟨r2, rfl, rfl, by omega⟩
theorem eventBytes_both {e : GEvent} (h : evsz e <= 2 ^ 20) : ∃ r b, S_spec_EventBytes e = some (r, b) ∧ S_impl_EventBytes e = some (r, b) ∧ r.length <= 2 ^ 20 := by
  unfold S_spec_EventBytes S_impl_EventBytes
  rw [specEv_eq h, implEv_eq h]
  simp only [Option.bind_some]
  cases hb : evB e with
  | false => exact ⟨[], false, rfl, rfl, by simp⟩
  | true =>
    obtain ⟨r, h1, h2, h3⟩ := event_bytes hb
    dsimp only
    rw [h1, h2]
    exact ⟨r, true, rfl, rfl, h3⟩
theorem law_EventBytes {e : GEvent} (hs : MdEv e) : S_laws_FnExactEventBytes e = some true := by
  unfold S_laws_FnExactEventBytes
  rw [szEv_eq hs (by decide) (by decide), Option.bind_some]
  unfold leftV
  by_cases c : (evsz e : Int) <= 1048576
  · have hz : evsz e <= 2 ^ 20 := by omega
    rw [if_pos c, if_neg (by omega), toEv_eq hz, Option.bind_some]
    obtain ⟨r, b, h1, h2, hr⟩ := eventBytes_both hz
    rw [h1, Option.bind_some]
    dsimp only
    rw [h2, Option.bind_some]
    dsimp only
    rw [eqB_eq (by omega), Option.bind_some]
    dsimp only
    rw [eqEv_eq (by omega), Option.bind_some]
    dsimp only
    obtain ⟨k, x1, x2, x3, x4, x5, hm, hk⟩ := markEv_eq (e := e) (by omega)
    rw [hm, Option.bind_some]
    dsimp only
    rw [if_neg (by omega), markByteS_eq (by omega) (by omega), Option.bind_some]
    dsimp only
    rw [heldByteS_eq (mB_idem _ _) (by decide) (by rw [mB_len]; omega), Option.bind_some, mB_len, if_neg (by omega), if_pos rfl]
    cases b <;> rfl
  · rw [if_neg c, if_pos (by omega)]
end
end Go.Am.Try
