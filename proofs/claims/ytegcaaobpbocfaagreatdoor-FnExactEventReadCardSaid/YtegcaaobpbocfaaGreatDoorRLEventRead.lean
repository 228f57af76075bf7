/- The law of FnExactEventRead, in plain terms. -/
import Derived.Test.YtegcaaobpbocfaaGreatDoorRG5
set_option linter.unusedVariables false
set_option linter.unusedSimpArgs false
namespace Go.Am.Try
open Go.Am
noncomputable section
theorem specV_eq {v : GValue} (h : vsz v <= 2 ^ 20) : S_spec_ValOk v = some (valB v) := by
  unfold S_spec_ValOk S_spec_l2ok
  rw [if_pos ⟨h, by decide, by decide, by decide⟩, Option.bind_some]
  congr 1
  unfold okV valB
  rw [show (6 - (1 : Int)).toNat = 5 from rfl]
  by_cases hc : shV 5 v = true ∧ (ptV v : Int) <= 40
  · rw [if_pos hc, decide_eq_true hc]; exact decide_eq_true (by omega)
  · rw [if_neg hc, decide_eq_false hc]; rfl
theorem implV_eq {v : GValue} (h : vsz v <= 2 ^ 20) : S_impl_isValue v = some (valB v) := by
  unfold S_impl_isValue S_impl_isShaped S_impl_Value_parts valB
  rw [if_pos ⟨h, by decide, by decide⟩, Option.bind_some]
  rw [show (5 : Int).toNat = 5 from rfl]
  cases hs : shV 5 v
  · simp
  · dsimp only
    rw [if_pos h, Option.bind_some]
    simp
theorem eqV_eq {v : GValue} (h : vsz v <= 2 ^ 39) : S_laws_eqValue v v = some true := if_pos ⟨rfl, by omega⟩
theorem toB_eq {s : List UInt8} (h : s.length <= 2 ^ 20) : S_laws_toByteS s = some s := if_pos h
theorem eqB_eq {s : List UInt8} (h : s.length <= 2 ^ 39) : S_laws_eqByteS s s = some true := if_pos ⟨rfl, by omega⟩
def evsz (e : GEvent) : Nat := e.Addr.length + vsz e.Val + bsz e.Deps
theorem eqEv_eq {e : GEvent} (h : evsz e <= 2 ^ 39) : S_laws_eqEvent e e = some true := by
  unfold evsz at h
  unfold S_laws_eqEvent S_laws_eqByteS S_laws_eqByteSS
  rw [if_pos rfl, if_pos ⟨rfl, by omega⟩, Option.bind_some]
  dsimp only
  rw [if_pos rfl, eqV_eq (by omega), Option.bind_some]
  dsimp only
  rw [if_pos ⟨rfl, by omega⟩, Option.bind_some]
def zeroB (v : GValue) : Bool := decide (v.Kind = 0 ∧ v.N = 0 ∧ v.S.length = 0 ∧ v.K.length = 0 ∧ v.L.length = 0)
def evB (e : GEvent) : Bool :=
  if e.Kind = 2 then addrB e.Addr && decide (e.Act = 0) && kmapB e.Val && addrsB e.Deps
  else zeroB e.Val && decide (e.Deps.length = 0) &&
    (if e.Kind = 0 ∨ e.Kind = 5 ∨ e.Kind = 6 then decide (e.Addr.length = 0) && decide (e.Act = 0)
     else if e.Kind = 1 then addrB e.Addr && decide (1 <= e.Act ∧ e.Act <= 4)
     else if e.Kind = 3 ∨ e.Kind = 4 then addrB e.Addr && decide (e.Act = 0) else false)
theorem ekmI_eq {v : GValue} (h : vsz v <= 2 ^ 20) : S_impl_isKnownMap v = some (kmapB v) := by
  unfold S_impl_isKnownMap S_impl_isMap kmapB
  by_cases h5 : v.Kind = 5
  · rw [if_pos h5, implV_eq h, Option.bind_some, decide_eq_true h5, Bool.true_and]
    cases hv : valB v with
    | false => rfl
    | true =>
      simp only [Bool.true_and]
      unfold S_impl_Value_known
      rw [if_pos (by omega)]; rfl
  · rw [if_neg h5, decide_eq_false h5]; rfl
theorem ekmS_eq {v : GValue} (h : vsz v <= 2 ^ 20) : S_spec_l4map v = some (kmapB v) := by
  unfold S_spec_l4map kmapB
  by_cases h5 : v.Kind = 5
  · rw [if_pos h5, specV_eq h, Option.bind_some, decide_eq_true h5, Bool.true_and]
    cases hv : valB v with
    | false => rfl
    | true =>
      simp only [Bool.true_and]
      unfold S_spec_l2known
      rw [if_pos (by omega)]; rfl
  · rw [if_neg h5, decide_eq_false h5]; rfl
theorem isZero_eq (v : GValue) : S_impl_isZero v = some (zeroB v) := by
  unfold S_impl_isZero zeroB
  by_cases h1 : v.Kind = 0 <;> by_cases h2 : v.N = 0 <;> by_cases h3 : v.S.length = 0 <;> by_cases h4 : v.K.length = 0 <;> by_cases h5 : v.L.length = 0 <;> simp [h1, h2, h3, h4, h5, List.length_eq_zero_iff.1] <;> simp_all
theorem l2num_zero (a : Int) : ∃ r, S_spec_l2num a 0 = some r ∧ (r = 0 ↔ a = 0) := by
  unfold S_spec_l2num
  by_cases h : a < 0
  · exact ⟨_, if_pos h, by omega⟩
  · rw [if_neg h]
    by_cases h' : 0 < a
    · exact ⟨_, if_pos h', by omega⟩
    · exact ⟨_, if_neg h', by omega⟩
theorem l2cmp_zero (G : GValue → GValue → Option Int) (n : Nat) (v z : GValue) (hk : z.Kind = 0) (hn : z.N = 0) (hl : z.L.length = 0) : ∃ r, T_spec_l2cmp G (n + 1) v z = some r ∧ ((r = 0 ∧ v.N = 0) ↔ (v.Kind = 0 ∧ v.N = 0 ∧ v.L.length = 0)) := by
  unfold T_spec_l2cmp
  rw [hk]
  by_cases h1 : v.Kind = 0
  · rw [if_pos h1, if_neg (by omega), hn]
    by_cases h2 : v.N = 0
    · rw [if_pos h2, L_spec_l2cmp_l0, hl]
      obtain ⟨r, hr, hr2⟩ := l2num_zero (v.L.length : Int)
      refine ⟨r, ?_, by simp only [h1, h2, true_and, and_true]; omega⟩
      by_cases h3 : (0 : Int) < (v.L.length : Int)
      · rw [if_pos h3, if_neg (by omega), Option.bind_some]
        dsimp only
        rw [show ((0 : Nat) : Int) = 0 from rfl, hr, Option.bind_some]
      · rw [if_neg h3, Option.bind_some]
        dsimp only
        rw [show ((0 : Nat) : Int) = 0 from rfl, hr, Option.bind_some]
    · rw [if_neg h2]
      obtain ⟨r, hr, hr2⟩ := l2num_zero v.N
      exact ⟨r, by rw [hr, Option.bind_some], ⟨fun h => absurd h.2 h2, fun h => absurd h.2.1 h2⟩⟩
  · rw [if_neg h1]
    obtain ⟨r, hr, hr2⟩ := l2num_zero v.Kind
    exact ⟨r, by rw [hr, Option.bind_some], ⟨fun h => absurd (hr2.1 h.1) h1, fun h => absurd h.1 h1⟩⟩
theorem l4zero_eq (v : GValue) : S_spec_l4zero v = some (decide (v.Kind = 0 ∧ v.N = 0 ∧ v.L.length = 0)) := by
  unfold S_spec_l4zero S_spec_l2cmp
  rw [show vsz v + 3 = (vsz v + 1 + 1) + 1 from rfl, U_spec_l2cmp]
  obtain ⟨r, hr, hr2⟩ := l2cmp_zero (U_spec_l2cmp (vsz v + 1 + 1)) (vsz v + 1) v (GValue.mk 0 0 [] [] []) rfl rfl rfl
  rw [hr, Option.bind_some]
  by_cases h : r = 0
  · rw [if_pos h]; exact congrArg some (decide_eq_decide.2 (by rw [<- hr2]; simp [h]))
  · rw [if_neg h]; exact congrArg some (decide_eq_false (fun h' => h (hr2.2 h').1)).symm
theorem zero_val {v : GValue} (h : zeroB v = true) : valB v = true := by
  unfold zeroB at h
  cases v
  simp only [GValue.Kind, GValue.N, GValue.S, GValue.K, GValue.L, decide_eq_true_eq, List.length_eq_zero_iff] at h
  obtain ⟨rfl, rfl, rfl, rfl, rfl⟩ := h
  exact decide_eq_true ⟨by simp [shV, locV, GValue.Kind, GValue.N, GValue.S, GValue.K, GValue.L], by simp [ptV, ptVs]⟩
theorem zero_of {v : GValue} (h : valB v = true) : zeroB v = decide (v.Kind = 0 ∧ v.N = 0 ∧ v.L.length = 0) := by
  unfold zeroB
  refine decide_eq_decide.2 ⟨fun ⟨a, b, _, _, c⟩ => ⟨a, b, c⟩, fun ⟨a, b, c⟩ => ?_⟩
  have := (of_decide_eq_true h).1
  rw [shV] at this
  have hl := (Bool.and_eq_true _ _ ▸ this).1
  unfold locV at hl
  rw [if_pos (Or.inl a)] at hl
  have := of_decide_eq_true hl
  exact ⟨a, this⟩
theorem addrB_ne {a : List UInt8} (h : addrB a = true) : 0 < a.length := by
  rcases a with _ | ⟨x, l⟩
  · revert h; decide
  · simp
theorem implEv_eq {e : GEvent} (h : evsz e <= 2 ^ 20) : S_impl_isEvent e = some (evB e) := by
  unfold evsz at h
  unfold S_impl_isEvent evB
  by_cases k2 : e.Kind = 2
  · rw [if_pos k2, if_pos k2, implAd_eq (by omega), Option.bind_some]
    cases addrB e.Addr with
    | false => rfl
    | true =>
      dsimp only
      by_cases ha : e.Act = 0
      · rw [if_pos ha, ekmI_eq (by omega), Option.bind_some, decide_eq_true ha]
        cases kmapB e.Val with
        | false => rfl
        | true =>
          dsimp only
          rw [show S_impl_areAddrs e.Deps = some (addrsB e.Deps) from if_pos (by omega)]
          simp
      · rw [if_neg ha, decide_eq_false ha]; rfl
  · rw [if_neg k2, if_neg k2, isZero_eq, Option.bind_some]
    cases zeroB e.Val with
    | false => rfl
    | true =>
      dsimp only
      by_cases d : e.Deps.length = 0
      · rw [if_neg (by omega), decide_eq_true d, Bool.true_and, Bool.true_and]
        by_cases k0 : e.Kind = 0 ∨ e.Kind = 5 ∨ e.Kind = 6
        · rw [if_pos k0]
          have hh : (if ((e.Addr.length : Nat) : Int) = 0 then some (decide (e.Act = 0)) else some false) = some (decide (e.Addr.length = 0) && decide (e.Act = 0)) := by
            by_cases hl : e.Addr.length = 0
            · rw [if_pos (by omega), decide_eq_true hl, Bool.true_and]
            · rw [if_neg (by omega), decide_eq_false hl, Bool.false_and]
          rw [hh]
          by_cases k00 : e.Kind = 0
          · rw [if_pos k00]
          · rw [if_neg k00]
            by_cases k05 : e.Kind = 5
            · rw [if_pos k05]
            · rw [if_neg k05, if_pos (by omega)]
        · rw [if_neg k0, if_neg (by omega), if_neg (by omega), if_neg (by omega)]
          by_cases k1 : e.Kind = 1
          · rw [if_pos k1, if_pos k1, implAd_eq (by omega), Option.bind_some]
            cases addrB e.Addr with
            | false => rfl
            | true => dsimp only; rw [in_eq, Option.bind_some]; rfl
          · rw [if_neg k1, if_neg k1]
            by_cases k3 : e.Kind = 3
            · rw [if_pos k3, if_pos (Or.inl k3), implAd_eq (by omega), Option.bind_some]
              cases addrB e.Addr <;> rfl
            · rw [if_neg k3]
              by_cases k4 : e.Kind = 4
              · rw [if_pos k4, if_pos (Or.inr k4), implAd_eq (by omega), Option.bind_some]
                cases addrB e.Addr <;> rfl
              · rw [if_neg k4, if_neg (by omega)]
      · rw [if_pos (by omega), decide_eq_false d]; rfl
theorem zvd {v : GValue} (h : vsz v <= 2 ^ 20) (d : Nat) : ((S_spec_ValOk v).bind fun r => match r with | true => (S_spec_l4zero v).bind fun r => (match r with | true => some (decide (((d : Nat) : Int) = 0)) | false => some false) | false => some false) = some (zeroB v && decide (d = 0)) := by
  rw [specV_eq h, Option.bind_some]
  cases hv : valB v with
  | true =>
    dsimp only
    rw [l4zero_eq, Option.bind_some, zero_of hv]
    cases decide (v.Kind = 0 ∧ v.N = 0 ∧ v.L.length = 0) with
    | true => exact congrArg some (by rw [Bool.true_and]; exact decide_eq_decide.2 (by omega))
    | false => rfl
  | false =>
    dsimp only
    cases hz : zeroB v with
    | true => rw [zero_val hz] at hv; cases hv
    | false => rfl
theorem specEv_eq {e : GEvent} (h : evsz e <= 2 ^ 20) : S_spec_EventOk e = some (evB e) := by
  unfold evsz at h
  unfold S_spec_EventOk evB
  rw [specAd_eq (by omega)]
  simp only [Option.bind_some]
  have Z := zvd (v := e.Val) (by omega) e.Deps.length
  have hb := @addrB_ne e.Addr
  by_cases r0 : e.Kind < 0
  · rw [if_pos r0, if_neg (show ¬ e.Kind = 2 by omega), if_neg (show ¬ (e.Kind = 0 ∨ e.Kind = 5 ∨ e.Kind = 6) by omega), if_neg (show ¬ e.Kind = 1 by omega), if_neg (show ¬ (e.Kind = 3 ∨ e.Kind = 4) by omega), Bool.and_false]
  rw [if_neg r0]
  by_cases r6 : 6 < e.Kind
  · rw [if_pos r6, if_neg (show ¬ e.Kind = 2 by omega), if_neg (show ¬ (e.Kind = 0 ∨ e.Kind = 5 ∨ e.Kind = 6) by omega), if_neg (show ¬ e.Kind = 1 by omega), if_neg (show ¬ (e.Kind = 3 ∨ e.Kind = 4) by omega), Bool.and_false]
  rw [if_neg r6]
  generalize (zeroB e.Val && decide (e.Deps.length = 0)) = z at Z ⊢
  by_cases k1 : e.Kind = 1
  · rw [if_pos k1, if_neg (show ¬ e.Kind = 2 by omega), if_neg (show ¬ (e.Kind = 0 ∨ e.Kind = 5 ∨ e.Kind = 6) by omega), if_pos k1]
    cases hA : addrB e.Addr with
    | false =>
      dsimp only
      rw [Bool.false_and, Bool.and_false]
      split <;> rfl
    | true =>
      have := hb hA
      rw [if_pos (show (0 : Int) < ((e.Addr.length : Nat) : Int) by omega)]
      dsimp only
      by_cases a1 : e.Act < 1
      · rw [if_pos a1, decide_eq_false (by omega)]; simp
      · rw [if_neg a1]
        by_cases a2 : 4 < e.Act
        · rw [if_pos a2, decide_eq_false (by omega)]; simp
        · rw [if_neg a2, decide_eq_true (show 1 <= e.Act ∧ e.Act <= 4 by omega)]; exact Z.trans (by simp)
  rw [if_neg k1]
  by_cases k2 : e.Kind = 2
  · rw [if_pos k2, if_pos k2]
    cases hA : addrB e.Addr with
    | false =>
      dsimp only
      split <;> rfl
    | true =>
      have := hb hA
      rw [if_pos (show (0 : Int) < ((e.Addr.length : Nat) : Int) by omega)]
      dsimp only
      by_cases ha : e.Act = 0
      · rw [if_pos ha, ekmS_eq (by omega), Option.bind_some, decide_eq_true ha]
        cases kmapB e.Val with
        | false => rfl
        | true =>
          dsimp only
          rw [show S_spec_l4addrs e.Deps = some (addrsB e.Deps) from if_pos (by omega)]
          simp
      · rw [if_neg ha, decide_eq_false ha]; rfl
  rw [if_neg k2, if_neg k2]
  by_cases k3 : e.Kind = 3
  · rw [if_pos k3, if_neg (show ¬ (e.Kind = 0 ∨ e.Kind = 5 ∨ e.Kind = 6) by omega), if_neg k1, if_pos (Or.inl k3)]
    cases hA : addrB e.Addr with
    | false => dsimp only; rw [Bool.false_and, Bool.and_false]; split <;> rfl
    | true =>
      have := hb hA
      rw [if_pos (show (0 : Int) < ((e.Addr.length : Nat) : Int) by omega)]
      dsimp only
      by_cases ha : e.Act = 0
      · rw [if_pos ha, decide_eq_true ha]; exact Z.trans (by simp)
      · rw [if_neg ha, decide_eq_false ha]; simp
  rw [if_neg k3]
  by_cases k4 : e.Kind = 4
  · rw [if_pos k4, if_neg (show ¬ (e.Kind = 0 ∨ e.Kind = 5 ∨ e.Kind = 6) by omega), if_neg k1, if_pos (Or.inr k4)]
    cases hA : addrB e.Addr with
    | false => dsimp only; rw [Bool.false_and, Bool.and_false]; split <;> rfl
    | true =>
      have := hb hA
      rw [if_pos (show (0 : Int) < ((e.Addr.length : Nat) : Int) by omega)]
      dsimp only
      by_cases ha : e.Act = 0
      · rw [if_pos ha, decide_eq_true ha]; exact Z.trans (by simp)
      · rw [if_neg ha, decide_eq_false ha]; simp
  rw [if_neg k4, if_pos (show e.Kind = 0 ∨ e.Kind = 5 ∨ e.Kind = 6 by omega)]
  by_cases hl : e.Addr.length = 0
  · rw [if_neg (by omega), decide_eq_true hl, Bool.true_and]
    by_cases ha : e.Act = 0
    · rw [if_pos ha, decide_eq_true ha]; exact Z.trans (by simp)
    · rw [if_neg ha, decide_eq_false ha]; simp
  · rw [if_pos (by omega), decide_eq_false hl, Bool.false_and, Bool.and_false]
theorem putLoop : ∀ (f m : Nat) (n : Int) (v : List UInt8), 0 <= n → n < 128 ^ (f + 1) → n < 2 ^ 31 → v.length + f <= 2 ^ 30 → f < m → ∃ n' v', L_spec_PutNum_l0a m n v = some (n', v') ∧ L_impl_putNum_2_l0a m n v = some (n', v') ∧ L_impl_putNum_l0a m n v = some (n', v') ∧ v'.length <= v.length + f := by
  intro f
  induction f with
  | zero =>
    intro m n v h0 h1 _ hv hm
    obtain ⟨m, rfl, _⟩ := fuel hm
    exact ⟨n, v, by rw [L_spec_PutNum_l0a, if_neg (by omega)], by rw [L_impl_putNum_2_l0a, if_neg (by omega)], by rw [L_impl_putNum_l0a, if_neg (by omega)], by omega⟩
  | succ f ih =>
    intro m n v h0 h1 h31 hv hm
    obtain ⟨m, rfl, hm'⟩ := fuel hm
    by_cases hn : 127 < n
    · have hd : n.tdiv 128 = n / 128 := Int.tdiv_eq_ediv_of_nonneg h0
      have hp : (128 : Int) ^ (f + 1 + 1) = 128 ^ (f + 1) * 128 := Int.pow_succ ..
      have hlt : n / 128 < 128 ^ (f + 1) := Int.ediv_lt_of_lt_mul (by decide) (by rw [<- hp]; exact h1)
      have hw : w64 (n.tdiv 128) = n / 128 := by rw [hd]; exact w64_id (by omega) (by omega)
      obtain ⟨n', v', e1, e2, e3, e4⟩ := ih m (n / 128) (v ++ [(b8 (w64 ((n.tmod 128) + 128)))]) (by omega) hlt (by omega) (by simp only [List.length_append, List.length_singleton]; omega) (by omega)
      have hr : roomP 1 (v.length + [(b8 (w64 ((n.tmod 128) + 128)))].length) := room_ok (by decide) (by simp only [List.length_singleton]; omega)
      refine ⟨n', v', ?_, ?_, ?_, by simp only [List.length_append, List.length_singleton] at e4; omega⟩
      · rw [L_spec_PutNum_l0a, if_pos hn, if_pos hr, hw, e1]
      · rw [L_impl_putNum_2_l0a, if_pos (by omega), if_pos hr, hw, e2]
      · rw [L_impl_putNum_l0a, if_pos (by omega), if_pos hr, hw, e3]
    · exact ⟨n, v, by rw [L_spec_PutNum_l0a, if_neg hn], by rw [L_impl_putNum_2_l0a, if_neg (by omega)], by rw [L_impl_putNum_l0a, if_neg (by omega)], by omega⟩
theorem putFirst {n : Int} {v : List UInt8} (h0 : 0 <= n) (h31 : n < 2 ^ 31) (hv : v.length <= 2 ^ 29) : ∃ n' v', L_spec_PutNum_l0 10 n false v 10 = some (n', v') ∧ L_impl_putNum_2_l0 10 n false v 10 = some (n', v') ∧ L_impl_putNum_l0 10 n false v 10 = some (n', v') ∧ v'.length <= v.length + 5 := by
  show ∃ n' v', L_spec_PutNum_l0 10 n false v (9 + 1) = some (n', v') ∧ L_impl_putNum_2_l0 10 n false v (9 + 1) = some (n', v') ∧ L_impl_putNum_l0 10 n false v (9 + 1) = some (n', v') ∧ _
  rw [L_spec_PutNum_l0, L_impl_putNum_2_l0, L_impl_putNum_l0]
  by_cases hn : 127 < n
  · have hd : n.tdiv 128 = n / 128 := Int.tdiv_eq_ediv_of_nonneg h0
    have hw : w64 (n.tdiv 128) = n / 128 := by rw [hd]; exact w64_id (by omega) (by omega)
    have hr : roomP 1 (v.length + [(b8 (w64 ((n.tmod 128) + 128)))].length) := room_ok (by decide) (by simp only [List.length_singleton]; omega)
    obtain ⟨n', v', e1, e2, e3, e4⟩ := putLoop 4 10 (n / 128) (v ++ [(b8 (w64 ((n.tmod 128) + 128)))]) (by omega) (by rw [show (128 : Int) ^ (4 + 1) = 34359738368 from rfl]; omega) (by omega) (by simp only [List.length_append, List.length_singleton]; omega) (by decide)
    rw [if_pos hn, if_pos hr, if_pos (show (128 : Int) <= n by omega), if_pos hr, if_pos (show (128 : Int) <= n by omega), if_pos hr, hw, e1, e2, e3]
    exact ⟨n', v', rfl, rfl, rfl, by simp only [List.length_append, List.length_singleton] at e4; omega⟩
  · rw [if_neg hn, if_neg (show ¬ (128 : Int) <= n by omega), if_neg (show ¬ (128 : Int) <= n by omega)]
    exact ⟨n, v, rfl, rfl, rfl, by omega⟩
theorem putNum_both (n : Int) {b : List UInt8} (hb : b.length <= 2 ^ 29) : ∃ r, S_spec_PutNum b n = some r ∧ S_impl_putNum_2 n b = some r ∧ r.length <= b.length + 6 ∧ (b = [] → S_impl_putNum n = some r) := by
  unfold S_spec_PutNum S_impl_putNum_2 S_impl_putNum T_spec_PutNum T_impl_putNum_2 T_impl_putNum
  rw [if_pos (room_ok (by decide) (by omega)), in_eq, Option.bind_some, Option.bind_some]
  by_cases h0 : n < 0
  · rw [if_pos h0, decide_eq_false (by omega)]
    exact ⟨b, rfl, rfl, by omega, fun h => by rw [h]⟩
  rw [if_neg h0]
  by_cases h1 : 2147483647 < n
  · rw [if_pos h1, decide_eq_false (by omega)]
    exact ⟨b, rfl, rfl, by omega, fun h => by rw [h]⟩
  rw [if_neg h1, decide_eq_true (by omega)]
  obtain ⟨n', v', e1, e2, e3, e4⟩ := putFirst (n := n) (v := b) (by omega) (by omega) hb
  have hr : roomP 1 (v'.length + [(b8 n')].length) := room_ok (by decide) (by simp only [List.length_singleton]; omega)
  dsimp only
  rw [e1, e2]
  simp only [Option.bind_some]
  rw [if_pos hr]
  refine ⟨_, rfl, rfl, by simp only [List.length_append, List.length_singleton]; omega, fun h => ?_⟩
  subst h
  rw [e3, Option.bind_some]
  dsimp only
  rw [if_pos hr]
theorem putText_both (t : List UInt8) {b : List UInt8} (hb : b.length <= 2 ^ 28) : ∃ r, S_spec_PutText b t = some r ∧ S_impl_putText t b = some r ∧ r.length <= b.length + 26 := by
  unfold S_spec_PutText S_impl_putText
  by_cases h : (20 : Int) < ((t.length : Nat) : Int)
  · rw [if_pos h, if_pos h, if_pos (room_ok (by decide) (by omega))]
    exact ⟨b, rfl, rfl, by omega⟩
  · rw [if_neg h, if_neg h]
    obtain ⟨r, h1, h2, h3, _⟩ := putNum_both ((t.length : Nat) : Int) (b := b) (by omega)
    rw [h1, h2]
    simp only [Option.bind_some]
    rw [if_pos (room_ok (by decide) (by omega))]
    exact ⟨_, rfl, rfl, by rw [List.length_append]; omega⟩
theorem put_val : ∀ (d : Nat) (f : Nat) (v : GValue) (b : List UInt8), shV d v = true → d + 50 <= f → b.length + 60 * ptV v <= 2 ^ 28 + 26 → ∃ r, U_spec_l2put f b v = some r ∧ U_impl_Value_bytes f v b = some r ∧ r.length + 26 <= b.length + 60 * ptV v := by
  intro d
  induction d with
  | zero => intro f v b h; cases h
  | succ d ih =>
    intro f v b h hf hb
    have hpt := ptV_eq v
    obtain ⟨f, rfl, _⟩ := fuel (show 0 < f by omega)
    rw [shV, Bool.and_eq_true] at h
    obtain ⟨hl, hk⟩ := h
    have hk := List.all_eq_true.1 hk
    have hloop : v.Kind = 4 ∨ v.Kind = 5 → ∀ (j i m : Nat) (c : List UInt8), i + j = v.L.length → j < m → c.length + 60 * ptVs (v.L.drop i) <= 2 ^ 28 → ∃ z r, L_spec_l2put_l0 (U_spec_l2put f) v m (i : Int) c = some (z, r) ∧ L_impl_Value_bytes_l0 (U_impl_Value_bytes f) v.L ((v.L.length : Nat) : Int) v m (i : Int) c = some (z, r) ∧ r.length <= c.length + 60 * ptVs (v.L.drop i) := by
      intro h45 j
      induction j with
      | zero =>
        intro i m c hi hm hc
        obtain ⟨m, rfl, _⟩ := fuel hm
        exact ⟨_, _, by rw [L_spec_l2put_l0, if_neg (by omega)], by rw [L_impl_Value_bytes_l0, if_neg (by omega)], by omega⟩
      | succ j jh =>
        intro i m c hi hm hc
        obtain ⟨m, rfl, hm'⟩ := fuel hm
        have hil : i < v.L.length := by omega
        have h40 : v.L.length <= 40 := by
          unfold locV at hl
          rcases h45 with h4 | h5
          · rw [if_neg (by omega), if_neg (by omega), if_neg (by omega), if_neg (by omega), if_pos h4] at hl
            exact (of_decide_eq_true hl).2.2.2
          · rw [if_neg (by omega), if_neg (by omega), if_neg (by omega), if_neg (by omega), if_neg (by omega), if_pos h5, Bool.and_eq_true] at hl
            exact (of_decide_eq_true hl.1).2.2.2
        have hdr : v.L.drop i = v.L[i] :: v.L.drop (i + 1) := List.drop_eq_getElem_cons hil
        rw [hdr, ptVs] at hc
        have hsh := hk _ (List.getElem_mem hil)
        rw [hdr, ptVs]
        rw [L_spec_l2put_l0, L_impl_Value_bytes_l0, if_pos (show (i : Int) < ((v.L.length : Nat) : Int) by omega), if_pos (show (i : Int) < ((v.L.length : Nat) : Int) by omega), natO_nat]
        simp only [Option.bind_some]
        rw [get_some hil]
        simp only [Option.bind_some]
        have hp1 := ptV_eq v.L[i]
        by_cases h5 : v.Kind = 5
        · have hkl : v.K.length = v.L.length := by
            unfold locV at hl
            rw [if_neg (by omega), if_neg (by omega), if_neg (by omega), if_neg (by omega), if_neg (by omega), if_pos h5, Bool.and_eq_true] at hl
            exact (of_decide_eq_true hl.1).1
          rw [if_pos h5, if_pos h5, get_some (show i < v.K.length by omega)]
          simp only [Option.bind_some]
          obtain ⟨r1, a1, a2, a3⟩ := putText_both v.K[i] (b := c) (by omega)
          rw [a1, a2]
          simp only [Option.bind_some]
          obtain ⟨r2, b1, b2, b3⟩ := ih f v.L[i] r1 hsh (by omega) (by omega)
          rw [b1, b2]
          simp only [Option.bind_some]
          rw [w64_succ (by omega)]
          obtain ⟨z, r, c1, c2, c3⟩ := jh (i + 1) m r2 (by omega) (by omega) (by omega)
          exact ⟨z, r, c1, c2, by omega⟩
        · rw [if_neg h5, if_neg h5]
          obtain ⟨r2, b1, b2, b3⟩ := ih f v.L[i] c hsh (by omega) (by omega)
          rw [b1, b2]
          simp only [Option.bind_some]
          rw [w64_succ (by omega)]
          obtain ⟨z, r, c1, c2, c3⟩ := jh (i + 1) m r2 (by omega) (by omega) (by omega)
          exact ⟨z, r, c1, c2, by omega⟩
    rw [U_spec_l2put, U_impl_Value_bytes]
    unfold T_spec_l2put T_impl_Value_bytes
    obtain ⟨r1, a1, a2, a3, _⟩ := putNum_both v.Kind (b := b) (by omega)
    rw [a1, a2]
    simp only [Option.bind_some]
    have h40 : v.Kind = 4 ∨ v.Kind = 5 → v.L.length <= 40 := by
      unfold locV at hl
      rintro (h4 | h5)
      · rw [if_neg (by omega), if_neg (by omega), if_neg (by omega), if_neg (by omega), if_pos h4] at hl
        exact (of_decide_eq_true hl).2.2.2
      · rw [if_neg (by omega), if_neg (by omega), if_neg (by omega), if_neg (by omega), if_neg (by omega), if_pos h5, Bool.and_eq_true] at hl
        exact (of_decide_eq_true hl.1).2.2.2
    by_cases k1 : v.Kind = 1
    · rw [if_pos k1, if_pos k1]
      obtain ⟨r2, b1, b2, b3, _⟩ := putNum_both v.N (b := r1) (by omega)
      rw [b1, b2]
      exact ⟨r2, rfl, rfl, by omega⟩
    rw [if_neg k1, if_neg k1]
    by_cases k2 : v.Kind = 2
    · rw [if_pos k2, if_pos k2]
      by_cases hn : v.N < 0
      · rw [if_pos hn, if_pos hn]
        obtain ⟨r2, b1, b2, b3, _⟩ := putNum_both 1 (b := r1) (by omega)
        rw [b1, b2]
        simp only [Option.bind_some]
        obtain ⟨r3, c1, c2, c3, _⟩ := putNum_both (w64 ((w64 (0 - v.N)).tdiv 1000000)) (b := r2) (by omega)
        rw [c1, c2]
        simp only [Option.bind_some]
        obtain ⟨r4, d1, d2, d3, _⟩ := putNum_both ((w64 (0 - v.N)).tmod 1000000) (b := r3) (by omega)
        rw [d1, d2]
        exact ⟨r4, rfl, rfl, by omega⟩
      · rw [if_neg hn, if_neg hn]
        obtain ⟨r2, b1, b2, b3, _⟩ := putNum_both 0 (b := r1) (by omega)
        rw [b1, b2]
        simp only [Option.bind_some]
        obtain ⟨r3, c1, c2, c3, _⟩ := putNum_both (w64 (v.N.tdiv 1000000)) (b := r2) (by omega)
        rw [c1, c2]
        simp only [Option.bind_some]
        obtain ⟨r4, d1, d2, d3, _⟩ := putNum_both (v.N.tmod 1000000) (b := r3) (by omega)
        rw [d1, d2]
        exact ⟨r4, rfl, rfl, by omega⟩
    rw [if_neg k2, if_neg k2]
    by_cases k3 : v.Kind = 3
    · rw [if_pos k3, if_pos k3]
      obtain ⟨r2, b1, b2, b3⟩ := putText_both v.S (b := r1) (by omega)
      rw [b1, b2]
      exact ⟨r2, rfl, rfl, by omega⟩
    rw [if_neg k3, if_neg k3]
    by_cases k45 : v.Kind = 4 ∨ v.Kind = 5
    · obtain ⟨r2, b1, b2, b3, _⟩ := putNum_both ((v.L.length : Nat) : Int) (b := r1) (by omega)
      have hc := h40 k45
      obtain ⟨z, r3, c1, c2, c3⟩ := hloop k45 v.L.length 0 f r2 (by omega) (by omega) (by rw [List.drop_zero]; omega)
      rw [List.drop_zero] at c3
      by_cases k4 : v.Kind = 4
      · rw [if_pos k4, if_pos k4, b1, b2]
        simp only [Option.bind_some]
        rw [show (0 : Int) = ((0 : Nat) : Int) from rfl, c1, c2]
        exact ⟨r3, rfl, rfl, by omega⟩
      · have k5 : v.Kind = 5 := by omega
        rw [if_neg k4, if_neg k4, if_pos k5, if_pos k5, b1, b2]
        simp only [Option.bind_some]
        rw [show (0 : Int) = ((0 : Nat) : Int) from rfl, c1, c2]
        exact ⟨r3, rfl, rfl, by omega⟩
    · rw [if_neg (show ¬ v.Kind = 4 by omega), if_neg (show ¬ v.Kind = 4 by omega), if_neg (show ¬ v.Kind = 5 by omega), if_neg (show ¬ v.Kind = 5 by omega)]
      exact ⟨r1, rfl, rfl, by omega⟩
theorem deps_both {e : GEvent} (h8 : e.Deps.length <= 8) : ∀ (j i m : Nat) (c : List UInt8), i + j = e.Deps.length → j < m → c.length + 30 * j <= 2 ^ 20 → ∃ z r, L_spec_l4bytes_l0 e m (i : Int) c = some (z, r) ∧ L_impl_eventBytes_l0 e.Deps ((e.Deps.length : Nat) : Int) e m (i : Int) c = some (z, r) ∧ r.length <= c.length + 30 * j := by
  intro j
  induction j with
  | zero =>
    intro i m c hi hm hc
    obtain ⟨m, rfl, _⟩ := fuel hm
    exact ⟨_, _, by rw [L_spec_l4bytes_l0, if_neg (by omega)], by rw [L_impl_eventBytes_l0, if_neg (by omega)], by omega⟩
  | succ j jh =>
    intro i m c hi hm hc
    obtain ⟨m, rfl, hm'⟩ := fuel hm
    have hil : i < e.Deps.length := by omega
    rw [L_spec_l4bytes_l0, L_impl_eventBytes_l0, if_pos (show (i : Int) < ((e.Deps.length : Nat) : Int) by omega), if_pos (show (i : Int) < ((e.Deps.length : Nat) : Int) by omega), natO_nat]
    simp only [Option.bind_some]
    rw [get_some hil]
    simp only [Option.bind_some]
    obtain ⟨r1, a1, a2, a3⟩ := putText_both e.Deps[i] (b := c) (by omega)
    rw [a1, a2]
    simp only [Option.bind_some]
    rw [w64_succ (by omega)]
    obtain ⟨z, r, c1, c2, c3⟩ := jh (i + 1) m r1 (by omega) (by omega) (by omega)
    exact ⟨z, r, c1, c2, by omega⟩
theorem event_bytes {e : GEvent} (h : evB e = true) : ∃ r, S_spec_l4bytes e = some r ∧ S_impl_eventBytes e = some r ∧ r.length <= 2 ^ 20 := by
  unfold S_spec_l4bytes S_impl_eventBytes T_spec_l4bytes T_impl_eventBytes
  obtain ⟨r1, a1, _, a3, a2⟩ := putNum_both e.Kind (b := []) (by simp)
  rw [a1, a2 rfl]
  simp only [Option.bind_some, List.length_nil] at a3 ⊢
  unfold evB at h
  by_cases k0 : e.Kind = 0 ∨ e.Kind = 5 ∨ e.Kind = 6
  · rw [if_neg (show ¬ e.Kind = 2 by omega), if_pos k0] at h
    simp only [Bool.and_eq_true] at h
    have hl := of_decide_eq_true h.2.1
    rw [if_neg (show ¬ (0 : Int) < ((e.Addr.length : Nat) : Int) by omega), if_neg (show ¬ e.Kind = 1 by omega), if_neg (show ¬ e.Kind = 2 by omega)]
    refine ⟨r1, ?_, rfl, by omega⟩
    rcases k0 with k | k | k
    · rw [if_pos k]
    · rw [if_neg (by omega), if_pos k]
    · rw [if_neg (by omega), if_neg (by omega), if_pos k]
  · have hA : 0 < e.Addr.length := by
      by_cases k2 : e.Kind = 2
      · rw [if_pos k2, Bool.and_eq_true, Bool.and_eq_true, Bool.and_eq_true] at h
        exact addrB_ne h.1.1.1
      · rw [if_neg k2, if_neg k0, Bool.and_eq_true] at h
        have h := h.2
        by_cases k1 : e.Kind = 1
        · rw [if_pos k1, Bool.and_eq_true] at h; exact addrB_ne h.1
        · rw [if_neg k1] at h
          by_cases k3 : e.Kind = 3 ∨ e.Kind = 4
          · rw [if_pos k3, Bool.and_eq_true] at h; exact addrB_ne h.1
          · rw [if_neg k3] at h; cases h
    rw [if_neg (show ¬ e.Kind = 0 by omega), if_neg (show ¬ e.Kind = 5 by omega), if_neg (show ¬ e.Kind = 6 by omega), if_pos (show (0 : Int) < ((e.Addr.length : Nat) : Int) by omega)]
    obtain ⟨r2, b1, b2, b3⟩ := putText_both e.Addr (b := r1) (by omega)
    rw [b1, b2]
    simp only [Option.bind_some]
    by_cases k1 : e.Kind = 1
    · rw [if_pos k1, if_pos k1]
      obtain ⟨r3, c1, c2, c3, _⟩ := putNum_both e.Act (b := r2) (by omega)
      rw [c1, c2]
      exact ⟨r3, rfl, rfl, by omega⟩
    rw [if_neg k1, if_neg k1]
    by_cases k2 : e.Kind = 2
    · rw [if_pos k2, if_pos k2]
      rw [if_pos k2, Bool.and_eq_true, Bool.and_eq_true, Bool.and_eq_true] at h
      have hd := h.2
      have hv := h.1.2
      unfold addrsB at hd
      rw [Bool.and_eq_true] at hd
      have h8 := of_decide_eq_true hd.1
      unfold kmapB at hv
      rw [Bool.and_eq_true, Bool.and_eq_true] at hv
      have hs := of_decide_eq_true hv.1.2
      obtain ⟨r3, c1, c2, c3, _⟩ := putNum_both ((e.Deps.length : Nat) : Int) (b := r2) (by omega)
      rw [c1, c2]
      simp only [Option.bind_some]
      obtain ⟨z, r4, d1, d2, d3⟩ := deps_both h8 e.Deps.length 0 100 r3 (by omega) (by omega) (by omega)
      rw [show (0 : Int) = ((0 : Nat) : Int) from rfl, d1, d2]
      simp only [Option.bind_some]
      obtain ⟨r5, f1, f2, f3⟩ := put_val 5 100 e.Val r4 hs.1 (by decide) (by omega)
      unfold S_spec_l2put S_impl_Value_bytes
      rw [f1, f2]
      exact ⟨r5, rfl, rfl, by omega⟩
    rw [if_neg k2, if_neg k2]
    exact ⟨r2, rfl, rfl, by omega⟩
theorem wrap64_nat {x : Int} (h0 : 0 <= x) (h1 : x < 2 ^ 63) : IntKind.i64.wrap x = x := w64_id (by omega) (by omega)
theorem ofInt_toNat64 {x : Nat} (h : x < 2 ^ 63) : (BitVec.ofInt 64 (x : Int)).toNat = x := by
  rw [BitVec.toNat_ofInt]
  omega
theorem or_add {p q k : Nat} (hk : k <= 28) (hp : p < 2 ^ k) (hq : q < 128) : bitI .or .i64 (p : Int) (bitI .shl .i64 (w64 ((q : Int).tmod 128)) (w64 (k : Int))) = ((p + q * 2 ^ k : Nat) : Int) := by
  have hkk : 2 ^ k <= 2 ^ 28 := Nat.pow_le_pow_right (by decide) hk
  have hm : (q : Int).tmod 128 = (q : Int) := by
    rw [Int.tmod_eq_emod_of_nonneg (by omega)]; omega
  have hb : q * 2 ^ k <= 128 * 2 ^ 28 := Nat.mul_le_mul (by omega) hkk
  rw [hm, show w64 (q : Int) = (q : Int) from w64_id (by omega) (by omega), show w64 (k : Int) = (k : Int) from w64_id (by omega) (by omega)]
  have hs : bitI .shl .i64 (q : Int) (k : Int) = ((q * 2 ^ k : Nat) : Int) := by
    show IntKind.i64.wrap ((q : Int) * 2 ^ (min ((k : Int).toNat) 64)) = _
    rw [Int.toNat_natCast, Nat.min_eq_left (by omega)]
    have : (q : Int) * 2 ^ k = ((q * 2 ^ k : Nat) : Int) := by push_cast; rfl
    rw [this]
    exact wrap64_nat (by omega) (by omega)
  rw [hs]
  show IntKind.i64.wrap (((BitVec.ofInt 64 (p : Int) ||| BitVec.ofInt 64 ((q * 2 ^ k : Nat) : Int)).toNat : Nat) : Int) = _
  have hb' : 2 ^ k * q <= 128 * 2 ^ 28 := by rw [Nat.mul_comm]; exact hb
  rw [BitVec.toNat_or, ofInt_toNat64 (by omega), ofInt_toNat64 (by omega), Nat.mul_comm q, Nat.or_comm, <- Nat.two_pow_add_eq_or_of_lt hp, Nat.add_comm]
  exact wrap64_nat (by omega) (by omega)
theorem num_loop {b s : List UInt8} {at_ : Nat} (hl : b.length <= 2 ^ 20) (hs : s = (b.drop at_).take 5) (ha : at_ < b.length) : ∀ (d i m : Nat) (p : Nat), i + d = s.length → d < m → p < 2 ^ (7 * i) →
    (∃ n j, 0 <= n ∧ n <= 2147483647 ∧ j < s.length ∧ L_spec_GetNum_l0 b (at_ : Int) m (p : Int) ((2 ^ (7 * i) : Nat) : Int) (i : Int) = some (.inl (n, ((at_ + j + 1 : Nat) : Int))) ∧ L_impl_getNum_l0 (at_ : Int) s ((s.length : Nat) : Int) m (p : Int) (i : Int) = some (.inr (.inl (n, ((at_ + j + 1 : Nat) : Int))))) ∨
    ((L_spec_GetNum_l0 b (at_ : Int) m (p : Int) ((2 ^ (7 * i) : Nat) : Int) (i : Int) = some (.inl (0, -1)) ∨ ∃ z, L_spec_GetNum_l0 b (at_ : Int) m (p : Int) ((2 ^ (7 * i) : Nat) : Int) (i : Int) = some (.inr z)) ∧ ((∃ z, L_impl_getNum_l0 (at_ : Int) s ((s.length : Nat) : Int) m (p : Int) (i : Int) = some (.inl z)) ∨ ∃ z, L_impl_getNum_l0 (at_ : Int) s ((s.length : Nat) : Int) m (p : Int) (i : Int) = some (.inr (.inr z)))) := by
  have hsl : s.length = min 5 (b.length - at_) := by rw [hs, List.length_take, List.length_drop]
  intro d
  induction d with
  | zero =>
    intro i m p hi hm hp
    obtain ⟨m, rfl, _⟩ := fuel hm
    refine .inr ⟨.inr ?_, .inr ⟨_, by rw [L_impl_getNum_l0, if_neg (by omega)]⟩⟩
    rw [L_spec_GetNum_l0]
    by_cases h5 : (i : Int) < 5
    · rw [if_pos h5, w64_id (by omega) (by omega), if_neg (by omega)]
      exact ⟨_, rfl⟩
    · rw [if_neg h5]
      exact ⟨_, rfl⟩
  | succ d ih =>
    intro i m p hi hm hp
    obtain ⟨m, rfl, hm'⟩ := fuel hm
    have hil : i < s.length := by omega
    have hb : at_ + i < b.length := by omega
    have hx : s[i] = b[at_ + i] := by
      subst hs
      rw [List.getElem_take, List.getElem_drop]
    have hx2 := (b[at_ + i]).toNat_lt
    rw [L_spec_GetNum_l0, L_impl_getNum_l0, if_pos (show (i : Int) < 5 by omega), show w64 (((b.length : Nat) : Int) - (at_ : Int)) = ((b.length : Nat) : Int) - (at_ : Int) from w64_id (by omega) (by omega), if_pos (show (i : Int) < ((b.length : Nat) : Int) - (at_ : Int) by omega),
      show w64 ((at_ : Int) + (i : Int)) = ((at_ + i : Nat) : Int) by rw [w64_id (by omega) (by omega)]; push_cast; rfl, natO_nat, Option.bind_some, get_some hb, Option.bind_some, if_pos (show (i : Int) < ((s.length : Nat) : Int) by omega), natO_nat, Option.bind_some, get_some hil, Option.bind_some, hx]
    generalize hq : (b[at_ + i]).toNat = q at hx2 ⊢
    have h7 : w64 (7 * (i : Int)) = ((7 * i : Nat) : Int) := by rw [w64_id (by omega) (by omega)]; push_cast; rfl
    have hpw : 2 ^ (7 * i) <= 2 ^ 28 := Nat.pow_le_pow_right (by decide) (by omega)
    rw [if_pos (show 0 <= w64 (7 * (i : Int)) by rw [h7]; omega)]
    have hmod : ((q : Int).tmod 128) = ((q % 128 : Nat) : Int) := by rw [Int.tmod_eq_emod_of_nonneg (by omega)]; omega
    have hor : bitI .or .i64 (p : Int) (bitI .shl .i64 (w64 ((q : Int).tmod 128)) (w64 (7 * (i : Int)))) = ((p + q % 128 * 2 ^ (7 * i) : Nat) : Int) := by
      have := or_add (p := p) (q := q % 128) (k := 7 * i) (by omega) hp (Nat.mod_lt _ (by decide))
      rw [h7, hmod]
      rw [<- this, show w64 ((7 * i : Nat) : Int) = ((7 * i : Nat) : Int) from w64_id (by omega) (by omega), show (((q % 128 : Nat) : Int).tmod 128) = ((q % 128 : Nat) : Int) by rw [Int.tmod_eq_emod_of_nonneg (by omega)]; omega]
    have hmul : q % 128 * 2 ^ (7 * i) <= 128 * 2 ^ 28 := Nat.mul_le_mul (by omega) hpw
    have hadd : w64 ((p : Int) + w64 ((q : Int).tmod 128 * ((2 ^ (7 * i) : Nat) : Int))) = ((p + q % 128 * 2 ^ (7 * i) : Nat) : Int) := by
      have e : (q : Int).tmod 128 * ((2 ^ (7 * i) : Nat) : Int) = ((q % 128 * 2 ^ (7 * i) : Nat) : Int) := by rw [hmod]; push_cast; rfl
      rw [e, show w64 ((q % 128 * 2 ^ (7 * i) : Nat) : Int) = ((q % 128 * 2 ^ (7 * i) : Nat) : Int) from w64_id (by omega) (by omega), w64_id (by omega) (by omega)]
      push_cast; rfl
    rw [hor, hadd, show w64 (((at_ + i : Nat) : Int) + 1) = ((at_ + i + 1 : Nat) : Int) by rw [w64_id (by omega) (by omega)]; push_cast; rfl]
    have hval : p + q % 128 * 2 ^ (7 * i) < 2 ^ (7 * (i + 1)) := by
      have : (q % 128 + 1) * 2 ^ (7 * i) <= 128 * 2 ^ (7 * i) := Nat.mul_le_mul (by omega) (Nat.le_refl _)
      have e2 : 2 ^ (7 * (i + 1)) = 128 * 2 ^ (7 * i) := by rw [show 7 * (i + 1) = 7 + 7 * i by omega, Nat.pow_add]
      rw [e2]
      rw [Nat.succ_mul] at this
      omega
    generalize hv : p + q % 128 * 2 ^ (7 * i) = v at hval
    by_cases h128 : (q : Int) < 128
    · rw [if_pos h128, if_neg (show ¬ (128 : Int) <= (q : Int) by omega)]
      by_cases hbig : (2147483647 : Int) < (v : Int)
      · simp only [if_pos hbig]
        refine .inr ⟨.inl ?_, .inl ?_⟩
        · by_cases h0 : (q : Int) = 0
          · rw [if_pos h0]; by_cases hi0 : (0 : Int) < (i : Int)
            · rw [if_pos hi0]
            · rw [if_neg hi0]
          · rw [if_neg h0]
        · by_cases h0 : (q : Int) = 0
          · rw [if_pos h0]; by_cases hi0 : (0 : Int) < (i : Int)
            · rw [if_pos hi0]; exact ⟨_, rfl⟩
            · rw [if_neg hi0]; exact ⟨_, rfl⟩
          · rw [if_neg h0]; exact ⟨_, rfl⟩
      · simp only [if_neg hbig]
        by_cases h0 : (q : Int) = 0
        · rw [if_pos h0, if_pos h0]
          by_cases hi0 : (0 : Int) < (i : Int)
          · rw [if_pos hi0, if_pos hi0]
            exact .inr ⟨.inl rfl, .inl ⟨_, rfl⟩⟩
          · rw [if_neg hi0, if_neg hi0]
            exact .inl ⟨_, i, by omega, by omega, hil, rfl, rfl⟩
        · rw [if_neg h0, if_neg h0]
          exact .inl ⟨_, i, by omega, by omega, hil, rfl, rfl⟩
    · rw [if_neg h128, if_pos (show (128 : Int) <= (q : Int) by omega), w64_succ (by omega)]
      have hsc : w64 (((2 ^ (7 * i) : Nat) : Int) * 128) = ((2 ^ (7 * (i + 1)) : Nat) : Int) := by
        have e2 : 2 ^ (7 * (i + 1)) = 2 ^ (7 * i) * 128 := by rw [show 7 * (i + 1) = 7 * i + 7 by omega, Nat.pow_add]
        rw [e2, w64_id (by omega) (by omega)]; push_cast; rfl
      rw [hsc]
      exact ih (i + 1) m v (by omega) (by omega) hval
theorem cut_five {b : List UInt8} {i : Nat} (h : i < b.length) : cutO b (some i) (some (min (i + 5) b.length)) = some ((b.drop i).take 5) := by
  unfold cutO bound
  rw [Option.getD_some, Option.getD_some, if_pos (by omega), Option.map_some]
  congr 1
  rw [List.drop_take]
  by_cases h5 : i + 5 <= b.length
  · rw [Nat.min_eq_left h5]; congr 1; omega
  · rw [Nat.min_eq_right (by omega), List.take_of_length_le (by rw [List.length_drop]; omega), List.take_of_length_le (by rw [List.length_drop]; omega)]
theorem num_both {b : List UInt8} (hl : b.length <= 2 ^ 20) {a : Int} (h1 : -1 <= a) (h2 : a <= 2 ^ 21) : ∃ n nx, S_spec_GetNum b a = some (n, nx) ∧ S_impl_getNum b a = some (n, nx) ∧ ((n = 0 ∧ nx = -1) ∨ (0 <= n ∧ n <= 2147483647 ∧ 0 <= a ∧ a < nx ∧ nx <= b.length)) := by
  unfold S_spec_GetNum S_impl_getNum T_spec_GetNum T_impl_getNum
  rw [in_eq, Option.bind_some, w64_id (x := ((b.length : Nat) : Int) - 1) (by omega) (by omega)]
  by_cases h0 : a < 0
  · rw [if_pos h0, decide_eq_false (by omega)]
    exact ⟨0, -1, rfl, rfl, .inl ⟨rfl, rfl⟩⟩
  rw [if_neg h0]
  obtain ⟨i, rfl⟩ : ∃ i : Nat, a = (i : Int) := ⟨a.toNat, by omega⟩
  by_cases hi : i < b.length
  · rw [decide_eq_true (by omega)]
    dsimp only
    have hm : (if w64 ((i : Int) + 5) < ((b.length : Nat) : Int) then w64 ((i : Int) + 5) else ((b.length : Nat) : Int)) = ((min (i + 5) b.length : Nat) : Int) := by
      rw [w64_id (by omega) (by omega)]
      split <;> omega
    rw [hm, natO_nat, Option.bind_some, natO_nat, Option.bind_some, cut_five hi, Option.bind_some]
    have hsl : ((b.drop i).take 5).length <= 5 := by rw [List.length_take]; omega
    rcases num_loop hl rfl hi ((b.drop i).take 5).length 0 10 0 (by omega) (by omega) (by decide) with ⟨n, j, n0, n1, hj, e1, e2⟩ | ⟨e1, e2⟩
    · rw [show ((2 ^ (7 * 0) : Nat) : Int) = 1 from rfl, show ((0 : Nat) : Int) = 0 from rfl] at e1
      rw [show ((0 : Nat) : Int) = 0 from rfl] at e2
      rw [e1, e2]
      rw [List.length_take, List.length_drop] at hj
      exact ⟨n, _, rfl, rfl, .inr ⟨n0, n1, by omega, by omega, by omega⟩⟩
    · rw [show ((2 ^ (7 * 0) : Nat) : Int) = 1 from rfl, show ((0 : Nat) : Int) = 0 from rfl] at e1
      rw [show ((0 : Nat) : Int) = 0 from rfl] at e2
      refine ⟨0, -1, ?_, ?_, .inl ⟨rfl, rfl⟩⟩
      · rcases e1 with e1 | ⟨z, e1⟩ <;> rw [e1] <;> rfl
      · rcases e2 with ⟨z, e2⟩ | ⟨z, e2⟩ <;> rw [e2] <;> rfl
  · rw [decide_eq_false (by omega)]
    refine ⟨0, -1, ?_, rfl, .inl ⟨rfl, rfl⟩⟩
    rw [show L_spec_GetNum_l0 b (i : Int) 10 0 1 0 = L_spec_GetNum_l0 b (i : Int) (9 + 1) 0 1 0 from rfl, L_spec_GetNum_l0, if_pos (by decide), w64_id (by omega) (by omega), if_neg (by omega)]
    rfl
theorem text_get {b : List UInt8} (hl : b.length <= 2 ^ 20) {a : Int} (h1 : -1 <= a) (h2 : a <= 2 ^ 21) : ∃ t nx, S_spec_GetText b a = some (t, nx) ∧ S_impl_getText b a = some (t, nx) ∧ ((t = [] ∧ nx = -1) ∨ (0 <= a ∧ nx <= b.length ∧ a + t.length + 1 <= nx)) := by
  unfold S_spec_GetText S_impl_getText
  obtain ⟨n, nx, e1, e2, h⟩ := num_both hl h1 h2
  rw [e1, e2, Option.bind_some, Option.bind_some]
  dsimp only
  rcases h with ⟨rfl, rfl⟩ | ⟨n0, n1, a0, a1, a2⟩
  · exact ⟨[], -1, rfl, rfl, .inl ⟨rfl, rfl⟩⟩
  · simp only [if_neg (show ¬ nx < 0 by omega)]
    by_cases h20 : 20 < n
    · simp only [if_pos h20]
      exact ⟨[], -1, rfl, rfl, .inl ⟨rfl, rfl⟩⟩
    · simp only [if_neg h20]
      rw [w64_id (x := ((b.length : Nat) : Int) - nx) (by omega) (by omega)]
      by_cases hr : ((b.length : Nat) : Int) - nx < n
      · simp only [if_pos hr]
        exact ⟨[], -1, rfl, rfl, .inl ⟨rfl, rfl⟩⟩
      · obtain ⟨i, rfl⟩ : ∃ i : Nat, nx = (i : Int) := ⟨nx.toNat, by omega⟩
        obtain ⟨k, rfl⟩ : ∃ k : Nat, n = (k : Int) := ⟨n.toNat, by omega⟩
        simp only [if_neg hr]
        rw [w64_id (x := (i : Int) + (k : Int)) (by omega) (by omega), natO_nat, show (i : Int) + (k : Int) = ((i + k : Nat) : Int) by push_cast; rfl, natO_nat]
        simp only [Option.bind_some]
        have hc : cutO b (some i) (some (i + k)) = some ((b.take (i + k)).drop i) := by
          unfold cutO bound
          rw [Option.getD_some, Option.getD_some, if_pos (by omega), Option.map_some]
        have hlen : ((b.take (i + k)).drop i).length = k := by rw [List.length_drop, List.length_take]; omega
        rw [hc]
        unfold S_impl_copyBytes
        have hroom : roomP 1 (0 + ((b.take (i + k)).drop i).length) := room_ok (by decide) (by omega)
        simp only [Option.bind_some, if_pos hroom]
        exact ⟨_, _, rfl, rfl, .inr ⟨a0, by omega, by omega⟩⟩
theorem bsz_snoc (l : List (List UInt8)) (x : List UInt8) : bsz (l ++ [x]) = bsz l + (1 + x.length) := by unfold bsz; simp; omega
theorem vszs_snoc (l : List GValue) (v : GValue) : vszs (l ++ [v]) = vszs l + (1 + vsz v) := by
  induction l with
  | nil => simp [vszs]
  | cons x l ih => simp only [List.cons_append, vszs, ih]; omega
theorem ptVs_app (l m : List GValue) : ptVs (l ++ m) = ptVs l + ptVs m := by
  induction l with
  | nil => simp [ptVs]
  | cons x l ih => simp only [List.cons_append, ptVs, ih]; omega
theorem num_all {b : List UInt8} (hl : b.length <= 2 ^ 20) {a : Int} (h1 : -1 <= a) (h2 : a <= b.length) (left : Int) : ∃ n nx, S_impl_getNum b a = some (n, nx) ∧ S_spec_l2get (GL2cur.mk b a left) = some (n, GL2cur.mk b nx left) ∧ ((n = 0 ∧ nx = -1) ∨ (0 <= n ∧ n <= 2147483647 ∧ 0 <= a ∧ a < nx ∧ nx <= b.length)) := by
  obtain ⟨n, nx, e1, e2, h⟩ := num_both hl h1 (by omega)
  refine ⟨n, nx, e2, ?_, h⟩
  unfold S_spec_l2get
  rw [show (GL2cur.mk b a left).at_ = a from rfl, show (GL2cur.mk b a left).b = b from rfl, show (GL2cur.mk b a left).left = left from rfl]
  by_cases h0 : a < 0
  · obtain ⟨rfl, rfl⟩ : n = 0 ∧ nx = -1 := by omega
    obtain rfl : a = -1 := by omega
    rw [if_pos h0]
  · rw [if_neg h0, e1]; rfl
theorem text_all {b : List UInt8} (hl : b.length <= 2 ^ 20) {a : Int} (h1 : -1 <= a) (h2 : a <= b.length) (left : Int) : ∃ t nx, S_impl_getText b a = some (t, nx) ∧ S_spec_l2getText (GL2cur.mk b a left) = some (t, GL2cur.mk b nx left) ∧ ((t = [] ∧ nx = -1) ∨ (0 <= a ∧ nx <= b.length ∧ a + t.length + 1 <= nx)) := by
  obtain ⟨n, nx, e1, e2, h⟩ := text_get hl h1 (by omega)
  refine ⟨n, nx, e2, ?_, h⟩
  unfold S_spec_l2getText
  rw [show (GL2cur.mk b a left).at_ = a from rfl, show (GL2cur.mk b a left).b = b from rfl, show (GL2cur.mk b a left).left = left from rfl]
  by_cases h0 : a < 0
  · obtain ⟨rfl, rfl⟩ : n = [] ∧ nx = -1 := by
      rcases h with h | h
      · exact h
      · omega
    obtain rfl : a = -1 := by omega
    rw [if_pos h0]
  · rw [if_neg h0, e1]; rfl
def RdOk (b : List UInt8) (d f : Nat) : Prop := ∀ (a deep left : Int), 0 <= deep → deep + d = 6 → -1 <= a → a <= b.length → 0 <= left → left <= 40 → ∃ v a1 l1 v2 a2, U_spec_l2read f deep (.mk b a left) = some (v, .mk b a1 l1) ∧ U_impl_readValue f b a deep = some (v2, a2) ∧ (a1 = -1 ∨ (0 <= a ∧ a + 1 + vsz v <= a1 ∧ a1 <= b.length ∧ 0 <= l1 ∧ l1 <= left)) ∧ (a2 = -1 ∨ (0 <= a ∧ a + 1 + vsz v2 <= a2 ∧ a2 <= b.length)) ∧ (a2 ≠ -1 → (ptV v2 : Int) <= left → v = v2 ∧ a1 = a2 ∧ l1 = left - ptV v2) ∧ (a1 ≠ -1 → shV d v = true → v2 = v ∧ a2 = a1)
abbrev lS (f : Nat) (deep n k : Int) := L_spec_l2read_l0 (U_spec_l2read f) deep n 0 0 k 0 [] [] [] []
abbrev lI (f : Nat) (b : List UInt8) (deep n k : Int) := L_impl_readValue_l0 (U_impl_readValue f) b deep k n 0 0 0 [] [] [] []
theorem rdS {b : List UInt8} (hl : b.length <= 2 ^ 20) {d f : Nat} (R : RdOk b d f) {deep : Int} (hq : 0 <= deep) (hd : deep + 1 + d = 6) (n k : Int) (hn : n <= 2147483647) : ∀ (m : Nat) (i a left : Int) (K : List (List UInt8)) (L : List GValue), 0 < m → (0 <= a → (b.length : Int) - a < (m : Int) - 1) → -1 <= a → a <= b.length → 0 <= i → (0 <= a → 0 <= left ∧ left <= 40 ∧ (K.length : Int) <= a ∧ (L.length : Int) <= a) →
    ∃ i' a' l' K' L', lS f deep n k m i (.mk b a left) K L = some (i', .mk b a' l', K', L') ∧ (a' = -1 ∨ (0 <= a ∧ a <= a' ∧ a' <= b.length ∧ 0 <= l' ∧ l' <= left ∧ a + ((bsz K' + vszs L' : Nat) : Int) <= a' + ((bsz K + vszs L : Nat) : Int))) ∧ (∃ X, L' = L ++ X) ∧ (a = -1 → a' = -1) := by
  intro m
  induction m with
  | zero => intro i a left K L hm; omega
  | succ m ih =>
    intro i a left K L _ hm h1 h2 hi hK
    show ∃ i' a' l' K' L', L_spec_l2read_l0 (U_spec_l2read f) deep n 0 0 k 0 [] [] [] [] (m + 1) i (.mk b a left) K L = some (i', .mk b a' l', K', L') ∧ _
    rw [L_spec_l2read_l0, show (GL2cur.mk b a left).at_ = a from rfl]
    have hdp : w64 (deep + 1) = deep + 1 := w64_id (by omega) (by omega)
    rw [hdp]
    by_cases hin : i < n
    · rw [if_pos hin, show w64 (i + 1) = i + 1 from w64_id (by omega) (by omega)]
      by_cases ha : 0 <= a
      · rw [if_pos ha]
        obtain ⟨k1, k2, k3, k4⟩ := hK ha
        have hm' := hm ha
        by_cases hk : k = 5
        · rw [if_pos hk]
          obtain ⟨t, nx, _, e2, ht⟩ := text_all hl h1 h2 left
          rw [e2, Option.bind_some]
          dsimp only
          rw [if_pos (room_ok (by decide) (by simp only [List.length_singleton]; omega))]
          obtain ⟨v, a1, l1, v2, a2, u1, u2, b1, b2, _, _⟩ := R nx (deep + 1) left (by omega) (by omega) (by rcases ht with ht | ht <;> omega) (by rcases ht with ht | ht <;> omega) k1 k2
          rw [u1, Option.bind_some]
          dsimp only
          rw [if_pos (room_ok (by decide) (by simp only [List.length_singleton]; omega))]
          obtain ⟨i', a', l', K', L', e, hb, ⟨X, hX⟩, hz⟩ := ih (i + 1) a1 l1 (K ++ [t]) (L ++ [v]) (by omega) (fun h => by rcases b1 with rfl | b1 <;> rcases ht with ht | ht <;> omega) (by rcases b1 with b1 | b1 <;> omega) (by rcases b1 with b1 | b1 <;> omega) (by omega) (fun h => by
            simp only [List.length_append, List.length_singleton]
            rcases b1 with b1 | b1 <;> rcases ht with ht | ht <;> omega)
          refine ⟨i', a', l', K', L', e, ?_, ⟨v :: X, by rw [hX]; simp⟩, fun h => by omega⟩
          rw [bsz_snoc, vszs_snoc] at hb
          rcases hb with hb | hb
          · exact .inl hb
          · rcases b1 with b1 | b1
            · omega
            · rcases ht with ht | ht <;> exact .inr (by omega)
        · rw [if_neg hk]
          obtain ⟨v, a1, l1, v2, a2, u1, u2, b1, b2, _, _⟩ := R a (deep + 1) left (by omega) (by omega) h1 h2 k1 k2
          rw [u1, Option.bind_some]
          dsimp only
          rw [if_pos (room_ok (by decide) (by simp only [List.length_singleton]; omega))]
          obtain ⟨i', a', l', K', L', e, hb, ⟨X, hX⟩, hz⟩ := ih (i + 1) a1 l1 K (L ++ [v]) (by omega) (fun h => by rcases b1 with rfl | b1 <;> omega) (by rcases b1 with b1 | b1 <;> omega) (by rcases b1 with b1 | b1 <;> omega) (by omega) (fun h => by
            simp only [List.length_append, List.length_singleton]
            rcases b1 with b1 | b1 <;> omega)
          refine ⟨i', a', l', K', L', e, ?_, ⟨v :: X, by rw [hX]; simp⟩, fun h => by omega⟩
          rw [vszs_snoc] at hb
          rcases hb with hb | hb
          · exact .inl hb
          · rcases b1 with b1 | b1
            · omega
            · exact .inr (by omega)
      · rw [if_neg ha]
        exact ⟨_, _, _, _, _, rfl, .inl (by omega), ⟨[], by simp⟩, fun h => h⟩
    · rw [if_neg hin]
      refine ⟨_, _, _, _, _, rfl, ?_, ⟨[], by simp⟩, fun h => h⟩
      by_cases ha : 0 <= a
      · obtain ⟨k1, k2, k3, k4⟩ := hK ha; exact .inr (by omega)
      · exact .inl (by omega)
theorem rdI {b : List UInt8} (hl : b.length <= 2 ^ 20) {d f : Nat} (R : RdOk b d f) {deep : Int} (hq : 0 <= deep) (hd : deep + 1 + d = 6) (n k : Int) (hn : n <= 2147483647) : ∀ (m : Nat) (i a : Int) (K : List (List UInt8)) (L : List GValue), 0 < m → (0 <= a → (b.length : Int) - a < (m : Int) - 1) → -1 <= a → a <= b.length → 0 <= i → (0 <= a → (K.length : Int) <= a ∧ (L.length : Int) <= a) →
    ∃ a' i' K' L', lI f b deep n k m a i K L = some (a', i', K', L') ∧ (a' = -1 ∨ (0 <= a ∧ a <= a' ∧ a' <= b.length ∧ a + ((bsz K' + vszs L' : Nat) : Int) <= a' + ((bsz K + vszs L : Nat) : Int))) ∧ (∃ X, L' = L ++ X) ∧ (a = -1 → a' = -1) := by
  intro m
  induction m with
  | zero => intro i a K L hm; omega
  | succ m ih =>
    intro i a K L _ hm h1 h2 hi hK
    show ∃ a' i' K' L', L_impl_readValue_l0 (U_impl_readValue f) b deep k n 0 0 0 [] [] [] [] (m + 1) a i K L = some (a', i', K', L') ∧ _
    rw [L_impl_readValue_l0]
    have hdp : w64 (deep + 1) = deep + 1 := w64_id (by omega) (by omega)
    rw [hdp]
    by_cases hin : i < n
    · rw [if_pos hin, show w64 (i + 1) = i + 1 from w64_id (by omega) (by omega)]
      by_cases ha : 0 <= a
      · rw [if_pos ha]
        obtain ⟨k3, k4⟩ := hK ha
        have hm' := hm ha
        by_cases hk : k = 5
        · rw [if_pos hk]
          obtain ⟨t, nx, e2, _, ht⟩ := text_all hl h1 h2 0
          rw [e2, Option.bind_some]
          dsimp only
          rw [if_pos (room_ok (by decide) (by simp only [List.length_singleton]; omega))]
          obtain ⟨v, a1, l1, v2, a2, u1, u2, b1, b2, _, _⟩ := R nx (deep + 1) 0 (by omega) (by omega) (by rcases ht with ht | ht <;> omega) (by rcases ht with ht | ht <;> omega) (by decide) (by decide)
          rw [u2, Option.bind_some]
          dsimp only
          rw [if_pos (room_ok (by decide) (by simp only [List.length_singleton]; omega))]
          obtain ⟨a', i', K', L', e, hb, ⟨X, hX⟩, hz⟩ := ih (i + 1) a2 (K ++ [t]) (L ++ [v2]) (by omega) (fun h => by rcases b2 with rfl | b2 <;> rcases ht with ht | ht <;> omega) (by rcases b2 with b2 | b2 <;> omega) (by rcases b2 with b2 | b2 <;> omega) (by omega) (fun h => by
            simp only [List.length_append, List.length_singleton]
            rcases b2 with b2 | b2 <;> rcases ht with ht | ht <;> omega)
          refine ⟨a', i', K', L', e, ?_, ⟨v2 :: X, by rw [hX]; simp⟩, fun h => by omega⟩
          rw [bsz_snoc, vszs_snoc] at hb
          rcases hb with hb | hb
          · exact .inl hb
          · rcases b2 with b2 | b2
            · omega
            · rcases ht with ht | ht <;> exact .inr (by omega)
        · rw [if_neg hk]
          obtain ⟨v, a1, l1, v2, a2, u1, u2, b1, b2, _, _⟩ := R a (deep + 1) 0 (by omega) (by omega) h1 h2 (by decide) (by decide)
          rw [u2, Option.bind_some]
          dsimp only
          rw [if_pos (room_ok (by decide) (by simp only [List.length_singleton]; omega))]
          obtain ⟨a', i', K', L', e, hb, ⟨X, hX⟩, hz⟩ := ih (i + 1) a2 K (L ++ [v2]) (by omega) (fun h => by rcases b2 with rfl | b2 <;> omega) (by rcases b2 with b2 | b2 <;> omega) (by rcases b2 with b2 | b2 <;> omega) (by omega) (fun h => by
            simp only [List.length_append, List.length_singleton]
            rcases b2 with b2 | b2 <;> omega)
          refine ⟨a', i', K', L', e, ?_, ⟨v2 :: X, by rw [hX]; simp⟩, fun h => by omega⟩
          rw [vszs_snoc] at hb
          rcases hb with hb | hb
          · exact .inl hb
          · rcases b2 with b2 | b2
            · omega
            · exact .inr (by omega)
      · rw [if_neg ha]
        exact ⟨_, _, _, _, rfl, .inl (by omega), ⟨[], by simp⟩, fun h => h⟩
    · rw [if_neg hin]
      refine ⟨_, _, _, _, rfl, ?_, ⟨[], by simp⟩, fun h => h⟩
      by_cases ha : 0 <= a
      · exact .inr (by omega)
      · exact .inl (by omega)
theorem rdAB {b : List UInt8} (hl : b.length <= 2 ^ 20) {d f : Nat} (R : RdOk b d f) {deep : Int} (hq : 0 <= deep) (hd : deep + 1 + d = 6) (n k : Int) (hn : n <= 2147483647) : ∀ (m : Nat) (i a left : Int) (K : List (List UInt8)) (L : List GValue), (0 <= a → (b.length : Int) - a < (m : Int) - 1) → -1 <= a → a <= b.length → 0 <= i → (0 <= a → 0 <= left ∧ left <= 40 ∧ (K.length : Int) <= a ∧ (L.length : Int) <= a) →
    ∀ i1 a1 l1 K1 L1 i2 a2 K2 L2, lS f deep n k m i (.mk b a left) K L = some (i1, .mk b a1 l1, K1, L1) → lI f b deep n k m a i K L = some (a2, i2, K2, L2) →
    (a2 ≠ -1 → (ptVs L2 : Int) <= ptVs L + left → K1 = K2 ∧ L1 = L2 ∧ a1 = a2 ∧ l1 = left + ptVs L - ptVs L2) ∧ (a1 ≠ -1 → (∀ v ∈ L1, shV d v = true) → K2 = K1 ∧ L2 = L1 ∧ a2 = a1) := by
  intro m
  induction m with
  | zero => intro i a left K L _ _ _ _ _ i1 a1 l1 K1 L1 i2 a2 K2 L2 h; cases h
  | succ m ih =>
    intro i a left K L hm h1 h2 hi hK i1 a1 l1 K1 L1 i2 a2 K2 L2 hS hI
    change L_spec_l2read_l0 (U_spec_l2read f) deep n 0 0 k 0 [] [] [] [] (m + 1) i (.mk b a left) K L = _ at hS
    change L_impl_readValue_l0 (U_impl_readValue f) b deep k n 0 0 0 [] [] [] [] (m + 1) a i K L = _ at hI
    rw [L_spec_l2read_l0, show (GL2cur.mk b a left).at_ = a from rfl] at hS
    rw [L_impl_readValue_l0] at hI
    have hdp : w64 (deep + 1) = deep + 1 := w64_id (by omega) (by omega)
    rw [hdp] at hS hI
    by_cases hin : i < n
    · rw [if_pos hin, show w64 (i + 1) = i + 1 from w64_id (by omega) (by omega)] at hS hI
      by_cases ha : 0 <= a
      · rw [if_pos ha] at hS hI
        obtain ⟨k1, k2, k3, k4⟩ := hK ha
        have hm' := hm ha
        have step : ∀ (nx : Int) (t : Option (List UInt8)), a <= nx ∨ nx = -1 → nx <= b.length → (t.isSome = true → nx = -1 ∨ a + 1 <= nx) → ∀ KK, (KK.length : Int) <= K.length + (if t.isSome then 1 else 0) →
            ∀ v x1 y1 v2 x2, (x1 = -1 ∨ (0 <= nx ∧ nx + 1 + vsz v <= x1 ∧ x1 <= b.length ∧ 0 <= y1 ∧ y1 <= left)) → (x2 = -1 ∨ (0 <= nx ∧ nx + 1 + vsz v2 <= x2 ∧ x2 <= b.length)) → (x2 ≠ -1 → (ptV v2 : Int) <= left → v = v2 ∧ x1 = x2 ∧ y1 = left - ptV v2) → (x1 ≠ -1 → shV d v = true → v2 = v ∧ x2 = x1) →
            lS f deep n k m (i + 1) (.mk b x1 y1) KK (L ++ [v]) = some (i1, .mk b a1 l1, K1, L1) → lI f b deep n k m x2 (i + 1) KK (L ++ [v2]) = some (a2, i2, K2, L2) →
            (a2 ≠ -1 → (ptVs L2 : Int) <= ptVs L + left → K1 = K2 ∧ L1 = L2 ∧ a1 = a2 ∧ l1 = left + ptVs L - ptVs L2) ∧ (a1 ≠ -1 → (∀ v ∈ L1, shV d v = true) → K2 = K1 ∧ L2 = L1 ∧ a2 = a1) := by
          intro nx t hnx hnl htn KK hKK v x1 y1 v2 x2 b1 b2 hA hB gS gI
          have hKK' : (KK.length : Int) <= a + 1 := by split at hKK <;> omega
          obtain ⟨_, _, _, _, e2, _, ⟨Y, hY⟩, z2⟩ := rdI hl R hq hd n k hn m (i + 1) x2 KK (L ++ [v2]) (by omega) (fun h => by rcases b2 with b2 | b2 <;> omega) (by rcases b2 with b2 | b2 <;> omega) (by rcases b2 with b2 | b2 <;> omega) (by omega) (fun h => by
            simp only [List.length_append, List.length_singleton]
            rcases b2 with b2 | b2 <;> omega)
          rw [gI] at e2
          obtain ⟨rfl, rfl, rfl, rfl⟩ : a2 = _ ∧ i2 = _ ∧ K2 = _ ∧ L2 = _ := by
            have := Option.some.inj e2
            simp only [Prod.mk.injEq] at this
            exact this
          obtain ⟨_, _, _, _, _, e1, _, ⟨X, hX⟩, z1⟩ := rdS hl R hq hd n k hn m (i + 1) x1 y1 KK (L ++ [v]) (by omega) (fun h => by rcases b1 with b1 | b1 <;> omega) (by rcases b1 with b1 | b1 <;> omega) (by rcases b1 with b1 | b1 <;> omega) (by omega) (fun h => by
            simp only [List.length_append, List.length_singleton]
            rcases b1 with b1 | b1 <;> omega)
          rw [gS] at e1
          obtain ⟨rfl, ⟨rfl, rfl⟩, rfl, rfl⟩ : i1 = _ ∧ (a1 = _ ∧ l1 = _) ∧ K1 = _ ∧ L1 = _ := by
            have := Option.some.inj e1
            simp only [Prod.mk.injEq, GL2cur.mk.injEq, true_and] at this
            exact this
          constructor
          · intro hne hp
            have hx2 : x2 ≠ -1 := fun h => hne (z2 h)
            have hpp : ptVs (L ++ [v2] ++ Y) = ptVs L + ptV v2 + ptVs Y := by rw [ptVs_app, ptVs_app]; simp [ptVs]
            rw [hY, hpp] at hp
            obtain ⟨rfl, rfl, rfl⟩ := hA hx2 (by omega)
            have := (ih (i + 1) x1 (left - ptV v) KK (L ++ [v]) (fun h => by rcases b1 with b1 | b1 <;> omega) (by rcases b1 with b1 | b1 <;> omega) (by rcases b1 with b1 | b1 <;> omega) (by omega) (fun h => by
              simp only [List.length_append, List.length_singleton]
              rcases b1 with b1 | b1 <;> omega) _ _ _ _ _ _ _ _ _ gS gI).1 hne (by rw [hY, hpp, ptVs_app]; simp only [ptVs]; omega)
            obtain ⟨q1, q2, q3, q4⟩ := this
            refine ⟨q1, q2, q3, ?_⟩
            rw [q4, ptVs_app]
            simp only [ptVs]
            omega
          · intro hne hv
            have hx1 : x1 ≠ -1 := fun h => hne (z1 h)
            obtain ⟨rfl, rfl⟩ := hB hx1 (hv v (by rw [hX]; simp))
            exact (ih (i + 1) x2 y1 KK (L ++ [v2]) (fun h => by rcases b1 with b1 | b1 <;> omega) (by rcases b1 with b1 | b1 <;> omega) (by rcases b1 with b1 | b1 <;> omega) (by omega) (fun h => by
              simp only [List.length_append, List.length_singleton]
              rcases b1 with b1 | b1 <;> omega) _ _ _ _ _ _ _ _ _ gS gI).2 hne hv
        by_cases hk : k = 5
        · rw [if_pos hk] at hS hI
          obtain ⟨t, nx, e2, e1, ht⟩ := text_all hl h1 h2 left
          rw [e1, Option.bind_some] at hS
          rw [e2, Option.bind_some] at hI
          dsimp only at hS hI
          rw [if_pos (room_ok (by decide) (by simp only [List.length_singleton]; omega))] at hS hI
          obtain ⟨v, x1, y1, v2, x2, u1, u2, b1, b2, hA, hB⟩ := R nx (deep + 1) left (by omega) (by omega) (by rcases ht with ht | ht <;> omega) (by rcases ht with ht | ht <;> omega) k1 k2
          rw [u1, Option.bind_some] at hS
          rw [u2, Option.bind_some] at hI
          dsimp only at hS hI
          rw [if_pos (room_ok (by decide) (by simp only [List.length_singleton]; omega))] at hS hI
          exact step nx (some t) (by rcases ht with ht | ht <;> omega) (by rcases ht with ht | ht <;> omega) (fun _ => by rcases ht with ht | ht <;> omega) (K ++ [t]) (by simp) v x1 y1 v2 x2 b1 b2 hA hB hS hI
        · rw [if_neg hk] at hS hI
          obtain ⟨v, x1, y1, v2, x2, u1, u2, b1, b2, hA, hB⟩ := R a (deep + 1) left (by omega) (by omega) h1 h2 k1 k2
          rw [u1, Option.bind_some] at hS
          rw [u2, Option.bind_some] at hI
          dsimp only at hS hI
          rw [if_pos (room_ok (by decide) (by simp only [List.length_singleton]; omega))] at hS hI
          exact step a none (by omega) h2 (fun h => by cases h) K (by simp) v x1 y1 v2 x2 b1 b2 hA hB hS hI
      · rw [if_neg ha] at hS hI
        simp only [Option.some.injEq, Prod.mk.injEq, GL2cur.mk.injEq, true_and] at hS hI
        exact ⟨fun h => by omega, fun h => by omega⟩
    · rw [if_neg hin] at hS hI
      simp only [Option.some.injEq, Prod.mk.injEq, GL2cur.mk.injEq, true_and] at hS hI
      obtain ⟨_, ⟨rfl, rfl⟩, rfl, rfl⟩ := hS
      obtain ⟨rfl, _, rfl, rfl⟩ := hI
      exact ⟨fun _ _ => ⟨rfl, rfl, rfl, by omega⟩, fun _ _ => ⟨rfl, rfl, rfl⟩⟩
def z0 : GValue := .mk 0 0 [] [] []
theorem get_neg (b : List UInt8) (l : Int) : S_spec_l2get (.mk b (-1) l) = some (0, .mk b (-1) l) := by
  unfold S_spec_l2get
  rw [show (GL2cur.mk b (-1) l).at_ = -1 from rfl, if_pos (by decide)]
theorem rd_pos {b : List UInt8} (hl : b.length <= 2 ^ 20) {d f : Nat} (hf : b.length + 10 + d <= f) (R : RdOk b d f) {a deep left : Int} (hq : 0 <= deep) (hd : deep + 1 + d = 6) (h1 : -1 <= a) (h2 : a <= b.length) (l0 : 1 <= left) (l40 : left <= 40) :
    ∃ v a1 l1 v2 a2, T_spec_l2read (U_spec_l2read f) f deep (.mk b a left) = some (v, .mk b a1 l1) ∧ T_impl_readValue (U_impl_readValue f) f b a deep = some (v2, a2) ∧ (a1 = -1 ∨ (0 <= a ∧ a + 1 + vsz v <= a1 ∧ a1 <= b.length ∧ 0 <= l1 ∧ l1 <= left)) ∧ (a2 = -1 ∨ (0 <= a ∧ a + 1 + vsz v2 <= a2 ∧ a2 <= b.length)) ∧ (a2 ≠ -1 → (ptV v2 : Int) <= left → v = v2 ∧ a1 = a2 ∧ l1 = left - ptV v2) ∧ (a1 ≠ -1 → shV (d + 1) v = true → v2 = v ∧ a2 = a1) := by
  unfold T_spec_l2read T_impl_readValue
  rw [show (GL2cur.mk b a left).left = left from rfl, show (GL2cur.mk b a left).b = b from rfl, show (GL2cur.mk b a left).at_ = a from rfl, show w64 (left - 1) = left - 1 from w64_id (by omega) (by omega), if_neg (show ¬ left - 1 < 0 by omega), if_neg (show ¬ 5 < deep by omega)]
  obtain ⟨k, nx, e2, e1, hk⟩ := num_all hl h1 h2 (left - 1)
  rw [e1, e2, Option.bind_some, Option.bind_some]
  dsimp only
  rcases hk with ⟨rfl, rfl⟩ | ⟨k0, k1, a0, a1, a2⟩
  · rw [if_neg (show ¬ (0 : Int) = 1 by decide), if_neg (show ¬ (0 : Int) = 2 by decide), if_neg (show ¬ (0 : Int) = 3 by decide), if_neg (show ¬ (0 : Int) = 4 by decide), if_neg (show ¬ (0 : Int) = 5 by decide), if_pos (show (-1 : Int) < 0 by decide)]
    exact ⟨_, _, _, _, _, rfl, rfl, .inl rfl, .inl rfl, fun h => absurd rfl h, fun h => absurd rfl h⟩
  rw [if_neg (show ¬ nx < 0 by omega)]
  by_cases k6 : 6 < k
  · rw [if_pos k6, if_neg (show ¬ k = 1 by omega), if_neg (show ¬ k = 2 by omega), if_neg (show ¬ k = 3 by omega), if_neg (show ¬ k = 4 by omega), if_neg (show ¬ k = 5 by omega)]
    refine ⟨_, _, _, _, _, rfl, rfl, .inr (by simp only [vsz, bsz, vszs, List.length_nil, List.map_nil, List.sum_nil]; omega), .inl rfl, fun h => absurd rfl h, fun _ h => ?_⟩
    rw [shV, Bool.and_eq_true] at h
    have h := h.1
    unfold locV at h
    rw [show (GValue.mk k 0 [] [] []).Kind = k from rfl, if_neg (by omega), if_neg (by omega), if_neg (by omega), if_neg (by omega), if_neg (by omega), if_neg (by omega)] at h
    cases h
  rw [if_neg k6, if_neg (show ¬ 5 < deep by omega)]
  have fin : ∀ (v : GValue) (n2 : Int) (E : Option (GValue × GL2cur)) (I : Option (GValue × Int)), E = some (v, .mk b n2 (left - 1)) → I = (if n2 < 0 then some (.mk 0 0 [] [] [], -1) else some (v, n2)) → ptV v = 1 → (n2 = -1 ∨ (a + 1 + vsz v <= n2 ∧ n2 <= b.length)) →
      ∃ v a1 l1 v2 a2, E = some (v, .mk b a1 l1) ∧ I = some (v2, a2) ∧ (a1 = -1 ∨ (0 <= a ∧ a + 1 + vsz v <= a1 ∧ a1 <= b.length ∧ 0 <= l1 ∧ l1 <= left)) ∧ (a2 = -1 ∨ (0 <= a ∧ a + 1 + vsz v2 <= a2 ∧ a2 <= b.length)) ∧ (a2 ≠ -1 → (ptV v2 : Int) <= left → v = v2 ∧ a1 = a2 ∧ l1 = left - ptV v2) ∧ (a1 ≠ -1 → shV (d + 1) v = true → v2 = v ∧ a2 = a1) := by
    intro v n2 E I hE hI hp hb
    rcases hb with rfl | ⟨b1, b2⟩
    · exact ⟨v, -1, _, _, -1, hE, by rw [hI, if_pos (by decide)], .inl rfl, .inl rfl, fun h => absurd rfl h, fun h => absurd rfl h⟩
    · exact ⟨v, n2, _, v, n2, hE, by rw [hI, if_neg (by omega)], .inr (by omega), .inr (by omega), fun _ _ => ⟨rfl, rfl, by rw [hp]; rfl⟩, fun _ _ => ⟨rfl, rfl⟩⟩
  by_cases c1 : k = 1
  · rw [if_pos c1, if_pos c1]
    obtain ⟨n2, nx2, f2, f1, hn⟩ := num_all hl (show -1 <= nx by omega) a2 (left - 1)
    rw [f1, f2, Option.bind_some, Option.bind_some]
    exact fin (.mk k n2 [] [] []) nx2 _ _ rfl rfl (by simp [ptV, ptVs]) (by simp only [vsz, bsz, vszs, List.length_nil, List.map_nil, List.sum_nil]; omega)
  rw [if_neg c1, if_neg c1]
  by_cases c2 : k = 2
  · rw [if_pos c2, if_pos c2]
    obtain ⟨n2, x2, f2, f1, hn2⟩ := num_all hl (show -1 <= nx by omega) a2 (left - 1)
    obtain ⟨n3, x3, g2, g1, hn3⟩ := num_all hl (show -1 <= x2 by omega) (by omega) (left - 1)
    obtain ⟨n4, x4, j2, j1, hn4⟩ := num_all hl (show -1 <= x3 by omega) (by omega) (left - 1)
    rw [f1, f2, Option.bind_some, Option.bind_some]
    dsimp only
    rw [g1, g2, Option.bind_some, Option.bind_some]
    dsimp only
    rw [j1, j2, Option.bind_some, Option.bind_some]
    dsimp only
    by_cases c : n2 = 1
    · rw [if_pos c, if_pos c]
      exact fin (.mk k _ [] [] []) x4 _ _ rfl rfl (by simp [ptV, ptVs]) (by simp only [vsz, bsz, vszs, List.length_nil, List.map_nil, List.sum_nil]; omega)
    · rw [if_neg c, if_neg c]
      exact fin (.mk k _ [] [] []) x4 _ _ rfl rfl (by simp [ptV, ptVs]) (by simp only [vsz, bsz, vszs, List.length_nil, List.map_nil, List.sum_nil]; omega)
  rw [if_neg c2, if_neg c2]
  by_cases c3 : k = 3
  · rw [if_pos c3, if_pos c3]
    obtain ⟨t, x2, f2, f1, hn2⟩ := text_all hl (show -1 <= nx by omega) a2 (left - 1)
    rw [f1, f2, Option.bind_some, Option.bind_some]
    exact fin (.mk k 0 t [] []) x2 _ _ rfl rfl (by simp [ptV, ptVs]) (by simp only [vsz, bsz, vszs, List.length_nil, List.map_nil, List.sum_nil]; rcases hn2 with h | h <;> omega)
  rw [if_neg c3, if_neg c3]
  have lst : ∀ (n x2 : Int), n <= 2147483647 → (x2 = -1 ∨ nx < x2) → x2 <= b.length → ∃ v a1 l1 v2 a2, ((lS f deep n k f 0 (.mk b x2 (left - 1)) [] []).bind fun ⟨o0, o1, o2, o3⟩ => some (GValue.mk k 0 [] o2 o3, o1)) = some (v, .mk b a1 l1) ∧ ((lI f b deep n k f x2 0 [] []).bind fun ⟨o0, o1, o2, o3⟩ => if o0 < 0 then some (GValue.mk 0 0 [] [] [], -1) else some (GValue.mk k 0 [] o2 o3, o0)) = some (v2, a2) ∧ (a1 = -1 ∨ (0 <= a ∧ a + 1 + vsz v <= a1 ∧ a1 <= b.length ∧ 0 <= l1 ∧ l1 <= left)) ∧ (a2 = -1 ∨ (0 <= a ∧ a + 1 + vsz v2 <= a2 ∧ a2 <= b.length)) ∧ (a2 ≠ -1 → (ptV v2 : Int) <= left → v = v2 ∧ a1 = a2 ∧ l1 = left - ptV v2) ∧ (a1 ≠ -1 → shV (d + 1) v = true → v2 = v ∧ a2 = a1) := by
    intro n x2 hn hx hxl
    obtain ⟨i1, y1, l1, K1, L1, g1, bS, _, _⟩ := rdS hl R hq hd n k hn f 0 x2 (left - 1) [] [] (by omega) (fun h => by omega) (by omega) hxl (by omega) (fun h => by simp; omega)
    obtain ⟨y2, i2, K2, L2, g2, bI, _, _⟩ := rdI hl R hq hd n k hn f 0 x2 [] [] (by omega) (fun h => by omega) (by omega) hxl (by omega) (fun h => by simp; omega)
    obtain ⟨hA, hB⟩ := rdAB hl R hq hd n k hn f 0 x2 (left - 1) [] [] (fun h => by omega) (by omega) hxl (by omega) (fun h => by simp; omega) _ _ _ _ _ _ _ _ _ g1 g2
    rw [g1, g2, Option.bind_some, Option.bind_some]
    dsimp only
    simp only [bsz, vszs, List.length_nil, List.map_nil, List.sum_nil, ptVs] at bI hA
    have bS' : y1 = -1 ∨ (0 <= a ∧ a + 1 + vsz (GValue.mk k 0 [] K1 L1) <= y1 ∧ y1 <= b.length ∧ 0 <= l1 ∧ l1 <= left) := by
      simp only [vsz, bsz, vszs, List.length_nil, List.map_nil, List.sum_nil] at bS ⊢
      rcases bS with h | h <;> omega
    by_cases hy : y2 < 0
    · rw [if_pos hy]
      refine ⟨_, _, _, _, _, rfl, rfl, bS', .inl rfl, fun h => absurd rfl h, fun h hs => ?_⟩
      rw [shV, Bool.and_eq_true] at hs
      obtain ⟨_, _, rfl⟩ := hB h (fun v hv => List.all_eq_true.1 hs.2 v hv)
      omega
    · rw [if_neg hy]
      refine ⟨_, _, _, _, _, rfl, rfl, bS', .inr ?_, fun h hp => ?_, fun h hs => ?_⟩
      · simp only [vsz, bsz, List.length_nil]
        omega
      · simp only [ptV] at hp ⊢
        obtain ⟨rfl, rfl, rfl, q⟩ := hA h (by omega)
        exact ⟨rfl, rfl, by omega⟩
      · rw [shV, Bool.and_eq_true] at hs
        obtain ⟨rfl, rfl, rfl⟩ := hB h (fun v hv => List.all_eq_true.1 hs.2 v hv)
        exact ⟨rfl, rfl⟩
  by_cases c4 : k = 4
  · rw [if_pos c4, if_pos c4]
    obtain ⟨n2, x2, f2, f1, hn2⟩ := num_all hl (show -1 <= nx by omega) a2 (left - 1)
    rw [f1, f2, Option.bind_some, Option.bind_some]
    exact lst n2 x2 (by omega) (by omega) (by omega)
  rw [if_neg c4, if_neg c4]
  by_cases c5 : k = 5
  · rw [if_pos c5, if_pos c5]
    obtain ⟨n2, x2, f2, f1, hn2⟩ := num_all hl (show -1 <= nx by omega) a2 (left - 1)
    rw [f1, f2, Option.bind_some, Option.bind_some]
    exact lst n2 x2 (by omega) (by omega) (by omega)
  rw [if_neg c5, if_neg c5]
  exact fin (.mk k 0 [] [] []) nx _ _ rfl (by rw [if_neg (by omega)]) (by simp [ptV, ptVs]) (by simp only [vsz, bsz, vszs, List.length_nil, List.map_nil, List.sum_nil]; omega)
theorem rd_all {b : List UInt8} (hl : b.length <= 2 ^ 20) : ∀ (d f : Nat), b.length + 10 + d <= f → RdOk b d f := by
  intro d
  induction d with
  | zero =>
    intro f hf a deep left hq hd h1 h2 l0 l40
    obtain ⟨f, rfl, _⟩ := fuel (show 0 < f by omega)
    rw [U_spec_l2read, U_impl_readValue]
    unfold T_spec_l2read T_impl_readValue
    rw [show (GL2cur.mk b a left).left = left from rfl, show (GL2cur.mk b a left).b = b from rfl, show (GL2cur.mk b a left).at_ = a from rfl, show w64 (left - 1) = left - 1 from w64_id (by omega) (by omega), get_neg, Option.bind_some]
    dsimp only
    rw [if_neg (show ¬ (0 : Int) = 1 by decide), if_neg (show ¬ (0 : Int) = 2 by decide), if_neg (show ¬ (0 : Int) = 3 by decide), if_neg (show ¬ (0 : Int) = 4 by decide), if_neg (show ¬ (0 : Int) = 5 by decide), if_pos (show 5 < deep by omega)]
    obtain ⟨k, nx, e2, e1, hk⟩ := num_all hl h1 h2 0
    rw [e2, Option.bind_some]
    dsimp only
    rw [if_pos (show 5 < deep by omega)]
    refine ⟨.mk 0 0 [] [] [], -1, left - 1, .mk 0 0 [] [] [], -1, ?_, ?_, .inl rfl, .inl rfl, fun h => absurd rfl h, fun h => absurd rfl h⟩
    · split <;> rfl
    · split
      · rfl
      · split <;> rfl
  | succ d ih =>
    intro f hf a deep left hq hd h1 h2 l0 l40
    obtain ⟨f, rfl, _⟩ := fuel (show 0 < f by omega)
    have R := ih f (by omega)
    rw [U_spec_l2read, U_impl_readValue]
    by_cases hl1 : 1 <= left
    · exact rd_pos hl (by omega) R hq (by omega) h1 h2 hl1 l40
    · obtain ⟨_, _, _, v2, a2, _, e2, _, b2, _, _⟩ := rd_pos hl (by omega) R (a := a) (left := 1) hq (by omega) h1 h2 (by decide) (by decide)
      rw [e2]
      unfold T_spec_l2read
      rw [show (GL2cur.mk b a left).left = left from rfl, show (GL2cur.mk b a left).b = b from rfl, show w64 (left - 1) = left - 1 from w64_id (by omega) (by omega), if_pos (show left - 1 < 0 by omega), get_neg, Option.bind_some]
      dsimp only
      rw [if_neg (show ¬ (0 : Int) = 1 by decide), if_neg (show ¬ (0 : Int) = 2 by decide), if_neg (show ¬ (0 : Int) = 3 by decide), if_neg (show ¬ (0 : Int) = 4 by decide), if_neg (show ¬ (0 : Int) = 5 by decide)]
      refine ⟨_, _, _, v2, a2, rfl, rfl, .inl rfl, b2, fun _ hp => ?_, fun h => absurd rfl h⟩
      have := ptV_eq v2
      omega
abbrev dS (b : List UInt8) (n k : Int) (t : List UInt8) := L_spec_EventRead_l0 b n 0 0 0 0 k 0 0 0 [] [] [] [] [] t [] [] []
abbrev dI (b : List UInt8) (n k : Int) (t : List UInt8) := L_impl_eventRead_l0 b n 0 0 0 0 k 0 0 0 [] [] [] [] [] t [] [] []
theorem depI {b : List UInt8} (hl : b.length <= 2 ^ 20) (n k : Int) (t : List UInt8) (hn : n <= 2147483647) : ∀ (m : Nat) (i a : Int) (D : List (List UInt8)), 0 < m → (0 <= a → (b.length : Int) - a < (m : Int) - 1) → -1 <= a → a <= b.length → 0 <= i → (0 <= a → (D.length : Int) <= a) →
    ∃ a' i' D', dI b n k t m a i D = some (a', i', D') ∧ (a' = -1 ∨ (0 <= a ∧ a <= a' ∧ a' <= b.length ∧ a + (bsz D' : Int) <= a' + bsz D)) ∧ (∃ X, D' = D ++ X) := by
  intro m
  induction m with
  | zero => intro i a D hm; omega
  | succ m ih =>
    intro i a D _ hm h1 h2 hi hK
    show ∃ a' i' D', L_impl_eventRead_l0 b n 0 0 0 0 k 0 0 0 [] [] [] [] [] t [] [] [] (m + 1) a i D = some (a', i', D') ∧ _
    rw [L_impl_eventRead_l0]
    by_cases hin : i < n
    · rw [if_pos hin, show w64 (i + 1) = i + 1 from w64_id (by omega) (by omega)]
      by_cases ha : 0 <= a
      · rw [if_pos ha]
        have hD := hK ha
        have hm' := hm ha
        obtain ⟨x, nx, e2, _, ht⟩ := text_all hl h1 h2 0
        rw [e2, Option.bind_some]
        dsimp only
        rw [if_pos (room_ok (by decide) (by simp only [List.length_singleton]; omega))]
        obtain ⟨a', i', D', e, hb, X, hX⟩ := ih (i + 1) nx (D ++ [x]) (by omega) (fun h => by rcases ht with ⟨_, rfl⟩ | ht <;> omega) (by rcases ht with ht | ht <;> omega) (by rcases ht with ht | ht <;> omega) (by omega) (fun h => by
          simp only [List.length_append, List.length_singleton]
          rcases ht with ht | ht <;> omega)
        refine ⟨a', i', D', e, ?_, x :: X, by rw [hX]; simp⟩
        rw [bsz_snoc] at hb
        rcases hb with hb | hb
        · exact .inl hb
        · rcases ht with ht | ht
          · omega
          · exact .inr (by omega)
      · rw [if_neg ha]
        exact ⟨_, _, _, rfl, .inl (by omega), [], by simp⟩
    · rw [if_neg hin]
      refine ⟨_, _, _, rfl, ?_, [], by simp⟩
      by_cases ha : 0 <= a
      · exact .inr (by omega)
      · exact .inl (by omega)
theorem depAB {b : List UInt8} (hl : b.length <= 2 ^ 20) (n k : Int) (t : List UInt8) (hn : n <= 2147483647) : ∀ (j m m2 : Nat) (i a : Int) (D : List (List UInt8)), (9 - i).toNat = j → j < m → (0 <= a → (b.length : Int) - a < (m2 : Int) - 1) → 0 < m2 → -1 <= a → a <= b.length → 0 <= i → i <= 9 → (D.length : Int) = i → (0 <= a → (D.length : Int) <= a) →
    ∃ i1 a1 D1, dS b n k t m i (.mk b a 40) D = some (i1, .mk b a1 40, D1) ∧ (a1 = -1 ∨ (0 <= a ∧ a <= a1 ∧ a1 <= b.length ∧ a + (bsz D1 : Int) <= a1 + bsz D)) ∧
    ∀ a2 i2 D2, dI b n k t m2 a i D = some (a2, i2, D2) → (a2 ≠ -1 → D2.length <= 8 → D1 = D2 ∧ a1 = a2) ∧ (a1 ≠ -1 → D1.length <= 8 → D2 = D1 ∧ a2 = a1) := by
  intro j
  induction j with
  | zero =>
    intro m m2 i a D hj hm hm2 h0 h1 h2 hi hi9 hD hDa
    obtain ⟨m, rfl, _⟩ := fuel hm
    obtain rfl : i = 9 := by omega
    obtain ⟨a', i', D', e, hb, X, hX⟩ := depI hl n k t hn m2 9 a D h0 hm2 h1 h2 (by decide) hDa
    have hself : a = -1 ∨ (0 <= a ∧ a <= a ∧ a <= b.length ∧ a + (bsz D : Int) <= a + bsz D) := by omega
    refine ⟨9, a, D, ?_, hself, fun a2 i2 D2 h => ?_⟩
    · show L_spec_EventRead_l0 b n 0 0 0 0 k 0 0 0 [] [] [] [] [] t [] [] [] (m + 1) 9 (.mk b a 40) D = _
      rw [L_spec_EventRead_l0]
      by_cases hin : (9 : Int) < n
      · rw [if_pos hin, if_neg (by decide)]
      · rw [if_neg hin]
    · rw [e] at h
      simp only [Option.some.injEq, Prod.mk.injEq] at h
      obtain ⟨rfl, rfl, rfl⟩ := h
      have : D.length = 9 := by omega
      exact ⟨fun _ h => by rw [hX, List.length_append] at h; omega, fun _ h => by omega⟩
  | succ j ih =>
    intro m m2 i a D hj hm hm2 h0 h1 h2 hi hi9 hD hDa
    obtain ⟨m, rfl, hm'⟩ := fuel hm
    obtain ⟨m2, rfl, _⟩ := fuel h0
    have hself : a = -1 ∨ (0 <= a ∧ a <= a ∧ a <= b.length ∧ a + (bsz D : Int) <= a + bsz D) := by omega
    show ∃ i1 a1 D1, L_spec_EventRead_l0 b n 0 0 0 0 k 0 0 0 [] [] [] [] [] t [] [] [] (m + 1) i (.mk b a 40) D = some (i1, .mk b a1 40, D1) ∧ _ ∧ ∀ a2 i2 D2, L_impl_eventRead_l0 b n 0 0 0 0 k 0 0 0 [] [] [] [] [] t [] [] [] (m2 + 1) a i D = some (a2, i2, D2) → _
    rw [L_spec_EventRead_l0, L_impl_eventRead_l0, show (GL2cur.mk b a 40).at_ = a from rfl]
    by_cases hin : i < n
    · rw [if_pos hin, if_pos hin, if_pos (show i <= 8 by omega), show w64 (i + 1) = i + 1 from w64_id (by omega) (by omega)]
      by_cases ha : 0 <= a
      · rw [if_pos ha, if_pos ha]
        have hDa' := hDa ha
        have hm2' := hm2 ha
        obtain ⟨x, nx, e2, e1, ht⟩ := text_all hl h1 h2 40
        rw [e1, e2, Option.bind_some, Option.bind_some]
        dsimp only
        rw [if_pos (room_ok (by decide) (by simp only [List.length_singleton]; omega)), if_pos (room_ok (by decide) (by simp only [List.length_singleton]; omega))]
        obtain ⟨i1, a1, D1, g, hb, hAB⟩ := ih m m2 (i + 1) nx (D ++ [x]) (by omega) (by omega) (fun h => by rcases ht with ⟨_, rfl⟩ | ht <;> omega) (by omega) (by rcases ht with ht | ht <;> omega) (by rcases ht with ht | ht <;> omega) (by omega) (by omega) (by simp only [List.length_append, List.length_singleton]; omega) (fun h => by
          simp only [List.length_append, List.length_singleton]
          rcases ht with ht | ht <;> omega)
        refine ⟨i1, a1, D1, g, ?_, hAB⟩
        rw [bsz_snoc] at hb
        rcases hb with hb | hb
        · exact .inl hb
        · rcases ht with ht | ht
          · omega
          · exact .inr (by omega)
      · rw [if_neg ha, if_neg ha]
        refine ⟨_, _, _, rfl, hself, fun a2 i2 D2 h => ?_⟩
        simp only [Option.some.injEq, Prod.mk.injEq] at h
        obtain ⟨rfl, rfl, rfl⟩ := h
        exact ⟨fun _ _ => ⟨rfl, rfl⟩, fun _ _ => ⟨rfl, rfl⟩⟩
    · rw [if_neg hin, if_neg hin]
      refine ⟨_, _, _, rfl, hself, fun a2 i2 D2 h => ?_⟩
      simp only [Option.some.injEq, Prod.mk.injEq] at h
      obtain ⟨rfl, rfl, rfl⟩ := h
      exact ⟨fun _ _ => ⟨rfl, rfl⟩, fun _ _ => ⟨rfl, rfl⟩⟩
def zzE : GEvent := .mk 0 [] 0 (.mk 0 0 [] [] []) []
open Classical in
def accP (b : List UInt8) (e : GEvent) (nx : Int) : GEvent × Bool := if nx = ((b.length : Nat) : Int) ∧ evB e = true ∧ S_impl_eventBytes e = some b then (e, true) else (zzE, false)
theorem accS {b : List UInt8} {e : GEvent} {nx : Int} (h : nx = ((b.length : Nat) : Int) → evsz e <= 2 ^ 20) : (if nx = ((b.length : Nat) : Int) then (S_spec_EventOk e).bind fun r => match r with | true => (S_spec_l4bytes e).bind fun r8 => if r8 = b then some (e, true) else some (zzE, false) | false => some (zzE, false) else some (zzE, false)) = some (accP b e nx) := by
  unfold accP
  by_cases hn : nx = ((b.length : Nat) : Int)
  · rw [if_pos hn, specEv_eq (h hn), Option.bind_some]
    cases hb : evB e with
    | false => rw [if_neg (fun h => by simp at h)]
    | true =>
      obtain ⟨r, h1, h2, _⟩ := event_bytes hb
      dsimp only
      rw [h1, h2, Option.bind_some]
      by_cases hr : r = b
      · rw [if_pos hr, if_pos ⟨hn, rfl, by rw [hr]⟩]
      · rw [if_neg hr, if_neg (fun h => hr (Option.some.inj h.2.2))]
  · rw [if_neg hn, if_neg (fun h => hn h.1)]
theorem accI {b : List UInt8} {e : GEvent} {nx : Int} (h : nx = ((b.length : Nat) : Int) → evsz e <= 2 ^ 20) : (if nx = ((b.length : Nat) : Int) then (S_impl_isEvent e).bind fun r => match r with | true => (S_impl_eventBytes e).bind fun r8 => (S_bytes_Equal r8 b).bind fun r9 => (match r9 with | true => some (e, true) | false => some (zzE, false)) | false => some (zzE, false) else some (zzE, false)) = some (accP b e nx) := by
  unfold accP
  by_cases hn : nx = ((b.length : Nat) : Int)
  · rw [if_pos hn, implEv_eq (h hn), Option.bind_some]
    cases hb : evB e with
    | false => rw [if_neg (fun h => by simp at h)]
    | true =>
      obtain ⟨r, h1, h2, _⟩ := event_bytes hb
      dsimp only
      rw [h2, Option.bind_some]
      unfold S_bytes_Equal
      rw [Option.bind_some]
      by_cases hr : r = b
      · rw [decide_eq_true hr, if_pos ⟨hn, rfl, by rw [hr]⟩]
      · rw [decide_eq_false hr, if_neg (fun h => hr (Option.some.inj h.2.2))]
  · rw [if_neg hn, if_neg (fun h => hn h.1)]
theorem accB {b : List UInt8} {e : GEvent} {nx : Int} (h : nx = ((b.length : Nat) : Int) → evsz e <= 2 ^ 20) : evsz (accP b e nx).1 <= 2 ^ 20 := by
  unfold accP
  split
  · rename_i hh; exact h hh.1
  · decide
theorem evsz_mk (k act : Int) (t : List UInt8) (v : GValue) (D : List (List UInt8)) : evsz (.mk k t act v D) = t.length + vsz v + bsz D := rfl
theorem vsz_z : vsz (.mk 0 0 [] [] []) = 0 := rfl
theorem bsz_nil : bsz [] = 0 := rfl
theorem evB_two {k : Int} {t : List UInt8} {v : GValue} {D : List (List UInt8)} (hk : k = 2) (h : evB (.mk k t 0 v D) = true) : D.length <= 8 ∧ shV 5 v = true ∧ (ptV v : Int) <= 40 := by
  unfold evB at h
  rw [show (GEvent.mk k t 0 v D).Kind = k from rfl, if_pos hk, Bool.and_eq_true, Bool.and_eq_true, Bool.and_eq_true] at h
  have hd := h.2
  have hv := h.1.2
  unfold addrsB at hd
  rw [Bool.and_eq_true] at hd
  unfold kmapB at hv
  rw [Bool.and_eq_true, Bool.and_eq_true] at hv
  have := of_decide_eq_true hv.1.2
  exact ⟨of_decide_eq_true hd.1, this.1, this.2⟩
set_option maxHeartbeats 8000000 in
theorem read_both {b : List UInt8} (hl : b.length <= 2 ^ 20) : ∃ p : GEvent × Bool, T_spec_EventRead 100 b = some p ∧ T_impl_eventRead (b.length + 10) b = some p ∧ evsz p.1 <= 2 ^ 20 := by
  unfold T_spec_EventRead T_impl_eventRead
  obtain ⟨k, nx, e2, e1, hk⟩ := num_all hl (show (-1 : Int) <= 0 by decide) (by omega) 40
  rw [e1, e2, Option.bind_some, Option.bind_some]
  dsimp only
  have hnx : -1 <= nx ∧ nx <= b.length := by omega
  obtain ⟨t, x2, f2, f1, ht⟩ := text_all hl hnx.1 hnx.2 40
  have hx2 : -1 <= x2 ∧ x2 <= b.length := by rcases ht with h | h <;> omega
  by_cases c1 : k = 1
  · simp only [if_pos c1]
    obtain ⟨n3, x3, g2, g1, h3⟩ := num_all hl hx2.1 hx2.2 40
    rw [f1, f2, Option.bind_some, Option.bind_some]
    dsimp only
    rw [g1, g2, Option.bind_some, Option.bind_some]
    have hs : x3 = ((b.length : Nat) : Int) → evsz (.mk k t n3 (.mk 0 0 [] [] []) []) <= 2 ^ 20 := fun h => by
      rw [evsz_mk, vsz_z, bsz_nil]
      rcases ht with h' | h' <;> omega
    exact ⟨_, accS hs, accI hs, accB hs⟩
  by_cases c3 : k = 3
  · have c2 : ¬ k = 2 := by omega
    simp only [if_neg c1, if_neg c2, if_pos c3]
    rw [f1, f2, Option.bind_some, Option.bind_some]
    have hs : x2 = ((b.length : Nat) : Int) → evsz (.mk k t 0 (.mk 0 0 [] [] []) []) <= 2 ^ 20 := fun h => by
      rw [evsz_mk, vsz_z, bsz_nil]
      rcases ht with h' | h' <;> omega
    exact ⟨_, accS hs, accI hs, accB hs⟩
  by_cases c4 : k = 4
  · have c2 : ¬ k = 2 := by omega
    simp only [if_neg c1, if_neg c2, if_neg c3, if_pos c4]
    rw [f1, f2, Option.bind_some, Option.bind_some]
    have hs : x2 = ((b.length : Nat) : Int) → evsz (.mk k t 0 (.mk 0 0 [] [] []) []) <= 2 ^ 20 := fun h => by
      rw [evsz_mk, vsz_z, bsz_nil]
      rcases ht with h' | h' <;> omega
    exact ⟨_, accS hs, accI hs, accB hs⟩
  by_cases c2 : k = 2
  · simp only [if_neg c1, if_pos c2, if_neg c3, if_neg c4]
    obtain ⟨n3, x3, g2, g1, h3⟩ := num_all hl hx2.1 hx2.2 40
    rw [f1, f2, Option.bind_some, Option.bind_some]
    dsimp only
    rw [g1, g2, Option.bind_some, Option.bind_some]
    dsimp only
    obtain ⟨i1, a1, D1, d1, hb1, hAB⟩ := depAB hl n3 k t (by omega) 9 100 (b.length + 10) 0 x3 [] (by decide) (by decide) (fun h => by omega) (by omega) (by omega) (by omega) (by decide) (by decide) rfl (fun h => by simp; exact h)
    obtain ⟨a2, i2, D2, d2, hb2, _⟩ := depI hl n3 k t (by omega) (b.length + 10) 0 x3 [] (by omega) (fun h => by omega) (by omega) (by omega) (by decide) (fun h => by simp; exact h)
    obtain ⟨hA, hB⟩ := hAB _ _ _ d2
    have R := rd_all hl 5 1048700 (by omega)
    obtain ⟨v, y1, l1, v', y', u1, u1', q1, q1', rA, rB⟩ := R a1 1 40 (by decide) (by decide) (by omega) (by omega) (by decide) (by decide)
    obtain ⟨w', z', l2, w, y2, u2', u2, q2', q2, sA, sB⟩ := R a2 1 40 (by decide) (by decide) (by omega) (by omega) (by decide) (by decide)
    have hs1 : y1 = ((b.length : Nat) : Int) → evsz (.mk k t 0 v D1) <= 2 ^ 20 := fun h => by
      rw [evsz_mk]
      rw [bsz_nil] at hb1
      rcases ht with h' | h' <;> omega
    have hs2 : y2 = ((b.length : Nat) : Int) → evsz (.mk k t 0 w D2) <= 2 ^ 20 := fun h => by
      rw [evsz_mk]
      rw [bsz_nil] at hb2
      rcases ht with h' | h' <;> omega
    have same : accP b (.mk k t 0 v D1) y1 = accP b (.mk k t 0 w D2) y2 := by
      by_cases hc1 : y1 = ((b.length : Nat) : Int) ∧ evB (.mk k t 0 v D1) = true
      · obtain ⟨p1, p2, _⟩ := evB_two c2 hc1.2
        obtain ⟨rfl, rfl⟩ := hB (by omega) p1
        obtain ⟨rfl, rfl⟩ := rB (by omega) p2
        rw [u1'] at u2
        simp only [Option.some.injEq, Prod.mk.injEq] at u2
        obtain ⟨rfl, rfl⟩ := u2
        rfl
      · by_cases hc2 : y2 = ((b.length : Nat) : Int) ∧ evB (.mk k t 0 w D2) = true
        · obtain ⟨p1, p2, p3⟩ := evB_two c2 hc2.2
          obtain ⟨rfl, rfl⟩ := hA (by omega) p1
          obtain ⟨rfl, rfl, _⟩ := sA (by omega) p3
          rw [u1] at u2'
          simp only [Option.some.injEq, Prod.mk.injEq, GL2cur.mk.injEq] at u2'
          obtain ⟨rfl, _, rfl, _⟩ := u2'
          rfl
        · unfold accP
          rw [if_neg (fun h => hc1 ⟨h.1, h.2.1⟩), if_neg (fun h => hc2 ⟨h.1, h.2.1⟩)]
    refine ⟨accP b (.mk k t 0 v D1) y1, ?_, ?_, accB hs1⟩
    · rw [show L_spec_EventRead_l0 b n3 0 0 0 0 k 0 0 0 [] [] [] [] [] t [] [] [] 100 0 (.mk b x3 40) [] = some (i1, .mk b a1 40, D1) from d1, Option.bind_some]
      dsimp only
      rw [show S_spec_l2read 1 (.mk b a1 40) = some (v, .mk b y1 l1) from u1, Option.bind_some]
      exact accS hs1
    · rw [show L_impl_eventRead_l0 b n3 0 0 0 0 k 0 0 0 [] [] [] [] [] t [] [] [] (b.length + 10) x3 0 [] = some (a2, i2, D2) from d2, Option.bind_some]
      dsimp only
      rw [show S_impl_readValue b a2 1 = some (w, y2) from u2, Option.bind_some, same]
      exact accI hs2
  · simp only [if_neg c1, if_neg c2, if_neg c3, if_neg c4]
    have hs : nx = ((b.length : Nat) : Int) → evsz (.mk k [] 0 (.mk 0 0 [] [] []) []) <= 2 ^ 20 := fun h => by
      rw [evsz_mk, vsz_z, bsz_nil]; decide
    exact ⟨_, accS hs, accI hs, accB hs⟩
theorem markVi_eq {g : GValue} {i : Int} (h : vsz g <= 2 ^ 30) (h0 : 0 <= i) (h1 : i <= 2 ^ 39) : ∃ (k : Int) (a : List UInt8) (b : List (List UInt8)) (c : List GValue), S_laws_markValue g.Kind g.N i g.S g.K g.L = some (k, a, b, c) ∧ i <= k ∧ k <= i + 2 * vsz g ∧ ∀ kd n, S_laws_heldValue (GValue.mk kd n a b c) i = some k := by
  have he := vsz_eq g
  have hb := bsz_cB g.K
  have hc := cVs_le g.L
  generalize g.Kind = kd0
  generalize g.N = n0
  generalize g.S = s at he ⊢
  generalize g.K = k at he hb ⊢
  generalize g.L = l at he hc ⊢
  unfold S_laws_markValue
  rw [markByteS_eq (by omega) (by omega), Option.bind_some]
  dsimp only
  rw [markByteSS_eq (by omega) (by omega), Option.bind_some]
  dsimp only
  rw [markValueS_eq (by omega) (by omega), Option.bind_some]
  refine ⟨_, _, _, _, rfl, by omega, by omega, fun kd n => ?_⟩
  unfold S_laws_heldValue
  simp only [GValue.S, GValue.K, GValue.L]
  rw [heldByteS_eq (mB_idem _ _) (by omega) (by rw [mB_len]; omega), Option.bind_some, mB_len, if_neg (by omega), heldByteSS_eq (mBB_idem _ _) (by omega) (by rw [bsz_mBB]; omega), Option.bind_some, cB_mBB, if_neg (by omega), heldValueS_eq (mVs_idem _ _) (by omega) (by rw [vszs_m]; omega), Option.bind_some, cVs_m, if_neg (by omega)]
theorem markEvh_eq {g : GEvent} (h : evsz g <= 2 ^ 30) : ∃ (k : Int) (a b : List UInt8) (c : List (List UInt8)) (d : List GValue) (e : List (List UInt8)), S_laws_markEvent g.Kind g.Act g.Val.Kind g.Val.N 1 g.Addr g.Val.S g.Val.K g.Val.L g.Deps = some (k, a, b, c, d, e) ∧ 0 <= k ∧ S_laws_heldEvent (GEvent.mk g.Kind a g.Act (GValue.mk g.Val.Kind g.Val.N b c d) e) 1 = some k := by
  unfold evsz at h
  have hd := bsz_cB g.Deps
  obtain ⟨k, a, b, c, hm, h1, h2, hh⟩ := markVi_eq (g := g.Val) (i := 1 + (g.Addr.length : Int)) (by omega) (by omega) (by omega)
  unfold S_laws_markEvent
  rw [markByteS_eq (by decide) (by omega), Option.bind_some]
  dsimp only
  rw [hm, Option.bind_some]
  dsimp only
  rw [markByteSS_eq (by omega) (by omega), Option.bind_some]
  refine ⟨_, _, _, _, _, _, rfl, by omega, ?_⟩
  generalize g.Addr = ad at *
  generalize g.Deps = dp at *
  unfold S_laws_heldEvent
  simp only [GEvent.Addr, GEvent.Val, GEvent.Deps]
  rw [heldByteS_eq (mB_idem _ _) (by decide) (by rw [mB_len]; omega), Option.bind_some, mB_len, if_neg (by omega), hh, Option.bind_some, if_neg (by omega), heldByteSS_eq (mBB_idem _ _) (by omega) (by rw [bsz_mBB]; omega), Option.bind_some, cB_mBB, if_neg (by omega)]
theorem law_EventRead {b : List UInt8} (_ : b.length <= 2 ^ 63 - 1) : S_laws_FnExactEventRead b = some true := by
  unfold S_laws_FnExactEventRead
  by_cases c : 1048576 < ((b.length : Nat) : Int)
  · rw [if_pos c]
  have hl : b.length <= 2 ^ 20 := by omega
  rw [if_neg c, toB_eq hl, Option.bind_some]
  obtain ⟨⟨e, k⟩, h1, h2, he⟩ := read_both hl
  dsimp only at he
  unfold S_spec_EventRead S_impl_EventRead S_impl_eventRead
  rw [h1, h2, Option.bind_some]
  dsimp only
  rw [Option.bind_some]
  dsimp only
  rw [Option.bind_some]
  dsimp only
  rw [eqEv_eq (by omega), Option.bind_some]
  dsimp only
  rw [eqB_eq (by omega), Option.bind_some]
  dsimp only
  rw [markByteS_eq (by omega) (by omega), Option.bind_some]
  dsimp only
  rw [if_neg (by omega)]
  obtain ⟨q, x1, x2, x3, x4, x5, hm, hq, hh⟩ := markEvh_eq (g := e) (by omega)
  rw [hm, Option.bind_some]
  dsimp only
  rw [hh, Option.bind_some, if_neg (by omega), if_pos rfl]
  cases k <;> rfl
end
end Go.Am.Try
