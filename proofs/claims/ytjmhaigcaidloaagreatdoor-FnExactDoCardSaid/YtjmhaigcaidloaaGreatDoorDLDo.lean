
/- The law of FnExactDo, in plain terms. -/
import Derived.Test.YtjmhaigcaidloaaGreatDoorDG4
set_option linter.unusedVariables false
set_option linter.unusedSimpArgs false
namespace Go.Am.Try
open Go.Am
noncomputable section
theorem specV_eq {v : GValue} (h : vsz v <= 2 ^ 20) : S_q1o v = some (valB v) := by
  unfold S_q1o S_spec_l2ok
  rw [if_pos ⟨h, by decide, by decide, by decide⟩, Option.bind_some]
  congr 1
  unfold okV valB
  rw [show (6 - (1 : Int)).toNat = 5 from rfl]
  by_cases hc : shV 5 v = true ∧ (ptV v : Int) <= 40
  · rw [if_pos hc, decide_eq_true hc]; exact decide_eq_true (by omega)
  · rw [if_neg hc, decide_eq_false hc]; rfl
theorem implV_eq {v : GValue} (h : vsz v <= 2 ^ 20) : S_q29 v = some (valB v) := by
  unfold S_q29 S_q9 S_q5 valB
  rw [if_pos ⟨h, by decide, by decide⟩, Option.bind_some]
  rw [show (5 : Int).toNat = 5 from rfl]
  cases hs : shV 5 v
  · simp
  · dsimp only
    rw [if_pos h, Option.bind_some]
    simp
theorem szV_eq {v : GValue} {n : Int} (h : MdV v) (h0 : 0 <= n) (h1 : n <= 2 ^ 20) : S_qv v n = some (leftV (vsz v) n) := if_pos ⟨h, h0, h1⟩
theorem toV_eq {v : GValue} (h : vsz v <= 2 ^ 20) : S_qt v = some v := if_pos h
theorem eqV_eq {v : GValue} (h : vsz v <= 2 ^ 39) : S_qu v v = some true := if_pos ⟨rfl, by omega⟩
def evsz (e : GEvent) : Nat := e.Addr.length + vsz e.Val + bsz e.Deps
def MdEv (e : GEvent) : Prop := e.Addr.length <= 2 ^ 63 - 1 ∧ MdV e.Val ∧ MdB e.Deps
theorem szEv_eq {e : GEvent} {n : Int} (h : MdEv e) (h0 : 0 <= n) (h1 : n <= 2 ^ 20) : S_q2s e n = some (leftV (evsz e) n) := by
  unfold S_q2s
  rw [szByteS_eq h.1 h0 h1, Option.bind_some]
  unfold leftV evsz
  by_cases c1 : (e.Addr.length : Int) <= n
  · rw [if_pos c1, if_neg (by omega), szV_eq h.2.1 (by omega) (by omega), Option.bind_some]
    unfold leftV
    by_cases c2 : (vsz e.Val : Int) <= n - e.Addr.length
    · rw [if_pos c2, if_neg (by omega), show S_qp e.Deps (n - e.Addr.length - vsz e.Val) = some (leftV (bsz e.Deps) (n - e.Addr.length - vsz e.Val)) from if_pos ⟨h.2.2, by omega, by omega⟩, Option.bind_some]
      unfold leftV
      by_cases c3 : (bsz e.Deps : Int) <= n - e.Addr.length - vsz e.Val
      · rw [if_pos c3, if_neg (by omega), if_pos (by omega)]; congr 1; omega
      · rw [if_neg c3, if_pos (by omega), if_neg (by omega)]
    · rw [if_neg c2, if_pos (by omega), if_neg (by omega)]
  · rw [if_neg c1, if_pos (by omega), if_neg (by omega)]
theorem toEv_eq {e : GEvent} (h : evsz e <= 2 ^ 20) : S_q2t e = some e := by
  unfold evsz at h
  unfold S_q2t S_qi S_qr
  rw [if_pos (by omega), Option.bind_some, toV_eq (by omega), Option.bind_some, if_pos (by omega), Option.bind_some]
  cases e; rfl
theorem eqEv_eq {e : GEvent} (h : evsz e <= 2 ^ 39) : S_q24 e e = some true := by
  unfold evsz at h
  unfold S_q24 S_qf S_qq
  rw [if_pos rfl, if_pos ⟨rfl, by omega⟩, Option.bind_some]
  dsimp only
  rw [if_pos rfl, eqV_eq (by omega), Option.bind_some]
  dsimp only
  rw [if_pos ⟨rfl, by omega⟩, Option.bind_some]
def zeroB (v : GValue) : Bool := decide (v.Kind = 0 ∧ v.N = 0 ∧ v.S.length = 0 ∧ v.K.length = 0 ∧ v.L.length = 0)
def evB (e : GEvent) : Bool :=
  if e.Kind = 2 then addrB e.Addr && decide (e.Act = 0) && kmapB e.Val && addrsB e.Deps
  else zeroB e.Val && decide (e.Deps.length = 0) &&
    (if e.Kind = 0 ∨ e.Kind = 5 ∨ e.Kind = 6 then decide (e.Addr.length = 0) && decide (e.Act = 0)
     else if e.Kind = 1 then addrB e.Addr && decide (1 <= e.Act ∧ e.Act <= 4)
     else if e.Kind = 3 ∨ e.Kind = 4 then addrB e.Addr && decide (e.Act = 0) else false)
theorem ekmI_eq {v : GValue} (h : vsz v <= 2 ^ 20) : S_q1l v = some (kmapB v) := by
  unfold S_q1l S_q2v kmapB
  by_cases h5 : v.Kind = 5
  · rw [if_pos h5, implV_eq h, Option.bind_some, decide_eq_true h5, Bool.true_and]
    cases hv : valB v with
    | false => rfl
    | true =>
      simp only [Bool.true_and]
      unfold S_qc
      rw [if_pos (by omega)]; rfl
  · rw [if_neg h5, decide_eq_false h5]; rfl
theorem ekmS_eq {v : GValue} (h : vsz v <= 2 ^ 20) : S_q26 v = some (kmapB v) := by
  unfold S_q26 kmapB
  by_cases h5 : v.Kind = 5
  · rw [if_pos h5, specV_eq h, Option.bind_some, decide_eq_true h5, Bool.true_and]
    cases hv : valB v with
    | false => rfl
    | true =>
      simp only [Bool.true_and]
      unfold S_qe
      rw [if_pos (by omega)]; rfl
  · rw [if_neg h5, decide_eq_false h5]; rfl
theorem isZero_eq (v : GValue) : S_q2u v = some (zeroB v) := by
  unfold S_q2u zeroB
  by_cases h1 : v.Kind = 0 <;> by_cases h2 : v.N = 0 <;> by_cases h3 : v.S.length = 0 <;> by_cases h4 : v.K.length = 0 <;> by_cases h5 : v.L.length = 0 <;> simp [h1, h2, h3, h4, h5, List.length_eq_zero_iff.1] <;> simp_all
theorem l2num_zero (a : Int) : ∃ r, S_q27 a 0 = some r ∧ (r = 0 ↔ a = 0) := by
  unfold S_q27
  by_cases h : a < 0
  · exact ⟨_, if_pos h, by omega⟩
  · rw [if_neg h]
    by_cases h' : 0 < a
    · exact ⟨_, if_pos h', by omega⟩
    · exact ⟨_, if_neg h', by omega⟩
theorem l2cmp_zero (G : GValue → GValue → Option Int) (n : Nat) (v z : GValue) (hk : z.Kind = 0) (hn : z.N = 0) (hl : z.L.length = 0) : ∃ r, T_qz G (n + 1) v z = some r ∧ ((r = 0 ∧ v.N = 0) ↔ (v.Kind = 0 ∧ v.N = 0 ∧ v.L.length = 0)) := by
  unfold T_qz
  rw [hk]
  by_cases h1 : v.Kind = 0
  · rw [if_pos h1, if_neg (by omega), hn]
    by_cases h2 : v.N = 0
    · rw [if_pos h2, L_qz_l0, hl]
      obtain ⟨r, hr, hr2⟩ := l2num_zero (v.L.length : Int)
      refine ⟨r, ?_, by simp only [h1, h2, true_and, and_true]; omega⟩
      by_cases h3 : (0 : Int) < (v.L.length : Int)
      · rw [if_pos h3, if_neg (by omega), Option.bind_some]
        dsimp only
        rw [show ((0 : Nat) : Int) = 0 from rfl, hr, Option.bind_some]
      · rw [if_neg h3, Option.bind_some]
        dsimp only
        rw [show ((0 : Nat) : Int) = 0 from rfl, hr, Option.bind_some]
    · rw [if_neg h2]
      obtain ⟨r, hr, hr2⟩ := l2num_zero v.N
      exact ⟨r, by rw [hr, Option.bind_some], ⟨fun h => absurd h.2 h2, fun h => absurd h.2.1 h2⟩⟩
  · rw [if_neg h1]
    obtain ⟨r, hr, hr2⟩ := l2num_zero v.Kind
    exact ⟨r, by rw [hr, Option.bind_some], ⟨fun h => absurd (hr2.1 h.1) h1, fun h => absurd h.1 h1⟩⟩
theorem l4zero_eq (v : GValue) : S_q1u v = some (decide (v.Kind = 0 ∧ v.N = 0 ∧ v.L.length = 0)) := by
  unfold S_q1u S_qz
  rw [show vsz v + 3 = (vsz v + 1 + 1) + 1 from rfl, U_qz]
  obtain ⟨r, hr, hr2⟩ := l2cmp_zero (U_qz (vsz v + 1 + 1)) (vsz v + 1) v (GValue.mk 0 0 [] [] []) rfl rfl rfl
  rw [hr, Option.bind_some]
  by_cases h : r = 0
  · rw [if_pos h]; exact congrArg some (decide_eq_decide.2 (by rw [<- hr2]; simp [h]))
  · rw [if_neg h]; exact congrArg some (decide_eq_false (fun h' => h (hr2.2 h').1)).symm
theorem zero_val {v : GValue} (h : zeroB v = true) : valB v = true := by
  unfold zeroB at h
  cases v
  simp only [GValue.Kind, GValue.N, GValue.S, GValue.K, GValue.L, decide_eq_true_eq, List.length_eq_zero_iff] at h
  obtain ⟨rfl, rfl, rfl, rfl, rfl⟩ := h
  exact decide_eq_true ⟨by simp [shV, locV, GValue.Kind, GValue.N, GValue.S, GValue.K, GValue.L], by simp [ptV, ptVs]⟩
theorem zero_of {v : GValue} (h : valB v = true) : zeroB v = decide (v.Kind = 0 ∧ v.N = 0 ∧ v.L.length = 0) := by
  unfold zeroB
  refine decide_eq_decide.2 ⟨fun ⟨a, b, _, _, c⟩ => ⟨a, b, c⟩, fun ⟨a, b, c⟩ => ?_⟩
  have := (of_decide_eq_true h).1
  rw [shV] at this
  have hl := (Bool.and_eq_true _ _ ▸ this).1
  unfold locV at hl
  rw [if_pos (Or.inl a)] at hl
  have := of_decide_eq_true hl
  exact ⟨a, this⟩
theorem addrB_ne {a : List UInt8} (h : addrB a = true) : 0 < a.length := by
  rcases a with _ | ⟨x, l⟩
  · revert h; decide
  · simp
theorem implEv_eq {e : GEvent} (h : evsz e <= 2 ^ 20) : S_q2p e = some (evB e) := by
  unfold evsz at h
  unfold S_q2p evB
  by_cases k2 : e.Kind = 2
  · rw [if_pos k2, if_pos k2, implAd_eq (by omega), Option.bind_some]
    cases addrB e.Addr with
    | false => rfl
    | true =>
      dsimp only
      by_cases ha : e.Act = 0
      · rw [if_pos ha, ekmI_eq (by omega), Option.bind_some, decide_eq_true ha]
        cases kmapB e.Val with
        | false => rfl
        | true =>
          dsimp only
          rw [show S_qs e.Deps = some (addrsB e.Deps) from if_pos (by omega)]
          simp
      · rw [if_neg ha, decide_eq_false ha]; rfl
  · rw [if_neg k2, if_neg k2, isZero_eq, Option.bind_some]
    cases zeroB e.Val with
    | false => rfl
    | true =>
      dsimp only
      by_cases d : e.Deps.length = 0
      · rw [if_neg (by omega), decide_eq_true d, Bool.true_and, Bool.true_and]
        by_cases k0 : e.Kind = 0 ∨ e.Kind = 5 ∨ e.Kind = 6
        · rw [if_pos k0]
          have hh : (if ((e.Addr.length : Nat) : Int) = 0 then some (decide (e.Act = 0)) else some false) = some (decide (e.Addr.length = 0) && decide (e.Act = 0)) := by
            by_cases hl : e.Addr.length = 0
            · rw [if_pos (by omega), decide_eq_true hl, Bool.true_and]
            · rw [if_neg (by omega), decide_eq_false hl, Bool.false_and]
          rw [hh]
          by_cases k00 : e.Kind = 0
          · rw [if_pos k00]
          · rw [if_neg k00]
            by_cases k05 : e.Kind = 5
            · rw [if_pos k05]
            · rw [if_neg k05, if_pos (by omega)]
        · rw [if_neg k0, if_neg (by omega), if_neg (by omega), if_neg (by omega)]
          by_cases k1 : e.Kind = 1
          · rw [if_pos k1, if_pos k1, implAd_eq (by omega), Option.bind_some]
            cases addrB e.Addr with
            | false => rfl
            | true => dsimp only; rw [in_eq, Option.bind_some]; rfl
          · rw [if_neg k1, if_neg k1]
            by_cases k3 : e.Kind = 3
            · rw [if_pos k3, if_pos (Or.inl k3), implAd_eq (by omega), Option.bind_some]
              cases addrB e.Addr <;> rfl
            · rw [if_neg k3]
              by_cases k4 : e.Kind = 4
              · rw [if_pos k4, if_pos (Or.inr k4), implAd_eq (by omega), Option.bind_some]
                cases addrB e.Addr <;> rfl
              · rw [if_neg k4, if_neg (by omega)]
      · rw [if_pos (by omega), decide_eq_false d]; rfl
theorem zvd {v : GValue} (h : vsz v <= 2 ^ 20) (d : Nat) : ((S_q1o v).bind fun r => match r with | true => (S_q1u v).bind fun r => (match r with | true => some (decide (((d : Nat) : Int) = 0)) | false => some false) | false => some false) = some (zeroB v && decide (d = 0)) := by
  rw [specV_eq h, Option.bind_some]
  cases hv : valB v with
  | true =>
    dsimp only
    rw [l4zero_eq, Option.bind_some, zero_of hv]
    cases decide (v.Kind = 0 ∧ v.N = 0 ∧ v.L.length = 0) with
    | true => exact congrArg some (by rw [Bool.true_and]; exact decide_eq_decide.2 (by omega))
    | false => rfl
  | false =>
    dsimp only
    cases hz : zeroB v with
    | true => rw [zero_val hz] at hv; cases hv
    | false => rfl
theorem specEv_eq {e : GEvent} (h : evsz e <= 2 ^ 20) : S_q2r e = some (evB e) := by
  unfold evsz at h
  unfold S_q2r evB
  rw [specAd_eq (by omega)]
  simp only [Option.bind_some]
  have Z := zvd (v := e.Val) (by omega) e.Deps.length
  have hb := @addrB_ne e.Addr
  by_cases r0 : e.Kind < 0
  · rw [if_pos r0, if_neg (show ¬ e.Kind = 2 by omega), if_neg (show ¬ (e.Kind = 0 ∨ e.Kind = 5 ∨ e.Kind = 6) by omega), if_neg (show ¬ e.Kind = 1 by omega), if_neg (show ¬ (e.Kind = 3 ∨ e.Kind = 4) by omega), Bool.and_false]
  rw [if_neg r0]
  by_cases r6 : 6 < e.Kind
  · rw [if_pos r6, if_neg (show ¬ e.Kind = 2 by omega), if_neg (show ¬ (e.Kind = 0 ∨ e.Kind = 5 ∨ e.Kind = 6) by omega), if_neg (show ¬ e.Kind = 1 by omega), if_neg (show ¬ (e.Kind = 3 ∨ e.Kind = 4) by omega), Bool.and_false]
  rw [if_neg r6]
  generalize (zeroB e.Val && decide (e.Deps.length = 0)) = z at Z ⊢
  by_cases k1 : e.Kind = 1
  · rw [if_pos k1, if_neg (show ¬ e.Kind = 2 by omega), if_neg (show ¬ (e.Kind = 0 ∨ e.Kind = 5 ∨ e.Kind = 6) by omega), if_pos k1]
    cases hA : addrB e.Addr with
    | false =>
      dsimp only
      rw [Bool.false_and, Bool.and_false]
      split <;> rfl
    | true =>
      have := hb hA
      rw [if_pos (show (0 : Int) < ((e.Addr.length : Nat) : Int) by omega)]
      dsimp only
      by_cases a1 : e.Act < 1
      · rw [if_pos a1, decide_eq_false (by omega)]; simp
      · rw [if_neg a1]
        by_cases a2 : 4 < e.Act
        · rw [if_pos a2, decide_eq_false (by omega)]; simp
        · rw [if_neg a2, decide_eq_true (show 1 <= e.Act ∧ e.Act <= 4 by omega)]; exact Z.trans (by simp)
  rw [if_neg k1]
  by_cases k2 : e.Kind = 2
  · rw [if_pos k2, if_pos k2]
    cases hA : addrB e.Addr with
    | false =>
      dsimp only
      split <;> rfl
    | true =>
      have := hb hA
      rw [if_pos (show (0 : Int) < ((e.Addr.length : Nat) : Int) by omega)]
      dsimp only
      by_cases ha : e.Act = 0
      · rw [if_pos ha, ekmS_eq (by omega), Option.bind_some, decide_eq_true ha]
        cases kmapB e.Val with
        | false => rfl
        | true =>
          dsimp only
          rw [show S_q14 e.Deps = some (addrsB e.Deps) from if_pos (by omega)]
          simp
      · rw [if_neg ha, decide_eq_false ha]; rfl
  rw [if_neg k2, if_neg k2]
  by_cases k3 : e.Kind = 3
  · rw [if_pos k3, if_neg (show ¬ (e.Kind = 0 ∨ e.Kind = 5 ∨ e.Kind = 6) by omega), if_neg k1, if_pos (Or.inl k3)]
    cases hA : addrB e.Addr with
    | false => dsimp only; rw [Bool.false_and, Bool.and_false]; split <;> rfl
    | true =>
      have := hb hA
      rw [if_pos (show (0 : Int) < ((e.Addr.length : Nat) : Int) by omega)]
      dsimp only
      by_cases ha : e.Act = 0
      · rw [if_pos ha, decide_eq_true ha]; exact Z.trans (by simp)
      · rw [if_neg ha, decide_eq_false ha]; simp
  rw [if_neg k3]
  by_cases k4 : e.Kind = 4
  · rw [if_pos k4, if_neg (show ¬ (e.Kind = 0 ∨ e.Kind = 5 ∨ e.Kind = 6) by omega), if_neg k1, if_pos (Or.inr k4)]
    cases hA : addrB e.Addr with
    | false => dsimp only; rw [Bool.false_and, Bool.and_false]; split <;> rfl
    | true =>
      have := hb hA
      rw [if_pos (show (0 : Int) < ((e.Addr.length : Nat) : Int) by omega)]
      dsimp only
      by_cases ha : e.Act = 0
      · rw [if_pos ha, decide_eq_true ha]; exact Z.trans (by simp)
      · rw [if_neg ha, decide_eq_false ha]; simp
  rw [if_neg k4, if_pos (show e.Kind = 0 ∨ e.Kind = 5 ∨ e.Kind = 6 by omega)]
  by_cases hl : e.Addr.length = 0
  · rw [if_neg (by omega), decide_eq_true hl, Bool.true_and]
    by_cases ha : e.Act = 0
    · rw [if_pos ha, decide_eq_true ha]; exact Z.trans (by simp)
    · rw [if_neg ha, decide_eq_false ha]; simp
  · rw [if_pos (by omega), decide_eq_false hl, Bool.false_and, Bool.and_false]
def MdS (s : GState) : Prop := s.Pending.length <= 2 ^ 63 - 1 ∧ s.Entries.length <= 2 ^ 63 - 1 ∧ MdEns s.Entries
theorem szS_eq {s : GState} {n : Int} (h : MdS s) (h0 : 0 <= n) (h1 : n <= 2 ^ 20) : S_q2q s n = some (leftV (ssz s) n) := by
  unfold S_q2q
  rw [szByteS_eq h.1 h0 h1, Option.bind_some]
  unfold leftV ssz
  by_cases c1 : (s.Pending.length : Int) <= n
  · rw [if_pos c1, if_neg (by omega)]
    unfold S_q1a
    rw [if_pos ⟨h.2.1, h.2.2, by omega, by omega⟩, Option.bind_some]
    unfold leftV
    by_cases c2 : (eszs s.Entries : Int) <= n - s.Pending.length
    · rw [if_pos c2, if_neg (by omega), if_pos (by omega)]; congr 1; omega
    · rw [if_neg c2, if_pos (by omega), if_neg (by omega)]
  · rw [if_neg c1, if_pos (by omega), if_neg (by omega)]
theorem toS_eq {s : GState} (h : ssz s <= 2 ^ 20) : S_q2o s = some s := by
  unfold ssz at h
  unfold S_q2o S_qi S_q1b
  rw [if_pos (by omega), Option.bind_some, if_pos (by omega), Option.bind_some]
  cases s; rfl
theorem eqS_eq {s : GState} (h : ssz s <= 2 ^ 39) : S_q1x s s = some true := by
  unfold ssz at h
  unfold S_q1x S_qf
  rw [if_pos rfl]
  by_cases ho : s.Open = true
  · rw [if_pos ho, if_pos ho, if_pos ⟨rfl, by omega⟩, Option.bind_some]; dsimp only; rw [if_pos rfl, eqEntryS_eq (by omega), Option.bind_some]
  · rw [if_neg ho, if_neg ho, if_pos ⟨rfl, by omega⟩, Option.bind_some]; dsimp only; rw [if_pos rfl, eqEntryS_eq (by omega), Option.bind_some]
theorem gs_P (a : Int) (b : Bool) (c : List UInt8) (d : Int) (e : List GEntry) : (GState.mk a b c d e).Pending = c := rfl
theorem gs_E (a : Int) (b : Bool) (c : List UInt8) (d : Int) (e : List GEntry) : (GState.mk a b c d e).Entries = e := rfl
theorem findA_at {a : List UInt8} : ∀ (l : List GEntry) (i : Nat), hasB l a = true → ∃ k, findA l a i = ((i + k : Nat) : Int) ∧ ∃ e, l[k]? = some e ∧ e.Addr = a
  | [], i, h => by simp [hasB] at h
  | e :: l, i, h => by
    rw [findA]
    by_cases he : e.Addr = a
    · exact ⟨0, by rw [if_pos he]; rfl, e, rfl, he⟩
    · have h' : hasB l a = true := by
        unfold hasB at h ⊢
        rw [List.any_cons, decide_eq_false he, Bool.false_or] at h
        exact h
      obtain ⟨k, h1, e', h2, h3⟩ := findA_at l (i + 1) h'
      exact ⟨k + 1, by rw [if_neg he, h1]; congr 1; omega, e', by simpa using h2, h3⟩
theorem asc_iff {a : List (List UInt8)} : Asc a ↔ ∀ (i j : Nat) x y, i < j → a[i]? = some x → a[j]? = some y → Op.bytesLess x y = true := by
  constructor
  · intro h i j x y hij hi hj
    obtain ⟨hi1, hi2⟩ := List.getElem?_eq_some_iff.1 hi
    obtain ⟨hj1, hj2⟩ := List.getElem?_eq_some_iff.1 hj
    have := h i j hj1 hij
    rw [hi2, hj2] at this
    exact this
  · intro h i j hj hij
    exact h i j _ _ hij (List.getElem?_eq_getElem _) (List.getElem?_eq_getElem _)
theorem part_lt {a : List (List UInt8)} {x : List UInt8} {c : Nat} (h : Part a x c) {i : Nat} {y : List UInt8} (hi : a[i]? = some y) : i < c ↔ Op.bytesLess y x = true := by
  obtain ⟨hi1, hi2⟩ := List.getElem?_eq_some_iff.1 hi
  rw [<- hi2]
  exact h.2 i hi1
theorem part_gt {a : List (List UInt8)} (ha : Asc a) {x : List UInt8} {c : Nat} (h : Part a x c) {j : Nat} {y : List UInt8} (hj : a[j]? = some y) (hc : c <= j) (hne : c = j → y ≠ x) : Op.bytesLess x y = true := by
  rcases less_total x y with h1 | h1 | h1
  · exact h1
  · exfalso
    have hcj : c ≠ j := fun e => hne e h1.symm
    have hjl := (List.getElem?_eq_some_iff.1 hj).1
    have hcl : c < a.length := by omega
    have h2 := asc_iff.1 ha c j _ _ (by omega) (List.getElem?_eq_getElem hcl) hj
    rw [<- h1] at h2
    have := (part_lt h (List.getElem?_eq_getElem hcl)).2 h2
    omega
  · have := (part_lt h hj).2 h1
    omega
theorem asc_ins {a : List (List UInt8)} (ha : Asc a) {x : List UInt8} {c : Nat} (h : Part a x c) (hne : a[c]? ≠ some x) : Asc (insL a c x) := by
  refine asc_iff.2 fun i j u v hij hi hj => ?_
  rw [insL_get a c x h.1] at hi hj
  have A := asc_iff.1 ha
  by_cases h1 : j < c
  · rw [if_pos h1] at hj; rw [if_pos (by omega)] at hi
    exact A i j u v hij hi hj
  rw [if_neg h1] at hj
  by_cases h2 : j = c
  · rw [if_pos h2] at hj; rw [if_pos (by omega)] at hi
    injection hj with hj
    subst hj
    exact (part_lt h hi).1 (by omega)
  rw [if_neg h2] at hj
  by_cases h3 : i < c
  · rw [if_pos h3] at hi
    exact A i (j - 1) u v (by omega) hi hj
  rw [if_neg h3] at hi
  by_cases h4 : i = c
  · rw [if_pos h4] at hi
    injection hi with hi
    subst hi
    exact part_gt ha h hj (by omega) fun e he => hne (by rw [e, hj, he])
  · rw [if_neg h4] at hi
    exact A (i - 1) (j - 1) u v (by omega) hi hj
theorem asc_del {a : List (List UInt8)} (ha : Asc a) {c : Nat} (hc : c < a.length) : Asc (delL a c) := by
  refine asc_iff.2 fun i j u v hij hi hj => ?_
  rw [delL_get a c hc] at hi hj
  have A := asc_iff.1 ha
  by_cases h1 : j < c
  · rw [if_pos h1] at hj; rw [if_pos (by omega)] at hi
    exact A i j u v hij hi hj
  rw [if_neg h1] at hj
  by_cases h3 : i < c
  · rw [if_pos h3] at hi
    exact A i (j + 1) u v (by omega) hi hj
  · rw [if_neg h3] at hi
    exact A (i + 1) (j + 1) u v (by omega) hi hj
theorem putE_true {e : GEntry} : ∀ {l : List GEntry}, (∀ x ∈ l, Op.bytesLess e.Addr x.Addr = true) → putE e true l = l
  | [], _ => rfl
  | x :: l, h => by
    rw [putE, h x List.mem_cons_self, cond_true, cond_true, putE_true fun y hy => h y (List.mem_cons_of_mem _ hy)]
theorem less_asym {a b : List UInt8} (h : Op.bytesLess a b = true) : Op.bytesLess b a = false := by
  cases hb : Op.bytesLess b a with
  | false => rfl
  | true => have := less_trans h hb; rw [less_irr] at this; cases this
theorem putE_eq {e : GEntry} : ∀ {l : List GEntry} {c : Nat}, Asc (l.map GEntry.Addr) → Part (l.map GEntry.Addr) e.Addr c → putE e false l = if (l.map GEntry.Addr)[c]? = some e.Addr then l.set c e else insL l c e
  | [], c, _, hp => by
    have := hp.1
    simp only [List.map_nil, List.length_nil] at this
    obtain rfl : c = 0 := by omega
    rfl
  | x :: l, c, ha, hp => by
    have hal : Asc (l.map GEntry.Addr) := asc_iff.2 fun i j u v hij hi hj => asc_iff.1 ha (i + 1) (j + 1) u v (by omega) (by simpa using hi) (by simpa using hj)
    have hx : ∀ y ∈ l, Op.bytesLess x.Addr y.Addr = true := fun y hy => by
      obtain ⟨j, hj⟩ := List.mem_iff_getElem?.1 hy
      exact asc_iff.1 ha 0 (j + 1) _ _ (by omega) rfl (by simp [hj])
    have h0 : 0 < c ↔ Op.bytesLess x.Addr e.Addr = true := part_lt hp (by rfl)
    cases c with
    | zero =>
      have hn : Op.bytesLess x.Addr e.Addr = false := by
        cases hq : Op.bytesLess x.Addr e.Addr with
        | false => rfl
        | true => have := h0.2 hq; omega
      rw [putE, hn]
      rcases less_total e.Addr x.Addr with h1 | h1 | h1
      · rw [h1]
        simp only [cond_true, cond_false]
        rw [putE_true fun y hy => less_trans h1 (hx y hy), if_neg]
        · rfl
        · simp only [List.map_cons, List.getElem?_cons_zero, Option.some.injEq]
          intro he
          rw [he, less_irr] at h1; cases h1
      · rw [h1, less_irr]
        simp only [cond_false]
        rw [putE_true fun y hy => by rw [h1]; exact hx y hy, if_pos (by simp)]
        rfl
      · rw [hn] at h1; cases h1
    | succ c =>
      have hl : Op.bytesLess x.Addr e.Addr = true := h0.1 (by omega)
      have hpl : Part (l.map GEntry.Addr) e.Addr c := by
        refine ⟨by have := hp.1; simp only [List.map_cons, List.length_cons] at this; omega, fun k hk => ?_⟩
        have h1 := part_lt hp (i := k + 1) (y := (l.map GEntry.Addr)[k]) (by rw [List.map_cons, List.getElem?_cons_succ]; exact List.getElem?_eq_getElem hk)
        rw [<- h1]
        omega
      rw [putE, less_asym hl, hl]
      simp only [cond_true, cond_false]
      rw [putE_eq hal hpl]
      simp only [List.map_cons, List.getElem?_cons_succ]
      split
      · rfl
      · rfl
theorem set_self {α : Type} {l : List α} {c : Nat} {x : α} (h : l[c]? = some x) : l.set c x = l := by
  apply List.ext_getElem?
  intro i
  rw [List.getElem?_set]
  split
  · rename_i hi
    subst hi
    have := (List.getElem?_eq_some_iff.1 h).1
    rw [if_pos this, h]
  · rfl
theorem map_set_addr {l : List GEntry} {c : Nat} {e : GEntry} (h : (l.map GEntry.Addr)[c]? = some e.Addr) : (l.set c e).map GEntry.Addr = l.map GEntry.Addr := by
  rw [List.map_set]
  exact set_self h
theorem map_ins_addr {l : List GEntry} {c : Nat} {e : GEntry} : (insL l c e).map GEntry.Addr = insL (l.map GEntry.Addr) c e.Addr := by simp [insL, List.map_take, List.map_drop]
theorem map_del_addr {l : List GEntry} {c : Nat} : (delL l c).map GEntry.Addr = delL (l.map GEntry.Addr) c := by simp [delL, List.map_take, List.map_drop]
theorem eszs_app : ∀ (a b : List GEntry), eszs (a ++ b) = eszs a + eszs b
  | [], b => by simp [eszs]
  | x :: a, b => by simp only [List.cons_append, eszs, eszs_app a b]; omega
theorem eszs_cut (l : List GEntry) (c : Nat) : eszs l = eszs (l.take c) + eszs (l.drop c) := by
  rw [<- eszs_app, List.take_append_drop]
theorem eszs_ins (l : List GEntry) (c : Nat) (e : GEntry) : eszs (insL l c e) = eszs l + 1 + esz e := by
  unfold insL
  rw [eszs_app, eszs_app, eszs_cut l c]
  simp only [eszs]; omega
theorem eszs_del (l : List GEntry) (c : Nat) : eszs (delL l c) <= eszs l := by
  unfold delL
  have h1 := eszs_cut l c
  have h2 := eszs_cut (l.drop c) 1
  rw [List.drop_drop] at h2
  rw [eszs_app]
  omega
theorem eszs_set : ∀ (l : List GEntry) (c : Nat) (e : GEntry), eszs (l.set c e) <= eszs l + esz e
  | [], c, e => by simp [eszs]
  | x :: l, 0, e => by simp only [List.set_cons_zero, eszs]; omega
  | x :: l, c + 1, e => by have := eszs_set l c e; simp only [List.set_cons_succ, eszs]; omega
def stI (s : GState) : Prop := 0 <= s.Serial ∧ s.Serial <= 1000000 ∧ Asc (s.Entries.map GEntry.Addr) ∧ (s.Pending ≠ [] → s.Open = true ∧ hasB s.Entries s.Pending = decide (s.Act ≠ 1))
theorem stB_I {s : GState} (h : stB s = true) : stI s := by
  unfold stB at h
  simp only [Bool.and_eq_true, decide_eq_true_eq] at h
  obtain ⟨⟨⟨h1, h2, _⟩, h3⟩, h4⟩ := h
  refine ⟨h1, h2, gAll_asc h3, fun hp => ?_⟩
  unfold pendB at h4
  rw [if_neg hp] at h4
  simp only [Bool.and_eq_true, beq_iff_eq] at h4
  exact ⟨h4.1.1.1, h4.2⟩
def mayB (s : GState) (e : GEvent) : Bool :=
  if s.Serial = 1000000 then false
  else if e.Kind = 0 then !s.Open
  else if e.Kind = 1 then s.Open && decide (s.Pending = []) && (hasB s.Entries e.Addr == decide (e.Act ≠ 1)) && (hasB s.Entries e.Addr || decide (s.Entries.length < 16))
  else if e.Kind = 2 then decide (s.Pending = e.Addr) && decide (s.Act ≠ 4)
  else if e.Kind = 3 then decide (s.Pending = e.Addr) && decide (s.Act = 4)
  else if e.Kind = 4 then decide (s.Pending = e.Addr)
  else if e.Kind = 5 then s.Open && decide (s.Pending = [])
  else s.Open
theorem ev_ne {e : GEvent} (h : evB e = true) (hk : e.Kind = 1 ∨ e.Kind = 2 ∨ e.Kind = 3 ∨ e.Kind = 4) : e.Addr ≠ [] := by
  intro he
  have ha : addrB e.Addr = false := by rw [he]; decide
  unfold evB at h
  rw [ha] at h
  rcases hk with hk | hk | hk | hk <;> simp [hk] at h
theorem len_zero {a : List UInt8} : (((a.length : Nat) : Int) = 0) ↔ a = [] := by
  constructor
  · intro h; exact List.eq_nil_of_length_eq_zero (by omega)
  · rintro rfl; rfl
theorem len_pos {a : List UInt8} : (0 < ((a.length : Nat) : Int)) ↔ a ≠ [] := by
  constructor
  · rintro h rfl; simp at h
  · intro h
    have : a.length ≠ 0 := fun e => h (List.eq_nil_of_length_eq_zero e)
    omega
theorem may_spec {s : GState} {e : GEvent} (hI : stI s) (he : evB e = true) (hl : s.Entries.length <= 2 ^ 40) : S_q2x s e = some (mayB s e) := by
  unfold S_q2x mayB S_q16
  have hs := hI.2.1
  by_cases h0 : s.Serial = 1000000
  · rw [if_pos (by omega), if_pos h0]
  rw [if_neg (by omega), if_neg h0]
  by_cases k0 : e.Kind = 0
  · rw [if_pos k0, if_pos k0]
  rw [if_neg k0, if_neg k0]
  by_cases k1 : e.Kind = 1
  · rw [if_pos k1, if_pos k1, if_pos hl, Option.bind_some]
    have hh := findA_has s.Entries e.Addr 0
    have hp := @len_pos s.Pending
    cases s.Open with
    | false => rfl
    | true =>
      dsimp only
      by_cases q : s.Pending = []
      · rw [if_neg (fun h => hp.1 h q), decide_eq_true q]
        by_cases a1 : e.Act = 1
        · rw [if_pos a1, decide_eq_false (p := e.Act ≠ 1) (by omega)]
          cases hb : hasB s.Entries e.Addr with
          | true => rw [if_pos (hh.2 hb)]; rfl
          | false => rw [if_neg (fun h => by rw [hh.1 h] at hb; cases hb)]; simp; omega
        · rw [if_neg a1, decide_eq_true (p := e.Act ≠ 1) a1]
          cases hb : hasB s.Entries e.Addr with
          | true => rw [if_pos (hh.2 hb)]; rfl
          | false => rw [if_neg (fun h => by rw [hh.1 h] at hb; cases hb)]; simp
      · rw [if_pos (hp.2 q), decide_eq_false q]; rfl
  rw [if_neg k1, if_neg k1]
  have hp := @len_pos s.Pending
  by_cases k2 : e.Kind = 2
  · rw [if_pos k2, if_pos k2]
    have hne := ev_ne he (.inr (.inl k2))
    by_cases q : s.Pending = []
    · rw [if_neg (fun h => hp.1 h q), decide_eq_false (fun h => hne (by rw [<- h, q]))]; rfl
    · rw [if_pos (hp.2 q)]
      by_cases q2 : s.Pending = e.Addr
      · rw [if_pos q2, decide_eq_true q2]; by_cases a4 : s.Act = 4 <;> simp [a4]
      · rw [if_neg q2, decide_eq_false q2]; rfl
  rw [if_neg k2, if_neg k2]
  by_cases k3 : e.Kind = 3
  · rw [if_pos k3, if_pos k3]
    have hne := ev_ne he (.inr (.inr (.inl k3)))
    by_cases q : s.Pending = []
    · rw [if_neg (fun h => hp.1 h q), decide_eq_false (fun h => hne (by rw [<- h, q]))]; rfl
    · rw [if_pos (hp.2 q)]
      by_cases q2 : s.Pending = e.Addr
      · rw [if_pos q2, decide_eq_true q2]; rfl
      · rw [if_neg q2, decide_eq_false q2]; rfl
  rw [if_neg k3, if_neg k3]
  by_cases k4 : e.Kind = 4
  · rw [if_pos k4, if_pos k4]
    have hne := ev_ne he (.inr (.inr (.inr k4)))
    by_cases q : s.Pending = []
    · rw [if_neg (fun h => hp.1 h q), decide_eq_false (fun h => hne (by rw [<- h, q]))]
    · rw [if_pos (hp.2 q)]
  rw [if_neg k4, if_neg k4]
  by_cases k5 : e.Kind = 5
  · rw [if_pos k5, if_pos k5]
    cases s.Open with
    | false => rfl
    | true =>
      dsimp only
      by_cases q : s.Pending = []
      · rw [decide_eq_false (fun h => hp.1 h q), decide_eq_true q]; rfl
      · rw [decide_eq_true (hp.2 q), decide_eq_false q]; rfl
  · rw [if_neg k5, if_neg k5]
theorem eat_at {s : GState} {a : List UInt8} (hl : s.Entries.length <= 2 ^ 40) (hA : Asc (s.Entries.map GEntry.Addr)) : ∃ c : Nat, Part (s.Entries.map GEntry.Addr) a c ∧ S_q1e s a = some ((c : Int), hasB s.Entries a) ∧ (hasB s.Entries a = true ↔ (s.Entries.map GEntry.Addr)[c]? = some a) := by
  unfold S_q1e
  obtain ⟨c, hp, hc⟩ := eat_eq (a := s.Entries) (x := a) hl hA
  rw [hc]
  exact ⟨c, hp, rfl, hasB_iff.trans (Part.mem hA hp).symm⟩
theorem fits_impl {s : GState} {e : GEvent} (hI : stI s) (hl : s.Entries.length <= 2 ^ 40) : S_q2c s e = some (mayB s e) := by
  unfold S_q2c mayB S_q1j
  obtain ⟨c, hp, hc, _⟩ := eat_at (a := e.Addr) hl hI.2.2.1
  rw [hc, Option.bind_some]
  dsimp only
  by_cases h0 : s.Serial = 1000000
  · rw [if_pos h0, if_pos h0]
  rw [if_neg h0, if_neg h0]
  by_cases k0 : e.Kind = 0
  · rw [if_pos k0, if_pos k0]
  rw [if_neg k0, if_neg k0]
  have hz := @len_zero s.Pending
  by_cases k1 : e.Kind = 1
  · rw [if_pos k1, if_pos k1]
    cases s.Open with
    | false => rfl
    | true =>
      dsimp only
      by_cases q : s.Pending = []
      · rw [if_pos (hz.2 q), decide_eq_true q]
        by_cases a1 : e.Act = 1
        · rw [decide_eq_false (p := e.Act ≠ 1) (by omega)]
          cases hb : hasB s.Entries e.Addr with
          | true => rw [if_pos rfl, if_pos a1]; rfl
          | false => rw [if_neg (by decide), if_pos a1]; simp; omega
        · rw [decide_eq_true (p := e.Act ≠ 1) a1]
          cases hb : hasB s.Entries e.Addr with
          | true => rw [if_pos rfl, if_neg a1]; rfl
          | false => rw [if_neg (by decide), if_neg a1]; simp
      · rw [if_neg (fun h => q (hz.1 h)), decide_eq_false q]; rfl
  rw [if_neg k1, if_neg k1]
  by_cases k2 : e.Kind = 2
  · rw [if_pos k2, if_pos k2, Option.bind_some]
    by_cases q : s.Pending = e.Addr
    · rw [decide_eq_true q]; by_cases a4 : s.Act = 4 <;> simp [a4]
    · rw [decide_eq_false q]; rfl
  rw [if_neg k2, if_neg k2]
  by_cases k3 : e.Kind = 3
  · rw [if_pos k3, if_pos k3, Option.bind_some]
    by_cases q : s.Pending = e.Addr
    · rw [decide_eq_true q]; rfl
    · rw [decide_eq_false q]; rfl
  rw [if_neg k3, if_neg k3]
  by_cases k4 : e.Kind = 4
  · rw [if_pos k4, if_pos k4]; rfl
  rw [if_neg k4, if_neg k4]
  by_cases k5 : e.Kind = 5
  · rw [if_pos k5, if_pos k5]
    cases s.Open with
    | false => rfl
    | true =>
      dsimp only
      by_cases q : s.Pending = []
      · rw [decide_eq_true (hz.2 q), decide_eq_true q]; rfl
      · rw [decide_eq_false (fun h => q (hz.1 h)), decide_eq_false q]; rfl
  · rw [if_neg k5, if_neg k5]
theorem set_twice {l : List GEntry} {c : Nat} {x : GEntry} (h : l[c]? = some x) (A : GEntry) (f : GEntry → GEntry) : (((l.set c A)[c]?).bind fun y => some ((l.set c A).set c (f y))) = some (l.set c (f A)) := by
  have hl := (List.getElem?_eq_some_iff.1 h).1
  rw [List.getElem?_set_self (by simpa using hl), Option.bind_some, List.set_set]
theorem get_key {l : List GEntry} {c : Nat} {a : List UInt8} (h : (l.map GEntry.Addr)[c]? = some a) : ∃ x, l[c]? = some x ∧ x.Addr = a := by
  rw [List.getElem?_map] at h
  obtain ⟨x, h1, h2⟩ := Option.map_eq_some_iff.1 h
  exact ⟨x, h1, h2⟩
theorem find_eq {l : List GEntry} {a : List UInt8} {c : Nat} (hA : Asc (l.map GEntry.Addr)) (h : (l.map GEntry.Addr)[c]? = some a) : findA l a 0 = (c : Int) := by
  have hb : hasB l a = true := hasB_iff.2 (List.mem_of_getElem? h)
  obtain ⟨k, h1, e, h2, h3⟩ := findA_at l 0 hb
  rw [Nat.zero_add] at h1
  have hk : (l.map GEntry.Addr)[k]? = some a := by rw [List.getElem?_map, h2, Option.map_some, h3]
  have A := asc_iff.1 hA
  have : k = c := by
    rcases Nat.lt_trichotomy k c with h4 | h4 | h4
    · have := A k c a a h4 hk h; rw [less_irr] at this; cases this
    · exact h4
    · have := A c k a a h4 h hk; rw [less_irr] at this; cases this
  rw [h1, this]
def tnE (ser : Int) (x : GEntry) : GEntry := .mk x.Addr x.Val x.Deps true ser
def nwE (a : List UInt8) (ser : Int) : GEntry := .mk a (.mk 5 0 [] [] []) [] true ser
theorem esz_nw (a : List UInt8) (ser : Int) : esz (nwE a ser) = a.length := by
  show a.length + vsz (.mk 5 0 [] [] []) + bsz [] = a.length
  rw [show vsz (.mk 5 0 [] [] []) = 0 from rfl, show bsz [] = 0 from rfl]; rfl
theorem insX_eq {l : List GEntry} {c : Nat} (hc : c <= l.length) (hl : l.length <= 1048576) (x : GEntry) : S_q1p (c : Int) l [x] = some (insL l c x) := by
  show (if 0 <= (c : Int) ∧ (c : Int) <= (l.length : Int) ∧ l.length <= 1048576 then some (insL l (c : Int).toNat x) else none) = _
  rw [if_pos ⟨by omega, by omega, hl⟩, Int.toNat_natCast]
theorem delX_eq {l : List GEntry} {c : Nat} (hc : c < l.length) (hl : l.length <= 1048576) : S_q1v (c : Int) (((c + 1 : Nat) : Int)) l = some (delL l c) := by
  unfold S_q1v
  rw [if_pos ⟨by omega, by omega, by omega, hl⟩, Int.toNat_natCast]
theorem ins_set {l : List GEntry} {c : Nat} (hc : c <= l.length) (x y : GEntry) : (insL l c x).set c y = insL l c y := by
  apply List.ext_getElem?
  intro m
  rw [List.getElem?_set, insL_get l c x hc, insL_get l c y hc]
  have hlen : (insL l c x).length = l.length + 1 := by simp [insL]; omega
  by_cases h : c = m
  · subst h
    rw [if_pos rfl, if_pos (by omega), if_neg (by omega), if_pos rfl]
  · rw [if_neg h]
    by_cases h1 : m < c
    · rw [if_pos h1, if_pos h1]
    · rw [if_neg h1, if_neg h1, if_neg (Ne.symm h), if_neg (Ne.symm h)]
theorem mod_set {l : List GEntry} {c : Nat} {x : GEntry} (h : l[c]? = some x) (f : GEntry → GEntry) : l.modify c f = l.set c (f x) := by
  apply List.ext_getElem?
  intro i
  rw [List.getElem?_modify, List.getElem?_set]
  have hl := (List.getElem?_eq_some_iff.1 h).1
  by_cases hi : c = i
  · subst hi; rw [if_pos rfl, if_pos hl, h]; simp
  · rw [if_neg hi]; simp [hi]
theorem taint_eq {b : Bool} {ser : Int} {op : Bool} {act : Int} {a : List UInt8} {l : List GEntry} {c : Nat} (hl : l.length <= 1048576) (hal : a.length <= 2 ^ 38) (hA : Asc (l.map GEntry.Addr)) (hp : Part (l.map GEntry.Addr) a c) :
    S_q1w b ser op act a l = some (.mk ser op a act (if a = [] then l else if hasB l a = true then l.modify c (tnE ser) else if b = true then insL l c (nwE a ser) else l)) := by
  unfold S_q1w
  by_cases ha : a = []
  · rw [if_pos (len_zero.2 ha), if_pos ha]
  rw [if_neg (fun h => ha (len_zero.1 h)), if_neg ha]
  obtain ⟨c', hp', hc, hb⟩ := eat_at (s := GState.mk ser op a act l) (a := a) (by show l.length <= _; omega) hA
  change Part (l.map GEntry.Addr) a c' at hp'
  change hasB l a = true ↔ (l.map GEntry.Addr)[c']? = some a at hb
  change S_q1e (GState.mk ser op a act l) a = some ((c' : Int), hasB l a) at hc
  have hcc : c' = c := by
    have h1 := hp.1; have h2 := hp'.1
    rcases Nat.lt_trichotomy c' c with h | h | h
    · have := (part_lt hp' (i := c') (List.getElem?_eq_getElem (by omega))).2 ((part_lt hp (i := c') (List.getElem?_eq_getElem (by omega))).1 h); omega
    · exact h
    · have := (part_lt hp (i := c) (List.getElem?_eq_getElem (by omega))).2 ((part_lt hp' (i := c) (List.getElem?_eq_getElem (by omega))).1 h); omega
  subst hcc
  have hcl : c' <= l.length := by have := hp.1; rwa [List.length_map] at this
  rw [hc, Option.bind_some]
  try dsimp only
  cases hh : hasB l a with
  | true =>
    obtain ⟨x, hx, hxa⟩ := get_key (hb.1 hh)
    try dsimp only
    rw [natO_nat, Option.bind_some, hx, Option.bind_some, if_pos rfl]
    have := set_twice hx (GEntry.mk x.Addr x.Val x.Deps true x.Turned) (fun x5 => GEntry.mk x5.Addr x5.Val x5.Deps x5.Taint ser)
    have hl2 := (List.getElem?_eq_some_iff.1 hx).1
    rw [List.getElem?_set_self (by simpa using hl2), Option.bind_some, List.set_set, mod_set hx]
    rfl
  | false =>
    rw [if_neg (by decide)]
    try dsimp only
    cases b with
    | false => rfl
    | true =>
      try dsimp only
      unfold S_q17
      rw [if_pos (room_ok (by decide) (by omega)), Option.bind_some, insX_eq hcl hl, Option.bind_some, natO_nat, Option.bind_some]
      have hg : ∀ x, (insL l c' x)[c']? = some x := fun x => by rw [insL_get l c' x hcl, if_neg (by omega), if_pos rfl]
      rw [hg, Option.bind_some, ins_set hcl, hg, Option.bind_some, ins_set hcl, if_pos rfl]
      rfl
theorem mod_addr {l : List GEntry} {c : Nat} {ser : Int} : (l.modify c (tnE ser)).map GEntry.Addr = l.map GEntry.Addr := by
  apply List.ext_getElem?
  intro i
  rw [List.getElem?_map, List.getElem?_map, List.getElem?_modify]
  split <;> cases l[i]? <;> rfl
theorem eszs_mod {ser : Int} : ∀ (l : List GEntry) (c : Nat), eszs (l.modify c (tnE ser)) = eszs l
  | [], c => by simp [eszs]
  | x :: l, 0 => by simp only [List.modify_zero_cons, eszs]; rfl
  | x :: l, c + 1 => by simp only [List.modify_succ_cons, eszs, eszs_mod l c]
theorem do_both {s : GState} {e : GEvent} (hI : stI s) (he : evB e = true) (hm : mayB s e = true) (hz : ssz s + evsz e <= 2 ^ 36) (hl : s.Entries.length <= 1048576) :
    ∃ s', S_spec_l4do e s = some s' ∧ S_q2e s e = some (s', true) ∧ stI s' ∧ ssz s' <= ssz s + evsz e + 1 ∧ s'.Entries.length <= s.Entries.length + 1 := by
  have hI0 := hI
  obtain ⟨i1, i2, i3, i4⟩ := hI
  have hser : s.Serial < 1000000 := by
    rcases Int.lt_or_le s.Serial 1000000 with h | h
    · exact h
    · unfold mayB at hm; rw [if_pos (by omega)] at hm; cases hm
  have hw : w64 (s.Serial + 1) = s.Serial + 1 := w64_id (by omega) (by omega)
  have hcp : S_q11 s = some s := if_pos (by omega)
  have hft := fits_impl (e := e) hI0 (by omega)
  rw [hm] at hft
  unfold ssz evsz at *
  have hroom : ∀ n, n <= 1048577 → roomP 152 n := fun n hn => room152 (by omega)
  unfold S_spec_l4do S_q2e
  rw [hcp, Option.bind_some, hft, Option.bind_some, hw]
  dsimp only
  obtain ⟨c, hp, hc, hb⟩ := eat_at (s := GState.mk (s.Serial + 1) s.Open s.Pending s.Act s.Entries) (a := e.Addr) (by show s.Entries.length <= _; omega) i3
  change Part (s.Entries.map GEntry.Addr) e.Addr c at hp
  change hasB s.Entries e.Addr = true ↔ (s.Entries.map GEntry.Addr)[c]? = some e.Addr at hb
  change S_q1e (GState.mk (s.Serial + 1) s.Open s.Pending s.Act s.Entries) e.Addr = some ((c : Int), hasB s.Entries e.Addr) at hc
  have hcl : c <= s.Entries.length := by have := hp.1; rwa [List.length_map] at this
  rw [hc, Option.bind_some]
  dsimp only
  unfold S_q16
  rw [if_pos (by show s.Entries.length <= _; omega), Option.bind_some, show (GState.mk (s.Serial + 1) s.Open s.Pending s.Act s.Entries).Entries = s.Entries from rfl]
  unfold mayB at hm
  rw [if_neg (by omega)] at hm
  have hdone : ∀ (l : List GEntry) (o : Bool), Asc (l.map GEntry.Addr) → stI (GState.mk (s.Serial + 1) o [] 0 l) := fun l o h => ⟨by show (0 : Int) <= s.Serial + 1; omega, by show s.Serial + 1 <= 1000000; omega, h, fun h => absurd rfl h⟩
  by_cases k0 : e.Kind = 0
  · rw [if_pos k0, if_pos k0]
    refine ⟨_, rfl, rfl, ⟨by show (0 : Int) <= s.Serial + 1; omega, by show s.Serial + 1 <= 1000000; omega, i3, fun h => ⟨rfl, (i4 h).2⟩⟩, by (try simp only [gs_P, gs_E]); omega, by (try simp only [gs_P, gs_E]); omega⟩
  rw [if_neg k0, if_neg k0]
  rw [if_neg k0] at hm
  by_cases k1 : e.Kind = 1
  · rw [if_pos k1, if_pos k1]
    rw [if_pos k1] at hm
    simp only [Bool.and_eq_true, decide_eq_true_eq, beq_iff_eq] at hm
    unfold S_q17
    rw [if_pos (room_ok (by decide) (by omega)), Option.bind_some]
    refine ⟨_, rfl, rfl, ⟨by show (0 : Int) <= s.Serial + 1; omega, by show s.Serial + 1 <= 1000000; omega, i3, fun h => ⟨hm.1.1.1, hm.1.2⟩⟩, by (try simp only [gs_P, gs_E]); omega, by (try simp only [gs_P, gs_E]); omega⟩
  rw [if_neg k1, if_neg k1]
  rw [if_neg k1] at hm
  by_cases k2 : e.Kind = 2
  · rw [if_pos k2, if_pos k2]
    rw [if_pos k2] at hm
    simp only [Bool.and_eq_true, decide_eq_true_eq] at hm
    unfold S_q17 S_q7 S_qm S_q15
    rw [if_pos (room_ok (by decide) (by omega)), Option.bind_some, if_pos (by omega), Option.bind_some, if_pos (by omega), Option.bind_some, if_pos (by omega), Option.bind_some]
    have hpe : putE (GEntry.mk e.Addr e.Val e.Deps false (s.Serial + 1)) false s.Entries = if (s.Entries.map GEntry.Addr)[c]? = some e.Addr then s.Entries.set c (GEntry.mk e.Addr e.Val e.Deps false (s.Serial + 1)) else insL s.Entries c (GEntry.mk e.Addr e.Val e.Deps false (s.Serial + 1)) := putE_eq (e := GEntry.mk e.Addr e.Val e.Deps false (s.Serial + 1)) i3 hp
    rw [hpe]
    cases hh : hasB s.Entries e.Addr with
    | true =>
      have hk := hb.1 hh
      obtain ⟨x, hx, hxa⟩ := get_key hk
      dsimp only
      rw [natO_nat, Option.bind_some, hx, Option.bind_some, if_pos hk]
      refine ⟨_, rfl, rfl, hdone _ _ (by rw [map_set_addr (by exact hk)]; exact i3), ?_, by (try simp only [gs_P, gs_E]); rw [List.length_set]; omega⟩
      have h1 := eszs_set s.Entries c (GEntry.mk e.Addr e.Val e.Deps false (s.Serial + 1))
      have h2 : esz (GEntry.mk e.Addr e.Val e.Deps false (s.Serial + 1)) = e.Addr.length + vsz e.Val + bsz e.Deps := rfl
      try simp only [gs_P, gs_E]
      try simp only [List.length_nil]
      omega
    | false =>
      have hk : ¬ (s.Entries.map GEntry.Addr)[c]? = some e.Addr := fun h => by rw [hb.2 h] at hh; cases hh
      dsimp only
      rw [insX_eq hcl hl, Option.bind_some, if_neg hk]
      refine ⟨_, rfl, rfl, hdone _ _ (by rw [map_ins_addr]; exact asc_ins i3 hp hk), ?_, by (try simp only [gs_P, gs_E]); simp [insL]; omega⟩
      have h1 := eszs_ins s.Entries c (GEntry.mk e.Addr e.Val e.Deps false (s.Serial + 1))
      have h2 : esz (GEntry.mk e.Addr e.Val e.Deps false (s.Serial + 1)) = e.Addr.length + vsz e.Val + bsz e.Deps := rfl
      try simp only [gs_P, gs_E]
      try simp only [List.length_nil]
      omega
  rw [if_neg k2, if_neg k2]
  rw [if_neg k2] at hm
  by_cases k3 : e.Kind = 3
  · rw [if_pos k3, if_pos k3]
    rw [if_pos k3] at hm
    simp only [Bool.and_eq_true, decide_eq_true_eq] at hm
    have hne := ev_ne he (.inr (.inr (.inl k3)))
    have hh : hasB s.Entries e.Addr = true := by
      have := (i4 (by rw [hm.1]; exact hne)).2
      rw [<- hm.1, this, decide_eq_true]; omega
    have hk := hb.1 hh
    have hcl2 : c < s.Entries.length := by have := (List.getElem?_eq_some_iff.1 hk).1; rwa [List.length_map] at this
    rw [hm.1, find_eq i3 hk, natO_nat, Option.bind_some, w64_succ (by omega), natO_nat]
    unfold cutO
    rw [show bound none (some c) s.Entries.length = some (0, c) by unfold bound; simp; omega, Option.map_some, Option.bind_some]
    rw [if_pos (hroom _ (by simp; omega)), Option.bind_some, show bound (some (c + 1)) none s.Entries.length = some (c + 1, s.Entries.length) by unfold bound; simp; omega, Option.map_some, Option.bind_some]
    rw [if_pos (hroom _ (by simp; omega)), delX_eq hcl2 hl, Option.bind_some]
    refine ⟨_, rfl, ?_, hdone _ _ ?_, ?_, ?_⟩
    · simp [delL]
    · have := asc_del i3 (c := c) (by rwa [List.length_map])
      rw [<- map_del_addr] at this
      simpa [delL] using this
    · have := eszs_del s.Entries c
      have h2 : ∀ L : List GEntry, L = delL s.Entries c → eszs L <= eszs s.Entries := fun L h => by rw [h]; exact this
      have := h2 (List.drop 0 (List.take c s.Entries) ++ List.drop (c + 1) (List.take s.Entries.length s.Entries)) (by simp [delL])
      try simp only [gs_P, gs_E]
      try simp only [List.length_nil]
      omega
    · (try simp only [gs_P, gs_E]); simp; omega
  rw [if_neg k3, if_neg k3]
  rw [if_neg k3] at hm
  obtain ⟨c2, hp2⟩ := Part.of i3 s.Pending
  have hcl2 : c2 <= s.Entries.length := by have := hp2.1; rwa [List.length_map] at this
  have hmem := Part.mem i3 hp2
  have hsp : ∀ (o : Bool) (x : GEntry), s.Entries[c2]? = some x → ((natO (c2 : Int)).bind fun i10 => (s.Entries[i10]?).bind fun x11 => ((s.Entries.set i10 (GEntry.mk x11.Addr x11.Val x11.Deps true x11.Turned))[i10]?).bind fun x12 => some (GState.mk (s.Serial + 1) o [] 0 ((s.Entries.set i10 (GEntry.mk x11.Addr x11.Val x11.Deps true x11.Turned)).set i10 (GEntry.mk x12.Addr x12.Val x12.Deps x12.Taint (s.Serial + 1))))) =
      some (GState.mk (s.Serial + 1) o [] 0 (s.Entries.modify c2 (tnE (s.Serial + 1)))) := fun o x hx => by
    have hl2 := (List.getElem?_eq_some_iff.1 hx).1
    rw [natO_nat, Option.bind_some, hx, Option.bind_some, List.getElem?_set_self (by simpa using hl2), Option.bind_some, List.set_set, mod_set hx]
    rfl
  by_cases k4 : e.Kind = 4
  · rw [if_pos k4, if_pos k4]
    rw [if_pos k4] at hm
    simp only [decide_eq_true_eq] at hm
    have hne := ev_ne he (.inr (.inr (.inr k4)))
    have hpn : s.Pending ≠ [] := by rw [hm]; exact hne
    rw [taint_eq hl (by omega) i3 hp2, Option.bind_some, if_neg hpn, if_neg (fun h => hpn (len_zero.1 h)), (i4 hpn).1]
    cases hh : hasB s.Entries s.Pending with
    | true =>
      have hk := hmem.2 (hasB_iff.1 hh)
      obtain ⟨x, hx, _⟩ := get_key hk
      rw [find_eq i3 hk, if_pos (by omega), if_pos (hroom _ (by omega)), hsp true x hx]
      refine ⟨_, rfl, rfl, hdone _ _ (by rw [mod_addr]; exact i3), ?_, by (try simp only [gs_P, gs_E]); simp⟩
      try simp only [gs_P, gs_E]
      try simp only [List.length_nil]
      rw [eszs_mod]
      omega
    | false =>
      rw [findA_none hh, if_neg (by decide)]
      refine ⟨_, rfl, rfl, hdone _ _ i3, ?_, by (try simp only [gs_P, gs_E]); simp⟩
      try simp only [gs_P, gs_E]
      try simp only [Bool.false_eq_true, if_false]
      try simp only [List.length_nil]
      omega
  rw [if_neg k4, if_neg k4]
  rw [if_neg k4] at hm
  by_cases k6 : e.Kind = 6
  · rw [if_pos k6, if_pos k6]
    rw [taint_eq hl (by omega) i3 hp2, Option.bind_some]
    by_cases hpn : s.Pending = []
    · rw [if_pos hpn, if_pos (len_zero.2 hpn)]
      refine ⟨_, rfl, rfl, hdone _ _ i3, ?_, by (try simp only [gs_P, gs_E]); omega⟩
      try simp only [gs_P, gs_E]
      try simp only [List.length_nil]
      omega
    rw [if_neg hpn, if_neg (fun h => hpn (len_zero.1 h))]
    cases hh : hasB s.Entries s.Pending with
    | true =>
      have hk := hmem.2 (hasB_iff.1 hh)
      obtain ⟨x, hx, _⟩ := get_key hk
      rw [find_eq i3 hk, if_pos (by omega), if_pos (hroom _ (by omega)), hsp false x hx]
      refine ⟨_, rfl, rfl, hdone _ _ (by rw [mod_addr]; exact i3), ?_, by (try simp only [gs_P, gs_E]); simp⟩
      try simp only [gs_P, gs_E]
      try simp only [List.length_nil]
      rw [eszs_mod]
      omega
    | false =>
      have hk : ¬ (s.Entries.map GEntry.Addr)[c2]? = some s.Pending := fun h => by rw [hasB_iff.2 (hmem.1 h)] at hh; cases hh
      unfold S_q15
      rw [findA_none hh, if_neg (by decide), if_pos (by omega), Option.bind_some]
      rw [show putE (GEntry.mk s.Pending (GValue.mk 5 0 [] [] []) [] true (s.Serial + 1)) false s.Entries = insL s.Entries c2 (nwE s.Pending (s.Serial + 1)) by
        have : putE (nwE s.Pending (s.Serial + 1)) false s.Entries = if (s.Entries.map GEntry.Addr)[c2]? = some s.Pending then s.Entries.set c2 (nwE s.Pending (s.Serial + 1)) else insL s.Entries c2 (nwE s.Pending (s.Serial + 1)) := putE_eq (e := nwE s.Pending (s.Serial + 1)) i3 hp2
        rw [if_neg hk] at this
        exact this]
      refine ⟨_, rfl, rfl, hdone _ _ (by rw [map_ins_addr]; exact asc_ins i3 hp2 hk), ?_, by (try simp only [gs_P, gs_E]); simp [insL]; omega⟩
      have h1 := eszs_ins s.Entries c2 (nwE s.Pending (s.Serial + 1))
      rw [esz_nw] at h1
      try simp only [gs_P, gs_E]
      try simp only [List.length_nil]
      omega
  rw [if_neg k6, if_neg k6]
  by_cases k5 : e.Kind = 5
  · rw [if_pos k5, if_pos k5]
    refine ⟨_, rfl, rfl, hdone _ _ i3, ?_, by (try simp only [gs_P, gs_E]); omega⟩
    try simp only [gs_P, gs_E]
    try simp only [List.length_nil]
    omega
  · exfalso
    unfold evB at he
    rw [if_neg k2, if_neg (by omega), if_neg k1, if_neg (by omega), Bool.and_false] at he
    cases he
theorem markS_eq {s : GState} {k : Int} (h0 : 0 <= k) (h1 : k + 4 * ssz s <= 2 ^ 39) : ∃ (k' : Int) (a : List UInt8) (b : List GEntry), S_q1h s.Serial s.Open s.Act k s.Pending s.Entries = some (k', a, b) ∧ 0 <= k' ∧ k' <= k + 4 * ssz s := by
  unfold ssz at h1 ⊢
  have := cEs_le s.Entries
  unfold S_q1h
  rw [markByteS_eq (by omega) (by omega), Option.bind_some]
  dsimp only
  rw [markEntryS_eq (by omega) (by omega), Option.bind_some]
  exact ⟨_, _, _, rfl, by omega, by omega⟩
theorem markV_eq {v : GValue} {i : Int} (h : vsz v <= 2 ^ 30) (h0 : 0 <= i) (h1 : i <= 2 ^ 40) : ∃ k a b c, S_q2f v.Kind v.N i v.S v.K v.L = some (k, a, b, c) ∧ 0 <= k ∧ k <= i + 2 * vsz v := by
  have he := vsz_eq v
  have hb := bsz_cB v.K
  have hc := cVs_le v.L
  unfold S_q2f
  rw [markByteS_eq (by omega) (by omega), Option.bind_some]
  dsimp only
  rw [markByteSS_eq (by omega) (by omega), Option.bind_some]
  dsimp only
  rw [markValueS_eq (by omega) (by omega), Option.bind_some]
  exact ⟨_, _, _, _, rfl, by omega, by omega⟩
theorem markEvi_eq {e : GEvent} {i : Int} (h : evsz e <= 2 ^ 30) (h0 : 0 <= i) (h1 : i <= 2 ^ 38) : ∃ (k : Int) (x1 x2 : List UInt8) (x3 : List (List UInt8)) (x4 : List GValue) (x5 : List (List UInt8)), S_q1z e.Kind e.Act e.Val.Kind e.Val.N i e.Addr e.Val.S e.Val.K e.Val.L e.Deps = some (k, x1, x2, x3, x4, x5) ∧ 0 <= k ∧ k <= i + 4 * evsz e := by
  unfold evsz at h ⊢
  have hd := bsz_cB e.Deps
  obtain ⟨k, a, b, c, hm, h2, h3⟩ := markV_eq (v := e.Val) (i := i + (e.Addr.length : Int)) (by omega) (by omega) (by omega)
  unfold S_q1z
  rw [markByteS_eq (by omega) (by omega), Option.bind_some]
  dsimp only
  rw [hm, Option.bind_some]
  dsimp only
  rw [markByteSS_eq (by omega) (by omega), Option.bind_some]
  exact ⟨_, _, _, _, _, _, rfl, by omega, by omega⟩
theorem cE_m (k : Int) (e : GEntry) : cE (mE k e) = cE e := by
  unfold cE mE
  simp only [GEntry.Addr, GEntry.Val, GEntry.Deps, mB_len, cV_m, cB_mBB]
theorem esz_m (k : Int) (e : GEntry) : esz (mE k e) = esz e := by
  unfold esz mE
  simp only [GEntry.Addr, GEntry.Val, GEntry.Deps, mB_len, vsz_m, bsz_mBB]
theorem mE_idem (k : Int) (e : GEntry) : mE k (mE k e) = mE k e := by
  obtain ⟨a, v, d, t, u⟩ := e
  unfold mE
  simp only [GEntry.Addr, GEntry.Val, GEntry.Deps, mB_len, cV_m, cB_mBB, mB_idem, mV_idem, mBB_idem]
  rfl
theorem mEs_idem : ∀ (k : Int) (l : List GEntry), mEs k (mEs k l) = mEs k l
  | _, [] => rfl
  | k, e :: l => by simp only [mEs, mE_idem, cE_m, mEs_idem]
theorem cEs_m : ∀ (k : Int) (l : List GEntry), cEs (mEs k l) = cEs l
  | _, [] => rfl
  | k, e :: l => by simp only [mEs, cEs, cE_m, cEs_m]
theorem eszs_m : ∀ (k : Int) (l : List GEntry), eszs (mEs k l) = eszs l
  | _, [] => rfl
  | k, e :: l => by simp only [mEs, eszs, esz_m, eszs_m]
theorem markSh_eq {s : GState} (h : ssz s <= 2 ^ 30) : ∃ (k : Int) (a : List UInt8) (b : List GEntry), S_q1h s.Serial s.Open s.Act 1 s.Pending s.Entries = some (k, a, b) ∧ 0 <= k ∧ S_q1y (GState.mk s.Serial s.Open a s.Act b) 1 = some k := by
  unfold ssz at h
  have := cEs_le s.Entries
  unfold S_q1h
  rw [markByteS_eq (by omega) (by omega), Option.bind_some]
  dsimp only
  rw [markEntryS_eq (by omega) (by omega), Option.bind_some]
  refine ⟨_, _, _, rfl, by omega, ?_⟩
  unfold S_q1y
  simp only [gs_P, gs_E]
  rw [heldByteS_eq (mB_idem _ _) (by decide) (by rw [mB_len]; omega), Option.bind_some, mB_len, if_neg (by omega), heldEntryS_eq (mEs_idem _ _) (by omega) (by rw [eszs_m]; omega), Option.bind_some, cEs_m, if_neg (by omega)]
theorem do_law {s : GState} {e : GEvent} (hz : ssz s + evsz e <= 2 ^ 20) : ∃ s' b, S_spec_Do s e = some (s', b) ∧ S_impl_Do s e = some (s', b) ∧ ssz s' <= 2 ^ 22 := by
  unfold S_spec_Do S_impl_Do
  rw [specSt_eq (by omega), Option.bind_some, implSt_eq (by omega), Option.bind_some]
  have hz0 : ssz (GState.mk 0 false [] 0 []) <= 2 ^ 22 := by decide
  cases hs : stB s with
  | false => exact ⟨_, _, rfl, rfl, hz0⟩
  | true =>
    dsimp only
    rw [specEv_eq (by omega), Option.bind_some, implEv_eq (by omega), Option.bind_some]
    cases he : evB e with
    | false => exact ⟨_, _, rfl, rfl, hz0⟩
    | true =>
      dsimp only
      have hI := stB_I hs
      have hlen := eszs_len s.Entries
      have hl : s.Entries.length <= 1048576 := by unfold ssz at hz; omega
      have how : S_q1d s = some s := if_pos (by omega)
      rw [may_spec hI he (by omega), Option.bind_some]
      cases hm : mayB s e with
      | false =>
        have hcp : S_q11 s = some s := if_pos (by omega)
        have hft := fits_impl (e := e) hI (by omega)
        rw [hm] at hft
        unfold S_q2e
        rw [hcp, Option.bind_some, hft, Option.bind_some]
        dsimp only
        rw [how]
        exact ⟨_, _, rfl, rfl, by omega⟩
      | true =>
        obtain ⟨s', h1, h2, h3, h4, h5⟩ := do_both hI he hm (by omega) hl
        dsimp only
        rw [how, Option.bind_some, h1, Option.bind_some, h2, show S_q1d s' = some s' from if_pos (by omega)]
        exact ⟨_, _, rfl, rfl, by omega⟩
theorem law_Do {s : GState} {e : GEvent} (hs : MdS s) (he : MdEv e) : S_laws_FnExactDo s e = some true := by
  unfold S_laws_FnExactDo
  rw [szS_eq hs (by decide) (by decide), Option.bind_some]
  unfold leftV
  by_cases c : (ssz s : Int) <= 1048576
  · rw [if_pos c, if_neg (by omega), szEv_eq he (by omega) (by omega), Option.bind_some]
    unfold leftV
    by_cases c2 : (evsz e : Int) <= 1048576 - ssz s
    · have hz : ssz s + evsz e <= 2 ^ 20 := by omega
      rw [if_pos c2, if_neg (by omega), toS_eq (by omega), Option.bind_some, toEv_eq (by omega), Option.bind_some]
      obtain ⟨s', b, h1, h2, h3⟩ := do_law hz
      rw [h1, h2, Option.bind_some]
      dsimp only
      rw [Option.bind_some]
      dsimp only
      rw [eqS_eq (by omega), Option.bind_some]
      dsimp only
      obtain ⟨k, a1, a2, m1, m2, m3⟩ := markS_eq (s := s) (k := 1) (by decide) (by omega)
      obtain ⟨k2, x1, x2, x3, x4, x5, m4, m5, m6⟩ := markEvi_eq (e := e) (i := k) (by omega) m2 (by omega)
      obtain ⟨k3, y1, y2, m7, m8, m9⟩ := markSh_eq (s := s') (by omega)
      have tail : ((S_q1x s s).bind fun r12 => match r12 with
          | true => (S_q24 e e).bind fun r13 => match r13 with
            | true => (S_q1h s.Serial s.Open s.Act 1 s.Pending s.Entries).bind fun ⟨r14_0, r14_1, r14_2⟩ =>
              (S_q1z e.Kind e.Act e.Val.Kind e.Val.N r14_0 e.Addr e.Val.S e.Val.K e.Val.L e.Deps).bind fun ⟨r15_0, r15_1, r15_2, r15_3, r15_4, r15_5⟩ =>
              if r15_0 < 0 then none else
              (S_q1h s'.Serial s'.Open s'.Act 1 s'.Pending s'.Entries).bind fun ⟨r17_0, r17_1, r17_2⟩ =>
              (S_q1y (GState.mk s'.Serial s'.Open r17_1 s'.Act r17_2) 1).bind fun r18 =>
              if r18 < 0 then none else if r18 = r17_0 then some true else none
            | false => none
          | false => none) = some true := by
        rw [eqS_eq (by omega), Option.bind_some]
        dsimp only
        rw [eqEv_eq (by omega), Option.bind_some]
        dsimp only
        rw [m1, Option.bind_some]
        dsimp only
        rw [m4, Option.bind_some]
        dsimp only
        rw [if_neg (by omega), m7, Option.bind_some]
        dsimp only
        rw [m9, Option.bind_some, if_neg (by omega), if_pos rfl]
      cases b with
      | true => rw [if_pos rfl, if_pos rfl]; exact tail
      | false => rw [if_neg (by decide), if_neg (by decide)]; exact tail
    · rw [if_neg c2, if_pos (by omega)]
  · rw [if_neg c, if_pos (by omega)]
end
end Go.Am.Try
