
/- The law of FnExactHistOk, in plain terms. -/
import Derived.Test.YtjmhaigcaidloaaGreatDoorOG3
set_option linter.unusedVariables false
set_option linter.unusedSimpArgs false
namespace Go.Am.Try
open Go.Am
noncomputable section
theorem specV_eq {v : GValue} (h : vsz v <= 2 ^ 20) : S_spec_ValOk v = some (valB v) := by
  unfold S_spec_ValOk S_spec_l2ok
  rw [if_pos ⟨h, by decide, by decide, by decide⟩, Option.bind_some]
  congr 1
  unfold okV valB
  rw [show (6 - (1 : Int)).toNat = 5 from rfl]
  by_cases hc : shV 5 v = true ∧ (ptV v : Int) <= 40
  · rw [if_pos hc, decide_eq_true hc]; exact decide_eq_true (by omega)
  · rw [if_neg hc, decide_eq_false hc]; rfl
theorem implV_eq {v : GValue} (h : vsz v <= 2 ^ 20) : S_impl_isValue v = some (valB v) := by
  unfold S_impl_isValue S_impl_isShaped S_impl_Value_parts valB
  rw [if_pos ⟨h, by decide, by decide⟩, Option.bind_some]
  rw [show (5 : Int).toNat = 5 from rfl]
  cases hs : shV 5 v
  · simp
  · dsimp only
    rw [if_pos h, Option.bind_some]
    simp
def zeroB (v : GValue) : Bool := decide (v.Kind = 0 ∧ v.N = 0 ∧ v.S.length = 0 ∧ v.K.length = 0 ∧ v.L.length = 0)
def evB (e : GEvent) : Bool :=
  if e.Kind = 2 then addrB e.Addr && decide (e.Act = 0) && kmapB e.Val && addrsB e.Deps
  else zeroB e.Val && decide (e.Deps.length = 0) &&
    (if e.Kind = 0 ∨ e.Kind = 5 ∨ e.Kind = 6 then decide (e.Addr.length = 0) && decide (e.Act = 0)
     else if e.Kind = 1 then addrB e.Addr && decide (1 <= e.Act ∧ e.Act <= 4)
     else if e.Kind = 3 ∨ e.Kind = 4 then addrB e.Addr && decide (e.Act = 0) else false)
theorem ekmI_eq {v : GValue} (h : vsz v <= 2 ^ 20) : S_impl_isKnownMap v = some (kmapB v) := by
  unfold S_impl_isKnownMap S_impl_isMap kmapB
  by_cases h5 : v.Kind = 5
  · rw [if_pos h5, implV_eq h, Option.bind_some, decide_eq_true h5, Bool.true_and]
    cases hv : valB v with
    | false => rfl
    | true =>
      simp only [Bool.true_and]
      unfold S_impl_Value_known
      rw [if_pos (by omega)]; rfl
  · rw [if_neg h5, decide_eq_false h5]; rfl
theorem ekmS_eq {v : GValue} (h : vsz v <= 2 ^ 20) : S_spec_l4map v = some (kmapB v) := by
  unfold S_spec_l4map kmapB
  by_cases h5 : v.Kind = 5
  · rw [if_pos h5, specV_eq h, Option.bind_some, decide_eq_true h5, Bool.true_and]
    cases hv : valB v with
    | false => rfl
    | true =>
      simp only [Bool.true_and]
      unfold S_spec_l2known
      rw [if_pos (by omega)]; rfl
  · rw [if_neg h5, decide_eq_false h5]; rfl
theorem isZero_eq (v : GValue) : S_impl_isZero v = some (zeroB v) := by
  unfold S_impl_isZero zeroB
  by_cases h1 : v.Kind = 0 <;> by_cases h2 : v.N = 0 <;> by_cases h3 : v.S.length = 0 <;> by_cases h4 : v.K.length = 0 <;> by_cases h5 : v.L.length = 0 <;> simp [h1, h2, h3, h4, h5, List.length_eq_zero_iff.1] <;> simp_all
theorem l2num_zero (a : Int) : ∃ r, S_spec_l2num a 0 = some r ∧ (r = 0 ↔ a = 0) := by
  unfold S_spec_l2num
  by_cases h : a < 0
  · exact ⟨_, if_pos h, by omega⟩
  · rw [if_neg h]
    by_cases h' : 0 < a
    · exact ⟨_, if_pos h', by omega⟩
    · exact ⟨_, if_neg h', by omega⟩
theorem l2cmp_zero (G : GValue → GValue → Option Int) (n : Nat) (v z : GValue) (hk : z.Kind = 0) (hn : z.N = 0) (hl : z.L.length = 0) : ∃ r, T_spec_l2cmp G (n + 1) v z = some r ∧ ((r = 0 ∧ v.N = 0) ↔ (v.Kind = 0 ∧ v.N = 0 ∧ v.L.length = 0)) := by
  unfold T_spec_l2cmp
  rw [hk]
  by_cases h1 : v.Kind = 0
  · rw [if_pos h1, if_neg (by omega), hn]
    by_cases h2 : v.N = 0
    · rw [if_pos h2, L_spec_l2cmp_l0, hl]
      obtain ⟨r, hr, hr2⟩ := l2num_zero (v.L.length : Int)
      refine ⟨r, ?_, by simp only [h1, h2, true_and, and_true]; omega⟩
      by_cases h3 : (0 : Int) < (v.L.length : Int)
      · rw [if_pos h3, if_neg (by omega), Option.bind_some]
        dsimp only
        rw [show ((0 : Nat) : Int) = 0 from rfl, hr, Option.bind_some]
      · rw [if_neg h3, Option.bind_some]
        dsimp only
        rw [show ((0 : Nat) : Int) = 0 from rfl, hr, Option.bind_some]
    · rw [if_neg h2]
      obtain ⟨r, hr, hr2⟩ := l2num_zero v.N
      exact ⟨r, by rw [hr, Option.bind_some], ⟨fun h => absurd h.2 h2, fun h => absurd h.2.1 h2⟩⟩
  · rw [if_neg h1]
    obtain ⟨r, hr, hr2⟩ := l2num_zero v.Kind
    exact ⟨r, by rw [hr, Option.bind_some], ⟨fun h => absurd (hr2.1 h.1) h1, fun h => absurd h.1 h1⟩⟩
theorem l4zero_eq (v : GValue) : S_spec_l4zero v = some (decide (v.Kind = 0 ∧ v.N = 0 ∧ v.L.length = 0)) := by
  unfold S_spec_l4zero S_spec_l2cmp
  rw [show vsz v + 3 = (vsz v + 1 + 1) + 1 from rfl, U_spec_l2cmp]
  obtain ⟨r, hr, hr2⟩ := l2cmp_zero (U_spec_l2cmp (vsz v + 1 + 1)) (vsz v + 1) v (GValue.mk 0 0 [] [] []) rfl rfl rfl
  rw [hr, Option.bind_some]
  by_cases h : r = 0
  · rw [if_pos h]; exact congrArg some (decide_eq_decide.2 (by rw [<- hr2]; simp [h]))
  · rw [if_neg h]; exact congrArg some (decide_eq_false (fun h' => h (hr2.2 h').1)).symm
theorem zero_val {v : GValue} (h : zeroB v = true) : valB v = true := by
  unfold zeroB at h
  cases v
  simp only [GValue.Kind, GValue.N, GValue.S, GValue.K, GValue.L, decide_eq_true_eq, List.length_eq_zero_iff] at h
  obtain ⟨rfl, rfl, rfl, rfl, rfl⟩ := h
  exact decide_eq_true ⟨by simp [shV, locV, GValue.Kind, GValue.N, GValue.S, GValue.K, GValue.L], by simp [ptV, ptVs]⟩
theorem zero_of {v : GValue} (h : valB v = true) : zeroB v = decide (v.Kind = 0 ∧ v.N = 0 ∧ v.L.length = 0) := by
  unfold zeroB
  refine decide_eq_decide.2 ⟨fun ⟨a, b, _, _, c⟩ => ⟨a, b, c⟩, fun ⟨a, b, c⟩ => ?_⟩
  have := (of_decide_eq_true h).1
  rw [shV] at this
  have hl := (Bool.and_eq_true _ _ ▸ this).1
  unfold locV at hl
  rw [if_pos (Or.inl a)] at hl
  have := of_decide_eq_true hl
  exact ⟨a, this⟩
theorem addrB_ne {a : List UInt8} (h : addrB a = true) : 0 < a.length := by
  rcases a with _ | ⟨x, l⟩
  · revert h; decide
  · simp
theorem implEv_eq {e : GEvent} (h : evsz e <= 2 ^ 20) : S_impl_isEvent e = some (evB e) := by
  unfold evsz at h
  unfold S_impl_isEvent evB
  by_cases k2 : e.Kind = 2
  · rw [if_pos k2, if_pos k2, implAd_eq (by omega), Option.bind_some]
    cases addrB e.Addr with
    | false => rfl
    | true =>
      dsimp only
      by_cases ha : e.Act = 0
      · rw [if_pos ha, ekmI_eq (by omega), Option.bind_some, decide_eq_true ha]
        cases kmapB e.Val with
        | false => rfl
        | true =>
          dsimp only
          rw [show S_impl_areAddrs e.Deps = some (addrsB e.Deps) from if_pos (by omega)]
          simp
      · rw [if_neg ha, decide_eq_false ha]; rfl
  · rw [if_neg k2, if_neg k2, isZero_eq, Option.bind_some]
    cases zeroB e.Val with
    | false => rfl
    | true =>
      dsimp only
      by_cases d : e.Deps.length = 0
      · rw [if_neg (by omega), decide_eq_true d, Bool.true_and, Bool.true_and]
        by_cases k0 : e.Kind = 0 ∨ e.Kind = 5 ∨ e.Kind = 6
        · rw [if_pos k0]
          have hh : (if ((e.Addr.length : Nat) : Int) = 0 then some (decide (e.Act = 0)) else some false) = some (decide (e.Addr.length = 0) && decide (e.Act = 0)) := by
            by_cases hl : e.Addr.length = 0
            · rw [if_pos (by omega), decide_eq_true hl, Bool.true_and]
            · rw [if_neg (by omega), decide_eq_false hl, Bool.false_and]
          rw [hh]
          by_cases k00 : e.Kind = 0
          · rw [if_pos k00]
          · rw [if_neg k00]
            by_cases k05 : e.Kind = 5
            · rw [if_pos k05]
            · rw [if_neg k05, if_pos (by omega)]
        · rw [if_neg k0, if_neg (by omega), if_neg (by omega), if_neg (by omega)]
          by_cases k1 : e.Kind = 1
          · rw [if_pos k1, if_pos k1, implAd_eq (by omega), Option.bind_some]
            cases addrB e.Addr with
            | false => rfl
            | true => dsimp only; rw [in_eq, Option.bind_some]; rfl
          · rw [if_neg k1, if_neg k1]
            by_cases k3 : e.Kind = 3
            · rw [if_pos k3, if_pos (Or.inl k3), implAd_eq (by omega), Option.bind_some]
              cases addrB e.Addr <;> rfl
            · rw [if_neg k3]
              by_cases k4 : e.Kind = 4
              · rw [if_pos k4, if_pos (Or.inr k4), implAd_eq (by omega), Option.bind_some]
                cases addrB e.Addr <;> rfl
              · rw [if_neg k4, if_neg (by omega)]
      · rw [if_pos (by omega), decide_eq_false d]; rfl
theorem zvd {v : GValue} (h : vsz v <= 2 ^ 20) (d : Nat) : ((S_spec_ValOk v).bind fun r => match r with | true => (S_spec_l4zero v).bind fun r => (match r with | true => some (decide (((d : Nat) : Int) = 0)) | false => some false) | false => some false) = some (zeroB v && decide (d = 0)) := by
  rw [specV_eq h, Option.bind_some]
  cases hv : valB v with
  | true =>
    dsimp only
    rw [l4zero_eq, Option.bind_some, zero_of hv]
    cases decide (v.Kind = 0 ∧ v.N = 0 ∧ v.L.length = 0) with
    | true => exact congrArg some (by rw [Bool.true_and]; exact decide_eq_decide.2 (by omega))
    | false => rfl
  | false =>
    dsimp only
    cases hz : zeroB v with
    | true => rw [zero_val hz] at hv; cases hv
    | false => rfl
theorem specEv_eq {e : GEvent} (h : evsz e <= 2 ^ 20) : S_spec_EventOk e = some (evB e) := by
  unfold evsz at h
  unfold S_spec_EventOk evB
  rw [specAd_eq (by omega)]
  simp only [Option.bind_some]
  have Z := zvd (v := e.Val) (by omega) e.Deps.length
  have hb := @addrB_ne e.Addr
  by_cases r0 : e.Kind < 0
  · rw [if_pos r0, if_neg (show ¬ e.Kind = 2 by omega), if_neg (show ¬ (e.Kind = 0 ∨ e.Kind = 5 ∨ e.Kind = 6) by omega), if_neg (show ¬ e.Kind = 1 by omega), if_neg (show ¬ (e.Kind = 3 ∨ e.Kind = 4) by omega), Bool.and_false]
  rw [if_neg r0]
  by_cases r6 : 6 < e.Kind
  · rw [if_pos r6, if_neg (show ¬ e.Kind = 2 by omega), if_neg (show ¬ (e.Kind = 0 ∨ e.Kind = 5 ∨ e.Kind = 6) by omega), if_neg (show ¬ e.Kind = 1 by omega), if_neg (show ¬ (e.Kind = 3 ∨ e.Kind = 4) by omega), Bool.and_false]
  rw [if_neg r6]
  generalize (zeroB e.Val && decide (e.Deps.length = 0)) = z at Z ⊢
  by_cases k1 : e.Kind = 1
  · rw [if_pos k1, if_neg (show ¬ e.Kind = 2 by omega), if_neg (show ¬ (e.Kind = 0 ∨ e.Kind = 5 ∨ e.Kind = 6) by omega), if_pos k1]
    cases hA : addrB e.Addr with
    | false =>
      dsimp only
      rw [Bool.false_and, Bool.and_false]
      split <;> rfl
    | true =>
      have := hb hA
      rw [if_pos (show (0 : Int) < ((e.Addr.length : Nat) : Int) by omega)]
      dsimp only
      by_cases a1 : e.Act < 1
      · rw [if_pos a1, decide_eq_false (by omega)]; simp
      · rw [if_neg a1]
        by_cases a2 : 4 < e.Act
        · rw [if_pos a2, decide_eq_false (by omega)]; simp
        · rw [if_neg a2, decide_eq_true (show 1 <= e.Act ∧ e.Act <= 4 by omega)]; exact Z.trans (by simp)
  rw [if_neg k1]
  by_cases k2 : e.Kind = 2
  · rw [if_pos k2, if_pos k2]
    cases hA : addrB e.Addr with
    | false =>
      dsimp only
      split <;> rfl
    | true =>
      have := hb hA
      rw [if_pos (show (0 : Int) < ((e.Addr.length : Nat) : Int) by omega)]
      dsimp only
      by_cases ha : e.Act = 0
      · rw [if_pos ha, ekmS_eq (by omega), Option.bind_some, decide_eq_true ha]
        cases kmapB e.Val with
        | false => rfl
        | true =>
          dsimp only
          rw [show S_spec_l4addrs e.Deps = some (addrsB e.Deps) from if_pos (by omega)]
          simp
      · rw [if_neg ha, decide_eq_false ha]; rfl
  rw [if_neg k2, if_neg k2]
  by_cases k3 : e.Kind = 3
  · rw [if_pos k3, if_neg (show ¬ (e.Kind = 0 ∨ e.Kind = 5 ∨ e.Kind = 6) by omega), if_neg k1, if_pos (Or.inl k3)]
    cases hA : addrB e.Addr with
    | false => dsimp only; rw [Bool.false_and, Bool.and_false]; split <;> rfl
    | true =>
      have := hb hA
      rw [if_pos (show (0 : Int) < ((e.Addr.length : Nat) : Int) by omega)]
      dsimp only
      by_cases ha : e.Act = 0
      · rw [if_pos ha, decide_eq_true ha]; exact Z.trans (by simp)
      · rw [if_neg ha, decide_eq_false ha]; simp
  rw [if_neg k3]
  by_cases k4 : e.Kind = 4
  · rw [if_pos k4, if_neg (show ¬ (e.Kind = 0 ∨ e.Kind = 5 ∨ e.Kind = 6) by omega), if_neg k1, if_pos (Or.inr k4)]
    cases hA : addrB e.Addr with
    | false => dsimp only; rw [Bool.false_and, Bool.and_false]; split <;> rfl
    | true =>
      have := hb hA
      rw [if_pos (show (0 : Int) < ((e.Addr.length : Nat) : Int) by omega)]
      dsimp only
      by_cases ha : e.Act = 0
      · rw [if_pos ha, decide_eq_true ha]; exact Z.trans (by simp)
      · rw [if_neg ha, decide_eq_false ha]; simp
  rw [if_neg k4, if_pos (show e.Kind = 0 ∨ e.Kind = 5 ∨ e.Kind = 6 by omega)]
  by_cases hl : e.Addr.length = 0
  · rw [if_neg (by omega), decide_eq_true hl, Bool.true_and]
    by_cases ha : e.Act = 0
    · rw [if_pos ha, decide_eq_true ha]; exact Z.trans (by simp)
    · rw [if_neg ha, decide_eq_false ha]; simp
  · rw [if_pos (by omega), decide_eq_false hl, Bool.false_and, Bool.and_false]
def MdS (s : GState) : Prop := s.Pending.length <= 2 ^ 63 - 1 ∧ s.Entries.length <= 2 ^ 63 - 1 ∧ MdEns s.Entries
theorem szS_eq {s : GState} {n : Int} (h : MdS s) (h0 : 0 <= n) (h1 : n <= 2 ^ 20) : S_laws_szState s n = some (leftV (ssz s) n) := by
  unfold S_laws_szState
  rw [szByteS_eq h.1 h0 h1, Option.bind_some]
  unfold leftV ssz
  by_cases c1 : (s.Pending.length : Int) <= n
  · rw [if_pos c1, if_neg (by omega)]
    unfold S_laws_szEntryS
    rw [if_pos ⟨h.2.1, h.2.2, by omega, by omega⟩, Option.bind_some]
    unfold leftV
    by_cases c2 : (eszs s.Entries : Int) <= n - s.Pending.length
    · rw [if_pos c2, if_neg (by omega), if_pos (by omega)]; congr 1; omega
    · rw [if_neg c2, if_pos (by omega), if_neg (by omega)]
  · rw [if_neg c1, if_pos (by omega), if_neg (by omega)]
theorem toS_eq {s : GState} (h : ssz s <= 2 ^ 20) : S_laws_toState s = some s := by
  unfold ssz at h
  unfold S_laws_toState S_laws_toByteS S_laws_toEntryS
  rw [if_pos (by omega), Option.bind_some, if_pos (by omega), Option.bind_some]
  cases s; rfl
theorem eqS_eq {s : GState} (h : ssz s <= 2 ^ 39) : S_laws_eqState s s = some true := by
  unfold ssz at h
  unfold S_laws_eqState S_laws_eqByteS
  rw [if_pos rfl]
  by_cases ho : s.Open = true
  · rw [if_pos ho, if_pos ho, if_pos ⟨rfl, by omega⟩, Option.bind_some]; dsimp only; rw [if_pos rfl, eqEntryS_eq (by omega), Option.bind_some]
  · rw [if_neg ho, if_neg ho, if_pos ⟨rfl, by omega⟩, Option.bind_some]; dsimp only; rw [if_pos rfl, eqEntryS_eq (by omega), Option.bind_some]
theorem gs_P (a : Int) (b : Bool) (c : List UInt8) (d : Int) (e : List GEntry) : (GState.mk a b c d e).Pending = c := rfl
theorem gs_E (a : Int) (b : Bool) (c : List UInt8) (d : Int) (e : List GEntry) : (GState.mk a b c d e).Entries = e := rfl
theorem findA_at {a : List UInt8} : ∀ (l : List GEntry) (i : Nat), hasB l a = true → ∃ k, findA l a i = ((i + k : Nat) : Int) ∧ ∃ e, l[k]? = some e ∧ e.Addr = a
  | [], i, h => by simp [hasB] at h
  | e :: l, i, h => by
    rw [findA]
    by_cases he : e.Addr = a
    · exact ⟨0, by rw [if_pos he]; rfl, e, rfl, he⟩
    · have h' : hasB l a = true := by
        unfold hasB at h ⊢
        rw [List.any_cons, decide_eq_false he, Bool.false_or] at h
        exact h
      obtain ⟨k, h1, e', h2, h3⟩ := findA_at l (i + 1) h'
      exact ⟨k + 1, by rw [if_neg he, h1]; congr 1; omega, e', by simpa using h2, h3⟩
theorem asc_iff {a : List (List UInt8)} : Asc a ↔ ∀ (i j : Nat) x y, i < j → a[i]? = some x → a[j]? = some y → Op.bytesLess x y = true := by
  constructor
  · intro h i j x y hij hi hj
    obtain ⟨hi1, hi2⟩ := List.getElem?_eq_some_iff.1 hi
    obtain ⟨hj1, hj2⟩ := List.getElem?_eq_some_iff.1 hj
    have := h i j hj1 hij
    rw [hi2, hj2] at this
    exact this
  · intro h i j hj hij
    exact h i j _ _ hij (List.getElem?_eq_getElem _) (List.getElem?_eq_getElem _)
theorem part_lt {a : List (List UInt8)} {x : List UInt8} {c : Nat} (h : Part a x c) {i : Nat} {y : List UInt8} (hi : a[i]? = some y) : i < c ↔ Op.bytesLess y x = true := by
  obtain ⟨hi1, hi2⟩ := List.getElem?_eq_some_iff.1 hi
  rw [<- hi2]
  exact h.2 i hi1
theorem part_gt {a : List (List UInt8)} (ha : Asc a) {x : List UInt8} {c : Nat} (h : Part a x c) {j : Nat} {y : List UInt8} (hj : a[j]? = some y) (hc : c <= j) (hne : c = j → y ≠ x) : Op.bytesLess x y = true := by
  rcases less_total x y with h1 | h1 | h1
  · exact h1
  · exfalso
    have hcj : c ≠ j := fun e => hne e h1.symm
    have hjl := (List.getElem?_eq_some_iff.1 hj).1
    have hcl : c < a.length := by omega
    have h2 := asc_iff.1 ha c j _ _ (by omega) (List.getElem?_eq_getElem hcl) hj
    rw [<- h1] at h2
    have := (part_lt h (List.getElem?_eq_getElem hcl)).2 h2
    omega
  · have := (part_lt h hj).2 h1
    omega
theorem asc_ins {a : List (List UInt8)} (ha : Asc a) {x : List UInt8} {c : Nat} (h : Part a x c) (hne : a[c]? ≠ some x) : Asc (insL a c x) := by
  refine asc_iff.2 fun i j u v hij hi hj => ?_
  rw [insL_get a c x h.1] at hi hj
  have A := asc_iff.1 ha
  by_cases h1 : j < c
  · rw [if_pos h1] at hj; rw [if_pos (by omega)] at hi
    exact A i j u v hij hi hj
  rw [if_neg h1] at hj
  by_cases h2 : j = c
  · rw [if_pos h2] at hj; rw [if_pos (by omega)] at hi
    injection hj with hj
    subst hj
    exact (part_lt h hi).1 (by omega)
  rw [if_neg h2] at hj
  by_cases h3 : i < c
  · rw [if_pos h3] at hi
    exact A i (j - 1) u v (by omega) hi hj
  rw [if_neg h3] at hi
  by_cases h4 : i = c
  · rw [if_pos h4] at hi
    injection hi with hi
    subst hi
    exact part_gt ha h hj (by omega) fun e he => hne (by rw [e, hj, he])
  · rw [if_neg h4] at hi
    exact A (i - 1) (j - 1) u v (by omega) hi hj
theorem asc_del {a : List (List UInt8)} (ha : Asc a) {c : Nat} (hc : c < a.length) : Asc (delL a c) := by
  refine asc_iff.2 fun i j u v hij hi hj => ?_
  rw [delL_get a c hc] at hi hj
  have A := asc_iff.1 ha
  by_cases h1 : j < c
  · rw [if_pos h1] at hj; rw [if_pos (by omega)] at hi
    exact A i j u v hij hi hj
  rw [if_neg h1] at hj
  by_cases h3 : i < c
  · rw [if_pos h3] at hi
    exact A i (j + 1) u v (by omega) hi hj
  · rw [if_neg h3] at hi
    exact A (i + 1) (j + 1) u v (by omega) hi hj
theorem putE_true {e : GEntry} : ∀ {l : List GEntry}, (∀ x ∈ l, Op.bytesLess e.Addr x.Addr = true) → putE e true l = l
  | [], _ => rfl
  | x :: l, h => by
    rw [putE, h x List.mem_cons_self, cond_true, cond_true, putE_true fun y hy => h y (List.mem_cons_of_mem _ hy)]
theorem less_asym {a b : List UInt8} (h : Op.bytesLess a b = true) : Op.bytesLess b a = false := by
  cases hb : Op.bytesLess b a with
  | false => rfl
  | true => have := less_trans h hb; rw [less_irr] at this; cases this
theorem putE_eq {e : GEntry} : ∀ {l : List GEntry} {c : Nat}, Asc (l.map GEntry.Addr) → Part (l.map GEntry.Addr) e.Addr c → putE e false l = if (l.map GEntry.Addr)[c]? = some e.Addr then l.set c e else insL l c e
  | [], c, _, hp => by
    have := hp.1
    simp only [List.map_nil, List.length_nil] at this
    obtain rfl : c = 0 := by omega
    rfl
  | x :: l, c, ha, hp => by
    have hal : Asc (l.map GEntry.Addr) := asc_iff.2 fun i j u v hij hi hj => asc_iff.1 ha (i + 1) (j + 1) u v (by omega) (by simpa using hi) (by simpa using hj)
    have hx : ∀ y ∈ l, Op.bytesLess x.Addr y.Addr = true := fun y hy => by
      obtain ⟨j, hj⟩ := List.mem_iff_getElem?.1 hy
      exact asc_iff.1 ha 0 (j + 1) _ _ (by omega) rfl (by simp [hj])
    have h0 : 0 < c ↔ Op.bytesLess x.Addr e.Addr = true := part_lt hp (by rfl)
    cases c with
    | zero =>
      have hn : Op.bytesLess x.Addr e.Addr = false := by
        cases hq : Op.bytesLess x.Addr e.Addr with
        | false => rfl
        | true => have := h0.2 hq; omega
      rw [putE, hn]
      rcases less_total e.Addr x.Addr with h1 | h1 | h1
      · rw [h1]
        simp only [cond_true, cond_false]
        rw [putE_true fun y hy => less_trans h1 (hx y hy), if_neg]
        · rfl
        · simp only [List.map_cons, List.getElem?_cons_zero, Option.some.injEq]
          intro he
          rw [he, less_irr] at h1; cases h1
      · rw [h1, less_irr]
        simp only [cond_false]
        rw [putE_true fun y hy => by rw [h1]; exact hx y hy, if_pos (by simp)]
        rfl
      · rw [hn] at h1; cases h1
    | succ c =>
      have hl : Op.bytesLess x.Addr e.Addr = true := h0.1 (by omega)
      have hpl : Part (l.map GEntry.Addr) e.Addr c := by
        refine ⟨by have := hp.1; simp only [List.map_cons, List.length_cons] at this; omega, fun k hk => ?_⟩
        have h1 := part_lt hp (i := k + 1) (y := (l.map GEntry.Addr)[k]) (by rw [List.map_cons, List.getElem?_cons_succ]; exact List.getElem?_eq_getElem hk)
        rw [<- h1]
        omega
      rw [putE, less_asym hl, hl]
      simp only [cond_true, cond_false]
      rw [putE_eq hal hpl]
      simp only [List.map_cons, List.getElem?_cons_succ]
      split
      · rfl
      · rfl
theorem set_self {α : Type} {l : List α} {c : Nat} {x : α} (h : l[c]? = some x) : l.set c x = l := by
  apply List.ext_getElem?
  intro i
  rw [List.getElem?_set]
  split
  · rename_i hi
    subst hi
    have := (List.getElem?_eq_some_iff.1 h).1
    rw [if_pos this, h]
  · rfl
theorem map_set_addr {l : List GEntry} {c : Nat} {e : GEntry} (h : (l.map GEntry.Addr)[c]? = some e.Addr) : (l.set c e).map GEntry.Addr = l.map GEntry.Addr := by
  rw [List.map_set]
  exact set_self h
theorem map_ins_addr {l : List GEntry} {c : Nat} {e : GEntry} : (insL l c e).map GEntry.Addr = insL (l.map GEntry.Addr) c e.Addr := by simp [insL, List.map_take, List.map_drop]
theorem map_del_addr {l : List GEntry} {c : Nat} : (delL l c).map GEntry.Addr = delL (l.map GEntry.Addr) c := by simp [delL, List.map_take, List.map_drop]
theorem eszs_app : ∀ (a b : List GEntry), eszs (a ++ b) = eszs a + eszs b
  | [], b => by simp [eszs]
  | x :: a, b => by simp only [List.cons_append, eszs, eszs_app a b]; omega
theorem eszs_cut (l : List GEntry) (c : Nat) : eszs l = eszs (l.take c) + eszs (l.drop c) := by
  rw [<- eszs_app, List.take_append_drop]
theorem eszs_ins (l : List GEntry) (c : Nat) (e : GEntry) : eszs (insL l c e) = eszs l + 1 + esz e := by
  unfold insL
  rw [eszs_app, eszs_app, eszs_cut l c]
  simp only [eszs]; omega
theorem eszs_del (l : List GEntry) (c : Nat) : eszs (delL l c) <= eszs l := by
  unfold delL
  have h1 := eszs_cut l c
  have h2 := eszs_cut (l.drop c) 1
  rw [List.drop_drop] at h2
  rw [eszs_app]
  omega
theorem eszs_set : ∀ (l : List GEntry) (c : Nat) (e : GEntry), eszs (l.set c e) <= eszs l + esz e
  | [], c, e => by simp [eszs]
  | x :: l, 0, e => by simp only [List.set_cons_zero, eszs]; omega
  | x :: l, c + 1, e => by have := eszs_set l c e; simp only [List.set_cons_succ, eszs]; omega
def stI (s : GState) : Prop := 0 <= s.Serial ∧ s.Serial <= 1000000 ∧ Asc (s.Entries.map GEntry.Addr) ∧ (s.Pending ≠ [] → s.Open = true ∧ hasB s.Entries s.Pending = decide (s.Act ≠ 1))
theorem stB_I {s : GState} (h : stB s = true) : stI s := by
  unfold stB at h
  simp only [Bool.and_eq_true, decide_eq_true_eq] at h
  obtain ⟨⟨⟨h1, h2, _⟩, h3⟩, h4⟩ := h
  refine ⟨h1, h2, gAll_asc h3, fun hp => ?_⟩
  unfold pendB at h4
  rw [if_neg hp] at h4
  simp only [Bool.and_eq_true, beq_iff_eq] at h4
  exact ⟨h4.1.1.1, h4.2⟩
def mayB (s : GState) (e : GEvent) : Bool :=
  if s.Serial = 1000000 then false
  else if e.Kind = 0 then !s.Open
  else if e.Kind = 1 then s.Open && decide (s.Pending = []) && (hasB s.Entries e.Addr == decide (e.Act ≠ 1)) && (hasB s.Entries e.Addr || decide (s.Entries.length < 16))
  else if e.Kind = 2 then decide (s.Pending = e.Addr) && decide (s.Act ≠ 4)
  else if e.Kind = 3 then decide (s.Pending = e.Addr) && decide (s.Act = 4)
  else if e.Kind = 4 then decide (s.Pending = e.Addr)
  else if e.Kind = 5 then s.Open && decide (s.Pending = [])
  else s.Open
theorem ev_ne {e : GEvent} (h : evB e = true) (hk : e.Kind = 1 ∨ e.Kind = 2 ∨ e.Kind = 3 ∨ e.Kind = 4) : e.Addr ≠ [] := by
  intro he
  have ha : addrB e.Addr = false := by rw [he]; decide
  unfold evB at h
  rw [ha] at h
  rcases hk with hk | hk | hk | hk <;> simp [hk] at h
theorem len_zero {a : List UInt8} : (((a.length : Nat) : Int) = 0) ↔ a = [] := by
  constructor
  · intro h; exact List.eq_nil_of_length_eq_zero (by omega)
  · rintro rfl; rfl
theorem len_pos {a : List UInt8} : (0 < ((a.length : Nat) : Int)) ↔ a ≠ [] := by
  constructor
  · rintro h rfl; simp at h
  · intro h
    have : a.length ≠ 0 := fun e => h (List.eq_nil_of_length_eq_zero e)
    omega
theorem may_spec {s : GState} {e : GEvent} (hI : stI s) (he : evB e = true) (hl : s.Entries.length <= 2 ^ 40) : S_spec_l4may s e = some (mayB s e) := by
  unfold S_spec_l4may mayB S_spec_l4find
  have hs := hI.2.1
  by_cases h0 : s.Serial = 1000000
  · rw [if_pos (by omega), if_pos h0]
  rw [if_neg (by omega), if_neg h0]
  by_cases k0 : e.Kind = 0
  · rw [if_pos k0, if_pos k0]
  rw [if_neg k0, if_neg k0]
  by_cases k1 : e.Kind = 1
  · rw [if_pos k1, if_pos k1, if_pos hl, Option.bind_some]
    have hh := findA_has s.Entries e.Addr 0
    have hp := @len_pos s.Pending
    cases s.Open with
    | false => rfl
    | true =>
      dsimp only
      by_cases q : s.Pending = []
      · rw [if_neg (fun h => hp.1 h q), decide_eq_true q]
        by_cases a1 : e.Act = 1
        · rw [if_pos a1, decide_eq_false (p := e.Act ≠ 1) (by omega)]
          cases hb : hasB s.Entries e.Addr with
          | true => rw [if_pos (hh.2 hb)]; rfl
          | false => rw [if_neg (fun h => by rw [hh.1 h] at hb; cases hb)]; simp; omega
        · rw [if_neg a1, decide_eq_true (p := e.Act ≠ 1) a1]
          cases hb : hasB s.Entries e.Addr with
          | true => rw [if_pos (hh.2 hb)]; rfl
          | false => rw [if_neg (fun h => by rw [hh.1 h] at hb; cases hb)]; simp
      · rw [if_pos (hp.2 q), decide_eq_false q]; rfl
  rw [if_neg k1, if_neg k1]
  have hp := @len_pos s.Pending
  by_cases k2 : e.Kind = 2
  · rw [if_pos k2, if_pos k2]
    have hne := ev_ne he (.inr (.inl k2))
    by_cases q : s.Pending = []
    · rw [if_neg (fun h => hp.1 h q), decide_eq_false (fun h => hne (by rw [<- h, q]))]; rfl
    · rw [if_pos (hp.2 q)]
      by_cases q2 : s.Pending = e.Addr
      · rw [if_pos q2, decide_eq_true q2]; by_cases a4 : s.Act = 4 <;> simp [a4]
      · rw [if_neg q2, decide_eq_false q2]; rfl
  rw [if_neg k2, if_neg k2]
  by_cases k3 : e.Kind = 3
  · rw [if_pos k3, if_pos k3]
    have hne := ev_ne he (.inr (.inr (.inl k3)))
    by_cases q : s.Pending = []
    · rw [if_neg (fun h => hp.1 h q), decide_eq_false (fun h => hne (by rw [<- h, q]))]; rfl
    · rw [if_pos (hp.2 q)]
      by_cases q2 : s.Pending = e.Addr
      · rw [if_pos q2, decide_eq_true q2]; rfl
      · rw [if_neg q2, decide_eq_false q2]; rfl
  rw [if_neg k3, if_neg k3]
  by_cases k4 : e.Kind = 4
  · rw [if_pos k4, if_pos k4]
    have hne := ev_ne he (.inr (.inr (.inr k4)))
    by_cases q : s.Pending = []
    · rw [if_neg (fun h => hp.1 h q), decide_eq_false (fun h => hne (by rw [<- h, q]))]
    · rw [if_pos (hp.2 q)]
  rw [if_neg k4, if_neg k4]
  by_cases k5 : e.Kind = 5
  · rw [if_pos k5, if_pos k5]
    cases s.Open with
    | false => rfl
    | true =>
      dsimp only
      by_cases q : s.Pending = []
      · rw [decide_eq_false (fun h => hp.1 h q), decide_eq_true q]; rfl
      · rw [decide_eq_true (hp.2 q), decide_eq_false q]; rfl
  · rw [if_neg k5, if_neg k5]
theorem eat_at {s : GState} {a : List UInt8} (hl : s.Entries.length <= 2 ^ 40) (hA : Asc (s.Entries.map GEntry.Addr)) : ∃ c : Nat, Part (s.Entries.map GEntry.Addr) a c ∧ S_impl_State_entryAt s a = some ((c : Int), hasB s.Entries a) ∧ (hasB s.Entries a = true ↔ (s.Entries.map GEntry.Addr)[c]? = some a) := by
  unfold S_impl_State_entryAt
  obtain ⟨c, hp, hc⟩ := eat_eq (a := s.Entries) (x := a) hl hA
  rw [hc]
  exact ⟨c, hp, rfl, hasB_iff.trans (Part.mem hA hp).symm⟩
theorem fits_impl {s : GState} {e : GEvent} (hI : stI s) (hl : s.Entries.length <= 2 ^ 40) : S_impl_State_fits s e = some (mayB s e) := by
  unfold S_impl_State_fits mayB S_bytes_Equal
  obtain ⟨c, hp, hc, _⟩ := eat_at (a := e.Addr) hl hI.2.2.1
  rw [hc, Option.bind_some]
  dsimp only
  by_cases h0 : s.Serial = 1000000
  · rw [if_pos h0, if_pos h0]
  rw [if_neg h0, if_neg h0]
  by_cases k0 : e.Kind = 0
  · rw [if_pos k0, if_pos k0]
  rw [if_neg k0, if_neg k0]
  have hz := @len_zero s.Pending
  by_cases k1 : e.Kind = 1
  · rw [if_pos k1, if_pos k1]
    cases s.Open with
    | false => rfl
    | true =>
      dsimp only
      by_cases q : s.Pending = []
      · rw [if_pos (hz.2 q), decide_eq_true q]
        by_cases a1 : e.Act = 1
        · rw [decide_eq_false (p := e.Act ≠ 1) (by omega)]
          cases hb : hasB s.Entries e.Addr with
          | true => rw [if_pos rfl, if_pos a1]; rfl
          | false => rw [if_neg (by decide), if_pos a1]; simp; omega
        · rw [decide_eq_true (p := e.Act ≠ 1) a1]
          cases hb : hasB s.Entries e.Addr with
          | true => rw [if_pos rfl, if_neg a1]; rfl
          | false => rw [if_neg (by decide), if_neg a1]; simp
      · rw [if_neg (fun h => q (hz.1 h)), decide_eq_false q]; rfl
  rw [if_neg k1, if_neg k1]
  by_cases k2 : e.Kind = 2
  · rw [if_pos k2, if_pos k2, Option.bind_some]
    by_cases q : s.Pending = e.Addr
    · rw [decide_eq_true q]; by_cases a4 : s.Act = 4 <;> simp [a4]
    · rw [decide_eq_false q]; rfl
  rw [if_neg k2, if_neg k2]
  by_cases k3 : e.Kind = 3
  · rw [if_pos k3, if_pos k3, Option.bind_some]
    by_cases q : s.Pending = e.Addr
    · rw [decide_eq_true q]; rfl
    · rw [decide_eq_false q]; rfl
  rw [if_neg k3, if_neg k3]
  by_cases k4 : e.Kind = 4
  · rw [if_pos k4, if_pos k4]; rfl
  rw [if_neg k4, if_neg k4]
  by_cases k5 : e.Kind = 5
  · rw [if_pos k5, if_pos k5]
    cases s.Open with
    | false => rfl
    | true =>
      dsimp only
      by_cases q : s.Pending = []
      · rw [decide_eq_true (hz.2 q), decide_eq_true q]; rfl
      · rw [decide_eq_false (fun h => q (hz.1 h)), decide_eq_false q]; rfl
  · rw [if_neg k5, if_neg k5]
theorem set_twice {l : List GEntry} {c : Nat} {x : GEntry} (h : l[c]? = some x) (A : GEntry) (f : GEntry → GEntry) : (((l.set c A)[c]?).bind fun y => some ((l.set c A).set c (f y))) = some (l.set c (f A)) := by
  have hl := (List.getElem?_eq_some_iff.1 h).1
  rw [List.getElem?_set_self (by simpa using hl), Option.bind_some, List.set_set]
theorem get_key {l : List GEntry} {c : Nat} {a : List UInt8} (h : (l.map GEntry.Addr)[c]? = some a) : ∃ x, l[c]? = some x ∧ x.Addr = a := by
  rw [List.getElem?_map] at h
  obtain ⟨x, h1, h2⟩ := Option.map_eq_some_iff.1 h
  exact ⟨x, h1, h2⟩
theorem find_eq {l : List GEntry} {a : List UInt8} {c : Nat} (hA : Asc (l.map GEntry.Addr)) (h : (l.map GEntry.Addr)[c]? = some a) : findA l a 0 = (c : Int) := by
  have hb : hasB l a = true := hasB_iff.2 (List.mem_of_getElem? h)
  obtain ⟨k, h1, e, h2, h3⟩ := findA_at l 0 hb
  rw [Nat.zero_add] at h1
  have hk : (l.map GEntry.Addr)[k]? = some a := by rw [List.getElem?_map, h2, Option.map_some, h3]
  have A := asc_iff.1 hA
  have : k = c := by
    rcases Nat.lt_trichotomy k c with h4 | h4 | h4
    · have := A k c a a h4 hk h; rw [less_irr] at this; cases this
    · exact h4
    · have := A c k a a h4 h hk; rw [less_irr] at this; cases this
  rw [h1, this]
def tnE (ser : Int) (x : GEntry) : GEntry := .mk x.Addr x.Val x.Deps true ser
def nwE (a : List UInt8) (ser : Int) : GEntry := .mk a (.mk 5 0 [] [] []) [] true ser
theorem esz_nw (a : List UInt8) (ser : Int) : esz (nwE a ser) = a.length := by
  show a.length + vsz (.mk 5 0 [] [] []) + bsz [] = a.length
  rw [show vsz (.mk 5 0 [] [] []) = 0 from rfl, show bsz [] = 0 from rfl]; rfl
theorem insX_eq {l : List GEntry} {c : Nat} (hc : c <= l.length) (hl : l.length <= 1048576) (x : GEntry) : S_slices_Insert_Entry (c : Int) l [x] = some (insL l c x) := by
  show (if 0 <= (c : Int) ∧ (c : Int) <= (l.length : Int) ∧ l.length <= 1048576 then some (insL l (c : Int).toNat x) else none) = _
  rw [if_pos ⟨by omega, by omega, hl⟩, Int.toNat_natCast]
theorem delX_eq {l : List GEntry} {c : Nat} (hc : c < l.length) (hl : l.length <= 1048576) : S_slices_Delete_Entry (c : Int) (((c + 1 : Nat) : Int)) l = some (delL l c) := by
  unfold S_slices_Delete_Entry
  rw [if_pos ⟨by omega, by omega, by omega, hl⟩, Int.toNat_natCast]
theorem ins_set {l : List GEntry} {c : Nat} (hc : c <= l.length) (x y : GEntry) : (insL l c x).set c y = insL l c y := by
  apply List.ext_getElem?
  intro m
  rw [List.getElem?_set, insL_get l c x hc, insL_get l c y hc]
  have hlen : (insL l c x).length = l.length + 1 := by simp [insL]; omega
  by_cases h : c = m
  · subst h
    rw [if_pos rfl, if_pos (by omega), if_neg (by omega), if_pos rfl]
  · rw [if_neg h]
    by_cases h1 : m < c
    · rw [if_pos h1, if_pos h1]
    · rw [if_neg h1, if_neg h1, if_neg (Ne.symm h), if_neg (Ne.symm h)]
theorem mod_set {l : List GEntry} {c : Nat} {x : GEntry} (h : l[c]? = some x) (f : GEntry → GEntry) : l.modify c f = l.set c (f x) := by
  apply List.ext_getElem?
  intro i
  rw [List.getElem?_modify, List.getElem?_set]
  have hl := (List.getElem?_eq_some_iff.1 h).1
  by_cases hi : c = i
  · subst hi; rw [if_pos rfl, if_pos hl, h]; simp
  · rw [if_neg hi]; simp [hi]
theorem taint_eq {b : Bool} {ser : Int} {op : Bool} {act : Int} {a : List UInt8} {l : List GEntry} {c : Nat} (hl : l.length <= 1048576) (hal : a.length <= 2 ^ 38) (hA : Asc (l.map GEntry.Addr)) (hp : Part (l.map GEntry.Addr) a c) :
    S_impl_State_taint b ser op act a l = some (.mk ser op a act (if a = [] then l else if hasB l a = true then l.modify c (tnE ser) else if b = true then insL l c (nwE a ser) else l)) := by
  unfold S_impl_State_taint
  by_cases ha : a = []
  · rw [if_pos (len_zero.2 ha), if_pos ha]
  rw [if_neg (fun h => ha (len_zero.1 h)), if_neg ha]
  obtain ⟨c', hp', hc, hb⟩ := eat_at (s := GState.mk ser op a act l) (a := a) (by show l.length <= _; omega) hA
  change Part (l.map GEntry.Addr) a c' at hp'
  change hasB l a = true ↔ (l.map GEntry.Addr)[c']? = some a at hb
  change S_impl_State_entryAt (GState.mk ser op a act l) a = some ((c' : Int), hasB l a) at hc
  have hcc : c' = c := by
    have h1 := hp.1; have h2 := hp'.1
    rcases Nat.lt_trichotomy c' c with h | h | h
    · have := (part_lt hp' (i := c') (List.getElem?_eq_getElem (by omega))).2 ((part_lt hp (i := c') (List.getElem?_eq_getElem (by omega))).1 h); omega
    · exact h
    · have := (part_lt hp (i := c) (List.getElem?_eq_getElem (by omega))).2 ((part_lt hp' (i := c) (List.getElem?_eq_getElem (by omega))).1 h); omega
  subst hcc
  have hcl : c' <= l.length := by have := hp.1; rwa [List.length_map] at this
  rw [hc, Option.bind_some]
  try dsimp only
  cases hh : hasB l a with
  | true =>
    obtain ⟨x, hx, hxa⟩ := get_key (hb.1 hh)
    try dsimp only
    rw [natO_nat, Option.bind_some, hx, Option.bind_some, if_pos rfl]
    have := set_twice hx (GEntry.mk x.Addr x.Val x.Deps true x.Turned) (fun x5 => GEntry.mk x5.Addr x5.Val x5.Deps x5.Taint ser)
    have hl2 := (List.getElem?_eq_some_iff.1 hx).1
    rw [List.getElem?_set_self (by simpa using hl2), Option.bind_some, List.set_set, mod_set hx]
    rfl
  | false =>
    rw [if_neg (by decide)]
    try dsimp only
    cases b with
    | false => rfl
    | true =>
      try dsimp only
      unfold S_impl_copyBytes
      rw [if_pos (room_ok (by decide) (by omega)), Option.bind_some, insX_eq hcl hl, Option.bind_some, natO_nat, Option.bind_some]
      have hg : ∀ x, (insL l c' x)[c']? = some x := fun x => by rw [insL_get l c' x hcl, if_neg (by omega), if_pos rfl]
      rw [hg, Option.bind_some, ins_set hcl, hg, Option.bind_some, ins_set hcl, if_pos rfl]
      rfl
theorem mod_addr {l : List GEntry} {c : Nat} {ser : Int} : (l.modify c (tnE ser)).map GEntry.Addr = l.map GEntry.Addr := by
  apply List.ext_getElem?
  intro i
  rw [List.getElem?_map, List.getElem?_map, List.getElem?_modify]
  split <;> cases l[i]? <;> rfl
theorem eszs_mod {ser : Int} : ∀ (l : List GEntry) (c : Nat), eszs (l.modify c (tnE ser)) = eszs l
  | [], c => by simp [eszs]
  | x :: l, 0 => by simp only [List.modify_zero_cons, eszs]; rfl
  | x :: l, c + 1 => by simp only [List.modify_succ_cons, eszs, eszs_mod l c]
theorem do_both {s : GState} {e : GEvent} (hI : stI s) (he : evB e = true) (hm : mayB s e = true) (hz : ssz s + evsz e <= 2 ^ 36) (hl : s.Entries.length <= 1048576) :
    ∃ s', S_spec_l4do e s = some s' ∧ S_impl_State_do s e = some (s', true) ∧ stI s' ∧ ssz s' <= ssz s + evsz e + 1 ∧ s'.Entries.length <= s.Entries.length + 1 := by
  have hI0 := hI
  obtain ⟨i1, i2, i3, i4⟩ := hI
  have hser : s.Serial < 1000000 := by
    rcases Int.lt_or_le s.Serial 1000000 with h | h
    · exact h
    · unfold mayB at hm; rw [if_pos (by omega)] at hm; cases hm
  have hw : w64 (s.Serial + 1) = s.Serial + 1 := w64_id (by omega) (by omega)
  have hcp : S_impl_copyState s = some s := if_pos (by omega)
  have hft := fits_impl (e := e) hI0 (by omega)
  rw [hm] at hft
  unfold ssz evsz at *
  have hroom : ∀ n, n <= 1048577 → roomP 152 n := fun n hn => room152 (by omega)
  unfold S_spec_l4do S_impl_State_do
  rw [hcp, Option.bind_some, hft, Option.bind_some, hw]
  dsimp only
  obtain ⟨c, hp, hc, hb⟩ := eat_at (s := GState.mk (s.Serial + 1) s.Open s.Pending s.Act s.Entries) (a := e.Addr) (by show s.Entries.length <= _; omega) i3
  change Part (s.Entries.map GEntry.Addr) e.Addr c at hp
  change hasB s.Entries e.Addr = true ↔ (s.Entries.map GEntry.Addr)[c]? = some e.Addr at hb
  change S_impl_State_entryAt (GState.mk (s.Serial + 1) s.Open s.Pending s.Act s.Entries) e.Addr = some ((c : Int), hasB s.Entries e.Addr) at hc
  have hcl : c <= s.Entries.length := by have := hp.1; rwa [List.length_map] at this
  rw [hc, Option.bind_some]
  dsimp only
  unfold S_spec_l4find
  rw [if_pos (by show s.Entries.length <= _; omega), Option.bind_some, show (GState.mk (s.Serial + 1) s.Open s.Pending s.Act s.Entries).Entries = s.Entries from rfl]
  unfold mayB at hm
  rw [if_neg (by omega)] at hm
  have hdone : ∀ (l : List GEntry) (o : Bool), Asc (l.map GEntry.Addr) → stI (GState.mk (s.Serial + 1) o [] 0 l) := fun l o h => ⟨by show (0 : Int) <= s.Serial + 1; omega, by show s.Serial + 1 <= 1000000; omega, h, fun h => absurd rfl h⟩
  by_cases k0 : e.Kind = 0
  · rw [if_pos k0, if_pos k0]
    refine ⟨_, rfl, rfl, ⟨by show (0 : Int) <= s.Serial + 1; omega, by show s.Serial + 1 <= 1000000; omega, i3, fun h => ⟨rfl, (i4 h).2⟩⟩, by (try simp only [gs_P, gs_E]); omega, by (try simp only [gs_P, gs_E]); omega⟩
  rw [if_neg k0, if_neg k0]
  rw [if_neg k0] at hm
  by_cases k1 : e.Kind = 1
  · rw [if_pos k1, if_pos k1]
    rw [if_pos k1] at hm
    simp only [Bool.and_eq_true, decide_eq_true_eq, beq_iff_eq] at hm
    unfold S_impl_copyBytes
    rw [if_pos (room_ok (by decide) (by omega)), Option.bind_some]
    refine ⟨_, rfl, rfl, ⟨by show (0 : Int) <= s.Serial + 1; omega, by show s.Serial + 1 <= 1000000; omega, i3, fun h => ⟨hm.1.1.1, hm.1.2⟩⟩, by (try simp only [gs_P, gs_E]); omega, by (try simp only [gs_P, gs_E]); omega⟩
  rw [if_neg k1, if_neg k1]
  rw [if_neg k1] at hm
  by_cases k2 : e.Kind = 2
  · rw [if_pos k2, if_pos k2]
    rw [if_pos k2] at hm
    simp only [Bool.and_eq_true, decide_eq_true_eq] at hm
    unfold S_impl_copyBytes S_impl_copyValue S_impl_copyTexts S_spec_l4put
    rw [if_pos (room_ok (by decide) (by omega)), Option.bind_some, if_pos (by omega), Option.bind_some, if_pos (by omega), Option.bind_some, if_pos (by omega), Option.bind_some]
    have hpe : putE (GEntry.mk e.Addr e.Val e.Deps false (s.Serial + 1)) false s.Entries = if (s.Entries.map GEntry.Addr)[c]? = some e.Addr then s.Entries.set c (GEntry.mk e.Addr e.Val e.Deps false (s.Serial + 1)) else insL s.Entries c (GEntry.mk e.Addr e.Val e.Deps false (s.Serial + 1)) := putE_eq (e := GEntry.mk e.Addr e.Val e.Deps false (s.Serial + 1)) i3 hp
    rw [hpe]
    cases hh : hasB s.Entries e.Addr with
    | true =>
      have hk := hb.1 hh
      obtain ⟨x, hx, hxa⟩ := get_key hk
      dsimp only
      rw [natO_nat, Option.bind_some, hx, Option.bind_some, if_pos hk]
      refine ⟨_, rfl, rfl, hdone _ _ (by rw [map_set_addr (by exact hk)]; exact i3), ?_, by (try simp only [gs_P, gs_E]); rw [List.length_set]; omega⟩
      have h1 := eszs_set s.Entries c (GEntry.mk e.Addr e.Val e.Deps false (s.Serial + 1))
      have h2 : esz (GEntry.mk e.Addr e.Val e.Deps false (s.Serial + 1)) = e.Addr.length + vsz e.Val + bsz e.Deps := rfl
      try simp only [gs_P, gs_E]
      try simp only [List.length_nil]
      omega
    | false =>
      have hk : ¬ (s.Entries.map GEntry.Addr)[c]? = some e.Addr := fun h => by rw [hb.2 h] at hh; cases hh
      dsimp only
      rw [insX_eq hcl hl, Option.bind_some, if_neg hk]
      refine ⟨_, rfl, rfl, hdone _ _ (by rw [map_ins_addr]; exact asc_ins i3 hp hk), ?_, by (try simp only [gs_P, gs_E]); simp [insL]; omega⟩
      have h1 := eszs_ins s.Entries c (GEntry.mk e.Addr e.Val e.Deps false (s.Serial + 1))
      have h2 : esz (GEntry.mk e.Addr e.Val e.Deps false (s.Serial + 1)) = e.Addr.length + vsz e.Val + bsz e.Deps := rfl
      try simp only [gs_P, gs_E]
      try simp only [List.length_nil]
      omega
  rw [if_neg k2, if_neg k2]
  rw [if_neg k2] at hm
  by_cases k3 : e.Kind = 3
  · rw [if_pos k3, if_pos k3]
    rw [if_pos k3] at hm
    simp only [Bool.and_eq_true, decide_eq_true_eq] at hm
    have hne := ev_ne he (.inr (.inr (.inl k3)))
    have hh : hasB s.Entries e.Addr = true := by
      have := (i4 (by rw [hm.1]; exact hne)).2
      rw [<- hm.1, this, decide_eq_true]; omega
    have hk := hb.1 hh
    have hcl2 : c < s.Entries.length := by have := (List.getElem?_eq_some_iff.1 hk).1; rwa [List.length_map] at this
    rw [hm.1, find_eq i3 hk, natO_nat, Option.bind_some, w64_succ (by omega), natO_nat]
    unfold cutO
    rw [show bound none (some c) s.Entries.length = some (0, c) by unfold bound; simp; omega, Option.map_some, Option.bind_some]
    rw [if_pos (hroom _ (by simp; omega)), Option.bind_some, show bound (some (c + 1)) none s.Entries.length = some (c + 1, s.Entries.length) by unfold bound; simp; omega, Option.map_some, Option.bind_some]
    rw [if_pos (hroom _ (by simp; omega)), delX_eq hcl2 hl, Option.bind_some]
    refine ⟨_, rfl, ?_, hdone _ _ ?_, ?_, ?_⟩
    · simp [delL]
    · have := asc_del i3 (c := c) (by rwa [List.length_map])
      rw [<- map_del_addr] at this
      simpa [delL] using this
    · have := eszs_del s.Entries c
      have h2 : ∀ L : List GEntry, L = delL s.Entries c → eszs L <= eszs s.Entries := fun L h => by rw [h]; exact this
      have := h2 (List.drop 0 (List.take c s.Entries) ++ List.drop (c + 1) (List.take s.Entries.length s.Entries)) (by simp [delL])
      try simp only [gs_P, gs_E]
      try simp only [List.length_nil]
      omega
    · (try simp only [gs_P, gs_E]); simp; omega
  rw [if_neg k3, if_neg k3]
  rw [if_neg k3] at hm
  obtain ⟨c2, hp2⟩ := Part.of i3 s.Pending
  have hcl2 : c2 <= s.Entries.length := by have := hp2.1; rwa [List.length_map] at this
  have hmem := Part.mem i3 hp2
  have hsp : ∀ (o : Bool) (x : GEntry), s.Entries[c2]? = some x → ((natO (c2 : Int)).bind fun i10 => (s.Entries[i10]?).bind fun x11 => ((s.Entries.set i10 (GEntry.mk x11.Addr x11.Val x11.Deps true x11.Turned))[i10]?).bind fun x12 => some (GState.mk (s.Serial + 1) o [] 0 ((s.Entries.set i10 (GEntry.mk x11.Addr x11.Val x11.Deps true x11.Turned)).set i10 (GEntry.mk x12.Addr x12.Val x12.Deps x12.Taint (s.Serial + 1))))) =
      some (GState.mk (s.Serial + 1) o [] 0 (s.Entries.modify c2 (tnE (s.Serial + 1)))) := fun o x hx => by
    have hl2 := (List.getElem?_eq_some_iff.1 hx).1
    rw [natO_nat, Option.bind_some, hx, Option.bind_some, List.getElem?_set_self (by simpa using hl2), Option.bind_some, List.set_set, mod_set hx]
    rfl
  by_cases k4 : e.Kind = 4
  · rw [if_pos k4, if_pos k4]
    rw [if_pos k4] at hm
    simp only [decide_eq_true_eq] at hm
    have hne := ev_ne he (.inr (.inr (.inr k4)))
    have hpn : s.Pending ≠ [] := by rw [hm]; exact hne
    rw [taint_eq hl (by omega) i3 hp2, Option.bind_some, if_neg hpn, if_neg (fun h => hpn (len_zero.1 h)), (i4 hpn).1]
    cases hh : hasB s.Entries s.Pending with
    | true =>
      have hk := hmem.2 (hasB_iff.1 hh)
      obtain ⟨x, hx, _⟩ := get_key hk
      rw [find_eq i3 hk, if_pos (by omega), if_pos (hroom _ (by omega)), hsp true x hx]
      refine ⟨_, rfl, rfl, hdone _ _ (by rw [mod_addr]; exact i3), ?_, by (try simp only [gs_P, gs_E]); simp⟩
      try simp only [gs_P, gs_E]
      try simp only [List.length_nil]
      rw [eszs_mod]
      omega
    | false =>
      rw [findA_none hh, if_neg (by decide)]
      refine ⟨_, rfl, rfl, hdone _ _ i3, ?_, by (try simp only [gs_P, gs_E]); simp⟩
      try simp only [gs_P, gs_E]
      try simp only [Bool.false_eq_true, if_false]
      try simp only [List.length_nil]
      omega
  rw [if_neg k4, if_neg k4]
  rw [if_neg k4] at hm
  by_cases k6 : e.Kind = 6
  · rw [if_pos k6, if_pos k6]
    rw [taint_eq hl (by omega) i3 hp2, Option.bind_some]
    by_cases hpn : s.Pending = []
    · rw [if_pos hpn, if_pos (len_zero.2 hpn)]
      refine ⟨_, rfl, rfl, hdone _ _ i3, ?_, by (try simp only [gs_P, gs_E]); omega⟩
      try simp only [gs_P, gs_E]
      try simp only [List.length_nil]
      omega
    rw [if_neg hpn, if_neg (fun h => hpn (len_zero.1 h))]
    cases hh : hasB s.Entries s.Pending with
    | true =>
      have hk := hmem.2 (hasB_iff.1 hh)
      obtain ⟨x, hx, _⟩ := get_key hk
      rw [find_eq i3 hk, if_pos (by omega), if_pos (hroom _ (by omega)), hsp false x hx]
      refine ⟨_, rfl, rfl, hdone _ _ (by rw [mod_addr]; exact i3), ?_, by (try simp only [gs_P, gs_E]); simp⟩
      try simp only [gs_P, gs_E]
      try simp only [List.length_nil]
      rw [eszs_mod]
      omega
    | false =>
      have hk : ¬ (s.Entries.map GEntry.Addr)[c2]? = some s.Pending := fun h => by rw [hasB_iff.2 (hmem.1 h)] at hh; cases hh
      unfold S_spec_l4put
      rw [findA_none hh, if_neg (by decide), if_pos (by omega), Option.bind_some]
      rw [show putE (GEntry.mk s.Pending (GValue.mk 5 0 [] [] []) [] true (s.Serial + 1)) false s.Entries = insL s.Entries c2 (nwE s.Pending (s.Serial + 1)) by
        have : putE (nwE s.Pending (s.Serial + 1)) false s.Entries = if (s.Entries.map GEntry.Addr)[c2]? = some s.Pending then s.Entries.set c2 (nwE s.Pending (s.Serial + 1)) else insL s.Entries c2 (nwE s.Pending (s.Serial + 1)) := putE_eq (e := nwE s.Pending (s.Serial + 1)) i3 hp2
        rw [if_neg hk] at this
        exact this]
      refine ⟨_, rfl, rfl, hdone _ _ (by rw [map_ins_addr]; exact asc_ins i3 hp2 hk), ?_, by (try simp only [gs_P, gs_E]); simp [insL]; omega⟩
      have h1 := eszs_ins s.Entries c2 (nwE s.Pending (s.Serial + 1))
      rw [esz_nw] at h1
      try simp only [gs_P, gs_E]
      try simp only [List.length_nil]
      omega
  rw [if_neg k6, if_neg k6]
  by_cases k5 : e.Kind = 5
  · rw [if_pos k5, if_pos k5]
    refine ⟨_, rfl, rfl, hdone _ _ i3, ?_, by (try simp only [gs_P, gs_E]); omega⟩
    try simp only [gs_P, gs_E]
    try simp only [List.length_nil]
    omega
  · exfalso
    unfold evB at he
    rw [if_neg k2, if_neg (by omega), if_neg k1, if_neg (by omega), Bool.and_false] at he
    cases he
def nxS (e : GEvent) (s : GState) : GState := (S_spec_l4do e s).getD s
def runS : GState → List GEvent → GState × Bool
  | s, [] => (s, true)
  | s, e :: l => bif mayB s e then runS (nxS e s) l else (s, false)
def visS : GState → List GEvent → List GState
  | _, [] => []
  | s, e :: l => nxS e s :: visS (nxS e s) l
def okS : GState → List GEvent → Bool
  | _, [] => true
  | s, e :: l => evB e && (mayB s e && okS (nxS e s) l)
theorem nx_ok {s : GState} {e : GEvent} (hI : stI s) (he : evB e = true) (hm : mayB s e = true) (hz : ssz s + evsz e <= 2 ^ 20) : S_spec_l4do e s = some (nxS e s) ∧ S_impl_State_do s e = some (nxS e s, true) ∧ stI (nxS e s) ∧ ssz (nxS e s) <= ssz s + evsz e + 1 := by
  have hlen := eszs_len s.Entries
  obtain ⟨s', h1, h2, h3, h4, _⟩ := do_both hI he hm (by omega) (by unfold ssz at hz; omega)
  have : nxS e s = s' := by unfold nxS; rw [h1]; rfl
  rw [this]
  exact ⟨h1, h2, h3, h4⟩
theorem doN {s : GState} {e : GEvent} (hI : stI s) (hm : mayB s e = false) (hz : ssz s <= 2 ^ 20) : S_impl_State_do s e = some (s, false) := by
  have hlen := eszs_len s.Entries
  have hft := fits_impl (e := e) hI (by unfold ssz at hz; omega)
  rw [hm] at hft
  unfold S_impl_State_do
  rw [show S_impl_copyState s = some s from if_pos (by omega), Option.bind_some, hft, Option.bind_some]
theorem okS_run : ∀ {l : List GEvent} {s : GState}, (∀ e ∈ l, evB e = true) → okS s l = (runS s l).2
  | [], s, _ => rfl
  | e :: l, s, h => by
    rw [okS, runS, h e List.mem_cons_self, Bool.true_and, okS_run fun x hx => h x (List.mem_cons_of_mem _ hx)]
    cases mayB s e <;> rfl
theorem okS_ev : ∀ {l : List GEvent} {s : GState}, okS s l = true → ∀ e ∈ l, evB e = true
  | [], _, _ => by simp
  | e :: l, s, h => by
    rw [okS, Bool.and_eq_true, Bool.and_eq_true] at h
    intro x hx
    rcases List.mem_cons.1 hx with rfl | hx
    · exact h.1
    · exact okS_ev h.2.2 x hx
theorem room72 {m : Nat} (hm : m <= 2 ^ 39) : roomP 72 m := room_ok (by decide) (by omega)
theorem fold_loop {h : GHistory} {k : Int} {v3 : Int} {v4 : Bool} {v5 : Int} {v7 : List UInt8} {v8 : List GEntry} : ∀ (l p r : List GEvent) (s : GState) (m : Nat), h.Events = p ++ l ++ r → k = ((p.length + l.length : Nat) : Int) → l.length < m → (∀ e ∈ l, evB e = true) → stI s → ssz s + evszs l <= 2 ^ 20 → p.length + l.length <= 2 ^ 40 →
    ∃ z, L_spec_l5fold_l0 k h v3 v4 v5 v7 v8 m ((p.length : Nat) : Int) s = some (bif (runS s l).2 then .inr (z, (runS s l).1) else .inl (false, (runS s l).1)) := by
  intro l
  induction l with
  | nil =>
    intro p r s m _ hk hm _ _ _ _
    obtain ⟨m, rfl, _⟩ := fuel hm
    exact ⟨_, by rw [L_spec_l5fold_l0, hk, if_neg (by simp)]; rfl⟩
  | cons e l ih =>
    intro p r s m he hk hm hev hI hz hp
    obtain ⟨m, rfl, hm'⟩ := fuel hm
    simp only [List.length_cons] at hk hm' hp
    simp only [evszs] at hz
    have hlen := eszs_len s.Entries
    have hg : h.Events[p.length]? = some e := by rw [he, List.append_assoc]; exact get_mid p e (l ++ r)
    have hee := hev e List.mem_cons_self
    rw [L_spec_l5fold_l0, hk, if_pos (by omega), natO_nat, Option.bind_some, hg, Option.bind_some, may_spec hI hee (by unfold ssz at hz; omega), Option.bind_some, runS]
    cases hmy : mayB s e with
    | false => exact ⟨0, rfl⟩
    | true =>
      obtain ⟨h1, _, h3, h4⟩ := nx_ok hI hee hmy (by omega)
      obtain ⟨z, hzz⟩ := ih (p ++ [e]) r (nxS e s) m (by rw [he]; simp) (by rw [hk]; simp; omega) (by omega) (fun x hx => hev x (List.mem_cons_of_mem _ hx)) h3 (by omega) (by simp; omega)
      refine ⟨z, ?_⟩
      dsimp only
      rw [h1, Option.bind_some, w64_len p e (by omega), <- hk, hzz]
      rfl
theorem states_loop {evs : List GEvent} {n : Int} : ∀ (l p : List GEvent) (q : List GState) (s : GState) (m : Nat), evs = p ++ l → n = ((evs.length : Nat) : Int) → l.length < m → q.length = p.length → stI s → ssz s + evszs l <= 2 ^ 20 → evs.length <= 2 ^ 30 →
    ∃ z, L_impl_History_states_l0 evs n m ((p.length : Nat) : Int) (q ++ [s]) = some (bif okS s l then .inr (z, q ++ [s] ++ visS s l) else .inl (false, [])) := by
  intro l
  induction l with
  | nil =>
    intro p q s m he hn hm _ _ _ _
    obtain ⟨m, rfl, _⟩ := fuel hm
    exact ⟨_, by rw [L_impl_History_states_l0, hn, he, if_neg (by simp)]; simp [okS, visS]; rfl⟩
  | cons e l ih =>
    intro p q s m he hn hm hq hI hz hb
    obtain ⟨m, rfl, hm'⟩ := fuel hm
    simp only [List.length_cons] at hm'
    simp only [evszs] at hz
    have hg : evs[p.length]? = some e := by rw [he]; exact get_mid p e l
    have hlen : evs.length = p.length + (l.length + 1) := by rw [he]; simp
    have hgs : (q ++ [s])[p.length]? = some s := by rw [<- hq]; exact get_mid q s []
    rw [L_impl_History_states_l0, hn, if_pos (by omega), natO_nat, Option.bind_some, hg, Option.bind_some, implEv_eq (by omega), Option.bind_some, okS]
    cases hev : evB e with
    | false => exact ⟨0, rfl⟩
    | true =>
      dsimp only
      rw [hgs, Option.bind_some]
      cases hmy : mayB s e with
      | false =>
        rw [doN hI hmy (by omega), Option.bind_some]
        exact ⟨0, rfl⟩
      | true =>
        obtain ⟨_, h2, h3, h4⟩ := nx_ok hI hev hmy (by omega)
        obtain ⟨z, hzz⟩ := ih (p ++ [e]) (q ++ [s]) (nxS e s) m (by rw [he]; simp) hn (by omega) (by simp [hq]) h3 (by omega) hb
        rw [h2, Option.bind_some]
        dsimp only
        rw [if_pos (room72 (by simp; omega)), w64_len p e (by omega), <- hn, hzz]
        refine ⟨z, ?_⟩
        simp only [Bool.true_and, visS]
        cases okS (nxS e s) l <;> simp
theorem evs_loop {h : GHistory} (hz : evszs h.Events <= 2 ^ 20) : ∀ (l p : List GEvent) (m : Nat), h.Events = p ++ l → l.length < m → ∃ z, L_spec_HistOk_l0 h m ((p.length : Nat) : Int) = some (bif l.all evB then .inr z else .inl false) := by
  have hl := evszs_len h.Events
  intro l
  induction l with
  | nil =>
    intro p m he hm
    obtain ⟨m, rfl, _⟩ := fuel hm
    exact ⟨_, by rw [L_spec_HistOk_l0, he, if_neg (by simp)]; rfl⟩
  | cons e l ih =>
    intro p m he hm
    obtain ⟨m, rfl, hm'⟩ := fuel hm
    have hlen : h.Events.length = p.length + (l.length + 1) := by rw [he]; simp
    have hx : 1 + evsz e <= evszs h.Events := evszs_mem (by rw [he]; simp)
    obtain ⟨z, hzz⟩ := ih (p ++ [e]) m (by rw [he]; simp) (by simp only [List.length_cons] at hm'; omega)
    rw [L_spec_HistOk_l0, if_pos (by omega), natO_nat, Option.bind_some, show h.Events[p.length]? = some e by rw [he]; exact get_mid p e l, Option.bind_some, specEv_eq (by omega), Option.bind_some, List.all_cons]
    cases evB e with
    | false => exact ⟨0, rfl⟩
    | true =>
      refine ⟨z, ?_⟩
      dsimp only
      rw [w64_len p e (by omega), hzz, Bool.true_and]
def hsz (h : GHistory) : Nat := ssz h.Base + evszs h.Events
def hOk (h : GHistory) : Bool := stB h.Base && (decide (h.Events.length <= 300) && (decide (0 <= h.Safe ∧ h.Safe <= h.Events.length) && okS h.Base h.Events))
theorem specH_eq {h : GHistory} (hz : hsz h <= 2 ^ 20) : S_spec_HistOk h = some (hOk h) := by
  unfold hsz at hz
  have hl := evszs_len h.Events
  unfold S_spec_HistOk T_spec_HistOk hOk
  rw [specSt_eq (by omega), Option.bind_some]
  cases hs : stB h.Base with
  | false => rfl
  | true =>
    dsimp only
    by_cases c1 : 300 < ((h.Events.length : Nat) : Int)
    · rw [if_pos c1, decide_eq_false (p := h.Events.length <= 300) (by omega)]; rfl
    rw [if_neg c1, decide_eq_true (p := h.Events.length <= 300) (by omega)]
    by_cases c2 : h.Safe < 0
    · rw [if_pos c2, decide_eq_false (p := 0 <= h.Safe ∧ h.Safe <= h.Events.length) (by omega)]; rfl
    rw [if_neg c2]
    by_cases c3 : ((h.Events.length : Nat) : Int) < h.Safe
    · rw [if_pos c3, decide_eq_false (p := 0 <= h.Safe ∧ h.Safe <= h.Events.length) (by omega)]; rfl
    rw [if_neg c3, decide_eq_true (p := 0 <= h.Safe ∧ h.Safe <= h.Events.length) (by omega)]
    obtain ⟨z, hzz⟩ := evs_loop (h := h) (by omega) h.Events [] (h.Events.length + 5) rfl (by omega)
    simp only [List.length_nil, Int.natCast_zero] at hzz
    rw [hzz, Option.bind_some]
    cases hall : h.Events.all evB with
    | false =>
      have : okS h.Base h.Events = false := by
        cases hk : okS h.Base h.Events with
        | false => rfl
        | true => rw [List.all_eq_true.2 (okS_ev hk)] at hall; cases hall
      rw [this]; rfl
    | true =>
      have hev := List.all_eq_true.1 hall
      simp only [cond_true]
      unfold S_spec_l5fold T_spec_l5fold
      obtain ⟨z2, h2⟩ := fold_loop (h := h) (k := ((h.Events.length : Nat) : Int)) (v3 := 0) (v4 := false) (v5 := 0) (v7 := []) (v8 := []) h.Events [] [] h.Base (h.Events.length + 5) (by simp) (by simp) (by omega) hev (stB_I hs) hz (by simp; omega)
      simp only [List.length_nil, Int.natCast_zero] at h2
      rw [h2, okS_run hev, Option.bind_some]
      cases (runS h.Base h.Events).2 <;> rfl
theorem states_eq {h : GHistory} (hz : hsz h <= 2 ^ 20) : S_impl_History_states h = some (bif hOk h then (h.Base :: visS h.Base h.Events, true) else ([], false)) := by
  unfold hsz at hz
  have hl := evszs_len h.Events
  unfold S_impl_History_states T_impl_History_states hOk
  rw [implSt_eq (by omega), Option.bind_some]
  cases hs : stB h.Base with
  | false => rfl
  | true =>
    dsimp only
    by_cases c1 : 300 < ((h.Events.length : Nat) : Int)
    · rw [if_pos c1, decide_eq_false (p := h.Events.length <= 300) (by omega)]; rfl
    rw [if_neg c1, decide_eq_true (p := h.Events.length <= 300) (by omega)]
    have hin : S_impl_in h.Safe 0 ((h.Events.length : Nat) : Int) = some (decide (0 <= h.Safe ∧ h.Safe <= h.Events.length)) := by
      unfold S_impl_in
      by_cases c2 : 0 <= h.Safe
      · rw [if_pos c2]; simp [c2]
      · rw [if_neg c2]; simp [c2]
    rw [hin, Option.bind_some]
    by_cases c2 : 0 <= h.Safe ∧ h.Safe <= h.Events.length
    · rw [decide_eq_true c2]
      dsimp only
      rw [show S_impl_copyState h.Base = some h.Base from if_pos (by omega), Option.bind_some]
      obtain ⟨z, hzz⟩ := states_loop (evs := h.Events) (n := ((h.Events.length : Nat) : Int)) h.Events [] [] h.Base (h.Events.length + 5) rfl rfl (by omega) rfl (stB_I hs) hz (by omega)
      simp only [List.length_nil, Int.natCast_zero, List.nil_append] at hzz
      rw [hzz, Option.bind_some]
      cases okS h.Base h.Events <;> simp
    · rw [decide_eq_false c2]; rfl
def MdH (h : GHistory) : Prop := MdS h.Base ∧ h.Events.length <= 2 ^ 63 - 1 ∧ MdEvs h.Events
theorem szH_eq {h : GHistory} {n : Int} (hm : MdH h) (h0 : 0 <= n) (h1 : n <= 2 ^ 20) : S_laws_szHistory h n = some (leftV (hsz h) n) := by
  unfold S_laws_szHistory
  rw [szS_eq hm.1 h0 h1, Option.bind_some]
  unfold leftV hsz
  by_cases c1 : (ssz h.Base : Int) <= n
  · rw [if_pos c1, if_neg (by omega)]
    unfold S_laws_szEventS
    rw [if_pos ⟨hm.2.1, hm.2.2, by omega, by omega⟩, Option.bind_some]
    unfold leftV
    by_cases c2 : (evszs h.Events : Int) <= n - ssz h.Base
    · rw [if_pos c2, if_neg (by omega), if_pos (by omega)]; congr 1; omega
    · rw [if_neg c2, if_pos (by omega), if_neg (by omega)]
  · rw [if_neg c1, if_pos (by omega), if_neg (by omega)]
theorem toH_eq {h : GHistory} (hz : hsz h <= 2 ^ 20) : S_laws_toHistory h = some h := by
  unfold hsz at hz
  unfold S_laws_toHistory S_laws_toEventS
  rw [toS_eq (by omega), Option.bind_some, if_pos (by omega), Option.bind_some]
  cases h; rfl
theorem eqH_eq {h : GHistory} (hz : hsz h <= 2 ^ 39) : S_laws_eqHistory h h = some true := by
  unfold hsz at hz
  unfold S_laws_eqHistory
  rw [eqS_eq (by omega), Option.bind_some]
  dsimp only
  rw [eqEventS_eq (by omega), Option.bind_some]
  dsimp only
  rw [if_pos rfl]
theorem law_HistOk {h : GHistory} (hm : MdH h) : S_laws_FnExactHistOk h = some true := by
  unfold S_laws_FnExactHistOk
  rw [szH_eq hm (by decide) (by decide), Option.bind_some]
  unfold leftV
  by_cases c : (hsz h : Int) <= 1048576
  · have hz : hsz h <= 2 ^ 20 := by omega
    rw [if_pos c, if_neg (by omega), toH_eq hz, Option.bind_some, specH_eq hz, Option.bind_some]
    unfold S_impl_HistOk S_impl_isHistory
    rw [states_eq hz, Option.bind_some]
    cases hk : hOk h with
    | true =>
      simp only [cond_true]
      rw [Option.bind_some, Option.bind_some, eqH_eq (by omega)]; rfl
    | false =>
      simp only [cond_false]
      rw [Option.bind_some, Option.bind_some, eqH_eq (by omega)]; rfl
  · rw [if_neg c, if_pos (by omega)]
end
end Go.Am.Try
