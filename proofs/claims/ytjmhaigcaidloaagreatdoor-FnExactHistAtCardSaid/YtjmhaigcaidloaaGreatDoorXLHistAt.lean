
/- The law of FnExactHistAt, in plain terms. -/
import Derived.Test.YtjmhaigcaidloaaGreatDoorXG5
set_option linter.unusedVariables false
set_option linter.unusedSimpArgs false
namespace Go.Am.Try
open Go.Am
noncomputable section
theorem M3 {v : GValue} (h : vsz v <= 2 ^ 20) : xe v = some (ZL v) := by
 unfold xe vg
 rw [if_pos ⟨h, by decide, by decide, by decide⟩, Option.bind_some]
 congr 1
 unfold okV ZL
 rw [show (6 - (1 : Int)).toNat = 5 from rfl]
 by_cases hc : shV 5 v = true ∧ (ptV v : Int) <= 40
 ·rw [if_pos hc, decide_eq_true hc]; exact decide_eq_true (by omega)
 ·rw [if_neg hc, decide_eq_false hc]; rfl
theorem DL {v : GValue} (h : vsz v <= 2 ^ 20) : ja v = some (ZL v) := by
 unfold ja qD wq ZL
 rw [if_pos ⟨h, by decide, by decide⟩, Option.bind_some]
 rw [show (5 : Int).toNat = 5 from rfl]
 cases hs : shV 5 v
 ·simp
 ·dsimp only
  rw [if_pos h, Option.bind_some]
  simp
def js (v : GValue) : Bool := decide (v.Kind = 0 ∧ v.N = 0 ∧ v.S.length = 0 ∧ v.K.length = 0 ∧ v.L.length = 0)
def evB (e : GEvent) : Bool :=
  if e.Kind = 2 then yb e.Addr && decide (e.Act = 0) && jV e.Val && jH e.Deps
  else js e.Val && decide (e.Deps.length = 0) &&
    (if e.Kind = 0 ∨ e.Kind = 5 ∨ e.Kind = 6 then decide (e.Addr.length = 0) && decide (e.Act = 0)
     else if e.Kind = 1 then yb e.Addr && decide (1 <= e.Act ∧ e.Act <= 4)
     else if e.Kind = 3 ∨ e.Kind = 4 then yb e.Addr && decide (e.Act = 0) else false)
theorem zae {v : GValue} (h : vsz v <= 2 ^ 20) : yX v = some (jV v) := by
 unfold yX YD jV
 by_cases h5 : v.Kind = 5
 ·rw [if_pos h5, DL h, Option.bind_some, decide_eq_true h5, Bool.true_and]
  cases hv : ZL v with
  | false => rfl
  | true =>
   simp only [Bool.true_and]
   unfold wr
   rw [if_pos (by omega)]; rfl
 ·rw [if_neg h5, decide_eq_false h5]; rfl
theorem zaf {v : GValue} (h : vsz v <= 2 ^ 20) : jh v = some (jV v) := by
 unfold jh jV
 by_cases h5 : v.Kind = 5
 ·rw [if_pos h5, M3 h, Option.bind_some, decide_eq_true h5, Bool.true_and]
  cases hv : ZL v with
  | false => rfl
  | true =>
   simp only [Bool.true_and]
   unfold qY
   rw [if_pos (by omega)]; rfl
 ·rw [if_neg h5, decide_eq_false h5]; rfl
theorem Es (v : GValue) : ZW v = some (js v) := by
 unfold ZW js
 by_cases h1 : v.Kind = 0 <;> by_cases h2 : v.N = 0 <;> by_cases h3 : v.S.length = 0 <;> by_cases h4 : v.K.length = 0 <;> by_cases h5 : v.L.length = 0 <;> simp [h1, h2, h3, h4, h5, List.length_eq_zero_iff.1] <;> simp_all
theorem JG (a : Int) : ∃ r, kh a 0 = some r ∧ (r = 0 ↔ a = 0) := by
 unfold kh
 by_cases h : a < 0
 ·exact ⟨_, if_pos h, by omega⟩
 ·rw [if_neg h]
  by_cases h' : 0 < a
  ·exact ⟨_, if_pos h', by omega⟩
  ·exact ⟨_, if_neg h', by omega⟩
theorem GQ (G : GValue → GValue → Option Int) (n : Nat) (v z : GValue) (hk : z.Kind = 0) (hn : z.N = 0) (hl : z.L.length = 0) : ∃ r, Y9 G (n + 1) v z = some r ∧ ((r = 0 ∧ v.N = 0) ↔ (v.Kind = 0 ∧ v.N = 0 ∧ v.L.length = 0)) := by
 unfold Y9
 rw [hk]
 by_cases h1 : v.Kind = 0
 ·rw [if_pos h1, if_neg (by omega), hn]
  by_cases h2 : v.N = 0
  ·rw [if_pos h2, jB, hl]
   obtain ⟨r, hr, hr2⟩ := JG (v.L.length : Int)
   refine ⟨r, ?_, by simp only [h1, h2, true_and, and_true]; omega⟩
   by_cases h3 : (0 : Int) < (v.L.length : Int)
   ·rw [if_pos h3, if_neg (by omega), Option.bind_some]
    dsimp only
    rw [show ((0 : Nat) : Int) = 0 from rfl, hr, Option.bind_some]
   ·rw [if_neg h3, Option.bind_some]
    dsimp only
    rw [show ((0 : Nat) : Int) = 0 from rfl, hr, Option.bind_some]
  ·rw [if_neg h2]
   obtain ⟨r, hr, hr2⟩ := JG v.N
   exact ⟨r, by rw [hr, Option.bind_some], ⟨fun h => absurd h.2 h2, fun h => absurd h.2.1 h2⟩⟩
 ·rw [if_neg h1]
  obtain ⟨r, hr, hr2⟩ := JG v.Kind
  exact ⟨r, by rw [hr, Option.bind_some], ⟨fun h => absurd (hr2.1 h.1) h1, fun h => absurd h.1 h1⟩⟩
theorem Et (v : GValue) : wN v = some (decide (v.Kind = 0 ∧ v.N = 0 ∧ v.L.length = 0)) := by
 unfold wN YA
 rw [show vsz v + 3 = (vsz v + 1 + 1) + 1 from rfl, wB]
 obtain ⟨r, hr, hr2⟩ := GQ (wB (vsz v + 1 + 1)) (vsz v + 1) v (GValue.mk 0 0 [] [] []) rfl rfl rfl
 rw [hr, Option.bind_some]
 by_cases h : r = 0
 ·rw [if_pos h]; exact congrArg some (decide_eq_decide.2 (by rw [<- hr2]; simp [h]))
 ·rw [if_neg h]; exact congrArg some (decide_eq_false (fun h' => h (hr2.2 h').1)).symm
theorem DM {v : GValue} (h : js v = true) : ZL v = true := by
 unfold js at h
 cases v
 simp only [GValue.Kind, GValue.N, GValue.S, GValue.K, GValue.L, decide_eq_true_eq, List.length_eq_zero_iff] at h
 obtain ⟨rfl, rfl, rfl, rfl, rfl⟩ := h
 exact decide_eq_true ⟨by simp [shV, yI, GValue.Kind, GValue.N, GValue.S, GValue.K, GValue.L], by simp [ptV, w8]⟩
theorem zag {v : GValue} (h : ZL v = true) : js v = decide (v.Kind = 0 ∧ v.N = 0 ∧ v.L.length = 0) := by
 unfold js
 refine decide_eq_decide.2 ⟨fun ⟨a, b, _, _, c⟩ => ⟨a, b, c⟩, fun ⟨a, b, c⟩ => ?_⟩
 have := (of_decide_eq_true h).1
 rw [shV] at this
 have hl := (Bool.and_eq_true _ _ ▸ this).1
 unfold yI at hl
 rw [if_pos (Or.inl a)] at hl
 have := of_decide_eq_true hl
 exact ⟨a, this⟩
theorem DN {a : List UInt8} (h : yb a = true) : 0 < a.length := by
 rcases a with _ | ⟨x, l⟩
 ·revert h; decide
 ·simp
theorem Eu {e : GEvent} (h : qm e <= 2 ^ 20) : Z2 e = some (evB e) := by
 unfold qm at h
 unfold Z2 evB
 by_cases k2 : e.Kind = 2
 ·rw [if_pos k2, if_pos k2, Zb (by omega), Option.bind_some]
  cases yb e.Addr with
  | false => rfl
  | true =>
   dsimp only
   by_cases ha : e.Act = 0
   ·rw [if_pos ha, zae (by omega), Option.bind_some, decide_eq_true ha]
    cases jV e.Val with
    | false => rfl
    | true =>
     dsimp only
     rw [show xK e.Deps = some (jH e.Deps) from if_pos (by omega)]
     simp
   ·rw [if_neg ha, decide_eq_false ha]; rfl
 ·rw [if_neg k2, if_neg k2, Es, Option.bind_some]
  cases js e.Val with
  | false => rfl
  | true =>
   dsimp only
   by_cases d : e.Deps.length = 0
   ·rw [if_neg (by omega), decide_eq_true d, Bool.true_and, Bool.true_and]
    by_cases k0 : e.Kind = 0 ∨ e.Kind = 5 ∨ e.Kind = 6
    ·rw [if_pos k0]
     have hh : (if (e.Addr.length : Int) = 0 then some (decide (e.Act = 0)) else some false) = some (decide (e.Addr.length = 0) && decide (e.Act = 0)) := by
      by_cases hl : e.Addr.length = 0
      ·rw [if_pos (by omega), decide_eq_true hl, Bool.true_and]
      ·rw [if_neg (by omega), decide_eq_false hl, Bool.false_and]
     rw [hh]
     by_cases k00 : e.Kind = 0
     ·rw [if_pos k00]
     ·rw [if_neg k00]
      by_cases k05 : e.Kind = 5
      ·rw [if_pos k05]
      ·rw [if_neg k05, if_pos (by omega)]
    ·rw [if_neg k0, if_neg (by omega), if_neg (by omega), if_neg (by omega)]
     by_cases k1 : e.Kind = 1
     ·rw [if_pos k1, if_pos k1, Zb (by omega), Option.bind_some]
      cases yb e.Addr with
      | false => rfl
      | true => dsimp only; rw [Wk, Option.bind_some]; rfl
     ·rw [if_neg k1, if_neg k1]
      by_cases k3 : e.Kind = 3
      ·rw [if_pos k3, if_pos (Or.inl k3), Zb (by omega), Option.bind_some]
       cases yb e.Addr <;> rfl
      ·rw [if_neg k3]
       by_cases k4 : e.Kind = 4
       ·rw [if_pos k4, if_pos (Or.inr k4), Zb (by omega), Option.bind_some]
        cases yb e.Addr <;> rfl
       ·rw [if_neg k4, if_neg (by omega)]
   ·rw [if_pos (by omega), decide_eq_false d]; rfl
theorem zvd {v : GValue} (h : vsz v <= 2 ^ 20) (d : Nat) : ((xe v).bind fun r => match r with | true => (wN v).bind fun r => (match r with | true => some (decide (((d : Nat) : Int) = 0)) | false => some false) | false => some false) = some (js v && decide (d = 0)) := by
 rw [M3 h, Option.bind_some]
 cases hv : ZL v with
 | true =>
  dsimp only
  rw [Et, Option.bind_some, zag hv]
  cases decide (v.Kind = 0 ∧ v.N = 0 ∧ v.L.length = 0) with
  | true => exact congrArg some (by rw [Bool.true_and]; exact decide_eq_decide.2 (by omega))
  | false => rfl
 | false =>
  dsimp only
  cases hz : js v with
  | true => rw [DM hz] at hv; cases hv
  | false => rfl
theorem Ev {e : GEvent} (h : qm e <= 2 ^ 20) : Zz e = some (evB e) := by
 unfold qm at h
 unfold Zz evB
 rw [Qq (by omega)]
 simp only [Option.bind_some]
 have Z := zvd (v := e.Val) (by omega) e.Deps.length
 have hb := @DN e.Addr
 by_cases r0 : e.Kind < 0
 ·rw [if_pos r0, if_neg (show ¬ e.Kind = 2 by omega), if_neg (show ¬ (e.Kind = 0 ∨ e.Kind = 5 ∨ e.Kind = 6) by omega), if_neg (show ¬ e.Kind = 1 by omega), if_neg (show ¬ (e.Kind = 3 ∨ e.Kind = 4) by omega), Bool.and_false]
 rw [if_neg r0]
 by_cases r6 : 6 < e.Kind
 ·rw [if_pos r6, if_neg (show ¬ e.Kind = 2 by omega), if_neg (show ¬ (e.Kind = 0 ∨ e.Kind = 5 ∨ e.Kind = 6) by omega), if_neg (show ¬ e.Kind = 1 by omega), if_neg (show ¬ (e.Kind = 3 ∨ e.Kind = 4) by omega), Bool.and_false]
 rw [if_neg r6]
 generalize (js e.Val && decide (e.Deps.length = 0)) = z at Z ⊢
 by_cases k1 : e.Kind = 1
 ·rw [if_pos k1, if_neg (show ¬ e.Kind = 2 by omega), if_neg (show ¬ (e.Kind = 0 ∨ e.Kind = 5 ∨ e.Kind = 6) by omega), if_pos k1]
  cases hA : yb e.Addr with
  | false =>
   dsimp only
   rw [Bool.false_and, Bool.and_false]
   split <;> rfl
  | true =>
   have := hb hA
   rw [if_pos (show (0 : Int) < (e.Addr.length : Int) by omega)]
   dsimp only
   by_cases a1 : e.Act < 1
   ·rw [if_pos a1, decide_eq_false (by omega)]; simp
   ·rw [if_neg a1]
    by_cases a2 : 4 < e.Act
    ·rw [if_pos a2, decide_eq_false (by omega)]; simp
    ·rw [if_neg a2, decide_eq_true (show 1 <= e.Act ∧ e.Act <= 4 by omega)]; exact Z.trans (by simp)
 rw [if_neg k1]
 by_cases k2 : e.Kind = 2
 ·rw [if_pos k2, if_pos k2]
  cases hA : yb e.Addr with
  | false =>
   dsimp only
   split <;> rfl
  | true =>
   have := hb hA
   rw [if_pos (show (0 : Int) < (e.Addr.length : Int) by omega)]
   dsimp only
   by_cases ha : e.Act = 0
   ·rw [if_pos ha, zaf (by omega), Option.bind_some, decide_eq_true ha]
    cases jV e.Val with
    | false => rfl
    | true =>
     dsimp only
     rw [show qc e.Deps = some (jH e.Deps) from if_pos (by omega)]
     simp
   ·rw [if_neg ha, decide_eq_false ha]; rfl
 rw [if_neg k2, if_neg k2]
 by_cases k3 : e.Kind = 3
 ·rw [if_pos k3, if_neg (show ¬ (e.Kind = 0 ∨ e.Kind = 5 ∨ e.Kind = 6) by omega), if_neg k1, if_pos (Or.inl k3)]
  cases hA : yb e.Addr with
  | false => dsimp only; rw [Bool.false_and, Bool.and_false]; split <;> rfl
  | true =>
   have := hb hA
   rw [if_pos (show (0 : Int) < (e.Addr.length : Int) by omega)]
   dsimp only
   by_cases ha : e.Act = 0
   ·rw [if_pos ha, decide_eq_true ha]; exact Z.trans (by simp)
   ·rw [if_neg ha, decide_eq_false ha]; simp
 rw [if_neg k3]
 by_cases k4 : e.Kind = 4
 ·rw [if_pos k4, if_neg (show ¬ (e.Kind = 0 ∨ e.Kind = 5 ∨ e.Kind = 6) by omega), if_neg k1, if_pos (Or.inr k4)]
  cases hA : yb e.Addr with
  | false => dsimp only; rw [Bool.false_and, Bool.and_false]; split <;> rfl
  | true =>
   have := hb hA
   rw [if_pos (show (0 : Int) < (e.Addr.length : Int) by omega)]
   dsimp only
   by_cases ha : e.Act = 0
   ·rw [if_pos ha, decide_eq_true ha]; exact Z.trans (by simp)
   ·rw [if_neg ha, decide_eq_false ha]; simp
 rw [if_neg k4, if_pos (show e.Kind = 0 ∨ e.Kind = 5 ∨ e.Kind = 6 by omega)]
 by_cases hl : e.Addr.length = 0
 ·rw [if_neg (by omega), decide_eq_true hl, Bool.true_and]
  by_cases ha : e.Act = 0
  ·rw [if_pos ha, decide_eq_true ha]; exact Z.trans (by simp)
  ·rw [if_neg ha, decide_eq_false ha]; simp
 ·rw [if_pos (by omega), decide_eq_false hl, Bool.false_and, Bool.and_false]
def MdS (s : GState) : Prop := s.Pending.length <= 2 ^ 63 - 1 ∧ s.Entries.length <= 2 ^ 63 - 1 ∧ Wh s.Entries
theorem zc3 {s : GState} {n : Int} (h : MdS s) (h0 : 0 <= n) (h1 : n <= 2 ^ 20) : Zu s n = some (yS (ssz s) n) := by
 unfold Zu
 rw [Yz h.1 h0 h1, Option.bind_some]
 unfold yS ssz
 by_cases c1 : (s.Pending.length : Int) <= n
 ·rw [if_pos c1, if_neg (by omega)]
  unfold j6
  rw [if_pos ⟨h.2.1, h.2.2, by omega, by omega⟩, Option.bind_some]
  unfold yS
  by_cases c2 : (zY s.Entries : Int) <= n - s.Pending.length
  ·rw [if_pos c2, if_neg (by omega), if_pos (by omega)]; congr 1; omega
  ·rw [if_neg c2, if_pos (by omega), if_neg (by omega)]
 ·rw [if_neg c1, if_pos (by omega), if_neg (by omega)]
theorem zc4 {s : GState} (h : ssz s <= 2 ^ 20) : Zv s = some s := by
 unfold ssz at h
 unfold Zv yq j9
 rw [if_pos (by omega), Option.bind_some, if_pos (by omega), Option.bind_some]
 cases s; rfl
theorem Ew {s : GState} (h : ssz s <= 2 ^ 39) : kq s s = some true := by
 unfold ssz at h
 unfold kq yk
 rw [if_pos rfl]
 by_cases ho : s.Open = true
 ·rw [if_pos ho, if_pos ho, if_pos ⟨rfl, by omega⟩, Option.bind_some]; dsimp only; rw [if_pos rfl, Ry (by omega), Option.bind_some]
 ·rw [if_neg ho, if_neg ho, if_pos ⟨rfl, by omega⟩, Option.bind_some]; dsimp only; rw [if_pos rfl, Ry (by omega), Option.bind_some]
theorem jn (a : Int) (b : Bool) (c : List UInt8) (d : Int) (e : List GEntry) : (GState.mk a b c d e).Pending = c := rfl
theorem jo (a : Int) (b : Bool) (c : List UInt8) (d : Int) (e : List GEntry) : (GState.mk a b c d e).Entries = e := rfl
theorem M4 {a : List UInt8} : ∀ (l : List GEntry) (i : Nat), yK l a = true → ∃ k, ZT l a i = ((i + k : Nat) : Int) ∧ ∃ e, l[k]? = some e ∧ e.Addr = a
 | [], i, h => by simp [yK] at h
 | e :: l, i, h => by
  rw [ZT]
  by_cases he : e.Addr = a
  ·exact ⟨0, by rw [if_pos he]; rfl, e, rfl, he⟩
  ·have h' : yK l a = true := by
    unfold yK at h ⊢
    rw [List.any_cons, decide_eq_false he, Bool.false_or] at h
    exact h
   obtain ⟨k, h1, e', h2, h3⟩ := M4 l (i + 1) h'
   exact ⟨k + 1, by rw [if_neg he, h1]; congr 1; omega, e', by simpa using h2, h3⟩
theorem Z4 {a : List (List UInt8)} : Asc a ↔ ∀ (i j : Nat) x y, i < j → a[i]? = some x → a[j]? = some y → Op.bytesLess x y = true := by
 constructor
 ·intro h i j x y hij hi hj
  obtain ⟨hi1, hi2⟩ := List.getElem?_eq_some_iff.1 hi
  obtain ⟨hj1, hj2⟩ := List.getElem?_eq_some_iff.1 hj
  have := h i j hj1 hij
  rw [hi2, hj2] at this
  exact this
 ·intro h i j hj hij
  exact h i j _ _ hij (List.getElem?_eq_getElem _) (List.getElem?_eq_getElem _)
theorem Z5 {a : List (List UInt8)} {x : List UInt8} {c : Nat} (h : ku a x c) {i : Nat} {y : List UInt8} (hi : a[i]? = some y) : i < c ↔ Op.bytesLess y x = true := by
 obtain ⟨hi1, hi2⟩ := List.getElem?_eq_some_iff.1 hi
 rw [<- hi2]
 exact h.2 i hi1
theorem zah {a : List (List UInt8)} (ha : Asc a) {x : List UInt8} {c : Nat} (h : ku a x c) {j : Nat} {y : List UInt8} (hj : a[j]? = some y) (hc : c <= j) (hne : c = j → y ≠ x) : Op.bytesLess x y = true := by
 rcases Wn x y with h1 | h1 | h1
 ·exact h1
 ·exfalso
  have hcj : c ≠ j := fun e => hne e h1.symm
  have hjl := (List.getElem?_eq_some_iff.1 hj).1
  have hcl : c < a.length := by omega
  have h2 := Z4.1 ha c j _ _ (by omega) (List.getElem?_eq_getElem hcl) hj
  rw [<- h1] at h2
  have := (Z5 h (List.getElem?_eq_getElem hcl)).2 h2
  omega
 ·have := (Z5 h hj).2 h1
  omega
theorem NF {a : List (List UInt8)} (ha : Asc a) {x : List UInt8} {c : Nat} (h : ku a x c) (hne : a[c]? ≠ some x) : Asc (yE a c x) := by
 refine Z4.2 fun i j u v hij hi hj => ?_
 rw [W9 a c x h.1] at hi hj
 have A := Z4.1 ha
 by_cases h1 : j < c
 ·rw [if_pos h1] at hj; rw [if_pos (by omega)] at hi
  exact A i j u v hij hi hj
 rw [if_neg h1] at hj
 by_cases h2 : j = c
 ·rw [if_pos h2] at hj; rw [if_pos (by omega)] at hi
  injection hj with hj
  subst hj
  exact (Z5 h hi).1 (by omega)
 rw [if_neg h2] at hj
 by_cases h3 : i < c
 ·rw [if_pos h3] at hi
  exact A i (j - 1) u v (by omega) hi hj
 rw [if_neg h3] at hi
 by_cases h4 : i = c
 ·rw [if_pos h4] at hi
  injection hi with hi
  subst hi
  exact zah ha h hj (by omega) fun e he => hne (by rw [e, hj, he])
 ·rw [if_neg h4] at hi
  exact A (i - 1) (j - 1) u v (by omega) hi hj
theorem zai {a : List (List UInt8)} (ha : Asc a) {c : Nat} (hc : c < a.length) : Asc (wU a c) := by
 refine Z4.2 fun i j u v hij hi hj => ?_
 rw [Mf a c hc] at hi hj
 have A := Z4.1 ha
 by_cases h1 : j < c
 ·rw [if_pos h1] at hj; rw [if_pos (by omega)] at hi
  exact A i j u v hij hi hj
 rw [if_neg h1] at hj
 by_cases h3 : i < c
 ·rw [if_pos h3] at hi
  exact A i (j + 1) u v (by omega) hi hj
 ·rw [if_neg h3] at hi
  exact A (i + 1) (j + 1) u v (by omega) hi hj
theorem V3 {e : GEntry} : ∀ {l : List GEntry}, (∀ x ∈ l, Op.bytesLess e.Addr x.Addr = true) → vl e true l = l
 | [], _ => rfl
 | x :: l, h => by
  rw [vl, h x List.mem_cons_self, cond_true, cond_true, V3 fun y hy => h y (List.mem_cons_of_mem _ hy)]
theorem Ey {a b : List UInt8} (h : Op.bytesLess a b = true) : Op.bytesLess b a = false := by
 cases hb : Op.bytesLess b a with
 | false => rfl
 | true => have := kR h hb; rw [Zh] at this; cases this
theorem PI {e : GEntry} : ∀ {l : List GEntry} {c : Nat}, Asc (l.map GEntry.Addr) → ku (l.map GEntry.Addr) e.Addr c → vl e false l = if (l.map GEntry.Addr)[c]? = some e.Addr then l.set c e else yE l c e
 | [], c, _, hp => by
  have := hp.1
  simp only [List.map_nil, List.length_nil] at this
  obtain rfl : c = 0 := by omega
  rfl
 | x :: l, c, ha, hp => by
  have hal : Asc (l.map GEntry.Addr) := Z4.2 fun i j u v hij hi hj => Z4.1 ha (i + 1) (j + 1) u v (by omega) (by simpa using hi) (by simpa using hj)
  have hx : ∀ y ∈ l, Op.bytesLess x.Addr y.Addr = true := fun y hy => by
   obtain ⟨j, hj⟩ := List.mem_iff_getElem?.1 hy
   exact Z4.1 ha 0 (j + 1) _ _ (by omega) rfl (by simp [hj])
  have h0 : 0 < c ↔ Op.bytesLess x.Addr e.Addr = true := Z5 hp (by rfl)
  cases c with
  | zero =>
   have hn : Op.bytesLess x.Addr e.Addr = false := by
    cases hq : Op.bytesLess x.Addr e.Addr with
    | false => rfl
    | true => have := h0.2 hq; omega
   rw [vl, hn]
   rcases Wn e.Addr x.Addr with h1 | h1 | h1
   ·rw [h1]
    simp only [cond_true, cond_false]
    rw [V3 fun y hy => kR h1 (hx y hy), if_neg]
    ·rfl
    ·simp only [List.map_cons, List.getElem?_cons_zero, Option.some.injEq]
     intro he
     rw [he, Zh] at h1; cases h1
   ·rw [h1, Zh]
    simp only [cond_false]
    rw [V3 fun y hy => by rw [h1]; exact hx y hy, if_pos (by simp)]
    rfl
   ·rw [hn] at h1; cases h1
  | succ c =>
   have hl : Op.bytesLess x.Addr e.Addr = true := h0.1 (by omega)
   have hpl : ku (l.map GEntry.Addr) e.Addr c := by
    refine ⟨by have := hp.1; simp only [List.map_cons, List.length_cons] at this; omega, fun k hk => ?_⟩
    have h1 := Z5 hp (i := k + 1) (y := (l.map GEntry.Addr)[k]) (by rw [List.map_cons, List.getElem?_cons_succ]; exact List.getElem?_eq_getElem hk)
    rw [<- h1]
    omega
   rw [vl, Ey hl, hl]
   simp only [cond_true, cond_false]
   rw [PI hal hpl]
   simp only [List.map_cons, List.getElem?_cons_succ]
   split
   ·rfl
   ·rfl
theorem JH {α : Type} {l : List α} {c : Nat} {x : α} (h : l[c]? = some x) : l.set c x = l := by
 apply List.ext_getElem?
 intro i
 rw [List.getElem?_set]
 split
 ·rename_i hi
  subst hi
  have := (List.getElem?_eq_some_iff.1 h).1
  rw [if_pos this, h]
 ·rfl
theorem M5 {l : List GEntry} {c : Nat} {e : GEntry} (h : (l.map GEntry.Addr)[c]? = some e.Addr) : (l.set c e).map GEntry.Addr = l.map GEntry.Addr := by
 rw [List.map_set]
 exact JH h
theorem V4 {l : List GEntry} {c : Nat} {e : GEntry} : (yE l c e).map GEntry.Addr = yE (l.map GEntry.Addr) c e.Addr := by simp [yE, List.map_take, List.map_drop]
theorem M6 {l : List GEntry} {c : Nat} : (wU l c).map GEntry.Addr = wU (l.map GEntry.Addr) c := by simp [wU, List.map_take, List.map_drop]
theorem WL : ∀ (a b : List GEntry), zY (a ++ b) = zY a + zY b
 | [], b => by simp [zY]
 | x :: a, b => by simp only [List.cons_append, zY, WL a b]; omega
theorem Tj (l : List GEntry) (c : Nat) : zY l = zY (l.take c) + zY (l.drop c) := by
 rw [<- WL, List.take_append_drop]
theorem M7 (l : List GEntry) (c : Nat) (e : GEntry) : zY (yE l c e) = zY l + 1 + esz e := by
 unfold yE
 rw [WL, WL, Tj l c]
 simp only [zY]; omega
theorem DO (l : List GEntry) (c : Nat) : zY (wU l c) <= zY l := by
 unfold wU
 have h1 := Tj l c
 have h2 := Tj (l.drop c) 1
 rw [List.drop_drop] at h2
 rw [WL]
 omega
theorem M8 : ∀ (l : List GEntry) (c : Nat) (e : GEntry), zY (l.set c e) <= zY l + esz e
 | [], c, e => by simp [zY]
 | x :: l, 0, e => by simp only [List.set_cons_zero, zY]; omega
 | x :: l, c + 1, e => by have := M8 l c e; simp only [List.set_cons_succ, zY]; omega
def stI (s : GState) : Prop := 0 <= s.Serial ∧ s.Serial <= 1000000 ∧ Asc (s.Entries.map GEntry.Addr) ∧ (s.Pending ≠ [] → s.Open = true ∧ yK s.Entries s.Pending = decide (s.Act ≠ 1))
theorem U9 {s : GState} (h : stB s = true) : stI s := by
 unfold stB at h
 simp only [Bool.and_eq_true, decide_eq_true_eq] at h
 obtain ⟨⟨⟨h1, h2, _⟩, h3⟩, h4⟩ := h
 refine ⟨h1, h2, MO h3, fun hp => ?_⟩
 unfold Ln at h4
 rw [if_neg hp] at h4
 simp only [Bool.and_eq_true, beq_iff_eq] at h4
 exact ⟨h4.1.1.1, h4.2⟩
def YL (s : GState) (e : GEvent) : Bool :=
 if s.Serial = 1000000 then false
 else if e.Kind = 0 then !s.Open
 else if e.Kind = 1 then s.Open && decide (s.Pending = []) && (yK s.Entries e.Addr == decide (e.Act ≠ 1)) && (yK s.Entries e.Addr || decide (s.Entries.length < 16))
 else if e.Kind = 2 then decide (s.Pending = e.Addr) && decide (s.Act ≠ 4)
 else if e.Kind = 3 then decide (s.Pending = e.Addr) && decide (s.Act = 4)
 else if e.Kind = 4 then decide (s.Pending = e.Addr)
 else if e.Kind = 5 then s.Open && decide (s.Pending = [])
 else s.Open
theorem UA {e : GEvent} (h : evB e = true) (hk : e.Kind = 1 ∨ e.Kind = 2 ∨ e.Kind = 3 ∨ e.Kind = 4) : e.Addr ≠ [] := by
 intro he
 have ha : yb e.Addr = false := by rw [he]; decide
 unfold evB at h
 rw [ha] at h
 rcases hk with hk | hk | hk | hk <;> simp [hk] at h
theorem Xj {a : List UInt8} : ((a.length : Int) = 0) ↔ a = [] := by
 constructor
 ·intro h; exact List.eq_nil_of_length_eq_zero (by omega)
 ·rintro rfl; rfl
theorem NG {a : List UInt8} : (0 < (a.length : Int)) ↔ a ≠ [] := by
 constructor
 ·rintro h rfl; simp at h
 ·intro h
  have : a.length ≠ 0 := fun e => h (List.eq_nil_of_length_eq_zero e)
  omega
theorem DP {s : GState} {e : GEvent} (hI : stI s) (he : evB e = true) (hl : s.Entries.length <= 2 ^ 40) : YB s e = some (YL s e) := by
 unfold YB YL xW
 have hs := hI.2.1
 by_cases h0 : s.Serial = 1000000
 ·rw [if_pos (by omega), if_pos h0]
 rw [if_neg (by omega), if_neg h0]
 by_cases k0 : e.Kind = 0
 ·rw [if_pos k0, if_pos k0]
 rw [if_neg k0, if_neg k0]
 by_cases k1 : e.Kind = 1
 ·rw [if_pos k1, if_pos k1, if_pos hl, Option.bind_some]
  have hh := KX s.Entries e.Addr 0
  have hp := @NG s.Pending
  cases s.Open with
  | false => rfl
  | true =>
   dsimp only
   by_cases q : s.Pending = []
   ·rw [if_neg (fun h => hp.1 h q), decide_eq_true q]
    by_cases a1 : e.Act = 1
    ·rw [if_pos a1, decide_eq_false (p := e.Act ≠ 1) (by omega)]
     cases hb : yK s.Entries e.Addr with
     | true => rw [if_pos (hh.2 hb)]; rfl
     | false => rw [if_neg (fun h => by rw [hh.1 h] at hb; cases hb)]; simp; omega
    ·rw [if_neg a1, decide_eq_true (p := e.Act ≠ 1) a1]
     cases hb : yK s.Entries e.Addr with
     | true => rw [if_pos (hh.2 hb)]; rfl
     | false => rw [if_neg (fun h => by rw [hh.1 h] at hb; cases hb)]; simp
   ·rw [if_pos (hp.2 q), decide_eq_false q]; rfl
 rw [if_neg k1, if_neg k1]
 have hp := @NG s.Pending
 by_cases k2 : e.Kind = 2
 ·rw [if_pos k2, if_pos k2]
  have hne := UA he (.inr (.inl k2))
  by_cases q : s.Pending = []
  ·rw [if_neg (fun h => hp.1 h q), decide_eq_false (fun h => hne (by rw [<- h, q]))]; rfl
  ·rw [if_pos (hp.2 q)]
   by_cases q2 : s.Pending = e.Addr
   ·rw [if_pos q2, decide_eq_true q2]; by_cases a4 : s.Act = 4 <;> simp [a4]
   ·rw [if_neg q2, decide_eq_false q2]; rfl
 rw [if_neg k2, if_neg k2]
 by_cases k3 : e.Kind = 3
 ·rw [if_pos k3, if_pos k3]
  have hne := UA he (.inr (.inr (.inl k3)))
  by_cases q : s.Pending = []
  ·rw [if_neg (fun h => hp.1 h q), decide_eq_false (fun h => hne (by rw [<- h, q]))]; rfl
  ·rw [if_pos (hp.2 q)]
   by_cases q2 : s.Pending = e.Addr
   ·rw [if_pos q2, decide_eq_true q2]; rfl
   ·rw [if_neg q2, decide_eq_false q2]; rfl
 rw [if_neg k3, if_neg k3]
 by_cases k4 : e.Kind = 4
 ·rw [if_pos k4, if_pos k4]
  have hne := UA he (.inr (.inr (.inr k4)))
  by_cases q : s.Pending = []
  ·rw [if_neg (fun h => hp.1 h q), decide_eq_false (fun h => hne (by rw [<- h, q]))]
  ·rw [if_pos (hp.2 q)]
 rw [if_neg k4, if_neg k4]
 by_cases k5 : e.Kind = 5
 ·rw [if_pos k5, if_pos k5]
  cases s.Open with
  | false => rfl
  | true =>
   dsimp only
   by_cases q : s.Pending = []
   ·rw [decide_eq_false (fun h => hp.1 h q), decide_eq_true q]; rfl
   ·rw [decide_eq_true (hp.2 q), decide_eq_false q]; rfl
 ·rw [if_neg k5, if_neg k5]
theorem M9 {s : GState} {a : List UInt8} (hl : s.Entries.length <= 2 ^ 40) (hA : Asc (s.Entries.map GEntry.Addr)) : ∃ c : Nat, ku (s.Entries.map GEntry.Addr) a c ∧ ye s a = some ((c : Int), yK s.Entries a) ∧ (yK s.Entries a = true ↔ (s.Entries.map GEntry.Addr)[c]? = some a) := by
 unfold ye
 obtain ⟨c, hp, hc⟩ := Em (a := s.Entries) (x := a) hl hA
 rw [hc]
 exact ⟨c, hp, rfl, Yd.trans (ku.mem hA hp).symm⟩
theorem On {s : GState} {e : GEvent} (hI : stI s) (hl : s.Entries.length <= 2 ^ 40) : jU s e = some (YL s e) := by
 unfold jU YL xj
 obtain ⟨c, hp, hc, _⟩ := M9 (a := e.Addr) hl hI.2.2.1
 rw [hc, Option.bind_some]
 dsimp only
 by_cases h0 : s.Serial = 1000000
 ·rw [if_pos h0, if_pos h0]
 rw [if_neg h0, if_neg h0]
 by_cases k0 : e.Kind = 0
 ·rw [if_pos k0, if_pos k0]
 rw [if_neg k0, if_neg k0]
 have hz := @Xj s.Pending
 by_cases k1 : e.Kind = 1
 ·rw [if_pos k1, if_pos k1]
  cases s.Open with
  | false => rfl
  | true =>
   dsimp only
   by_cases q : s.Pending = []
   ·rw [if_pos (hz.2 q), decide_eq_true q]
    by_cases a1 : e.Act = 1
    ·rw [decide_eq_false (p := e.Act ≠ 1) (by omega)]
     cases hb : yK s.Entries e.Addr with
     | true => rw [if_pos rfl, if_pos a1]; rfl
     | false => rw [if_neg (by decide), if_pos a1]; simp; omega
    ·rw [decide_eq_true (p := e.Act ≠ 1) a1]
     cases hb : yK s.Entries e.Addr with
     | true => rw [if_pos rfl, if_neg a1]; rfl
     | false => rw [if_neg (by decide), if_neg a1]; simp
   ·rw [if_neg (fun h => q (hz.1 h)), decide_eq_false q]; rfl
 rw [if_neg k1, if_neg k1]
 by_cases k2 : e.Kind = 2
 ·rw [if_pos k2, if_pos k2, Option.bind_some]
  by_cases q : s.Pending = e.Addr
  ·rw [decide_eq_true q]; by_cases a4 : s.Act = 4 <;> simp [a4]
  ·rw [decide_eq_false q]; rfl
 rw [if_neg k2, if_neg k2]
 by_cases k3 : e.Kind = 3
 ·rw [if_pos k3, if_pos k3, Option.bind_some]
  by_cases q : s.Pending = e.Addr
  ·rw [decide_eq_true q]; rfl
  ·rw [decide_eq_false q]; rfl
 rw [if_neg k3, if_neg k3]
 by_cases k4 : e.Kind = 4
 ·rw [if_pos k4, if_pos k4]; rfl
 rw [if_neg k4, if_neg k4]
 by_cases k5 : e.Kind = 5
 ·rw [if_pos k5, if_pos k5]
  cases s.Open with
  | false => rfl
  | true =>
   dsimp only
   by_cases q : s.Pending = []
   ·rw [decide_eq_true (hz.2 q), decide_eq_true q]; rfl
   ·rw [decide_eq_false (fun h => q (hz.1 h)), decide_eq_false q]; rfl
 ·rw [if_neg k5, if_neg k5]
theorem Ez {l : List GEntry} {c : Nat} {x : GEntry} (h : l[c]? = some x) (A : GEntry) (f : GEntry → GEntry) : (((l.set c A)[c]?).bind fun y => some ((l.set c A).set c (f y))) = some (l.set c (f A)) := by
 have hl := (List.getElem?_eq_some_iff.1 h).1
 rw [List.getElem?_set_self (by simpa using hl), Option.bind_some, List.set_set]
theorem VM {l : List GEntry} {c : Nat} {a : List UInt8} (h : (l.map GEntry.Addr)[c]? = some a) : ∃ x, l[c]? = some x ∧ x.Addr = a := by
 rw [List.getElem?_map] at h
 obtain ⟨x, h1, h2⟩ := Option.map_eq_some_iff.1 h
 exact ⟨x, h1, h2⟩
theorem PJ {l : List GEntry} {a : List UInt8} {c : Nat} (hA : Asc (l.map GEntry.Addr)) (h : (l.map GEntry.Addr)[c]? = some a) : ZT l a 0 = (c : Int) := by
 have hb : yK l a = true := Yd.2 (List.mem_of_getElem? h)
 obtain ⟨k, h1, e, h2, h3⟩ := M4 l 0 hb
 rw [Nat.zero_add] at h1
 have hk : (l.map GEntry.Addr)[k]? = some a := by rw [List.getElem?_map, h2, Option.map_some, h3]
 have A := Z4.1 hA
 have : k = c := by
  rcases Nat.lt_trichotomy k c with h4 | h4 | h4
  ·have := A k c a a h4 hk h; rw [Zh] at this; cases this
  ·exact h4
  ·have := A c k a a h4 h hk; rw [Zh] at this; cases this
 rw [h1, this]
def tnE (ser : Int) (x : GEntry) : GEntry := .mk x.Addr x.Val x.Deps true ser
def nwE (a : List UInt8) (ser : Int) : GEntry := .mk a (.mk 5 0 [] [] []) [] true ser
theorem zc5 (a : List UInt8) (ser : Int) : esz (nwE a ser) = a.length := by
 show a.length + vsz (.mk 5 0 [] [] []) + bsz [] = a.length
 rw [show vsz (.mk 5 0 [] [] []) = 0 from rfl, show bsz [] = 0 from rfl]; rfl
theorem NH {l : List GEntry} {c : Nat} (hc : c <= l.length) (hl : l.length <= 1048576) (x : GEntry) : w6 (c : Int) l [x] = some (yE l c x) := by
 show (if 0 <= (c : Int) ∧ (c : Int) <= (l.length : Int) ∧ l.length <= 1048576 then some (yE l (c : Int).toNat x) else none) = _
 rw [if_pos ⟨by omega, by omega, hl⟩, Int.toNat_natCast]
theorem zaj {l : List GEntry} {c : Nat} (hc : c < l.length) (hl : l.length <= 1048576) : w7 (c : Int) (((c + 1 : Nat) : Int)) l = some (wU l c) := by
 unfold w7
 rw [if_pos ⟨by omega, by omega, by omega, hl⟩, Int.toNat_natCast]
theorem NI {l : List GEntry} {c : Nat} (hc : c <= l.length) (x y : GEntry) : (yE l c x).set c y = yE l c y := by
 apply List.ext_getElem?
 intro m
 rw [List.getElem?_set, W9 l c x hc, W9 l c y hc]
 have hlen : (yE l c x).length = l.length + 1 := by simp [yE]; omega
 by_cases h : c = m
 ·subst h
  rw [if_pos rfl, if_pos (by omega), if_neg (by omega), if_pos rfl]
 ·rw [if_neg h]
  by_cases h1 : m < c
  ·rw [if_pos h1, if_pos h1]
  ·rw [if_neg h1, if_neg h1, if_neg (Ne.symm h), if_neg (Ne.symm h)]
theorem NJ {l : List GEntry} {c : Nat} {x : GEntry} (h : l[c]? = some x) (f : GEntry → GEntry) : l.modify c f = l.set c (f x) := by
 apply List.ext_getElem?
 intro i
 rw [List.getElem?_modify, List.getElem?_set]
 have hl := (List.getElem?_eq_some_iff.1 h).1
 by_cases hi : c = i
 ·subst hi; rw [if_pos rfl, if_pos hl, h]; simp
 ·rw [if_neg hi]; simp [hi]
theorem MA {b : Bool} {ser : Int} {op : Bool} {act : Int} {a : List UInt8} {l : List GEntry} {c : Nat} (hl : l.length <= 1048576) (hal : a.length <= 2 ^ 38) (hA : Asc (l.map GEntry.Addr)) (hp : ku (l.map GEntry.Addr) a c) :
  qz b ser op act a l = some (.mk ser op a act (if a = [] then l else if yK l a = true then l.modify c (tnE ser) else if b = true then yE l c (nwE a ser) else l)) := by
 unfold qz
 by_cases ha : a = []
 ·rw [if_pos (Xj.2 ha), if_pos ha]
 rw [if_neg (fun h => ha (Xj.1 h)), if_neg ha]
 obtain ⟨c', hp', hc, hb⟩ := M9 (s := GState.mk ser op a act l) (a := a) (by show l.length <= _; omega) hA
 change ku (l.map GEntry.Addr) a c' at hp'
 change yK l a = true ↔ (l.map GEntry.Addr)[c']? = some a at hb
 change ye (GState.mk ser op a act l) a = some ((c' : Int), yK l a) at hc
 have hcc : c' = c := by
  have h1 := hp.1; have h2 := hp'.1
  rcases Nat.lt_trichotomy c' c with h | h | h
  ·have := (Z5 hp' (i := c') (List.getElem?_eq_getElem (by omega))).2 ((Z5 hp (i := c') (List.getElem?_eq_getElem (by omega))).1 h); omega
  ·exact h
  ·have := (Z5 hp (i := c) (List.getElem?_eq_getElem (by omega))).2 ((Z5 hp' (i := c) (List.getElem?_eq_getElem (by omega))).1 h); omega
 subst hcc
 have hcl : c' <= l.length := by have := hp.1; rwa [List.length_map] at this
 rw [hc, Option.bind_some]
 try dsimp only
 cases hh : yK l a with
 | true =>
  obtain ⟨x, hx, hxa⟩ := VM (hb.1 hh)
  try dsimp only
  rw [zd, Option.bind_some, hx, Option.bind_some, if_pos rfl]
  have := Ez hx (GEntry.mk x.Addr x.Val x.Deps true x.Turned) (fun x5 => GEntry.mk x5.Addr x5.Val x5.Deps x5.Taint ser)
  have hl2 := (List.getElem?_eq_some_iff.1 hx).1
  rw [List.getElem?_set_self (by simpa using hl2), Option.bind_some, List.set_set, NJ hx]
  rfl
 | false =>
  rw [if_neg (by decide)]
  try dsimp only
  cases b with
  | false => rfl
  | true =>
   try dsimp only
   unfold zU
   rw [if_pos (w5 (by decide) (by omega)), Option.bind_some, NH hcl hl, Option.bind_some, zd, Option.bind_some]
   have hg : ∀ x, (yE l c' x)[c']? = some x := fun x => by rw [W9 l c' x hcl, if_neg (by omega), if_pos rfl]
   rw [hg, Option.bind_some, NI hcl, hg, Option.bind_some, NI hcl, if_pos rfl]
   rfl
theorem MB {l : List GEntry} {c : Nat} {ser : Int} : (l.modify c (tnE ser)).map GEntry.Addr = l.map GEntry.Addr := by
 apply List.ext_getElem?
 intro i
 rw [List.getElem?_map, List.getElem?_map, List.getElem?_modify]
 split <;> cases l[i]? <;> rfl
theorem Tk {ser : Int} : ∀ (l : List GEntry) (c : Nat), zY (l.modify c (tnE ser)) = zY l
 | [], c => by simp [zY]
 | x :: l, 0 => by simp only [List.modify_zero_cons, zY]; rfl
 | x :: l, c + 1 => by simp only [List.modify_succ_cons, zY, Tk l c]
theorem zak {s : GState} {e : GEvent} (hI : stI s) (he : evB e = true) (hm : YL s e = true) (hz : ssz s + qm e <= 2 ^ 36) (hl : s.Entries.length <= 1048576) :
  ∃ s', vj e s = some s' ∧ wE s e = some (s', true) ∧ stI s' ∧ ssz s' <= ssz s + qm e + 1 ∧ s'.Entries.length <= s.Entries.length + 1 := by
 have hI0 := hI
 obtain ⟨i1, i2, i3, i4⟩ := hI
 have hser : s.Serial < 1000000 := by
  rcases Int.lt_or_le s.Serial 1000000 with h | h
  ·exact h
  ·unfold YL at hm; rw [if_pos (by omega)] at hm; cases hm
 have hw : w64 (s.Serial + 1) = s.Serial + 1 := yj (by omega) (by omega)
 have hcp : xh s = some s := if_pos (by omega)
 have hft := On (e := e) hI0 (by omega)
 rw [hm] at hft
 unfold ssz qm at *
 have hroom : ∀ n, n <= 1048577 → yr 152 n := fun n hn => vh (by omega)
 unfold vj wE
 rw [hcp, Option.bind_some, hft, Option.bind_some, hw]
 dsimp only
 obtain ⟨c, hp, hc, hb⟩ := M9 (s := GState.mk (s.Serial + 1) s.Open s.Pending s.Act s.Entries) (a := e.Addr) (by show s.Entries.length <= _; omega) i3
 change ku (s.Entries.map GEntry.Addr) e.Addr c at hp
 change yK s.Entries e.Addr = true ↔ (s.Entries.map GEntry.Addr)[c]? = some e.Addr at hb
 change ye (GState.mk (s.Serial + 1) s.Open s.Pending s.Act s.Entries) e.Addr = some ((c : Int), yK s.Entries e.Addr) at hc
 have hcl : c <= s.Entries.length := by have := hp.1; rwa [List.length_map] at this
 rw [hc, Option.bind_some]
 dsimp only
 unfold xW
 rw [if_pos (by show s.Entries.length <= _; omega), Option.bind_some, show (GState.mk (s.Serial + 1) s.Open s.Pending s.Act s.Entries).Entries = s.Entries from rfl]
 unfold YL at hm
 rw [if_neg (by omega)] at hm
 have hdone : ∀ (l : List GEntry) (o : Bool), Asc (l.map GEntry.Addr) → stI (GState.mk (s.Serial + 1) o [] 0 l) := fun l o h => ⟨by show (0 : Int) <= s.Serial + 1; omega, by show s.Serial + 1 <= 1000000; omega, h, fun h => absurd rfl h⟩
 by_cases k0 : e.Kind = 0
 ·rw [if_pos k0, if_pos k0]
  refine ⟨_, rfl, rfl, ⟨by show (0 : Int) <= s.Serial + 1; omega, by show s.Serial + 1 <= 1000000; omega, i3, fun h => ⟨rfl, (i4 h).2⟩⟩, by (try simp only [jn, jo]); omega, by (try simp only [jn, jo]); omega⟩
 rw [if_neg k0, if_neg k0]
 rw [if_neg k0] at hm
 by_cases k1 : e.Kind = 1
 ·rw [if_pos k1, if_pos k1]
  rw [if_pos k1] at hm
  simp only [Bool.and_eq_true, decide_eq_true_eq, beq_iff_eq] at hm
  unfold zU
  rw [if_pos (w5 (by decide) (by omega)), Option.bind_some]
  refine ⟨_, rfl, rfl, ⟨by show (0 : Int) <= s.Serial + 1; omega, by show s.Serial + 1 <= 1000000; omega, i3, fun h => ⟨hm.1.1.1, hm.1.2⟩⟩, by (try simp only [jn, jo]); omega, by (try simp only [jn, jo]); omega⟩
 rw [if_neg k1, if_neg k1]
 rw [if_neg k1] at hm
 by_cases k2 : e.Kind = 2
 ·rw [if_pos k2, if_pos k2]
  rw [if_pos k2] at hm
  simp only [Bool.and_eq_true, decide_eq_true_eq] at hm
  unfold zU xY yO ji
  rw [if_pos (w5 (by decide) (by omega)), Option.bind_some, if_pos (by omega), Option.bind_some, if_pos (by omega), Option.bind_some, if_pos (by omega), Option.bind_some]
  have hpe : vl (GEntry.mk e.Addr e.Val e.Deps false (s.Serial + 1)) false s.Entries = if (s.Entries.map GEntry.Addr)[c]? = some e.Addr then s.Entries.set c (GEntry.mk e.Addr e.Val e.Deps false (s.Serial + 1)) else yE s.Entries c (GEntry.mk e.Addr e.Val e.Deps false (s.Serial + 1)) := PI (e := GEntry.mk e.Addr e.Val e.Deps false (s.Serial + 1)) i3 hp
  rw [hpe]
  cases hh : yK s.Entries e.Addr with
  | true =>
   have hk := hb.1 hh
   obtain ⟨x, hx, hxa⟩ := VM hk
   dsimp only
   rw [zd, Option.bind_some, hx, Option.bind_some, if_pos hk]
   refine ⟨_, rfl, rfl, hdone _ _ (by rw [M5 (by exact hk)]; exact i3), ?_, by (try simp only [jn, jo]); rw [List.length_set]; omega⟩
   have h1 := M8 s.Entries c (GEntry.mk e.Addr e.Val e.Deps false (s.Serial + 1))
   have h2 : esz (GEntry.mk e.Addr e.Val e.Deps false (s.Serial + 1)) = e.Addr.length + vsz e.Val + bsz e.Deps := rfl
   try simp only [jn, jo]
   try simp only [List.length_nil]
   omega
  | false =>
   have hk : ¬ (s.Entries.map GEntry.Addr)[c]? = some e.Addr := fun h => by rw [hb.2 h] at hh; cases hh
   dsimp only
   rw [NH hcl hl, Option.bind_some, if_neg hk]
   refine ⟨_, rfl, rfl, hdone _ _ (by rw [V4]; exact NF i3 hp hk), ?_, by (try simp only [jn, jo]); simp [yE]; omega⟩
   have h1 := M7 s.Entries c (GEntry.mk e.Addr e.Val e.Deps false (s.Serial + 1))
   have h2 : esz (GEntry.mk e.Addr e.Val e.Deps false (s.Serial + 1)) = e.Addr.length + vsz e.Val + bsz e.Deps := rfl
   try simp only [jn, jo]
   try simp only [List.length_nil]
   omega
 rw [if_neg k2, if_neg k2]
 rw [if_neg k2] at hm
 by_cases k3 : e.Kind = 3
 ·rw [if_pos k3, if_pos k3]
  rw [if_pos k3] at hm
  simp only [Bool.and_eq_true, decide_eq_true_eq] at hm
  have hne := UA he (.inr (.inr (.inl k3)))
  have hh : yK s.Entries e.Addr = true := by
   have := (i4 (by rw [hm.1]; exact hne)).2
   rw [<- hm.1, this, decide_eq_true]; omega
  have hk := hb.1 hh
  have hcl2 : c < s.Entries.length := by have := (List.getElem?_eq_some_iff.1 hk).1; rwa [List.length_map] at this
  rw [hm.1, PJ i3 hk, zd, Option.bind_some, zG (by omega), zd]
  unfold wT
  rw [show vA none (some c) s.Entries.length = some (0, c) by unfold vA; simp; omega, Option.map_some, Option.bind_some]
  rw [if_pos (hroom _ (by simp; omega)), Option.bind_some, show vA (some (c + 1)) none s.Entries.length = some (c + 1, s.Entries.length) by unfold vA; simp; omega, Option.map_some, Option.bind_some]
  rw [if_pos (hroom _ (by simp; omega)), zaj hcl2 hl, Option.bind_some]
  refine ⟨_, rfl, ?_, hdone _ _ ?_, ?_, ?_⟩
  ·simp [wU]
  ·have := zai i3 (c := c) (by rwa [List.length_map])
   rw [<- M6] at this
   simpa [wU] using this
  ·have := DO s.Entries c
   have h2 : ∀ L : List GEntry, L = wU s.Entries c → zY L <= zY s.Entries := fun L h => by rw [h]; exact this
   have := h2 (List.drop 0 (List.take c s.Entries) ++ List.drop (c + 1) (List.take s.Entries.length s.Entries)) (by simp [wU])
   try simp only [jn, jo]
   try simp only [List.length_nil]
   omega
  ·(try simp only [jn, jo]); simp; omega
 rw [if_neg k3, if_neg k3]
 rw [if_neg k3] at hm
 obtain ⟨c2, hp2⟩ := ku.of i3 s.Pending
 have hcl2 : c2 <= s.Entries.length := by have := hp2.1; rwa [List.length_map] at this
 have hmem := ku.mem i3 hp2
 have hsp : ∀ (o : Bool) (x : GEntry), s.Entries[c2]? = some x → ((zv (c2 : Int)).bind fun i10 => (s.Entries[i10]?).bind fun x11 => ((s.Entries.set i10 (GEntry.mk x11.Addr x11.Val x11.Deps true x11.Turned))[i10]?).bind fun x12 => some (GState.mk (s.Serial + 1) o [] 0 ((s.Entries.set i10 (GEntry.mk x11.Addr x11.Val x11.Deps true x11.Turned)).set i10 (GEntry.mk x12.Addr x12.Val x12.Deps x12.Taint (s.Serial + 1))))) =
   some (GState.mk (s.Serial + 1) o [] 0 (s.Entries.modify c2 (tnE (s.Serial + 1)))) := fun o x hx => by
  have hl2 := (List.getElem?_eq_some_iff.1 hx).1
  rw [zd, Option.bind_some, hx, Option.bind_some, List.getElem?_set_self (by simpa using hl2), Option.bind_some, List.set_set, NJ hx]
  rfl
 by_cases k4 : e.Kind = 4
 ·rw [if_pos k4, if_pos k4]
  rw [if_pos k4] at hm
  simp only [decide_eq_true_eq] at hm
  have hne := UA he (.inr (.inr (.inr k4)))
  have hpn : s.Pending ≠ [] := by rw [hm]; exact hne
  rw [MA hl (by omega) i3 hp2, Option.bind_some, if_neg hpn, if_neg (fun h => hpn (Xj.1 h)), (i4 hpn).1]
  cases hh : yK s.Entries s.Pending with
  | true =>
   have hk := hmem.2 (Yd.1 hh)
   obtain ⟨x, hx, _⟩ := VM hk
   rw [PJ i3 hk, if_pos (by omega), if_pos (hroom _ (by omega)), hsp true x hx]
   refine ⟨_, rfl, rfl, hdone _ _ (by rw [MB]; exact i3), ?_, by (try simp only [jn, jo]); simp⟩
   try simp only [jn, jo]
   try simp only [List.length_nil]
   rw [Tk]
   omega
  | false =>
   rw [Jy hh, if_neg (by decide)]
   refine ⟨_, rfl, rfl, hdone _ _ i3, ?_, by (try simp only [jn, jo]); simp⟩
   try simp only [jn, jo]
   try simp only [Bool.false_eq_true, if_false]
   try simp only [List.length_nil]
   omega
 rw [if_neg k4, if_neg k4]
 rw [if_neg k4] at hm
 by_cases k6 : e.Kind = 6
 ·rw [if_pos k6, if_pos k6]
  rw [MA hl (by omega) i3 hp2, Option.bind_some]
  by_cases hpn : s.Pending = []
  ·rw [if_pos hpn, if_pos (Xj.2 hpn)]
   refine ⟨_, rfl, rfl, hdone _ _ i3, ?_, by (try simp only [jn, jo]); omega⟩
   try simp only [jn, jo]
   try simp only [List.length_nil]
   omega
  rw [if_neg hpn, if_neg (fun h => hpn (Xj.1 h))]
  cases hh : yK s.Entries s.Pending with
  | true =>
   have hk := hmem.2 (Yd.1 hh)
   obtain ⟨x, hx, _⟩ := VM hk
   rw [PJ i3 hk, if_pos (by omega), if_pos (hroom _ (by omega)), hsp false x hx]
   refine ⟨_, rfl, rfl, hdone _ _ (by rw [MB]; exact i3), ?_, by (try simp only [jn, jo]); simp⟩
   try simp only [jn, jo]
   try simp only [List.length_nil]
   rw [Tk]
   omega
  | false =>
   have hk : ¬ (s.Entries.map GEntry.Addr)[c2]? = some s.Pending := fun h => by rw [Yd.2 (hmem.1 h)] at hh; cases hh
   unfold ji
   rw [Jy hh, if_neg (by decide), if_pos (by omega), Option.bind_some]
   rw [show vl (GEntry.mk s.Pending (GValue.mk 5 0 [] [] []) [] true (s.Serial + 1)) false s.Entries = yE s.Entries c2 (nwE s.Pending (s.Serial + 1)) by
    have : vl (nwE s.Pending (s.Serial + 1)) false s.Entries = if (s.Entries.map GEntry.Addr)[c2]? = some s.Pending then s.Entries.set c2 (nwE s.Pending (s.Serial + 1)) else yE s.Entries c2 (nwE s.Pending (s.Serial + 1)) := PI (e := nwE s.Pending (s.Serial + 1)) i3 hp2
    rw [if_neg hk] at this
    exact this]
   refine ⟨_, rfl, rfl, hdone _ _ (by rw [V4]; exact NF i3 hp2 hk), ?_, by (try simp only [jn, jo]); simp [yE]; omega⟩
   have h1 := M7 s.Entries c2 (nwE s.Pending (s.Serial + 1))
   rw [zc5] at h1
   try simp only [jn, jo]
   try simp only [List.length_nil]
   omega
 rw [if_neg k6, if_neg k6]
 by_cases k5 : e.Kind = 5
 ·rw [if_pos k5, if_pos k5]
  refine ⟨_, rfl, rfl, hdone _ _ i3, ?_, by (try simp only [jn, jo]); omega⟩
  try simp only [jn, jo]
  try simp only [List.length_nil]
  omega
 ·exfalso
  unfold evB at he
  rw [if_neg k2, if_neg (by omega), if_neg k1, if_neg (by omega), Bool.and_false] at he
  cases he
def nxS (e : GEvent) (s : GState) : GState := (vj e s).getD s
def jx : GState → List GEvent → GState × Bool
 | s, [] => (s, true)
 | s, e :: l => bif YL s e then jx (nxS e s) l else (s, false)
def QA : GState → List GEvent → List GState
 | _, [] => []
 | s, e :: l => nxS e s :: QA (nxS e s) l
def okS : GState → List GEvent → Bool
 | _, [] => true
 | s, e :: l => evB e && (YL s e && okS (nxS e s) l)
theorem GR {s : GState} {e : GEvent} (hI : stI s) (he : evB e = true) (hm : YL s e = true) (hz : ssz s + qm e <= 2 ^ 20) : vj e s = some (nxS e s) ∧ wE s e = some (nxS e s, true) ∧ stI (nxS e s) ∧ ssz (nxS e s) <= ssz s + qm e + 1 := by
 have hlen := ql s.Entries
 obtain ⟨s', h1, h2, h3, h4, _⟩ := zak hI he hm (by omega) (by unfold ssz at hz; omega)
 have : nxS e s = s' := by unfold nxS; rw [h1]; rfl
 rw [this]
 exact ⟨h1, h2, h3, h4⟩
theorem doN {s : GState} {e : GEvent} (hI : stI s) (hm : YL s e = false) (hz : ssz s <= 2 ^ 20) : wE s e = some (s, false) := by
 have hlen := ql s.Entries
 have hft := On (e := e) hI (by unfold ssz at hz; omega)
 rw [hm] at hft
 unfold wE
 rw [show xh s = some s from if_pos (by omega), Option.bind_some, hft, Option.bind_some]
theorem NK : ∀ {l : List GEvent} {s : GState}, (∀ e ∈ l, evB e = true) → okS s l = (jx s l).2
 | [], s, _ => rfl
 | e :: l, s, h => by
  rw [okS, jx, h e List.mem_cons_self, Bool.true_and, NK fun x hx => h x (List.mem_cons_of_mem _ hx)]
  cases YL s e <;> rfl
theorem MC : ∀ {l : List GEvent} {s : GState}, okS s l = true → ∀ e ∈ l, evB e = true
 | [], _, _ => by simp
 | e :: l, s, h => by
  rw [okS, Bool.and_eq_true, Bool.and_eq_true] at h
  intro x hx
  rcases List.mem_cons.1 hx with rfl | hx
  ·exact h.1
  ·exact MC h.2.2 x hx
theorem zc6 {m : Nat} (hm : m <= 2 ^ 39) : yr 72 m := w5 (by decide) (by omega)
theorem Oo {h : GHistory} {k : Int} {v3 : Int} {v4 : Bool} {v5 : Int} {v7 : List UInt8} {v8 : List GEntry} : ∀ (l p r : List GEvent) (s : GState) (m : Nat), h.Events = p ++ l ++ r → k = ((p.length + l.length : Nat) : Int) → l.length < m → (∀ e ∈ l, evB e = true) → stI s → ssz s + yo l <= 2 ^ 20 → p.length + l.length <= 2 ^ 40 →
  ∃ z, qd k h v3 v4 v5 v7 v8 m (p.length : Int) s = some (bif (jx s l).2 then .inr (z, (jx s l).1) else .inl (false, (jx s l).1)) := by
 intro l
 induction l with
 | nil =>
  intro p r s m _ hk hm _ _ _ _
  obtain ⟨m, rfl, _⟩ := zg hm
  exact ⟨_, by rw [qd, hk, if_neg (by simp)]; rfl⟩
 | cons e l ih =>
  intro p r s m he hk hm hev hI hz hp
  obtain ⟨m, rfl, hm'⟩ := zg hm
  simp only [List.length_cons] at hk hm' hp
  simp only [yo] at hz
  have hlen := ql s.Entries
  have hg : h.Events[p.length]? = some e := by rw [he, List.append_assoc]; exact zM p e (l ++ r)
  have hee := hev e List.mem_cons_self
  rw [qd, hk, if_pos (by omega), zd, Option.bind_some, hg, Option.bind_some, DP hI hee (by unfold ssz at hz; omega), Option.bind_some, jx]
  cases hmy : YL s e with
  | false => exact ⟨0, rfl⟩
  | true =>
   obtain ⟨h1, _, h3, h4⟩ := GR hI hee hmy (by omega)
   obtain ⟨z, hzz⟩ := ih (p ++ [e]) r (nxS e s) m (by rw [he]; simp) (by rw [hk]; simp; omega) (by omega) (fun x hx => hev x (List.mem_cons_of_mem _ hx)) h3 (by omega) (by simp; omega)
   refine ⟨z, ?_⟩
   dsimp only
   rw [h1, Option.bind_some, yJ p e (by omega), <- hk, hzz]
   rfl
theorem DQ {h : GHistory} (hz : yo h.Events <= 2 ^ 20) : ∀ (l p : List GEvent) (m : Nat), h.Events = p ++ l → l.length < m → ∃ z, qe h m (p.length : Int) = some (bif l.all evB then .inr z else .inl false) := by
 have hl := Zj h.Events
 intro l
 induction l with
 | nil =>
  intro p m he hm
  obtain ⟨m, rfl, _⟩ := zg hm
  exact ⟨_, by rw [qe, he, if_neg (by simp)]; rfl⟩
 | cons e l ih =>
  intro p m he hm
  obtain ⟨m, rfl, hm'⟩ := zg hm
  have hlen : h.Events.length = p.length + (l.length + 1) := by rw [he]; simp
  have hx : 1 + qm e <= yo h.Events := V7 (by rw [he]; simp)
  obtain ⟨z, hzz⟩ := ih (p ++ [e]) m (by rw [he]; simp) (by simp only [List.length_cons] at hm'; omega)
  rw [qe, if_pos (by omega), zd, Option.bind_some, show h.Events[p.length]? = some e by rw [he]; exact zM p e l, Option.bind_some, Ev (by omega), Option.bind_some, List.all_cons]
  cases evB e with
  | false => exact ⟨0, rfl⟩
  | true =>
   refine ⟨z, ?_⟩
   dsimp only
   rw [yJ p e (by omega), hzz, Bool.true_and]
def hsz (h : GHistory) : Nat := ssz h.Base + yo h.Events
def hOk (h : GHistory) : Bool := stB h.Base && (decide (h.Events.length <= 300) && (decide (0 <= h.Safe ∧ h.Safe <= h.Events.length) && okS h.Base h.Events))
theorem DR {h : GHistory} (hz : hsz h <= 2 ^ 20) : kY h = some (hOk h) := by
 unfold hsz at hz
 have hl := Zj h.Events
 unfold kY ZU hOk
 rw [Ec (by omega), Option.bind_some]
 cases hs : stB h.Base with
 | false => rfl
 | true =>
  dsimp only
  by_cases c1 : 300 < (h.Events.length : Int)
  ·rw [if_pos c1, decide_eq_false (p := h.Events.length <= 300) (by omega)]; rfl
  rw [if_neg c1, decide_eq_true (p := h.Events.length <= 300) (by omega)]
  by_cases c2 : h.Safe < 0
  ·rw [if_pos c2, decide_eq_false (p := 0 <= h.Safe ∧ h.Safe <= h.Events.length) (by omega)]; rfl
  rw [if_neg c2]
  by_cases c3 : (h.Events.length : Int) < h.Safe
  ·rw [if_pos c3, decide_eq_false (p := 0 <= h.Safe ∧ h.Safe <= h.Events.length) (by omega)]; rfl
  rw [if_neg c3, decide_eq_true (p := 0 <= h.Safe ∧ h.Safe <= h.Events.length) (by omega)]
  obtain ⟨z, hzz⟩ := DQ (h := h) (by omega) h.Events [] (h.Events.length + 5) rfl (by omega)
  simp only [List.length_nil, Int.natCast_zero] at hzz
  rw [hzz, Option.bind_some]
  cases hall : h.Events.all evB with
  | false =>
   have : okS h.Base h.Events = false := by
    cases hk : okS h.Base h.Events with
    | false => rfl
    | true => rw [List.all_eq_true.2 (MC hk)] at hall; cases hall
   rw [this]; rfl
  | true =>
   have hev := List.all_eq_true.1 hall
   simp only [cond_true]
   unfold qK kX
   obtain ⟨z2, h2⟩ := Oo (h := h) (k := (h.Events.length : Int)) (v3 := 0) (v4 := false) (v5 := 0) (v7 := []) (v8 := []) h.Events [] [] h.Base (h.Events.length + 5) (by simp) (by simp) (by omega) hev (U9 hs) hz (by simp; omega)
   simp only [List.length_nil, Int.natCast_zero] at h2
   rw [h2, NK hev, Option.bind_some]
   cases (jx h.Base h.Events).2 <;> rfl
theorem Nt {evs : List GEvent} {n : Int} : ∀ (l p : List GEvent) (q : List GState) (s : GState) (m : Nat), evs = p ++ l → n = (evs.length : Int) → l.length < m → q.length = p.length → stI s → ssz s + yo l <= 2 ^ 20 → evs.length <= 2 ^ 30 →
  ∃ z, yG evs n m (p.length : Int) (q ++ [s]) = some (bif okS s l then .inr (z, q ++ [s] ++ QA s l) else .inl (false, [])) := by
 intro l
 induction l with
 | nil =>
  intro p q s m he hn hm _ _ _ _
  obtain ⟨m, rfl, _⟩ := zg hm
  exact ⟨_, by rw [yG, hn, he, if_neg (by simp)]; simp [okS, QA]; rfl⟩
 | cons e l ih =>
  intro p q s m he hn hm hq hI hz hb
  obtain ⟨m, rfl, hm'⟩ := zg hm
  simp only [List.length_cons] at hm'
  simp only [yo] at hz
  have hg : evs[p.length]? = some e := by rw [he]; exact zM p e l
  have hlen : evs.length = p.length + (l.length + 1) := by rw [he]; simp
  have hgs : (q ++ [s])[p.length]? = some s := by rw [<- hq]; exact zM q s []
  rw [yG, hn, if_pos (by omega), zd, Option.bind_some, hg, Option.bind_some, Eu (by omega), Option.bind_some, okS]
  cases hev : evB e with
  | false => exact ⟨0, rfl⟩
  | true =>
   have heta : GState.mk s.Serial s.Open s.Pending s.Act s.Entries = s := by cases s; rfl
   dsimp only
   rw [hgs, Option.bind_some]
   cases hmy : YL s e with
   | false =>
    rw [doN hI hmy (by omega), Option.bind_some]
    try dsimp only
    rw [JH hgs, hgs, Option.bind_some]
    exact ⟨0, rfl⟩
   | true =>
    obtain ⟨_, h2, h3, h4⟩ := GR hI hev hmy (by omega)
    obtain ⟨z, hzz⟩ := ih (p ++ [e]) (q ++ [s]) (nxS e s) m (by rw [he]; simp) hn (by omega) (by simp [hq]) h3 (by omega) hb
    rw [h2, Option.bind_some]
    try dsimp only
    rw [JH hgs, hgs, Option.bind_some]
    try dsimp only
    rw [heta, JH hgs, if_pos (zc6 (by simp; omega)), yJ p e (by omega), <- hn, hzz]
    refine ⟨z, ?_⟩
    simp only [Bool.true_and, QA]
    cases okS (nxS e s) l <;> simp
theorem E0 {h : GHistory} (hz : hsz h <= 2 ^ 20) : wt h = some (bif hOk h then (h.Base :: QA h.Base h.Events, true) else ([], false)) := by
 unfold hsz at hz
 have hl := Zj h.Events
 unfold wt qF hOk
 rw [Eo (by omega), Option.bind_some]
 cases hs : stB h.Base with
 | false => rfl
 | true =>
  dsimp only
  by_cases c1 : 300 < (h.Events.length : Int)
  ·rw [if_pos c1, decide_eq_false (p := h.Events.length <= 300) (by omega)]; rfl
  rw [if_neg c1, decide_eq_true (p := h.Events.length <= 300) (by omega)]
  have hin : y4 h.Safe 0 (h.Events.length : Int) = some (decide (0 <= h.Safe ∧ h.Safe <= h.Events.length)) := by
   unfold y4
   by_cases c2 : 0 <= h.Safe
   ·rw [if_pos c2]; simp [c2]
   ·rw [if_neg c2]; simp [c2]
  rw [hin, Option.bind_some]
  by_cases c2 : 0 <= h.Safe ∧ h.Safe <= h.Events.length
  ·rw [decide_eq_true c2]
   dsimp only
   rw [show xh h.Base = some h.Base from if_pos (by omega), Option.bind_some]
   obtain ⟨z, hzz⟩ := Nt (evs := h.Events) (n := (h.Events.length : Int)) h.Events [] [] h.Base (h.Events.length + 5) rfl rfl (by omega) rfl (U9 hs) hz (by omega)
   simp only [List.length_nil, Int.natCast_zero, List.nil_append] at hzz
   rw [hzz, Option.bind_some]
   cases okS h.Base h.Events <;> simp
  ·rw [decide_eq_false c2]; rfl
def MdH (h : GHistory) : Prop := MdS h.Base ∧ h.Events.length <= 2 ^ 63 - 1 ∧ Wj h.Events
theorem zc7 {h : GHistory} {n : Int} (hm : MdH h) (h0 : 0 <= n) (h1 : n <= 2 ^ 20) : kK h n = some (yS (hsz h) n) := by
 unfold kK
 rw [zc3 hm.1 h0 h1, Option.bind_some]
 unfold yS hsz
 by_cases c1 : (ssz h.Base : Int) <= n
 ·rw [if_pos c1, if_neg (by omega)]
  unfold j7
  rw [if_pos ⟨hm.2.1, hm.2.2, by omega, by omega⟩, Option.bind_some]
  unfold yS
  by_cases c2 : (yo h.Events : Int) <= n - ssz h.Base
  ·rw [if_pos c2, if_neg (by omega), if_pos (by omega)]; congr 1; omega
  ·rw [if_neg c2, if_pos (by omega), if_neg (by omega)]
 ·rw [if_neg c1, if_pos (by omega), if_neg (by omega)]
theorem zc8 {h : GHistory} (hz : hsz h <= 2 ^ 20) : kL h = some h := by
 unfold hsz at hz
 unfold kL jA
 rw [zc4 (by omega), Option.bind_some, if_pos (by omega), Option.bind_some]
 cases h; rfl
theorem zc9 {h : GHistory} (hz : hsz h <= 2 ^ 39) : jl h h = some true := by
 unfold hsz at hz
 unfold jl
 rw [Ew (by omega), Option.bind_some]
 dsimp only
 rw [Ns (by omega), Option.bind_some]
 dsimp only
 rw [if_pos rfl]
theorem E3 {h : GHistory} (hk : hOk h = true) : stB h.Base = true ∧ h.Events.length <= 300 ∧ (0 <= h.Safe ∧ h.Safe <= h.Events.length) ∧ okS h.Base h.Events = true := by
 unfold hOk at hk
 simp only [Bool.and_eq_true, decide_eq_true_eq] at hk
 exact ⟨hk.1, hk.2.1, hk.2.2.1, hk.2.2.2⟩
theorem E4 : ∀ {l : List GEvent} {s : GState}, stI s → ssz s + yo l <= 2 ^ 20 → okS s l = true → stI (jx s l).1 ∧ ssz (jx s l).1 <= ssz s + yo l ∧ (jx s l).2 = true ∧ (s :: QA s l)[l.length]? = some (jx s l).1
 | [], s, hI, hz, _ => ⟨hI, by simp [jx, yo], rfl, rfl⟩
 | e :: l, s, hI, hz, hk => by
  rw [okS, Bool.and_eq_true, Bool.and_eq_true] at hk
  simp only [yo] at hz ⊢
  obtain ⟨_, _, h3, h4⟩ := GR hI hk.1 hk.2.1 (by omega)
  obtain ⟨g1, g2, g3, g4⟩ := E4 (l := l) (s := nxS e s) h3 (by omega) hk.2.2
  rw [jx, hk.2.1]
  exact ⟨g1, by simp only [cond_true]; omega, g3, by simp only [QA, List.length_cons, List.getElem?_cons_succ, cond_true]; exact g4⟩
theorem Oq : ∀ (a b : List GEvent), yo (a ++ b) = yo a + yo b
 | [], b => by simp [yo]
 | x :: a, b => by simp only [List.cons_append, yo, Oq a b]; omega
theorem E5 : ∀ {l : List GEvent} {s : GState} {n : Nat}, okS s l = true → n <= l.length → okS s (l.take n) = true ∧ (s :: QA s l)[n]? = some (jx s (l.take n)).1
 | l, s, 0, _, _ => ⟨rfl, by simp [jx]⟩
 | [], s, n + 1, _, hn => by simp at hn
 | e :: l, s, n + 1, hk, hn => by
  rw [okS, Bool.and_eq_true, Bool.and_eq_true] at hk
  obtain ⟨h1, h2⟩ := E5 (l := l) (s := nxS e s) (n := n) hk.2.2 (by simpa using hn)
  rw [List.take_succ_cons, okS, jx, hk.1, hk.2.1, h1]
  exact ⟨rfl, by simp only [QA, List.getElem?_cons_succ, cond_true]; exact h2⟩
theorem GS (l : List GEvent) (n : Nat) : yo (l.take n) + yo (l.drop n) = yo l := by
 rw [<- Oq, List.take_append_drop]
theorem zal {h : GHistory} {n : Nat} (hz : hsz h <= 2 ^ 20) (hk : hOk h = true) (hn : n <= h.Events.length) : qK h ((n : Nat) : Int) = some ((jx h.Base (h.Events.take n)).1, true) ∧ (h.Base :: QA h.Base h.Events)[n]? = some (jx h.Base (h.Events.take n)).1 ∧
  ssz (jx h.Base (h.Events.take n)).1 + yo (h.Events.drop n) <= hsz h := by
 unfold hsz at hz ⊢
 have hl := Zj h.Events
 have hd := GS h.Events n
 obtain ⟨k1, _, _, k4⟩ := E3 hk
 obtain ⟨v1, v2⟩ := E5 k4 hn
 have hz2 : ssz h.Base + yo (h.Events.take n) <= 2 ^ 20 := by omega
 obtain ⟨r1, r2, r3, _⟩ := E4 (U9 k1) hz2 v1
 refine ⟨?_, v2, by omega⟩
 have hln : (h.Events.take n).length = n := by simp [hn]
 unfold qK kX
 obtain ⟨z2, h2⟩ := Oo (h := h) (k := ((n : Nat) : Int)) (v3 := 0) (v4 := false) (v5 := 0) (v7 := []) (v8 := []) (h.Events.take n) [] (h.Events.drop n) h.Base (h.Events.length + 5) (by simp) (by rw [hln]; simp) (by omega) (MC v1) (U9 k1) hz2 (by rw [hln]; simp; omega)
 simp only [List.length_nil, Int.natCast_zero] at h2
 rw [h2, r3]
 rfl
theorem zda (k : Int) (e : GEntry) : cE (mE k e) = cE e := by
 unfold cE mE
 simp only [GEntry.Addr, GEntry.Val, GEntry.Deps, ZP, GU, V5]
theorem zdn (k : Int) (e : GEntry) : esz (mE k e) = esz e := by
 unfold esz mE
 simp only [GEntry.Addr, GEntry.Val, GEntry.Deps, ZP, Ao, NN]
theorem zam (k : Int) (e : GEntry) : mE k (mE k e) = mE k e := by
 obtain ⟨a, v, d, t, u⟩ := e
 unfold mE
 simp only [GEntry.Addr, GEntry.Val, GEntry.Deps, ZP, GU, V5, VN, NO, MK]
 rfl
theorem MD : ∀ (k : Int) (l : List GEntry), mEs k (mEs k l) = mEs k l
 | _, [] => rfl
 | k, e :: l => by simp only [mEs, zam, zda, MD]
theorem Ak : ∀ (k : Int) (l : List GEntry), cEs (mEs k l) = cEs l
 | _, [] => rfl
 | k, e :: l => by simp only [mEs, cEs, zda, Ak]
theorem E6 : ∀ (k : Int) (l : List GEntry), zY (mEs k l) = zY l
 | _, [] => rfl
 | k, e :: l => by simp only [mEs, zY, zdn, E6]
theorem E7 {s : GState} (h : ssz s <= 2 ^ 30) : ∃ (k : Int) (a : List UInt8) (b : List GEntry), xZ s.Serial s.Open s.Act 1 s.Pending s.Entries = some (k, a, b) ∧ 0 <= k ∧ jm (GState.mk s.Serial s.Open a s.Act b) 1 = some k := by
 unfold ssz at h
 have := MP s.Entries
 unfold xZ
 rw [q4 (by omega) (by omega), Option.bind_some]
 dsimp only
 rw [Kd (by omega) (by omega), Option.bind_some]
 refine ⟨_, _, _, rfl, by omega, ?_⟩
 unfold jm
 simp only [jn, jo]
 rw [Zc (VN _ _) (by decide) (by rw [ZP]; omega), Option.bind_some, ZP, if_neg (by omega), OW (MD _ _) (by omega) (by rw [E6]; omega), Option.bind_some, Ak, if_neg (by omega)]
theorem DS {h : GHistory} (hz : hsz h <= 2 ^ 30) : ∃ (k : Int) (a : List UInt8) (b : List GEntry) (c : List GEvent), q6 h.Base.Serial h.Base.Open h.Base.Act h.Safe 1 h.Base.Pending h.Base.Entries h.Events = some (k, a, b, c) ∧ 0 <= k ∧ k <= 1 + 4 * hsz h := by
 unfold hsz ssz at hz ⊢
 have := MP h.Base.Entries
 have := NT h.Events
 unfold q6 xZ
 rw [q4 (by omega) (by omega), Option.bind_some]
 dsimp only
 rw [Kd (by omega) (by omega), Option.bind_some]
 dsimp only
 rw [Option.bind_some]
 dsimp only
 rw [OU (by omega) (by omega), Option.bind_some]
 exact ⟨_, _, _, _, rfl, by omega, by omega⟩
theorem zdb (a b c : Int) : y4 a b c = some (decide (b <= a ∧ a <= c)) := by
 unfold y4
 by_cases h : b <= a
 ·rw [if_pos h]; simp [h]
 ·rw [if_neg h]; simp [h]
theorem DT {h : GHistory} {a : Int} (hz : hsz h <= 2 ^ 20) : ∃ s b, ZV h a = some (s, b) ∧ ZX h a = some (s, b) ∧ ssz s <= 2 ^ 22 := by
 unfold ZV ZX Q7
 rw [DR hz, Option.bind_some, E0 hz, Option.bind_some]
 cases hk : hOk h with
 | false => exact ⟨_, _, rfl, rfl, by decide⟩
 | true =>
  simp only [cond_true]
  obtain ⟨k1, k2, _, _⟩ := E3 hk
  have hI := U9 k1
  have hs0 := hI.1
  have hs1 := hI.2.1
  rw [zdb, Option.bind_some, yj (x := h.Base.Serial + (h.Events.length : Int)) (by omega) (by omega)]
  by_cases c1 : h.Base.Serial <= a
  ·rw [if_pos c1, Option.bind_some]
   by_cases c2 : a <= h.Base.Serial + (h.Events.length : Int)
   ·rw [decide_eq_true c2, decide_eq_true (p := h.Base.Serial <= a ∧ a <= h.Base.Serial + (h.Events.length : Int)) ⟨c1, c2⟩]
    dsimp only
    obtain ⟨n, hn⟩ : ∃ n : Nat, a - h.Base.Serial = (n : Int) := ⟨(a - h.Base.Serial).toNat, by omega⟩
    obtain ⟨f1, f2, f3⟩ := zal (n := n) hz hk (by omega)
    rw [hn, yj (x := ((n : Nat) : Int)) (by omega) (by omega), f1, Option.bind_some]
    dsimp only
    rw [show vY (jx h.Base (h.Events.take n)).1 = some (jx h.Base (h.Events.take n)).1 from if_pos (by omega), zd, Option.bind_some, Option.bind_some, f2, Option.bind_some]
    exact ⟨_, _, rfl, rfl, by omega⟩
   ·rw [decide_eq_false c2, decide_eq_false (p := h.Base.Serial <= a ∧ a <= h.Base.Serial + (h.Events.length : Int)) (fun h => c2 h.2)]
    exact ⟨_, _, rfl, rfl, by decide⟩
  ·rw [if_neg c1, Option.bind_some, decide_eq_false (p := h.Base.Serial <= a ∧ a <= h.Base.Serial + (h.Events.length : Int)) (fun h => c1 h.1)]
   exact ⟨_, _, rfl, rfl, by decide⟩
theorem law_HistAt {h : GHistory} {a : Int} (hm : MdH h) : kP h a = some true := by
 unfold kP
 rw [zc7 hm (by decide) (by decide), Option.bind_some]
 unfold yS
 by_cases c : (hsz h : Int) <= 1048576
 ·have hz : hsz h <= 2 ^ 20 := by omega
  rw [if_pos c, if_neg (by omega), zc8 hz, Option.bind_some]
  obtain ⟨s, b, e1, e2, e3⟩ := DT (a := a) hz
  obtain ⟨k1, a1, b1, c1, m1, m2, m3⟩ := DS (h := h) (by omega)
  obtain ⟨k2, a2, b2, n1, n2, n3⟩ := E7 (s := s) (by omega)
  rw [e1, e2, Option.bind_some]
  dsimp only
  rw [Option.bind_some]
  dsimp only
  rw [Ew (by omega), Option.bind_some]
  dsimp only
  cases b <;> (first | rw [if_pos rfl, if_pos rfl] | rw [if_neg (by decide), if_neg (by decide)])
  all_goals
   rw [zc9 (by omega), Option.bind_some]
   dsimp only
   rw [m1, Option.bind_some]
   dsimp only
   rw [if_neg (by omega), n1, Option.bind_some]
   dsimp only
   rw [n3, Option.bind_some, if_neg (by omega), if_pos rfl]
 ·rw [if_neg c, if_pos (by omega)]
end
end Go.Am.Try
