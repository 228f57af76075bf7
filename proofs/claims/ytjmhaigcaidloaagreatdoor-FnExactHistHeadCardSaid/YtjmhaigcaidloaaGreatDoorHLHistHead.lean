
/- The law of FnExactHistHead, in plain terms. -/
import Derived.Test.YtjmhaigcaidloaaGreatDoorHG5
set_option linter.unusedVariables false
set_option linter.unusedSimpArgs false
namespace Go.Am.Try
open Go.Am
noncomputable section
theorem M1 {v : GValue} (h : vsz v <= 2 ^ 20) : xe v = some (ZN v) := by
 unfold xe vh
 rw [if_pos ⟨h, by decide, by decide, by decide⟩, Option.bind_some]
 congr 1
 unfold okV ZN
 rw [show (6 - (1 : Int)).toNat = 5 from rfl]
 by_cases hc : shV 5 v = true ∧ (ptV v : Int) <= 40
 ·rw [if_pos hc, decide_eq_true hc]; exact decide_eq_true (by omega)
 ·rw [if_neg hc, decide_eq_false hc]; rfl
theorem DJ {v : GValue} (h : vsz v <= 2 ^ 20) : ja v = some (ZN v) := by
 unfold ja qD wq ZN
 rw [if_pos ⟨h, by decide, by decide⟩, Option.bind_some]
 rw [show (5 : Int).toNat = 5 from rfl]
 cases hs : shV 5 v
 ·simp
 ·dsimp only
  rw [if_pos h, Option.bind_some]
  simp
def js (v : GValue) : Bool := decide (v.Kind = 0 ∧ v.N = 0 ∧ v.S.length = 0 ∧ v.K.length = 0 ∧ v.L.length = 0)
def evB (e : GEvent) : Bool :=
  if e.Kind = 2 then yb e.Addr && decide (e.Act = 0) && jW e.Val && jH e.Deps
  else js e.Val && decide (e.Deps.length = 0) &&
    (if e.Kind = 0 ∨ e.Kind = 5 ∨ e.Kind = 6 then decide (e.Addr.length = 0) && decide (e.Act = 0)
     else if e.Kind = 1 then yb e.Addr && decide (1 <= e.Act ∧ e.Act <= 4)
     else if e.Kind = 3 ∨ e.Kind = 4 then yb e.Addr && decide (e.Act = 0) else false)
theorem zac {v : GValue} (h : vsz v <= 2 ^ 20) : yX v = some (jW v) := by
 unfold yX YC jW
 by_cases h5 : v.Kind = 5
 ·rw [if_pos h5, DJ h, Option.bind_some, decide_eq_true h5, Bool.true_and]
  cases hv : ZN v with
  | false => rfl
  | true =>
   simp only [Bool.true_and]
   unfold wr
   rw [if_pos (by omega)]; rfl
 ·rw [if_neg h5, decide_eq_false h5]; rfl
theorem zad {v : GValue} (h : vsz v <= 2 ^ 20) : jh v = some (jW v) := by
 unfold jh jW
 by_cases h5 : v.Kind = 5
 ·rw [if_pos h5, M1 h, Option.bind_some, decide_eq_true h5, Bool.true_and]
  cases hv : ZN v with
  | false => rfl
  | true =>
   simp only [Bool.true_and]
   unfold qY
   rw [if_pos (by omega)]; rfl
 ·rw [if_neg h5, decide_eq_false h5]; rfl
theorem Ep (v : GValue) : ZX v = some (js v) := by
 unfold ZX js
 by_cases h1 : v.Kind = 0 <;> by_cases h2 : v.N = 0 <;> by_cases h3 : v.S.length = 0 <;> by_cases h4 : v.K.length = 0 <;> by_cases h5 : v.L.length = 0 <;> simp [h1, h2, h3, h4, h5, List.length_eq_zero_iff.1] <;> simp_all
theorem JF (a : Int) : ∃ r, ki a 0 = some r ∧ (r = 0 ↔ a = 0) := by
 unfold ki
 by_cases h : a < 0
 ·exact ⟨_, if_pos h, by omega⟩
 ·rw [if_neg h]
  by_cases h' : 0 < a
  ·exact ⟨_, if_pos h', by omega⟩
  ·exact ⟨_, if_neg h', by omega⟩
theorem GQ (G : GValue → GValue → Option Int) (n : Nat) (v z : GValue) (hk : z.Kind = 0) (hn : z.N = 0) (hl : z.L.length = 0) : ∃ r, Y8 G (n + 1) v z = some r ∧ ((r = 0 ∧ v.N = 0) ↔ (v.Kind = 0 ∧ v.N = 0 ∧ v.L.length = 0)) := by
 unfold Y8
 rw [hk]
 by_cases h1 : v.Kind = 0
 ·rw [if_pos h1, if_neg (by omega), hn]
  by_cases h2 : v.N = 0
  ·rw [if_pos h2, jB, hl]
   obtain ⟨r, hr, hr2⟩ := JF (v.L.length : Int)
   refine ⟨r, ?_, by simp only [h1, h2, true_and, and_true]; omega⟩
   by_cases h3 : (0 : Int) < (v.L.length : Int)
   ·rw [if_pos h3, if_neg (by omega), Option.bind_some]
    dsimp only
    rw [show ((0 : Nat) : Int) = 0 from rfl, hr, Option.bind_some]
   ·rw [if_neg h3, Option.bind_some]
    dsimp only
    rw [show ((0 : Nat) : Int) = 0 from rfl, hr, Option.bind_some]
  ·rw [if_neg h2]
   obtain ⟨r, hr, hr2⟩ := JF v.N
   exact ⟨r, by rw [hr, Option.bind_some], ⟨fun h => absurd h.2 h2, fun h => absurd h.2.1 h2⟩⟩
 ·rw [if_neg h1]
  obtain ⟨r, hr, hr2⟩ := JF v.Kind
  exact ⟨r, by rw [hr, Option.bind_some], ⟨fun h => absurd (hr2.1 h.1) h1, fun h => absurd h.1 h1⟩⟩
theorem Er (v : GValue) : wM v = some (decide (v.Kind = 0 ∧ v.N = 0 ∧ v.L.length = 0)) := by
 unfold wM Y9
 rw [show vsz v + 3 = (vsz v + 1 + 1) + 1 from rfl, wB]
 obtain ⟨r, hr, hr2⟩ := GQ (wB (vsz v + 1 + 1)) (vsz v + 1) v (GValue.mk 0 0 [] [] []) rfl rfl rfl
 rw [hr, Option.bind_some]
 by_cases h : r = 0
 ·rw [if_pos h]; exact congrArg some (decide_eq_decide.2 (by rw [<- hr2]; simp [h]))
 ·rw [if_neg h]; exact congrArg some (decide_eq_false (fun h' => h (hr2.2 h').1)).symm
theorem DK {v : GValue} (h : js v = true) : ZN v = true := by
 unfold js at h
 cases v
 simp only [GValue.Kind, GValue.N, GValue.S, GValue.K, GValue.L, decide_eq_true_eq, List.length_eq_zero_iff] at h
 obtain ⟨rfl, rfl, rfl, rfl, rfl⟩ := h
 exact decide_eq_true ⟨by simp [shV, yG, GValue.Kind, GValue.N, GValue.S, GValue.K, GValue.L], by simp [ptV, w8]⟩
theorem zae {v : GValue} (h : ZN v = true) : js v = decide (v.Kind = 0 ∧ v.N = 0 ∧ v.L.length = 0) := by
 unfold js
 refine decide_eq_decide.2 ⟨fun ⟨a, b, _, _, c⟩ => ⟨a, b, c⟩, fun ⟨a, b, c⟩ => ?_⟩
 have := (of_decide_eq_true h).1
 rw [shV] at this
 have hl := (Bool.and_eq_true _ _ ▸ this).1
 unfold yG at hl
 rw [if_pos (Or.inl a)] at hl
 have := of_decide_eq_true hl
 exact ⟨a, this⟩
theorem DL {a : List UInt8} (h : yb a = true) : 0 < a.length := by
 rcases a with _ | ⟨x, l⟩
 ·revert h; decide
 ·simp
theorem Es {e : GEvent} (h : ql e <= 2 ^ 20) : Z4 e = some (evB e) := by
 unfold ql at h
 unfold Z4 evB
 by_cases k2 : e.Kind = 2
 ·rw [if_pos k2, if_pos k2, Ze (by omega), Option.bind_some]
  cases yb e.Addr with
  | false => rfl
  | true =>
   dsimp only
   by_cases ha : e.Act = 0
   ·rw [if_pos ha, zac (by omega), Option.bind_some, decide_eq_true ha]
    cases jW e.Val with
    | false => rfl
    | true =>
     dsimp only
     rw [show xK e.Deps = some (jH e.Deps) from if_pos (by omega)]
     simp
   ·rw [if_neg ha, decide_eq_false ha]; rfl
 ·rw [if_neg k2, if_neg k2, Ep, Option.bind_some]
  cases js e.Val with
  | false => rfl
  | true =>
   dsimp only
   by_cases d : e.Deps.length = 0
   ·rw [if_neg (by omega), decide_eq_true d, Bool.true_and, Bool.true_and]
    by_cases k0 : e.Kind = 0 ∨ e.Kind = 5 ∨ e.Kind = 6
    ·rw [if_pos k0]
     have hh : (if (e.Addr.length : Int) = 0 then some (decide (e.Act = 0)) else some false) = some (decide (e.Addr.length = 0) && decide (e.Act = 0)) := by
      by_cases hl : e.Addr.length = 0
      ·rw [if_pos (by omega), decide_eq_true hl, Bool.true_and]
      ·rw [if_neg (by omega), decide_eq_false hl, Bool.false_and]
     rw [hh]
     by_cases k00 : e.Kind = 0
     ·rw [if_pos k00]
     ·rw [if_neg k00]
      by_cases k05 : e.Kind = 5
      ·rw [if_pos k05]
      ·rw [if_neg k05, if_pos (by omega)]
    ·rw [if_neg k0, if_neg (by omega), if_neg (by omega), if_neg (by omega)]
     by_cases k1 : e.Kind = 1
     ·rw [if_pos k1, if_pos k1, Ze (by omega), Option.bind_some]
      cases yb e.Addr with
      | false => rfl
      | true => dsimp only; rw [Wl, Option.bind_some]; rfl
     ·rw [if_neg k1, if_neg k1]
      by_cases k3 : e.Kind = 3
      ·rw [if_pos k3, if_pos (Or.inl k3), Ze (by omega), Option.bind_some]
       cases yb e.Addr <;> rfl
      ·rw [if_neg k3]
       by_cases k4 : e.Kind = 4
       ·rw [if_pos k4, if_pos (Or.inr k4), Ze (by omega), Option.bind_some]
        cases yb e.Addr <;> rfl
       ·rw [if_neg k4, if_neg (by omega)]
   ·rw [if_pos (by omega), decide_eq_false d]; rfl
theorem zvd {v : GValue} (h : vsz v <= 2 ^ 20) (d : Nat) : ((xe v).bind fun r => match r with | true => (wM v).bind fun r => (match r with | true => some (decide (((d : Nat) : Int) = 0)) | false => some false) | false => some false) = some (js v && decide (d = 0)) := by
 rw [M1 h, Option.bind_some]
 cases hv : ZN v with
 | true =>
  dsimp only
  rw [Er, Option.bind_some, zae hv]
  cases decide (v.Kind = 0 ∧ v.N = 0 ∧ v.L.length = 0) with
  | true => exact congrArg some (by rw [Bool.true_and]; exact decide_eq_decide.2 (by omega))
  | false => rfl
 | false =>
  dsimp only
  cases hz : js v with
  | true => rw [DK hz] at hv; cases hv
  | false => rfl
theorem Et {e : GEvent} (h : ql e <= 2 ^ 20) : Z1 e = some (evB e) := by
 unfold ql at h
 unfold Z1 evB
 rw [Qr (by omega)]
 simp only [Option.bind_some]
 have Z := zvd (v := e.Val) (by omega) e.Deps.length
 have hb := @DL e.Addr
 by_cases r0 : e.Kind < 0
 ·rw [if_pos r0, if_neg (show ¬ e.Kind = 2 by omega), if_neg (show ¬ (e.Kind = 0 ∨ e.Kind = 5 ∨ e.Kind = 6) by omega), if_neg (show ¬ e.Kind = 1 by omega), if_neg (show ¬ (e.Kind = 3 ∨ e.Kind = 4) by omega), Bool.and_false]
 rw [if_neg r0]
 by_cases r6 : 6 < e.Kind
 ·rw [if_pos r6, if_neg (show ¬ e.Kind = 2 by omega), if_neg (show ¬ (e.Kind = 0 ∨ e.Kind = 5 ∨ e.Kind = 6) by omega), if_neg (show ¬ e.Kind = 1 by omega), if_neg (show ¬ (e.Kind = 3 ∨ e.Kind = 4) by omega), Bool.and_false]
 rw [if_neg r6]
 generalize (js e.Val && decide (e.Deps.length = 0)) = z at Z ⊢
 by_cases k1 : e.Kind = 1
 ·rw [if_pos k1, if_neg (show ¬ e.Kind = 2 by omega), if_neg (show ¬ (e.Kind = 0 ∨ e.Kind = 5 ∨ e.Kind = 6) by omega), if_pos k1]
  cases hA : yb e.Addr with
  | false =>
   dsimp only
   rw [Bool.false_and, Bool.and_false]
   split <;> rfl
  | true =>
   have := hb hA
   rw [if_pos (show (0 : Int) < (e.Addr.length : Int) by omega)]
   dsimp only
   by_cases a1 : e.Act < 1
   ·rw [if_pos a1, decide_eq_false (by omega)]; simp
   ·rw [if_neg a1]
    by_cases a2 : 4 < e.Act
    ·rw [if_pos a2, decide_eq_false (by omega)]; simp
    ·rw [if_neg a2, decide_eq_true (show 1 <= e.Act ∧ e.Act <= 4 by omega)]; exact Z.trans (by simp)
 rw [if_neg k1]
 by_cases k2 : e.Kind = 2
 ·rw [if_pos k2, if_pos k2]
  cases hA : yb e.Addr with
  | false =>
   dsimp only
   split <;> rfl
  | true =>
   have := hb hA
   rw [if_pos (show (0 : Int) < (e.Addr.length : Int) by omega)]
   dsimp only
   by_cases ha : e.Act = 0
   ·rw [if_pos ha, zad (by omega), Option.bind_some, decide_eq_true ha]
    cases jW e.Val with
    | false => rfl
    | true =>
     dsimp only
     rw [show qa e.Deps = some (jH e.Deps) from if_pos (by omega)]
     simp
   ·rw [if_neg ha, decide_eq_false ha]; rfl
 rw [if_neg k2, if_neg k2]
 by_cases k3 : e.Kind = 3
 ·rw [if_pos k3, if_neg (show ¬ (e.Kind = 0 ∨ e.Kind = 5 ∨ e.Kind = 6) by omega), if_neg k1, if_pos (Or.inl k3)]
  cases hA : yb e.Addr with
  | false => dsimp only; rw [Bool.false_and, Bool.and_false]; split <;> rfl
  | true =>
   have := hb hA
   rw [if_pos (show (0 : Int) < (e.Addr.length : Int) by omega)]
   dsimp only
   by_cases ha : e.Act = 0
   ·rw [if_pos ha, decide_eq_true ha]; exact Z.trans (by simp)
   ·rw [if_neg ha, decide_eq_false ha]; simp
 rw [if_neg k3]
 by_cases k4 : e.Kind = 4
 ·rw [if_pos k4, if_neg (show ¬ (e.Kind = 0 ∨ e.Kind = 5 ∨ e.Kind = 6) by omega), if_neg k1, if_pos (Or.inr k4)]
  cases hA : yb e.Addr with
  | false => dsimp only; rw [Bool.false_and, Bool.and_false]; split <;> rfl
  | true =>
   have := hb hA
   rw [if_pos (show (0 : Int) < (e.Addr.length : Int) by omega)]
   dsimp only
   by_cases ha : e.Act = 0
   ·rw [if_pos ha, decide_eq_true ha]; exact Z.trans (by simp)
   ·rw [if_neg ha, decide_eq_false ha]; simp
 rw [if_neg k4, if_pos (show e.Kind = 0 ∨ e.Kind = 5 ∨ e.Kind = 6 by omega)]
 by_cases hl : e.Addr.length = 0
 ·rw [if_neg (by omega), decide_eq_true hl, Bool.true_and]
  by_cases ha : e.Act = 0
  ·rw [if_pos ha, decide_eq_true ha]; exact Z.trans (by simp)
  ·rw [if_neg ha, decide_eq_false ha]; simp
 ·rw [if_pos (by omega), decide_eq_false hl, Bool.false_and, Bool.and_false]
def MdS (s : GState) : Prop := s.Pending.length <= 2 ^ 63 - 1 ∧ s.Entries.length <= 2 ^ 63 - 1 ∧ Wj s.Entries
theorem zc0 {s : GState} {n : Int} (h : MdS s) (h0 : 0 <= n) (h1 : n <= 2 ^ 20) : Zw s n = some (yR (ssz s) n) := by
 unfold Zw
 rw [Yy h.1 h0 h1, Option.bind_some]
 unfold yR ssz
 by_cases c1 : (s.Pending.length : Int) <= n
 ·rw [if_pos c1, if_neg (by omega)]
  unfold j6
  rw [if_pos ⟨h.2.1, h.2.2, by omega, by omega⟩, Option.bind_some]
  unfold yR
  by_cases c2 : (zX s.Entries : Int) <= n - s.Pending.length
  ·rw [if_pos c2, if_neg (by omega), if_pos (by omega)]; congr 1; omega
  ·rw [if_neg c2, if_pos (by omega), if_neg (by omega)]
 ·rw [if_neg c1, if_pos (by omega), if_neg (by omega)]
theorem zc1 {s : GState} (h : ssz s <= 2 ^ 20) : Zx s = some s := by
 unfold ssz at h
 unfold Zx yq j9
 rw [if_pos (by omega), Option.bind_some, if_pos (by omega), Option.bind_some]
 cases s; rfl
theorem Eu {s : GState} (h : ssz s <= 2 ^ 39) : kr s s = some true := by
 unfold ssz at h
 unfold kr yj
 rw [if_pos rfl]
 by_cases ho : s.Open = true
 ·rw [if_pos ho, if_pos ho, if_pos ⟨rfl, by omega⟩, Option.bind_some]; dsimp only; rw [if_pos rfl, Rx (by omega), Option.bind_some]
 ·rw [if_neg ho, if_neg ho, if_pos ⟨rfl, by omega⟩, Option.bind_some]; dsimp only; rw [if_pos rfl, Rx (by omega), Option.bind_some]
theorem jn (a : Int) (b : Bool) (c : List UInt8) (d : Int) (e : List GEntry) : (GState.mk a b c d e).Pending = c := rfl
theorem jo (a : Int) (b : Bool) (c : List UInt8) (d : Int) (e : List GEntry) : (GState.mk a b c d e).Entries = e := rfl
theorem M2 {a : List UInt8} : ∀ (l : List GEntry) (i : Nat), yI l a = true → ∃ k, ZV l a i = ((i + k : Nat) : Int) ∧ ∃ e, l[k]? = some e ∧ e.Addr = a
 | [], i, h => by simp [yI] at h
 | e :: l, i, h => by
  rw [ZV]
  by_cases he : e.Addr = a
  ·exact ⟨0, by rw [if_pos he]; rfl, e, rfl, he⟩
  ·have h' : yI l a = true := by
    unfold yI at h ⊢
    rw [List.any_cons, decide_eq_false he, Bool.false_or] at h
    exact h
   obtain ⟨k, h1, e', h2, h3⟩ := M2 l (i + 1) h'
   exact ⟨k + 1, by rw [if_neg he, h1]; congr 1; omega, e', by simpa using h2, h3⟩
theorem Z6 {a : List (List UInt8)} : Asc a ↔ ∀ (i j : Nat) x y, i < j → a[i]? = some x → a[j]? = some y → Op.bytesLess x y = true := by
 constructor
 ·intro h i j x y hij hi hj
  obtain ⟨hi1, hi2⟩ := List.getElem?_eq_some_iff.1 hi
  obtain ⟨hj1, hj2⟩ := List.getElem?_eq_some_iff.1 hj
  have := h i j hj1 hij
  rw [hi2, hj2] at this
  exact this
 ·intro h i j hj hij
  exact h i j _ _ hij (List.getElem?_eq_getElem _) (List.getElem?_eq_getElem _)
theorem Z7 {a : List (List UInt8)} {x : List UInt8} {c : Nat} (h : kw a x c) {i : Nat} {y : List UInt8} (hi : a[i]? = some y) : i < c ↔ Op.bytesLess y x = true := by
 obtain ⟨hi1, hi2⟩ := List.getElem?_eq_some_iff.1 hi
 rw [<- hi2]
 exact h.2 i hi1
theorem zaf {a : List (List UInt8)} (ha : Asc a) {x : List UInt8} {c : Nat} (h : kw a x c) {j : Nat} {y : List UInt8} (hj : a[j]? = some y) (hc : c <= j) (hne : c = j → y ≠ x) : Op.bytesLess x y = true := by
 rcases Wo x y with h1 | h1 | h1
 ·exact h1
 ·exfalso
  have hcj : c ≠ j := fun e => hne e h1.symm
  have hjl := (List.getElem?_eq_some_iff.1 hj).1
  have hcl : c < a.length := by omega
  have h2 := Z6.1 ha c j _ _ (by omega) (List.getElem?_eq_getElem hcl) hj
  rw [<- h1] at h2
  have := (Z7 h (List.getElem?_eq_getElem hcl)).2 h2
  omega
 ·have := (Z7 h hj).2 h1
  omega
theorem NF {a : List (List UInt8)} (ha : Asc a) {x : List UInt8} {c : Nat} (h : kw a x c) (hne : a[c]? ≠ some x) : Asc (yC a c x) := by
 refine Z6.2 fun i j u v hij hi hj => ?_
 rw [WA a c x h.1] at hi hj
 have A := Z6.1 ha
 by_cases h1 : j < c
 ·rw [if_pos h1] at hj; rw [if_pos (by omega)] at hi
  exact A i j u v hij hi hj
 rw [if_neg h1] at hj
 by_cases h2 : j = c
 ·rw [if_pos h2] at hj; rw [if_pos (by omega)] at hi
  injection hj with hj
  subst hj
  exact (Z7 h hi).1 (by omega)
 rw [if_neg h2] at hj
 by_cases h3 : i < c
 ·rw [if_pos h3] at hi
  exact A i (j - 1) u v (by omega) hi hj
 rw [if_neg h3] at hi
 by_cases h4 : i = c
 ·rw [if_pos h4] at hi
  injection hi with hi
  subst hi
  exact zaf ha h hj (by omega) fun e he => hne (by rw [e, hj, he])
 ·rw [if_neg h4] at hi
  exact A (i - 1) (j - 1) u v (by omega) hi hj
theorem zag {a : List (List UInt8)} (ha : Asc a) {c : Nat} (hc : c < a.length) : Asc (wT a c) := by
 refine Z6.2 fun i j u v hij hi hj => ?_
 rw [Me a c hc] at hi hj
 have A := Z6.1 ha
 by_cases h1 : j < c
 ·rw [if_pos h1] at hj; rw [if_pos (by omega)] at hi
  exact A i j u v hij hi hj
 rw [if_neg h1] at hj
 by_cases h3 : i < c
 ·rw [if_pos h3] at hi
  exact A i (j + 1) u v (by omega) hi hj
 ·rw [if_neg h3] at hi
  exact A (i + 1) (j + 1) u v (by omega) hi hj
theorem V2 {e : GEntry} : ∀ {l : List GEntry}, (∀ x ∈ l, Op.bytesLess e.Addr x.Addr = true) → vm e true l = l
 | [], _ => rfl
 | x :: l, h => by
  rw [vm, h x List.mem_cons_self, cond_true, cond_true, V2 fun y hy => h y (List.mem_cons_of_mem _ hy)]
theorem Ev {a b : List UInt8} (h : Op.bytesLess a b = true) : Op.bytesLess b a = false := by
 cases hb : Op.bytesLess b a with
 | false => rfl
 | true => have := kS h hb; rw [Zj] at this; cases this
theorem PH {e : GEntry} : ∀ {l : List GEntry} {c : Nat}, Asc (l.map GEntry.Addr) → kw (l.map GEntry.Addr) e.Addr c → vm e false l = if (l.map GEntry.Addr)[c]? = some e.Addr then l.set c e else yC l c e
 | [], c, _, hp => by
  have := hp.1
  simp only [List.map_nil, List.length_nil] at this
  obtain rfl : c = 0 := by omega
  rfl
 | x :: l, c, ha, hp => by
  have hal : Asc (l.map GEntry.Addr) := Z6.2 fun i j u v hij hi hj => Z6.1 ha (i + 1) (j + 1) u v (by omega) (by simpa using hi) (by simpa using hj)
  have hx : ∀ y ∈ l, Op.bytesLess x.Addr y.Addr = true := fun y hy => by
   obtain ⟨j, hj⟩ := List.mem_iff_getElem?.1 hy
   exact Z6.1 ha 0 (j + 1) _ _ (by omega) rfl (by simp [hj])
  have h0 : 0 < c ↔ Op.bytesLess x.Addr e.Addr = true := Z7 hp (by rfl)
  cases c with
  | zero =>
   have hn : Op.bytesLess x.Addr e.Addr = false := by
    cases hq : Op.bytesLess x.Addr e.Addr with
    | false => rfl
    | true => have := h0.2 hq; omega
   rw [vm, hn]
   rcases Wo e.Addr x.Addr with h1 | h1 | h1
   ·rw [h1]
    simp only [cond_true, cond_false]
    rw [V2 fun y hy => kS h1 (hx y hy), if_neg]
    ·rfl
    ·simp only [List.map_cons, List.getElem?_cons_zero, Option.some.injEq]
     intro he
     rw [he, Zj] at h1; cases h1
   ·rw [h1, Zj]
    simp only [cond_false]
    rw [V2 fun y hy => by rw [h1]; exact hx y hy, if_pos (by simp)]
    rfl
   ·rw [hn] at h1; cases h1
  | succ c =>
   have hl : Op.bytesLess x.Addr e.Addr = true := h0.1 (by omega)
   have hpl : kw (l.map GEntry.Addr) e.Addr c := by
    refine ⟨by have := hp.1; simp only [List.map_cons, List.length_cons] at this; omega, fun k hk => ?_⟩
    have h1 := Z7 hp (i := k + 1) (y := (l.map GEntry.Addr)[k]) (by rw [List.map_cons, List.getElem?_cons_succ]; exact List.getElem?_eq_getElem hk)
    rw [<- h1]
    omega
   rw [vm, Ev hl, hl]
   simp only [cond_true, cond_false]
   rw [PH hal hpl]
   simp only [List.map_cons, List.getElem?_cons_succ]
   split
   ·rfl
   ·rfl
theorem JG {α : Type} {l : List α} {c : Nat} {x : α} (h : l[c]? = some x) : l.set c x = l := by
 apply List.ext_getElem?
 intro i
 rw [List.getElem?_set]
 split
 ·rename_i hi
  subst hi
  have := (List.getElem?_eq_some_iff.1 h).1
  rw [if_pos this, h]
 ·rfl
theorem M3 {l : List GEntry} {c : Nat} {e : GEntry} (h : (l.map GEntry.Addr)[c]? = some e.Addr) : (l.set c e).map GEntry.Addr = l.map GEntry.Addr := by
 rw [List.map_set]
 exact JG h
theorem V3 {l : List GEntry} {c : Nat} {e : GEntry} : (yC l c e).map GEntry.Addr = yC (l.map GEntry.Addr) c e.Addr := by simp [yC, List.map_take, List.map_drop]
theorem M4 {l : List GEntry} {c : Nat} : (wT l c).map GEntry.Addr = wT (l.map GEntry.Addr) c := by simp [wT, List.map_take, List.map_drop]
theorem WM : ∀ (a b : List GEntry), zX (a ++ b) = zX a + zX b
 | [], b => by simp [zX]
 | x :: a, b => by simp only [List.cons_append, zX, WM a b]; omega
theorem Tk (l : List GEntry) (c : Nat) : zX l = zX (l.take c) + zX (l.drop c) := by
 rw [<- WM, List.take_append_drop]
theorem M5 (l : List GEntry) (c : Nat) (e : GEntry) : zX (yC l c e) = zX l + 1 + esz e := by
 unfold yC
 rw [WM, WM, Tk l c]
 simp only [zX]; omega
theorem DM (l : List GEntry) (c : Nat) : zX (wT l c) <= zX l := by
 unfold wT
 have h1 := Tk l c
 have h2 := Tk (l.drop c) 1
 rw [List.drop_drop] at h2
 rw [WM]
 omega
theorem M6 : ∀ (l : List GEntry) (c : Nat) (e : GEntry), zX (l.set c e) <= zX l + esz e
 | [], c, e => by simp [zX]
 | x :: l, 0, e => by simp only [List.set_cons_zero, zX]; omega
 | x :: l, c + 1, e => by have := M6 l c e; simp only [List.set_cons_succ, zX]; omega
def stI (s : GState) : Prop := 0 <= s.Serial ∧ s.Serial <= 1000000 ∧ Asc (s.Entries.map GEntry.Addr) ∧ (s.Pending ≠ [] → s.Open = true ∧ yI s.Entries s.Pending = decide (s.Act ≠ 1))
theorem Lj {s : GState} (h : stB s = true) : stI s := by
 unfold stB at h
 simp only [Bool.and_eq_true, decide_eq_true_eq] at h
 obtain ⟨⟨⟨h1, h2, _⟩, h3⟩, h4⟩ := h
 refine ⟨h1, h2, MM h3, fun hp => ?_⟩
 unfold Lm at h4
 rw [if_neg hp] at h4
 simp only [Bool.and_eq_true, beq_iff_eq] at h4
 exact ⟨h4.1.1.1, h4.2⟩
def YK (s : GState) (e : GEvent) : Bool :=
 if s.Serial = 1000000 then false
 else if e.Kind = 0 then !s.Open
 else if e.Kind = 1 then s.Open && decide (s.Pending = []) && (yI s.Entries e.Addr == decide (e.Act ≠ 1)) && (yI s.Entries e.Addr || decide (s.Entries.length < 16))
 else if e.Kind = 2 then decide (s.Pending = e.Addr) && decide (s.Act ≠ 4)
 else if e.Kind = 3 then decide (s.Pending = e.Addr) && decide (s.Act = 4)
 else if e.Kind = 4 then decide (s.Pending = e.Addr)
 else if e.Kind = 5 then s.Open && decide (s.Pending = [])
 else s.Open
theorem UA {e : GEvent} (h : evB e = true) (hk : e.Kind = 1 ∨ e.Kind = 2 ∨ e.Kind = 3 ∨ e.Kind = 4) : e.Addr ≠ [] := by
 intro he
 have ha : yb e.Addr = false := by rw [he]; decide
 unfold evB at h
 rw [ha] at h
 rcases hk with hk | hk | hk | hk <;> simp [hk] at h
theorem Xi {a : List UInt8} : ((a.length : Int) = 0) ↔ a = [] := by
 constructor
 ·intro h; exact List.eq_nil_of_length_eq_zero (by omega)
 ·rintro rfl; rfl
theorem NG {a : List UInt8} : (0 < (a.length : Int)) ↔ a ≠ [] := by
 constructor
 ·rintro h rfl; simp at h
 ·intro h
  have : a.length ≠ 0 := fun e => h (List.eq_nil_of_length_eq_zero e)
  omega
theorem DN {s : GState} {e : GEvent} (hI : stI s) (he : evB e = true) (hl : s.Entries.length <= 2 ^ 40) : YA s e = some (YK s e) := by
 unfold YA YK xW
 have hs := hI.2.1
 by_cases h0 : s.Serial = 1000000
 ·rw [if_pos (by omega), if_pos h0]
 rw [if_neg (by omega), if_neg h0]
 by_cases k0 : e.Kind = 0
 ·rw [if_pos k0, if_pos k0]
 rw [if_neg k0, if_neg k0]
 by_cases k1 : e.Kind = 1
 ·rw [if_pos k1, if_pos k1, if_pos hl, Option.bind_some]
  have hh := KW s.Entries e.Addr 0
  have hp := @NG s.Pending
  cases s.Open with
  | false => rfl
  | true =>
   dsimp only
   by_cases q : s.Pending = []
   ·rw [if_neg (fun h => hp.1 h q), decide_eq_true q]
    by_cases a1 : e.Act = 1
    ·rw [if_pos a1, decide_eq_false (p := e.Act ≠ 1) (by omega)]
     cases hb : yI s.Entries e.Addr with
     | true => rw [if_pos (hh.2 hb)]; rfl
     | false => rw [if_neg (fun h => by rw [hh.1 h] at hb; cases hb)]; simp; omega
    ·rw [if_neg a1, decide_eq_true (p := e.Act ≠ 1) a1]
     cases hb : yI s.Entries e.Addr with
     | true => rw [if_pos (hh.2 hb)]; rfl
     | false => rw [if_neg (fun h => by rw [hh.1 h] at hb; cases hb)]; simp
   ·rw [if_pos (hp.2 q), decide_eq_false q]; rfl
 rw [if_neg k1, if_neg k1]
 have hp := @NG s.Pending
 by_cases k2 : e.Kind = 2
 ·rw [if_pos k2, if_pos k2]
  have hne := UA he (.inr (.inl k2))
  by_cases q : s.Pending = []
  ·rw [if_neg (fun h => hp.1 h q), decide_eq_false (fun h => hne (by rw [<- h, q]))]; rfl
  ·rw [if_pos (hp.2 q)]
   by_cases q2 : s.Pending = e.Addr
   ·rw [if_pos q2, decide_eq_true q2]; by_cases a4 : s.Act = 4 <;> simp [a4]
   ·rw [if_neg q2, decide_eq_false q2]; rfl
 rw [if_neg k2, if_neg k2]
 by_cases k3 : e.Kind = 3
 ·rw [if_pos k3, if_pos k3]
  have hne := UA he (.inr (.inr (.inl k3)))
  by_cases q : s.Pending = []
  ·rw [if_neg (fun h => hp.1 h q), decide_eq_false (fun h => hne (by rw [<- h, q]))]; rfl
  ·rw [if_pos (hp.2 q)]
   by_cases q2 : s.Pending = e.Addr
   ·rw [if_pos q2, decide_eq_true q2]; rfl
   ·rw [if_neg q2, decide_eq_false q2]; rfl
 rw [if_neg k3, if_neg k3]
 by_cases k4 : e.Kind = 4
 ·rw [if_pos k4, if_pos k4]
  have hne := UA he (.inr (.inr (.inr k4)))
  by_cases q : s.Pending = []
  ·rw [if_neg (fun h => hp.1 h q), decide_eq_false (fun h => hne (by rw [<- h, q]))]
  ·rw [if_pos (hp.2 q)]
 rw [if_neg k4, if_neg k4]
 by_cases k5 : e.Kind = 5
 ·rw [if_pos k5, if_pos k5]
  cases s.Open with
  | false => rfl
  | true =>
   dsimp only
   by_cases q : s.Pending = []
   ·rw [decide_eq_false (fun h => hp.1 h q), decide_eq_true q]; rfl
   ·rw [decide_eq_true (hp.2 q), decide_eq_false q]; rfl
 ·rw [if_neg k5, if_neg k5]
theorem M7 {s : GState} {a : List UInt8} (hl : s.Entries.length <= 2 ^ 40) (hA : Asc (s.Entries.map GEntry.Addr)) : ∃ c : Nat, kw (s.Entries.map GEntry.Addr) a c ∧ ye s a = some ((c : Int), yI s.Entries a) ∧ (yI s.Entries a = true ↔ (s.Entries.map GEntry.Addr)[c]? = some a) := by
 unfold ye
 obtain ⟨c, hp, hc⟩ := Ek (a := s.Entries) (x := a) hl hA
 rw [hc]
 exact ⟨c, hp, rfl, Yd.trans (kw.mem hA hp).symm⟩
theorem Om {s : GState} {e : GEvent} (hI : stI s) (hl : s.Entries.length <= 2 ^ 40) : jV s e = some (YK s e) := by
 unfold jV YK xj
 obtain ⟨c, hp, hc, _⟩ := M7 (a := e.Addr) hl hI.2.2.1
 rw [hc, Option.bind_some]
 dsimp only
 by_cases h0 : s.Serial = 1000000
 ·rw [if_pos h0, if_pos h0]
 rw [if_neg h0, if_neg h0]
 by_cases k0 : e.Kind = 0
 ·rw [if_pos k0, if_pos k0]
 rw [if_neg k0, if_neg k0]
 have hz := @Xi s.Pending
 by_cases k1 : e.Kind = 1
 ·rw [if_pos k1, if_pos k1]
  cases s.Open with
  | false => rfl
  | true =>
   dsimp only
   by_cases q : s.Pending = []
   ·rw [if_pos (hz.2 q), decide_eq_true q]
    by_cases a1 : e.Act = 1
    ·rw [decide_eq_false (p := e.Act ≠ 1) (by omega)]
     cases hb : yI s.Entries e.Addr with
     | true => rw [if_pos rfl, if_pos a1]; rfl
     | false => rw [if_neg (by decide), if_pos a1]; simp; omega
    ·rw [decide_eq_true (p := e.Act ≠ 1) a1]
     cases hb : yI s.Entries e.Addr with
     | true => rw [if_pos rfl, if_neg a1]; rfl
     | false => rw [if_neg (by decide), if_neg a1]; simp
   ·rw [if_neg (fun h => q (hz.1 h)), decide_eq_false q]; rfl
 rw [if_neg k1, if_neg k1]
 by_cases k2 : e.Kind = 2
 ·rw [if_pos k2, if_pos k2, Option.bind_some]
  by_cases q : s.Pending = e.Addr
  ·rw [decide_eq_true q]; by_cases a4 : s.Act = 4 <;> simp [a4]
  ·rw [decide_eq_false q]; rfl
 rw [if_neg k2, if_neg k2]
 by_cases k3 : e.Kind = 3
 ·rw [if_pos k3, if_pos k3, Option.bind_some]
  by_cases q : s.Pending = e.Addr
  ·rw [decide_eq_true q]; rfl
  ·rw [decide_eq_false q]; rfl
 rw [if_neg k3, if_neg k3]
 by_cases k4 : e.Kind = 4
 ·rw [if_pos k4, if_pos k4]; rfl
 rw [if_neg k4, if_neg k4]
 by_cases k5 : e.Kind = 5
 ·rw [if_pos k5, if_pos k5]
  cases s.Open with
  | false => rfl
  | true =>
   dsimp only
   by_cases q : s.Pending = []
   ·rw [decide_eq_true (hz.2 q), decide_eq_true q]; rfl
   ·rw [decide_eq_false (fun h => q (hz.1 h)), decide_eq_false q]; rfl
 ·rw [if_neg k5, if_neg k5]
theorem Ew {l : List GEntry} {c : Nat} {x : GEntry} (h : l[c]? = some x) (A : GEntry) (f : GEntry → GEntry) : (((l.set c A)[c]?).bind fun y => some ((l.set c A).set c (f y))) = some (l.set c (f A)) := by
 have hl := (List.getElem?_eq_some_iff.1 h).1
 rw [List.getElem?_set_self (by simpa using hl), Option.bind_some, List.set_set]
theorem VL {l : List GEntry} {c : Nat} {a : List UInt8} (h : (l.map GEntry.Addr)[c]? = some a) : ∃ x, l[c]? = some x ∧ x.Addr = a := by
 rw [List.getElem?_map] at h
 obtain ⟨x, h1, h2⟩ := Option.map_eq_some_iff.1 h
 exact ⟨x, h1, h2⟩
theorem PI {l : List GEntry} {a : List UInt8} {c : Nat} (hA : Asc (l.map GEntry.Addr)) (h : (l.map GEntry.Addr)[c]? = some a) : ZV l a 0 = (c : Int) := by
 have hb : yI l a = true := Yd.2 (List.mem_of_getElem? h)
 obtain ⟨k, h1, e, h2, h3⟩ := M2 l 0 hb
 rw [Nat.zero_add] at h1
 have hk : (l.map GEntry.Addr)[k]? = some a := by rw [List.getElem?_map, h2, Option.map_some, h3]
 have A := Z6.1 hA
 have : k = c := by
  rcases Nat.lt_trichotomy k c with h4 | h4 | h4
  ·have := A k c a a h4 hk h; rw [Zj] at this; cases this
  ·exact h4
  ·have := A c k a a h4 h hk; rw [Zj] at this; cases this
 rw [h1, this]
def tnE (ser : Int) (x : GEntry) : GEntry := .mk x.Addr x.Val x.Deps true ser
def nwE (a : List UInt8) (ser : Int) : GEntry := .mk a (.mk 5 0 [] [] []) [] true ser
theorem zc2 (a : List UInt8) (ser : Int) : esz (nwE a ser) = a.length := by
 show a.length + vsz (.mk 5 0 [] [] []) + bsz [] = a.length
 rw [show vsz (.mk 5 0 [] [] []) = 0 from rfl, show bsz [] = 0 from rfl]; rfl
theorem NH {l : List GEntry} {c : Nat} (hc : c <= l.length) (hl : l.length <= 1048576) (x : GEntry) : w6 (c : Int) l [x] = some (yC l c x) := by
 show (if 0 <= (c : Int) ∧ (c : Int) <= (l.length : Int) ∧ l.length <= 1048576 then some (yC l (c : Int).toNat x) else none) = _
 rw [if_pos ⟨by omega, by omega, hl⟩, Int.toNat_natCast]
theorem zah {l : List GEntry} {c : Nat} (hc : c < l.length) (hl : l.length <= 1048576) : w7 (c : Int) (((c + 1 : Nat) : Int)) l = some (wT l c) := by
 unfold w7
 rw [if_pos ⟨by omega, by omega, by omega, hl⟩, Int.toNat_natCast]
theorem NI {l : List GEntry} {c : Nat} (hc : c <= l.length) (x y : GEntry) : (yC l c x).set c y = yC l c y := by
 apply List.ext_getElem?
 intro m
 rw [List.getElem?_set, WA l c x hc, WA l c y hc]
 have hlen : (yC l c x).length = l.length + 1 := by simp [yC]; omega
 by_cases h : c = m
 ·subst h
  rw [if_pos rfl, if_pos (by omega), if_neg (by omega), if_pos rfl]
 ·rw [if_neg h]
  by_cases h1 : m < c
  ·rw [if_pos h1, if_pos h1]
  ·rw [if_neg h1, if_neg h1, if_neg (Ne.symm h), if_neg (Ne.symm h)]
theorem NJ {l : List GEntry} {c : Nat} {x : GEntry} (h : l[c]? = some x) (f : GEntry → GEntry) : l.modify c f = l.set c (f x) := by
 apply List.ext_getElem?
 intro i
 rw [List.getElem?_modify, List.getElem?_set]
 have hl := (List.getElem?_eq_some_iff.1 h).1
 by_cases hi : c = i
 ·subst hi; rw [if_pos rfl, if_pos hl, h]; simp
 ·rw [if_neg hi]; simp [hi]
theorem M8 {b : Bool} {ser : Int} {op : Bool} {act : Int} {a : List UInt8} {l : List GEntry} {c : Nat} (hl : l.length <= 1048576) (hal : a.length <= 2 ^ 38) (hA : Asc (l.map GEntry.Addr)) (hp : kw (l.map GEntry.Addr) a c) :
  qz b ser op act a l = some (.mk ser op a act (if a = [] then l else if yI l a = true then l.modify c (tnE ser) else if b = true then yC l c (nwE a ser) else l)) := by
 unfold qz
 by_cases ha : a = []
 ·rw [if_pos (Xi.2 ha), if_pos ha]
 rw [if_neg (fun h => ha (Xi.1 h)), if_neg ha]
 obtain ⟨c', hp', hc, hb⟩ := M7 (s := GState.mk ser op a act l) (a := a) (by show l.length <= _; omega) hA
 change kw (l.map GEntry.Addr) a c' at hp'
 change yI l a = true ↔ (l.map GEntry.Addr)[c']? = some a at hb
 change ye (GState.mk ser op a act l) a = some ((c' : Int), yI l a) at hc
 have hcc : c' = c := by
  have h1 := hp.1; have h2 := hp'.1
  rcases Nat.lt_trichotomy c' c with h | h | h
  ·have := (Z7 hp' (i := c') (List.getElem?_eq_getElem (by omega))).2 ((Z7 hp (i := c') (List.getElem?_eq_getElem (by omega))).1 h); omega
  ·exact h
  ·have := (Z7 hp (i := c) (List.getElem?_eq_getElem (by omega))).2 ((Z7 hp' (i := c) (List.getElem?_eq_getElem (by omega))).1 h); omega
 subst hcc
 have hcl : c' <= l.length := by have := hp.1; rwa [List.length_map] at this
 rw [hc, Option.bind_some]
 try dsimp only
 cases hh : yI l a with
 | true =>
  obtain ⟨x, hx, hxa⟩ := VL (hb.1 hh)
  try dsimp only
  rw [zd, Option.bind_some, hx, Option.bind_some, if_pos rfl]
  have := Ew hx (GEntry.mk x.Addr x.Val x.Deps true x.Turned) (fun x5 => GEntry.mk x5.Addr x5.Val x5.Deps x5.Taint ser)
  have hl2 := (List.getElem?_eq_some_iff.1 hx).1
  rw [List.getElem?_set_self (by simpa using hl2), Option.bind_some, List.set_set, NJ hx]
  rfl
 | false =>
  rw [if_neg (by decide)]
  try dsimp only
  cases b with
  | false => rfl
  | true =>
   try dsimp only
   unfold zU
   rw [if_pos (w5 (by decide) (by omega)), Option.bind_some, NH hcl hl, Option.bind_some, zd, Option.bind_some]
   have hg : ∀ x, (yC l c' x)[c']? = some x := fun x => by rw [WA l c' x hcl, if_neg (by omega), if_pos rfl]
   rw [hg, Option.bind_some, NI hcl, hg, Option.bind_some, NI hcl, if_pos rfl]
   rfl
theorem M9 {l : List GEntry} {c : Nat} {ser : Int} : (l.modify c (tnE ser)).map GEntry.Addr = l.map GEntry.Addr := by
 apply List.ext_getElem?
 intro i
 rw [List.getElem?_map, List.getElem?_map, List.getElem?_modify]
 split <;> cases l[i]? <;> rfl
theorem Tn {ser : Int} : ∀ (l : List GEntry) (c : Nat), zX (l.modify c (tnE ser)) = zX l
 | [], c => by simp [zX]
 | x :: l, 0 => by simp only [List.modify_zero_cons, zX]; rfl
 | x :: l, c + 1 => by simp only [List.modify_succ_cons, zX, Tn l c]
theorem zai {s : GState} {e : GEvent} (hI : stI s) (he : evB e = true) (hm : YK s e = true) (hz : ssz s + ql e <= 2 ^ 36) (hl : s.Entries.length <= 1048576) :
  ∃ s', vk e s = some s' ∧ wD s e = some (s', true) ∧ stI s' ∧ ssz s' <= ssz s + ql e + 1 ∧ s'.Entries.length <= s.Entries.length + 1 := by
 have hI0 := hI
 obtain ⟨i1, i2, i3, i4⟩ := hI
 have hser : s.Serial < 1000000 := by
  rcases Int.lt_or_le s.Serial 1000000 with h | h
  ·exact h
  ·unfold YK at hm; rw [if_pos (by omega)] at hm; cases hm
 have hw : w64 (s.Serial + 1) = s.Serial + 1 := yn (by omega) (by omega)
 have hcp : xh s = some s := if_pos (by omega)
 have hft := Om (e := e) hI0 (by omega)
 rw [hm] at hft
 unfold ssz ql at *
 have hroom : ∀ n, n <= 1048577 → yr 152 n := fun n hn => vj (by omega)
 unfold vk wD
 rw [hcp, Option.bind_some, hft, Option.bind_some, hw]
 dsimp only
 obtain ⟨c, hp, hc, hb⟩ := M7 (s := GState.mk (s.Serial + 1) s.Open s.Pending s.Act s.Entries) (a := e.Addr) (by show s.Entries.length <= _; omega) i3
 change kw (s.Entries.map GEntry.Addr) e.Addr c at hp
 change yI s.Entries e.Addr = true ↔ (s.Entries.map GEntry.Addr)[c]? = some e.Addr at hb
 change ye (GState.mk (s.Serial + 1) s.Open s.Pending s.Act s.Entries) e.Addr = some ((c : Int), yI s.Entries e.Addr) at hc
 have hcl : c <= s.Entries.length := by have := hp.1; rwa [List.length_map] at this
 rw [hc, Option.bind_some]
 dsimp only
 unfold xW
 rw [if_pos (by show s.Entries.length <= _; omega), Option.bind_some, show (GState.mk (s.Serial + 1) s.Open s.Pending s.Act s.Entries).Entries = s.Entries from rfl]
 unfold YK at hm
 rw [if_neg (by omega)] at hm
 have hdone : ∀ (l : List GEntry) (o : Bool), Asc (l.map GEntry.Addr) → stI (GState.mk (s.Serial + 1) o [] 0 l) := fun l o h => ⟨by show (0 : Int) <= s.Serial + 1; omega, by show s.Serial + 1 <= 1000000; omega, h, fun h => absurd rfl h⟩
 by_cases k0 : e.Kind = 0
 ·rw [if_pos k0, if_pos k0]
  refine ⟨_, rfl, rfl, ⟨by show (0 : Int) <= s.Serial + 1; omega, by show s.Serial + 1 <= 1000000; omega, i3, fun h => ⟨rfl, (i4 h).2⟩⟩, by (try simp only [jn, jo]); omega, by (try simp only [jn, jo]); omega⟩
 rw [if_neg k0, if_neg k0]
 rw [if_neg k0] at hm
 by_cases k1 : e.Kind = 1
 ·rw [if_pos k1, if_pos k1]
  rw [if_pos k1] at hm
  simp only [Bool.and_eq_true, decide_eq_true_eq, beq_iff_eq] at hm
  unfold zU
  rw [if_pos (w5 (by decide) (by omega)), Option.bind_some]
  refine ⟨_, rfl, rfl, ⟨by show (0 : Int) <= s.Serial + 1; omega, by show s.Serial + 1 <= 1000000; omega, i3, fun h => ⟨hm.1.1.1, hm.1.2⟩⟩, by (try simp only [jn, jo]); omega, by (try simp only [jn, jo]); omega⟩
 rw [if_neg k1, if_neg k1]
 rw [if_neg k1] at hm
 by_cases k2 : e.Kind = 2
 ·rw [if_pos k2, if_pos k2]
  rw [if_pos k2] at hm
  simp only [Bool.and_eq_true, decide_eq_true_eq] at hm
  unfold zU xY yM ji
  rw [if_pos (w5 (by decide) (by omega)), Option.bind_some, if_pos (by omega), Option.bind_some, if_pos (by omega), Option.bind_some, if_pos (by omega), Option.bind_some]
  have hpe : vm (GEntry.mk e.Addr e.Val e.Deps false (s.Serial + 1)) false s.Entries = if (s.Entries.map GEntry.Addr)[c]? = some e.Addr then s.Entries.set c (GEntry.mk e.Addr e.Val e.Deps false (s.Serial + 1)) else yC s.Entries c (GEntry.mk e.Addr e.Val e.Deps false (s.Serial + 1)) := PH (e := GEntry.mk e.Addr e.Val e.Deps false (s.Serial + 1)) i3 hp
  rw [hpe]
  cases hh : yI s.Entries e.Addr with
  | true =>
   have hk := hb.1 hh
   obtain ⟨x, hx, hxa⟩ := VL hk
   dsimp only
   rw [zd, Option.bind_some, hx, Option.bind_some, if_pos hk]
   refine ⟨_, rfl, rfl, hdone _ _ (by rw [M3 (by exact hk)]; exact i3), ?_, by (try simp only [jn, jo]); rw [List.length_set]; omega⟩
   have h1 := M6 s.Entries c (GEntry.mk e.Addr e.Val e.Deps false (s.Serial + 1))
   have h2 : esz (GEntry.mk e.Addr e.Val e.Deps false (s.Serial + 1)) = e.Addr.length + vsz e.Val + bsz e.Deps := rfl
   try simp only [jn, jo]
   try simp only [List.length_nil]
   omega
  | false =>
   have hk : ¬ (s.Entries.map GEntry.Addr)[c]? = some e.Addr := fun h => by rw [hb.2 h] at hh; cases hh
   dsimp only
   rw [NH hcl hl, Option.bind_some, if_neg hk]
   refine ⟨_, rfl, rfl, hdone _ _ (by rw [V3]; exact NF i3 hp hk), ?_, by (try simp only [jn, jo]); simp [yC]; omega⟩
   have h1 := M5 s.Entries c (GEntry.mk e.Addr e.Val e.Deps false (s.Serial + 1))
   have h2 : esz (GEntry.mk e.Addr e.Val e.Deps false (s.Serial + 1)) = e.Addr.length + vsz e.Val + bsz e.Deps := rfl
   try simp only [jn, jo]
   try simp only [List.length_nil]
   omega
 rw [if_neg k2, if_neg k2]
 rw [if_neg k2] at hm
 by_cases k3 : e.Kind = 3
 ·rw [if_pos k3, if_pos k3]
  rw [if_pos k3] at hm
  simp only [Bool.and_eq_true, decide_eq_true_eq] at hm
  have hne := UA he (.inr (.inr (.inl k3)))
  have hh : yI s.Entries e.Addr = true := by
   have := (i4 (by rw [hm.1]; exact hne)).2
   rw [<- hm.1, this, decide_eq_true]; omega
  have hk := hb.1 hh
  have hcl2 : c < s.Entries.length := by have := (List.getElem?_eq_some_iff.1 hk).1; rwa [List.length_map] at this
  rw [hm.1, PI i3 hk, zd, Option.bind_some, zG (by omega), zd]
  unfold wS
  rw [show vB none (some c) s.Entries.length = some (0, c) by unfold vB; simp; omega, Option.map_some, Option.bind_some]
  rw [if_pos (hroom _ (by simp; omega)), Option.bind_some, show vB (some (c + 1)) none s.Entries.length = some (c + 1, s.Entries.length) by unfold vB; simp; omega, Option.map_some, Option.bind_some]
  rw [if_pos (hroom _ (by simp; omega)), zah hcl2 hl, Option.bind_some]
  refine ⟨_, rfl, ?_, hdone _ _ ?_, ?_, ?_⟩
  ·simp [wT]
  ·have := zag i3 (c := c) (by rwa [List.length_map])
   rw [<- M4] at this
   simpa [wT] using this
  ·have := DM s.Entries c
   have h2 : ∀ L : List GEntry, L = wT s.Entries c → zX L <= zX s.Entries := fun L h => by rw [h]; exact this
   have := h2 (List.drop 0 (List.take c s.Entries) ++ List.drop (c + 1) (List.take s.Entries.length s.Entries)) (by simp [wT])
   try simp only [jn, jo]
   try simp only [List.length_nil]
   omega
  ·(try simp only [jn, jo]); simp; omega
 rw [if_neg k3, if_neg k3]
 rw [if_neg k3] at hm
 obtain ⟨c2, hp2⟩ := kw.of i3 s.Pending
 have hcl2 : c2 <= s.Entries.length := by have := hp2.1; rwa [List.length_map] at this
 have hmem := kw.mem i3 hp2
 have hsp : ∀ (o : Bool) (x : GEntry), s.Entries[c2]? = some x → ((zv (c2 : Int)).bind fun i10 => (s.Entries[i10]?).bind fun x11 => ((s.Entries.set i10 (GEntry.mk x11.Addr x11.Val x11.Deps true x11.Turned))[i10]?).bind fun x12 => some (GState.mk (s.Serial + 1) o [] 0 ((s.Entries.set i10 (GEntry.mk x11.Addr x11.Val x11.Deps true x11.Turned)).set i10 (GEntry.mk x12.Addr x12.Val x12.Deps x12.Taint (s.Serial + 1))))) =
   some (GState.mk (s.Serial + 1) o [] 0 (s.Entries.modify c2 (tnE (s.Serial + 1)))) := fun o x hx => by
  have hl2 := (List.getElem?_eq_some_iff.1 hx).1
  rw [zd, Option.bind_some, hx, Option.bind_some, List.getElem?_set_self (by simpa using hl2), Option.bind_some, List.set_set, NJ hx]
  rfl
 by_cases k4 : e.Kind = 4
 ·rw [if_pos k4, if_pos k4]
  rw [if_pos k4] at hm
  simp only [decide_eq_true_eq] at hm
  have hne := UA he (.inr (.inr (.inr k4)))
  have hpn : s.Pending ≠ [] := by rw [hm]; exact hne
  rw [M8 hl (by omega) i3 hp2, Option.bind_some, if_neg hpn, if_neg (fun h => hpn (Xi.1 h)), (i4 hpn).1]
  cases hh : yI s.Entries s.Pending with
  | true =>
   have hk := hmem.2 (Yd.1 hh)
   obtain ⟨x, hx, _⟩ := VL hk
   rw [PI i3 hk, if_pos (by omega), if_pos (hroom _ (by omega)), hsp true x hx]
   refine ⟨_, rfl, rfl, hdone _ _ (by rw [M9]; exact i3), ?_, by (try simp only [jn, jo]); simp⟩
   try simp only [jn, jo]
   try simp only [List.length_nil]
   rw [Tn]
   omega
  | false =>
   rw [Jx hh, if_neg (by decide)]
   refine ⟨_, rfl, rfl, hdone _ _ i3, ?_, by (try simp only [jn, jo]); simp⟩
   try simp only [jn, jo]
   try simp only [Bool.false_eq_true, if_false]
   try simp only [List.length_nil]
   omega
 rw [if_neg k4, if_neg k4]
 rw [if_neg k4] at hm
 by_cases k6 : e.Kind = 6
 ·rw [if_pos k6, if_pos k6]
  rw [M8 hl (by omega) i3 hp2, Option.bind_some]
  by_cases hpn : s.Pending = []
  ·rw [if_pos hpn, if_pos (Xi.2 hpn)]
   refine ⟨_, rfl, rfl, hdone _ _ i3, ?_, by (try simp only [jn, jo]); omega⟩
   try simp only [jn, jo]
   try simp only [List.length_nil]
   omega
  rw [if_neg hpn, if_neg (fun h => hpn (Xi.1 h))]
  cases hh : yI s.Entries s.Pending with
  | true =>
   have hk := hmem.2 (Yd.1 hh)
   obtain ⟨x, hx, _⟩ := VL hk
   rw [PI i3 hk, if_pos (by omega), if_pos (hroom _ (by omega)), hsp false x hx]
   refine ⟨_, rfl, rfl, hdone _ _ (by rw [M9]; exact i3), ?_, by (try simp only [jn, jo]); simp⟩
   try simp only [jn, jo]
   try simp only [List.length_nil]
   rw [Tn]
   omega
  | false =>
   have hk : ¬ (s.Entries.map GEntry.Addr)[c2]? = some s.Pending := fun h => by rw [Yd.2 (hmem.1 h)] at hh; cases hh
   unfold ji
   rw [Jx hh, if_neg (by decide), if_pos (by omega), Option.bind_some]
   rw [show vm (GEntry.mk s.Pending (GValue.mk 5 0 [] [] []) [] true (s.Serial + 1)) false s.Entries = yC s.Entries c2 (nwE s.Pending (s.Serial + 1)) by
    have : vm (nwE s.Pending (s.Serial + 1)) false s.Entries = if (s.Entries.map GEntry.Addr)[c2]? = some s.Pending then s.Entries.set c2 (nwE s.Pending (s.Serial + 1)) else yC s.Entries c2 (nwE s.Pending (s.Serial + 1)) := PH (e := nwE s.Pending (s.Serial + 1)) i3 hp2
    rw [if_neg hk] at this
    exact this]
   refine ⟨_, rfl, rfl, hdone _ _ (by rw [V3]; exact NF i3 hp2 hk), ?_, by (try simp only [jn, jo]); simp [yC]; omega⟩
   have h1 := M5 s.Entries c2 (nwE s.Pending (s.Serial + 1))
   rw [zc2] at h1
   try simp only [jn, jo]
   try simp only [List.length_nil]
   omega
 rw [if_neg k6, if_neg k6]
 by_cases k5 : e.Kind = 5
 ·rw [if_pos k5, if_pos k5]
  refine ⟨_, rfl, rfl, hdone _ _ i3, ?_, by (try simp only [jn, jo]); omega⟩
  try simp only [jn, jo]
  try simp only [List.length_nil]
  omega
 ·exfalso
  unfold evB at he
  rw [if_neg k2, if_neg (by omega), if_neg k1, if_neg (by omega), Bool.and_false] at he
  cases he
def nxS (e : GEvent) (s : GState) : GState := (vk e s).getD s
def jx : GState → List GEvent → GState × Bool
 | s, [] => (s, true)
 | s, e :: l => bif YK s e then jx (nxS e s) l else (s, false)
def Xj : GState → List GEvent → List GState
 | _, [] => []
 | s, e :: l => nxS e s :: Xj (nxS e s) l
def okS : GState → List GEvent → Bool
 | _, [] => true
 | s, e :: l => evB e && (YK s e && okS (nxS e s) l)
theorem GR {s : GState} {e : GEvent} (hI : stI s) (he : evB e = true) (hm : YK s e = true) (hz : ssz s + ql e <= 2 ^ 20) : vk e s = some (nxS e s) ∧ wD s e = some (nxS e s, true) ∧ stI (nxS e s) ∧ ssz (nxS e s) <= ssz s + ql e + 1 := by
 have hlen := qk s.Entries
 obtain ⟨s', h1, h2, h3, h4, _⟩ := zai hI he hm (by omega) (by unfold ssz at hz; omega)
 have : nxS e s = s' := by unfold nxS; rw [h1]; rfl
 rw [this]
 exact ⟨h1, h2, h3, h4⟩
theorem doN {s : GState} {e : GEvent} (hI : stI s) (hm : YK s e = false) (hz : ssz s <= 2 ^ 20) : wD s e = some (s, false) := by
 have hlen := qk s.Entries
 have hft := Om (e := e) hI (by unfold ssz at hz; omega)
 rw [hm] at hft
 unfold wD
 rw [show xh s = some s from if_pos (by omega), Option.bind_some, hft, Option.bind_some]
theorem NK : ∀ {l : List GEvent} {s : GState}, (∀ e ∈ l, evB e = true) → okS s l = (jx s l).2
 | [], s, _ => rfl
 | e :: l, s, h => by
  rw [okS, jx, h e List.mem_cons_self, Bool.true_and, NK fun x hx => h x (List.mem_cons_of_mem _ hx)]
  cases YK s e <;> rfl
theorem MA : ∀ {l : List GEvent} {s : GState}, okS s l = true → ∀ e ∈ l, evB e = true
 | [], _, _ => by simp
 | e :: l, s, h => by
  rw [okS, Bool.and_eq_true, Bool.and_eq_true] at h
  intro x hx
  rcases List.mem_cons.1 hx with rfl | hx
  ·exact h.1
  ·exact MA h.2.2 x hx
theorem zc3 {m : Nat} (hm : m <= 2 ^ 39) : yr 72 m := w5 (by decide) (by omega)
theorem On {h : GHistory} {k : Int} {v3 : Int} {v4 : Bool} {v5 : Int} {v7 : List UInt8} {v8 : List GEntry} : ∀ (l p r : List GEvent) (s : GState) (m : Nat), h.Events = p ++ l ++ r → k = ((p.length + l.length : Nat) : Int) → l.length < m → (∀ e ∈ l, evB e = true) → stI s → ssz s + yo l <= 2 ^ 20 → p.length + l.length <= 2 ^ 40 →
  ∃ z, qc k h v3 v4 v5 v7 v8 m (p.length : Int) s = some (bif (jx s l).2 then .inr (z, (jx s l).1) else .inl (false, (jx s l).1)) := by
 intro l
 induction l with
 | nil =>
  intro p r s m _ hk hm _ _ _ _
  obtain ⟨m, rfl, _⟩ := zg hm
  exact ⟨_, by rw [qc, hk, if_neg (by simp)]; rfl⟩
 | cons e l ih =>
  intro p r s m he hk hm hev hI hz hp
  obtain ⟨m, rfl, hm'⟩ := zg hm
  simp only [List.length_cons] at hk hm' hp
  simp only [yo] at hz
  have hlen := qk s.Entries
  have hg : h.Events[p.length]? = some e := by rw [he, List.append_assoc]; exact zM p e (l ++ r)
  have hee := hev e List.mem_cons_self
  rw [qc, hk, if_pos (by omega), zd, Option.bind_some, hg, Option.bind_some, DN hI hee (by unfold ssz at hz; omega), Option.bind_some, jx]
  cases hmy : YK s e with
  | false => exact ⟨0, rfl⟩
  | true =>
   obtain ⟨h1, _, h3, h4⟩ := GR hI hee hmy (by omega)
   obtain ⟨z, hzz⟩ := ih (p ++ [e]) r (nxS e s) m (by rw [he]; simp) (by rw [hk]; simp; omega) (by omega) (fun x hx => hev x (List.mem_cons_of_mem _ hx)) h3 (by omega) (by simp; omega)
   refine ⟨z, ?_⟩
   dsimp only
   rw [h1, Option.bind_some, yH p e (by omega), <- hk, hzz]
   rfl
theorem DO {h : GHistory} (hz : yo h.Events <= 2 ^ 20) : ∀ (l p : List GEvent) (m : Nat), h.Events = p ++ l → l.length < m → ∃ z, qd h m (p.length : Int) = some (bif l.all evB then .inr z else .inl false) := by
 have hl := Zl h.Events
 intro l
 induction l with
 | nil =>
  intro p m he hm
  obtain ⟨m, rfl, _⟩ := zg hm
  exact ⟨_, by rw [qd, he, if_neg (by simp)]; rfl⟩
 | cons e l ih =>
  intro p m he hm
  obtain ⟨m, rfl, hm'⟩ := zg hm
  have hlen : h.Events.length = p.length + (l.length + 1) := by rw [he]; simp
  have hx : 1 + ql e <= yo h.Events := V6 (by rw [he]; simp)
  obtain ⟨z, hzz⟩ := ih (p ++ [e]) m (by rw [he]; simp) (by simp only [List.length_cons] at hm'; omega)
  rw [qd, if_pos (by omega), zd, Option.bind_some, show h.Events[p.length]? = some e by rw [he]; exact zM p e l, Option.bind_some, Et (by omega), Option.bind_some, List.all_cons]
  cases evB e with
  | false => exact ⟨0, rfl⟩
  | true =>
   refine ⟨z, ?_⟩
   dsimp only
   rw [yH p e (by omega), hzz, Bool.true_and]
def hsz (h : GHistory) : Nat := ssz h.Base + yo h.Events
def hOk (h : GHistory) : Bool := stB h.Base && (decide (h.Events.length <= 300) && (decide (0 <= h.Safe ∧ h.Safe <= h.Events.length) && okS h.Base h.Events))
theorem DP {h : GHistory} (hz : hsz h <= 2 ^ 20) : kZ h = some (hOk h) := by
 unfold hsz at hz
 have hl := Zl h.Events
 unfold kZ ZW hOk
 rw [Ea (by omega), Option.bind_some]
 cases hs : stB h.Base with
 | false => rfl
 | true =>
  dsimp only
  by_cases c1 : 300 < (h.Events.length : Int)
  ·rw [if_pos c1, decide_eq_false (p := h.Events.length <= 300) (by omega)]; rfl
  rw [if_neg c1, decide_eq_true (p := h.Events.length <= 300) (by omega)]
  by_cases c2 : h.Safe < 0
  ·rw [if_pos c2, decide_eq_false (p := 0 <= h.Safe ∧ h.Safe <= h.Events.length) (by omega)]; rfl
  rw [if_neg c2]
  by_cases c3 : (h.Events.length : Int) < h.Safe
  ·rw [if_pos c3, decide_eq_false (p := 0 <= h.Safe ∧ h.Safe <= h.Events.length) (by omega)]; rfl
  rw [if_neg c3, decide_eq_true (p := 0 <= h.Safe ∧ h.Safe <= h.Events.length) (by omega)]
  obtain ⟨z, hzz⟩ := DO (h := h) (by omega) h.Events [] (h.Events.length + 5) rfl (by omega)
  simp only [List.length_nil, Int.natCast_zero] at hzz
  rw [hzz, Option.bind_some]
  cases hall : h.Events.all evB with
  | false =>
   have : okS h.Base h.Events = false := by
    cases hk : okS h.Base h.Events with
    | false => rfl
    | true => rw [List.all_eq_true.2 (MA hk)] at hall; cases hall
   rw [this]; rfl
  | true =>
   have hev := List.all_eq_true.1 hall
   simp only [cond_true]
   unfold qK kY
   obtain ⟨z2, h2⟩ := On (h := h) (k := (h.Events.length : Int)) (v3 := 0) (v4 := false) (v5 := 0) (v7 := []) (v8 := []) h.Events [] [] h.Base (h.Events.length + 5) (by simp) (by simp) (by omega) hev (Lj hs) hz (by simp; omega)
   simp only [List.length_nil, Int.natCast_zero] at h2
   rw [h2, NK hev, Option.bind_some]
   cases (jx h.Base h.Events).2 <;> rfl
theorem Nt {evs : List GEvent} {n : Int} : ∀ (l p : List GEvent) (q : List GState) (s : GState) (m : Nat), evs = p ++ l → n = (evs.length : Int) → l.length < m → q.length = p.length → stI s → ssz s + yo l <= 2 ^ 20 → evs.length <= 2 ^ 30 →
  ∃ z, yE evs n m (p.length : Int) (q ++ [s]) = some (bif okS s l then .inr (z, q ++ [s] ++ Xj s l) else .inl (false, [])) := by
 intro l
 induction l with
 | nil =>
  intro p q s m he hn hm _ _ _ _
  obtain ⟨m, rfl, _⟩ := zg hm
  exact ⟨_, by rw [yE, hn, he, if_neg (by simp)]; simp [okS, Xj]; rfl⟩
 | cons e l ih =>
  intro p q s m he hn hm hq hI hz hb
  obtain ⟨m, rfl, hm'⟩ := zg hm
  simp only [List.length_cons] at hm'
  simp only [yo] at hz
  have hg : evs[p.length]? = some e := by rw [he]; exact zM p e l
  have hlen : evs.length = p.length + (l.length + 1) := by rw [he]; simp
  have hgs : (q ++ [s])[p.length]? = some s := by rw [<- hq]; exact zM q s []
  rw [yE, hn, if_pos (by omega), zd, Option.bind_some, hg, Option.bind_some, Es (by omega), Option.bind_some, okS]
  cases hev : evB e with
  | false => exact ⟨0, rfl⟩
  | true =>
   have heta : GState.mk s.Serial s.Open s.Pending s.Act s.Entries = s := by cases s; rfl
   dsimp only
   rw [hgs, Option.bind_some]
   cases hmy : YK s e with
   | false =>
    rw [doN hI hmy (by omega), Option.bind_some]
    try dsimp only
    rw [JG hgs, hgs, Option.bind_some]
    exact ⟨0, rfl⟩
   | true =>
    obtain ⟨_, h2, h3, h4⟩ := GR hI hev hmy (by omega)
    obtain ⟨z, hzz⟩ := ih (p ++ [e]) (q ++ [s]) (nxS e s) m (by rw [he]; simp) hn (by omega) (by simp [hq]) h3 (by omega) hb
    rw [h2, Option.bind_some]
    try dsimp only
    rw [JG hgs, hgs, Option.bind_some]
    try dsimp only
    rw [heta, JG hgs, if_pos (zc3 (by simp; omega)), yH p e (by omega), <- hn, hzz]
    refine ⟨z, ?_⟩
    simp only [Bool.true_and, Xj]
    cases okS (nxS e s) l <;> simp
theorem Ey {h : GHistory} (hz : hsz h <= 2 ^ 20) : wt h = some (bif hOk h then (h.Base :: Xj h.Base h.Events, true) else ([], false)) := by
 unfold hsz at hz
 have hl := Zl h.Events
 unfold wt qF hOk
 rw [Em (by omega), Option.bind_some]
 cases hs : stB h.Base with
 | false => rfl
 | true =>
  dsimp only
  by_cases c1 : 300 < (h.Events.length : Int)
  ·rw [if_pos c1, decide_eq_false (p := h.Events.length <= 300) (by omega)]; rfl
  rw [if_neg c1, decide_eq_true (p := h.Events.length <= 300) (by omega)]
  have hin : yV h.Safe 0 (h.Events.length : Int) = some (decide (0 <= h.Safe ∧ h.Safe <= h.Events.length)) := by
   unfold yV
   by_cases c2 : 0 <= h.Safe
   ·rw [if_pos c2]; simp [c2]
   ·rw [if_neg c2]; simp [c2]
  rw [hin, Option.bind_some]
  by_cases c2 : 0 <= h.Safe ∧ h.Safe <= h.Events.length
  ·rw [decide_eq_true c2]
   dsimp only
   rw [show xh h.Base = some h.Base from if_pos (by omega), Option.bind_some]
   obtain ⟨z, hzz⟩ := Nt (evs := h.Events) (n := (h.Events.length : Int)) h.Events [] [] h.Base (h.Events.length + 5) rfl rfl (by omega) rfl (Lj hs) hz (by omega)
   simp only [List.length_nil, Int.natCast_zero, List.nil_append] at hzz
   rw [hzz, Option.bind_some]
   cases okS h.Base h.Events <;> simp
  ·rw [decide_eq_false c2]; rfl
def MdH (h : GHistory) : Prop := MdS h.Base ∧ h.Events.length <= 2 ^ 63 - 1 ∧ Wk h.Events
theorem zc4 {h : GHistory} {n : Int} (hm : MdH h) (h0 : 0 <= n) (h1 : n <= 2 ^ 20) : kL h n = some (yR (hsz h) n) := by
 unfold kL
 rw [zc0 hm.1 h0 h1, Option.bind_some]
 unfold yR hsz
 by_cases c1 : (ssz h.Base : Int) <= n
 ·rw [if_pos c1, if_neg (by omega)]
  unfold j7
  rw [if_pos ⟨hm.2.1, hm.2.2, by omega, by omega⟩, Option.bind_some]
  unfold yR
  by_cases c2 : (yo h.Events : Int) <= n - ssz h.Base
  ·rw [if_pos c2, if_neg (by omega), if_pos (by omega)]; congr 1; omega
  ·rw [if_neg c2, if_pos (by omega), if_neg (by omega)]
 ·rw [if_neg c1, if_pos (by omega), if_neg (by omega)]
theorem zc5 {h : GHistory} (hz : hsz h <= 2 ^ 20) : kM h = some h := by
 unfold hsz at hz
 unfold kM jA
 rw [zc1 (by omega), Option.bind_some, if_pos (by omega), Option.bind_some]
 cases h; rfl
theorem zc6 {h : GHistory} (hz : hsz h <= 2 ^ 39) : jl h h = some true := by
 unfold hsz at hz
 unfold jl
 rw [Eu (by omega), Option.bind_some]
 dsimp only
 rw [Ns (by omega), Option.bind_some]
 dsimp only
 rw [if_pos rfl]
theorem Ez {h : GHistory} (hk : hOk h = true) : stB h.Base = true ∧ h.Events.length <= 300 ∧ (0 <= h.Safe ∧ h.Safe <= h.Events.length) ∧ okS h.Base h.Events = true := by
 unfold hOk at hk
 simp only [Bool.and_eq_true, decide_eq_true_eq] at hk
 exact ⟨hk.1, hk.2.1, hk.2.2.1, hk.2.2.2⟩
theorem E0 : ∀ {l : List GEvent} {s : GState}, stI s → ssz s + yo l <= 2 ^ 20 → okS s l = true → stI (jx s l).1 ∧ ssz (jx s l).1 <= ssz s + yo l ∧ (jx s l).2 = true ∧ (s :: Xj s l)[l.length]? = some (jx s l).1
 | [], s, hI, hz, _ => ⟨hI, by simp [jx, yo], rfl, rfl⟩
 | e :: l, s, hI, hz, hk => by
  rw [okS, Bool.and_eq_true, Bool.and_eq_true] at hk
  simp only [yo] at hz ⊢
  obtain ⟨_, _, h3, h4⟩ := GR hI hk.1 hk.2.1 (by omega)
  obtain ⟨g1, g2, g3, g4⟩ := E0 (l := l) (s := nxS e s) h3 (by omega) hk.2.2
  rw [jx, hk.2.1]
  exact ⟨g1, by simp only [cond_true]; omega, g3, by simp only [Xj, List.length_cons, List.getElem?_cons_succ, cond_true]; exact g4⟩
theorem Oo : ∀ (a b : List GEvent), yo (a ++ b) = yo a + yo b
 | [], b => by simp [yo]
 | x :: a, b => by simp only [List.cons_append, yo, Oo a b]; omega
theorem E3 : ∀ {l : List GEvent} {s : GState} {n : Nat}, okS s l = true → n <= l.length → okS s (l.take n) = true ∧ (s :: Xj s l)[n]? = some (jx s (l.take n)).1
 | l, s, 0, _, _ => ⟨rfl, by simp [jx]⟩
 | [], s, n + 1, _, hn => by simp at hn
 | e :: l, s, n + 1, hk, hn => by
  rw [okS, Bool.and_eq_true, Bool.and_eq_true] at hk
  obtain ⟨h1, h2⟩ := E3 (l := l) (s := nxS e s) (n := n) hk.2.2 (by simpa using hn)
  rw [List.take_succ_cons, okS, jx, hk.1, hk.2.1, h1]
  exact ⟨rfl, by simp only [Xj, List.getElem?_cons_succ, cond_true]; exact h2⟩
theorem GS (l : List GEvent) (n : Nat) : yo (l.take n) + yo (l.drop n) = yo l := by
 rw [<- Oo, List.take_append_drop]
theorem zaj {h : GHistory} {n : Nat} (hz : hsz h <= 2 ^ 20) (hk : hOk h = true) (hn : n <= h.Events.length) : qK h ((n : Nat) : Int) = some ((jx h.Base (h.Events.take n)).1, true) ∧ (h.Base :: Xj h.Base h.Events)[n]? = some (jx h.Base (h.Events.take n)).1 ∧
  ssz (jx h.Base (h.Events.take n)).1 + yo (h.Events.drop n) <= hsz h := by
 unfold hsz at hz ⊢
 have hl := Zl h.Events
 have hd := GS h.Events n
 obtain ⟨k1, _, _, k4⟩ := Ez hk
 obtain ⟨v1, v2⟩ := E3 k4 hn
 have hz2 : ssz h.Base + yo (h.Events.take n) <= 2 ^ 20 := by omega
 obtain ⟨r1, r2, r3, _⟩ := E0 (Lj k1) hz2 v1
 refine ⟨?_, v2, by omega⟩
 have hln : (h.Events.take n).length = n := by simp [hn]
 unfold qK kY
 obtain ⟨z2, h2⟩ := On (h := h) (k := ((n : Nat) : Int)) (v3 := 0) (v4 := false) (v5 := 0) (v7 := []) (v8 := []) (h.Events.take n) [] (h.Events.drop n) h.Base (h.Events.length + 5) (by simp) (by rw [hln]; simp) (by omega) (MA v1) (Lj k1) hz2 (by rw [hln]; simp; omega)
 simp only [List.length_nil, Int.natCast_zero] at h2
 rw [h2, r3]
 rfl
theorem zc7 (k : Int) (e : GEntry) : cE (mE k e) = cE e := by
 unfold cE mE
 simp only [GEntry.Addr, GEntry.Val, GEntry.Deps, ZR, GU, V4]
theorem zdj (k : Int) (e : GEntry) : esz (mE k e) = esz e := by
 unfold esz mE
 simp only [GEntry.Addr, GEntry.Val, GEntry.Deps, ZR, Ak, NN]
theorem zak (k : Int) (e : GEntry) : mE k (mE k e) = mE k e := by
 obtain ⟨a, v, d, t, u⟩ := e
 unfold mE
 simp only [GEntry.Addr, GEntry.Val, GEntry.Deps, ZR, GU, V4, VM, NO, MI]
 rfl
theorem MB : ∀ (k : Int) (l : List GEntry), mEs k (mEs k l) = mEs k l
 | _, [] => rfl
 | k, e :: l => by simp only [mEs, zak, zc7, MB]
theorem Ai : ∀ (k : Int) (l : List GEntry), cEs (mEs k l) = cEs l
 | _, [] => rfl
 | k, e :: l => by simp only [mEs, cEs, zc7, Ai]
theorem E4 : ∀ (k : Int) (l : List GEntry), zX (mEs k l) = zX l
 | _, [] => rfl
 | k, e :: l => by simp only [mEs, zX, zdj, E4]
theorem E5 {s : GState} (h : ssz s <= 2 ^ 30) : ∃ (k : Int) (a : List UInt8) (b : List GEntry), xZ s.Serial s.Open s.Act 1 s.Pending s.Entries = some (k, a, b) ∧ 0 <= k ∧ jm (GState.mk s.Serial s.Open a s.Act b) 1 = some k := by
 unfold ssz at h
 have := MN s.Entries
 unfold xZ
 rw [q4 (by omega) (by omega), Option.bind_some]
 dsimp only
 rw [Kc (by omega) (by omega), Option.bind_some]
 refine ⟨_, _, _, rfl, by omega, ?_⟩
 unfold jm
 simp only [jn, jo]
 rw [Zf (VM _ _) (by decide) (by rw [ZR]; omega), Option.bind_some, ZR, if_neg (by omega), OV (MB _ _) (by omega) (by rw [E4]; omega), Option.bind_some, Ai, if_neg (by omega)]
theorem DQ {h : GHistory} (hz : hsz h <= 2 ^ 30) : ∃ (k : Int) (a : List UInt8) (b : List GEntry) (c : List GEvent), q6 h.Base.Serial h.Base.Open h.Base.Act h.Safe 1 h.Base.Pending h.Base.Entries h.Events = some (k, a, b, c) ∧ 0 <= k ∧ k <= 1 + 4 * hsz h := by
 unfold hsz ssz at hz ⊢
 have := MN h.Base.Entries
 have := NT h.Events
 unfold q6 xZ
 rw [q4 (by omega) (by omega), Option.bind_some]
 dsimp only
 rw [Kc (by omega) (by omega), Option.bind_some]
 dsimp only
 rw [Option.bind_some]
 dsimp only
 rw [OT (by omega) (by omega), Option.bind_some]
 exact ⟨_, _, _, _, rfl, by omega, by omega⟩
theorem DR {h : GHistory} (hz : hsz h <= 2 ^ 20) : ∃ s b, vI h = some (s, b) ∧ vK h = some (s, b) ∧ ssz s <= 2 ^ 22 := by
 unfold vI vK
 rw [DP hz, Option.bind_some, Ey hz, Option.bind_some]
 cases hk : hOk h with
 | false => exact ⟨_, _, rfl, rfl, by decide⟩
 | true =>
  simp only [cond_true]
  obtain ⟨k1, k2, _, _⟩ := Ez hk
  obtain ⟨f1, f2, f3⟩ := zaj hz hk (Nat.le_refl _)
  have hlen : ((h.Base :: Xj h.Base h.Events).length : Int) = ((h.Events.length + 1 : Nat) : Int) := by
   have : ∀ (l : List GEvent) (s : GState), (Xj s l).length = l.length := by
    intro l
    induction l with
    | nil => intro s; rfl
    | cons x l ih => intro s; simp only [Xj, List.length_cons, ih]
   rw [List.length_cons, this]
  rw [f1, Option.bind_some]
  dsimp only
  rw [show Zb (jx h.Base (h.Events.take h.Events.length)).1 = some (jx h.Base (h.Events.take h.Events.length)).1 from if_pos (by omega)]
  rw [hlen, yn (by omega) (by omega), show ((h.Events.length + 1 : Nat) : Int) - 1 = (h.Events.length : Int) by omega, zd, Option.bind_some, Option.bind_some, f2, Option.bind_some]
  exact ⟨_, _, rfl, rfl, by omega⟩
theorem law_HistHead {h : GHistory} (hm : MdH h) : jN h = some true := by
 unfold jN
 rw [zc4 hm (by decide) (by decide), Option.bind_some]
 unfold yR
 by_cases c : (hsz h : Int) <= 1048576
 ·have hz : hsz h <= 2 ^ 20 := by omega
  rw [if_pos c, if_neg (by omega), zc5 hz, Option.bind_some]
  obtain ⟨s, b, e1, e2, e3⟩ := DR hz
  obtain ⟨k1, a1, b1, c1, m1, m2, m3⟩ := DQ (h := h) (by omega)
  obtain ⟨k2, a2, b2, n1, n2, n3⟩ := E5 (s := s) (by omega)
  rw [e1, e2, Option.bind_some]
  dsimp only
  rw [Option.bind_some]
  dsimp only
  rw [Eu (by omega), Option.bind_some]
  dsimp only
  cases b <;> (first | rw [if_pos rfl, if_pos rfl] | rw [if_neg (by decide), if_neg (by decide)])
  all_goals
   rw [zc6 (by omega), Option.bind_some]
   dsimp only
   rw [m1, Option.bind_some]
   dsimp only
   rw [if_neg (by omega), n1, Option.bind_some]
   dsimp only
   rw [n3, Option.bind_some, if_neg (by omega), if_pos rfl]
 ·rw [if_neg c, if_pos (by omega)]
end
end Go.Am.Try
