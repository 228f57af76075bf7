/- The law of FnExactTouches, in plain terms. -/
import Derived.Test.YtjmhaigcaidloaaGreatDoorTG4
set_option linter.unusedVariables false
set_option linter.unusedSimpArgs false
namespace Go.Am.Try
open Go.Am
noncomputable section
theorem Me {v : GValue} (h : vsz v <= 2 ^ 20) : xd v = some (kJ v) := by
 unfold xd kW
 rw [if_pos ⟨h, by decide, by decide, by decide⟩, Option.bind_some]
 congr 1
 unfold okV kJ
 rw [show (6 - (1 : Int)).toNat = 5 from rfl]
 by_cases hc : shV 5 v = true ∧ (ptV v : Int) <= 40
 ·rw [if_pos hc, decide_eq_true hc]; exact decide_eq_true (by omega)
 ·rw [if_neg hc, decide_eq_false hc]; rfl
theorem Dp {v : GValue} (h : vsz v <= 2 ^ 20) : qL v = some (kJ v) := by
 unfold qL q8 wh kJ
 rw [if_pos ⟨h, by decide, by decide⟩, Option.bind_some]
 rw [show (5 : Int).toNat = 5 from rfl]
 cases hs : shV 5 v
 ·simp
 ·dsimp only
  rw [if_pos h, Option.bind_some]
  simp
theorem zb9 {s : List UInt8} (h : s.length <= 2 ^ 20) : ye s = some s := if_pos h
theorem zca {s : List UInt8} (h : s.length <= 2 ^ 39) : zT s s = some true := if_pos ⟨rfl, by omega⟩
def qZ (v : GValue) : Bool := decide (v.Kind = 0 ∧ v.N = 0 ∧ v.S.length = 0 ∧ v.K.length = 0 ∧ v.L.length = 0)
def evB (e : GEvent) : Bool :=
  if e.Kind = 2 then ya e.Addr && decide (e.Act = 0) && jK e.Val && j5 e.Deps
  else qZ e.Val && decide (e.Deps.length = 0) &&
    (if e.Kind = 0 ∨ e.Kind = 5 ∨ e.Kind = 6 then decide (e.Addr.length = 0) && decide (e.Act = 0)
     else if e.Kind = 1 then ya e.Addr && decide (1 <= e.Act ∧ e.Act <= 4)
     else if e.Kind = 3 ∨ e.Kind = 4 then ya e.Addr && decide (e.Act = 0) else false)
theorem A9 {v : GValue} (h : vsz v <= 2 ^ 20) : yV v = some (jK v) := by
 unfold yV Yy jK
 by_cases h5 : v.Kind = 5
 ·rw [if_pos h5, Dp h, Option.bind_some, decide_eq_true h5, Bool.true_and]
  cases hv : kJ v with
  | false => rfl
  | true =>
   simp only [Bool.true_and]
   unfold wj
   rw [if_pos (by omega)]; rfl
 ·rw [if_neg h5, decide_eq_false h5]; rfl
theorem AA {v : GValue} (h : vsz v <= 2 ^ 20) : qS v = some (jK v) := by
 unfold qS jK
 by_cases h5 : v.Kind = 5
 ·rw [if_pos h5, Me h, Option.bind_some, decide_eq_true h5, Bool.true_and]
  cases hv : kJ v with
  | false => rfl
  | true =>
   simp only [Bool.true_and]
   unfold qK
   rw [if_pos (by omega)]; rfl
 ·rw [if_neg h5, decide_eq_false h5]; rfl
theorem HJ (v : GValue) : ZD v = some (qZ v) := by
 unfold ZD qZ
 by_cases h1 : v.Kind = 0 <;> by_cases h2 : v.N = 0 <;> by_cases h3 : v.S.length = 0 <;> by_cases h4 : v.K.length = 0 <;> by_cases h5 : v.L.length = 0 <;> simp [h1, h2, h3, h4, h5, List.length_eq_zero_iff.1] <;> simp_all
theorem Jp (a : Int) : ∃ r, jV a 0 = some r ∧ (r = 0 ↔ a = 0) := by
 unfold jV
 by_cases h : a < 0
 ·exact ⟨_, if_pos h, by omega⟩
 ·rw [if_neg h]
  by_cases h' : 0 < a
  ·exact ⟨_, if_pos h', by omega⟩
  ·exact ⟨_, if_neg h', by omega⟩
theorem Gz (G : GValue → GValue → Option Int) (n : Nat) (v z : GValue) (hk : z.Kind = 0) (hn : z.N = 0) (hl : z.L.length = 0) : ∃ r, Yu G (n + 1) v z = some r ∧ ((r = 0 ∧ v.N = 0) ↔ (v.Kind = 0 ∧ v.N = 0 ∧ v.L.length = 0)) := by
 unfold Yu
 rw [hk]
 by_cases h1 : v.Kind = 0
 ·rw [if_pos h1, if_neg (by omega), hn]
  by_cases h2 : v.N = 0
  ·rw [if_pos h2, ju, hl]
   obtain ⟨r, hr, hr2⟩ := Jp (v.L.length : Int)
   refine ⟨r, ?_, by simp only [h1, h2, true_and, and_true]; omega⟩
   by_cases h3 : (0 : Int) < (v.L.length : Int)
   ·rw [if_pos h3, if_neg (by omega), Option.bind_some]
    dsimp only
    rw [show ((0 : Nat) : Int) = 0 from rfl, hr, Option.bind_some]
   ·rw [if_neg h3, Option.bind_some]
    dsimp only
    rw [show ((0 : Nat) : Int) = 0 from rfl, hr, Option.bind_some]
  ·rw [if_neg h2]
   obtain ⟨r, hr, hr2⟩ := Jp v.N
   exact ⟨r, by rw [hr, Option.bind_some], ⟨fun h => absurd h.2 h2, fun h => absurd h.2.1 h2⟩⟩
 ·rw [if_neg h1]
  obtain ⟨r, hr, hr2⟩ := Jp v.Kind
  exact ⟨r, by rw [hr, Option.bind_some], ⟨fun h => absurd (hr2.1 h.1) h1, fun h => absurd h.1 h1⟩⟩
theorem HK (v : GValue) : wH v = some (decide (v.Kind = 0 ∧ v.N = 0 ∧ v.L.length = 0)) := by
 unfold wH Yv
 rw [show vsz v + 3 = (vsz v + 1 + 1) + 1 from rfl, w4]
 obtain ⟨r, hr, hr2⟩ := Gz (w4 (vsz v + 1 + 1)) (vsz v + 1) v (GValue.mk 0 0 [] [] []) rfl rfl rfl
 rw [hr, Option.bind_some]
 by_cases h : r = 0
 ·rw [if_pos h]; exact congrArg some (decide_eq_decide.2 (by rw [<- hr2]; simp [h]))
 ·rw [if_neg h]; exact congrArg some (decide_eq_false (fun h' => h (hr2.2 h').1)).symm
theorem Dq {v : GValue} (h : qZ v = true) : kJ v = true := by
 unfold qZ at h
 cases v
 simp only [GValue.Kind, GValue.N, GValue.S, GValue.K, GValue.L, decide_eq_true_eq, List.length_eq_zero_iff] at h
 obtain ⟨rfl, rfl, rfl, rfl, rfl⟩ := h
 exact decide_eq_true ⟨by simp [shV, yB, GValue.Kind, GValue.N, GValue.S, GValue.K, GValue.L], by simp [ptV, wx]⟩
theorem AB {v : GValue} (h : kJ v = true) : qZ v = decide (v.Kind = 0 ∧ v.N = 0 ∧ v.L.length = 0) := by
 unfold qZ
 refine decide_eq_decide.2 ⟨fun ⟨a, b, _, _, c⟩ => ⟨a, b, c⟩, fun ⟨a, b, c⟩ => ?_⟩
 have := (of_decide_eq_true h).1
 rw [shV] at this
 have hl := (Bool.and_eq_true _ _ ▸ this).1
 unfold yB at hl
 rw [if_pos (Or.inl a)] at hl
 have := of_decide_eq_true hl
 exact ⟨a, this⟩
theorem Dr {a : List UInt8} (h : ya a = true) : 0 < a.length := by
 rcases a with _ | ⟨x, l⟩
 ·revert h; decide
 ·simp
theorem HL {e : GEvent} (h : qi e <= 2 ^ 20) : Zn e = some (evB e) := by
 unfold qi at h
 unfold Zn evB
 by_cases k2 : e.Kind = 2
 ·rw [if_pos k2, if_pos k2, vQ (by omega), Option.bind_some]
  cases ya e.Addr with
  | false => rfl
  | true =>
   dsimp only
   by_cases ha : e.Act = 0
   ·rw [if_pos ha, A9 (by omega), Option.bind_some, decide_eq_true ha]
    cases jK e.Val with
    | false => rfl
    | true =>
     dsimp only
     rw [show xF e.Deps = some (j5 e.Deps) from if_pos (by omega)]
     simp
   ·rw [if_neg ha, decide_eq_false ha]; rfl
 ·rw [if_neg k2, if_neg k2, HJ, Option.bind_some]
  cases qZ e.Val with
  | false => rfl
  | true =>
   dsimp only
   by_cases d : e.Deps.length = 0
   ·rw [if_neg (by omega), decide_eq_true d, Bool.true_and, Bool.true_and]
    by_cases k0 : e.Kind = 0 ∨ e.Kind = 5 ∨ e.Kind = 6
    ·rw [if_pos k0]
     have hh : (if (e.Addr.length : Int) = 0 then some (decide (e.Act = 0)) else some false) = some (decide (e.Addr.length = 0) && decide (e.Act = 0)) := by
      by_cases hl : e.Addr.length = 0
      ·rw [if_pos (by omega), decide_eq_true hl, Bool.true_and]
      ·rw [if_neg (by omega), decide_eq_false hl, Bool.false_and]
     rw [hh]
     by_cases k00 : e.Kind = 0
     ·rw [if_pos k00]
     ·rw [if_neg k00]
      by_cases k05 : e.Kind = 5
      ·rw [if_pos k05]
      ·rw [if_neg k05, if_pos (by omega)]
    ·rw [if_neg k0, if_neg (by omega), if_neg (by omega), if_neg (by omega)]
     by_cases k1 : e.Kind = 1
     ·rw [if_pos k1, if_pos k1, vQ (by omega), Option.bind_some]
      cases ya e.Addr with
      | false => rfl
      | true => dsimp only; rw [XP, Option.bind_some]; rfl
     ·rw [if_neg k1, if_neg k1]
      by_cases k3 : e.Kind = 3
      ·rw [if_pos k3, if_pos (Or.inl k3), vQ (by omega), Option.bind_some]
       cases ya e.Addr <;> rfl
      ·rw [if_neg k3]
       by_cases k4 : e.Kind = 4
       ·rw [if_pos k4, if_pos (Or.inr k4), vQ (by omega), Option.bind_some]
        cases ya e.Addr <;> rfl
       ·rw [if_neg k4, if_neg (by omega)]
   ·rw [if_pos (by omega), decide_eq_false d]; rfl
theorem zvd {v : GValue} (h : vsz v <= 2 ^ 20) (d : Nat) : ((xd v).bind fun r => match r with | true => (wH v).bind fun r => (match r with | true => some (decide (((d : Nat) : Int) = 0)) | false => some false) | false => some false) = some (qZ v && decide (d = 0)) := by
 rw [Me h, Option.bind_some]
 cases hv : kJ v with
 | true =>
  dsimp only
  rw [HK, Option.bind_some, AB hv]
  cases decide (v.Kind = 0 ∧ v.N = 0 ∧ v.L.length = 0) with
  | true => exact congrArg some (by rw [Bool.true_and]; exact decide_eq_decide.2 (by omega))
  | false => rfl
 | false =>
  dsimp only
  cases hz : qZ v with
  | true => rw [Dq hz] at hv; cases hv
  | false => rfl
theorem HM {e : GEvent} (h : qi e <= 2 ^ 20) : Zi e = some (evB e) := by
 unfold qi at h
 unfold Zi evB
 rw [WX (by omega)]
 simp only [Option.bind_some]
 have Z := zvd (v := e.Val) (by omega) e.Deps.length
 have hb := @Dr e.Addr
 by_cases r0 : e.Kind < 0
 ·rw [if_pos r0, if_neg (show ¬ e.Kind = 2 by omega), if_neg (show ¬ (e.Kind = 0 ∨ e.Kind = 5 ∨ e.Kind = 6) by omega), if_neg (show ¬ e.Kind = 1 by omega), if_neg (show ¬ (e.Kind = 3 ∨ e.Kind = 4) by omega), Bool.and_false]
 rw [if_neg r0]
 by_cases r6 : 6 < e.Kind
 ·rw [if_pos r6, if_neg (show ¬ e.Kind = 2 by omega), if_neg (show ¬ (e.Kind = 0 ∨ e.Kind = 5 ∨ e.Kind = 6) by omega), if_neg (show ¬ e.Kind = 1 by omega), if_neg (show ¬ (e.Kind = 3 ∨ e.Kind = 4) by omega), Bool.and_false]
 rw [if_neg r6]
 generalize (qZ e.Val && decide (e.Deps.length = 0)) = z at Z ⊢
 by_cases k1 : e.Kind = 1
 ·rw [if_pos k1, if_neg (show ¬ e.Kind = 2 by omega), if_neg (show ¬ (e.Kind = 0 ∨ e.Kind = 5 ∨ e.Kind = 6) by omega), if_pos k1]
  cases hA : ya e.Addr with
  | false =>
   dsimp only
   rw [Bool.false_and, Bool.and_false]
   split <;> rfl
  | true =>
   have := hb hA
   rw [if_pos (show (0 : Int) < (e.Addr.length : Int) by omega)]
   dsimp only
   by_cases a1 : e.Act < 1
   ·rw [if_pos a1, decide_eq_false (by omega)]; simp
   ·rw [if_neg a1]
    by_cases a2 : 4 < e.Act
    ·rw [if_pos a2, decide_eq_false (by omega)]; simp
    ·rw [if_neg a2, decide_eq_true (show 1 <= e.Act ∧ e.Act <= 4 by omega)]; exact Z.trans (by simp)
 rw [if_neg k1]
 by_cases k2 : e.Kind = 2
 ·rw [if_pos k2, if_pos k2]
  cases hA : ya e.Addr with
  | false =>
   dsimp only
   split <;> rfl
  | true =>
   have := hb hA
   rw [if_pos (show (0 : Int) < (e.Addr.length : Int) by omega)]
   dsimp only
   by_cases ha : e.Act = 0
   ·rw [if_pos ha, AA (by omega), Option.bind_some, decide_eq_true ha]
    cases jK e.Val with
    | false => rfl
    | true =>
     dsimp only
     rw [show wW e.Deps = some (j5 e.Deps) from if_pos (by omega)]
     simp
   ·rw [if_neg ha, decide_eq_false ha]; rfl
 rw [if_neg k2, if_neg k2]
 by_cases k3 : e.Kind = 3
 ·rw [if_pos k3, if_neg (show ¬ (e.Kind = 0 ∨ e.Kind = 5 ∨ e.Kind = 6) by omega), if_neg k1, if_pos (Or.inl k3)]
  cases hA : ya e.Addr with
  | false => dsimp only; rw [Bool.false_and, Bool.and_false]; split <;> rfl
  | true =>
   have := hb hA
   rw [if_pos (show (0 : Int) < (e.Addr.length : Int) by omega)]
   dsimp only
   by_cases ha : e.Act = 0
   ·rw [if_pos ha, decide_eq_true ha]; exact Z.trans (by simp)
   ·rw [if_neg ha, decide_eq_false ha]; simp
 rw [if_neg k3]
 by_cases k4 : e.Kind = 4
 ·rw [if_pos k4, if_neg (show ¬ (e.Kind = 0 ∨ e.Kind = 5 ∨ e.Kind = 6) by omega), if_neg k1, if_pos (Or.inr k4)]
  cases hA : ya e.Addr with
  | false => dsimp only; rw [Bool.false_and, Bool.and_false]; split <;> rfl
  | true =>
   have := hb hA
   rw [if_pos (show (0 : Int) < (e.Addr.length : Int) by omega)]
   dsimp only
   by_cases ha : e.Act = 0
   ·rw [if_pos ha, decide_eq_true ha]; exact Z.trans (by simp)
   ·rw [if_neg ha, decide_eq_false ha]; simp
 rw [if_neg k4, if_pos (show e.Kind = 0 ∨ e.Kind = 5 ∨ e.Kind = 6 by omega)]
 by_cases hl : e.Addr.length = 0
 ·rw [if_neg (by omega), decide_eq_true hl, Bool.true_and]
  by_cases ha : e.Act = 0
  ·rw [if_pos ha, decide_eq_true ha]; exact Z.trans (by simp)
  ·rw [if_neg ha, decide_eq_false ha]; simp
 ·rw [if_pos (by omega), decide_eq_false hl, Bool.false_and, Bool.and_false]
def MdS (s : GState) : Prop := s.Pending.length <= 2 ^ 63 - 1 ∧ s.Entries.length <= 2 ^ 63 - 1 ∧ XN s.Entries
theorem zcb {s : GState} {n : Int} (h : MdS s) (h0 : 0 <= n) (h1 : n <= 2 ^ 20) : Zd s n = some (yP (ssz s) n) := by
 unfold Zd
 rw [Yk h.1 h0 h1, Option.bind_some]
 unfold yP ssz
 by_cases c1 : (s.Pending.length : Int) <= n
 ·rw [if_pos c1, if_neg (by omega)]
  unfold jq
  rw [if_pos ⟨h.2.1, h.2.2, by omega, by omega⟩, Option.bind_some]
  unfold yP
  by_cases c2 : (yh s.Entries : Int) <= n - s.Pending.length
  ·rw [if_pos c2, if_neg (by omega), if_pos (by omega)]; congr 1; omega
  ·rw [if_neg c2, if_pos (by omega), if_neg (by omega)]
 ·rw [if_neg c1, if_pos (by omega), if_neg (by omega)]
theorem zcc {s : GState} (h : ssz s <= 2 ^ 20) : Ze s = some s := by
 unfold ssz at h
 unfold Ze ye js
 rw [if_pos (by omega), Option.bind_some, if_pos (by omega), Option.bind_some]
 cases s; rfl
theorem zcd {s : GState} (h : ssz s <= 2 ^ 39) : Zp s s = some true := by
 unfold ssz at h
 unfold Zp zT
 rw [if_pos rfl]
 by_cases ho : s.Open = true
 ·rw [if_pos ho, if_pos ho, if_pos ⟨rfl, by omega⟩, Option.bind_some]; dsimp only; rw [if_pos rfl, VY (by omega), Option.bind_some]
 ·rw [if_neg ho, if_neg ho, if_pos ⟨rfl, by omega⟩, Option.bind_some]; dsimp only; rw [if_pos rfl, VY (by omega), Option.bind_some]
theorem je (a : Int) (b : Bool) (c : List UInt8) (d : Int) (e : List GEntry) : (GState.mk a b c d e).Pending = c := rfl
theorem jf (a : Int) (b : Bool) (c : List UInt8) (d : Int) (e : List GEntry) : (GState.mk a b c d e).Entries = e := rfl
theorem Mf {a : List UInt8} : ∀ (l : List GEntry) (i : Nat), yJ l a = true → ∃ k, ZB l a i = ((i + k : Nat) : Int) ∧ ∃ e, l[k]? = some e ∧ e.Addr = a
 | [], i, h => by simp [yJ] at h
 | e :: l, i, h => by
  rw [ZB]
  by_cases he : e.Addr = a
  ·exact ⟨0, by rw [if_pos he]; rfl, e, rfl, he⟩
  ·have h' : yJ l a = true := by
    unfold yJ at h ⊢
    rw [List.any_cons, decide_eq_false he, Bool.false_or] at h
    exact h
   obtain ⟨k, h1, e', h2, h3⟩ := Mf l (i + 1) h'
   exact ⟨k + 1, by rw [if_neg he, h1]; congr 1; omega, e', by simpa using h2, h3⟩
theorem Zr {a : List (List UInt8)} : Asc a ↔ ∀ (i j : Nat) x y, i < j → a[i]? = some x → a[j]? = some y → Op.bytesLess x y = true := by
 constructor
 ·intro h i j x y hij hi hj
  obtain ⟨hi1, hi2⟩ := List.getElem?_eq_some_iff.1 hi
  obtain ⟨hj1, hj2⟩ := List.getElem?_eq_some_iff.1 hj
  have := h i j hj1 hij
  rw [hi2, hj2] at this
  exact this
 ·intro h i j hj hij
  exact h i j _ _ hij (List.getElem?_eq_getElem _) (List.getElem?_eq_getElem _)
theorem Zs {a : List (List UInt8)} {x : List UInt8} {c : Nat} (h : ki a x c) {i : Nat} {y : List UInt8} (hi : a[i]? = some y) : i < c ↔ Op.bytesLess y x = true := by
 obtain ⟨hi1, hi2⟩ := List.getElem?_eq_some_iff.1 hi
 rw [<- hi2]
 exact h.2 i hi1
theorem AC {a : List (List UInt8)} (ha : Asc a) {x : List UInt8} {c : Nat} (h : ki a x c) {j : Nat} {y : List UInt8} (hj : a[j]? = some y) (hc : c <= j) (hne : c = j → y ≠ x) : Op.bytesLess x y = true := by
 rcases XT x y with h1 | h1 | h1
 ·exact h1
 ·exfalso
  have hcj : c ≠ j := fun e => hne e h1.symm
  have hjl := (List.getElem?_eq_some_iff.1 hj).1
  have hcl : c < a.length := by omega
  have h2 := Zr.1 ha c j _ _ (by omega) (List.getElem?_eq_getElem hcl) hj
  rw [<- h1] at h2
  have := (Zs h (List.getElem?_eq_getElem hcl)).2 h2
  omega
 ·have := (Zs h hj).2 h1
  omega
theorem Nq {a : List (List UInt8)} (ha : Asc a) {x : List UInt8} {c : Nat} (h : ki a x c) (hne : a[c]? ≠ some x) : Asc (yF a c x) := by
 refine Zr.2 fun i j u v hij hi hj => ?_
 rw [Wn a c x h.1] at hi hj
 have A := Zr.1 ha
 by_cases h1 : j < c
 ·rw [if_pos h1] at hj; rw [if_pos (by omega)] at hi
  exact A i j u v hij hi hj
 rw [if_neg h1] at hj
 by_cases h2 : j = c
 ·rw [if_pos h2] at hj; rw [if_pos (by omega)] at hi
  injection hj with hj
  subst hj
  exact (Zs h hi).1 (by omega)
 rw [if_neg h2] at hj
 by_cases h3 : i < c
 ·rw [if_pos h3] at hi
  exact A i (j - 1) u v (by omega) hi hj
 rw [if_neg h3] at hi
 by_cases h4 : i = c
 ·rw [if_pos h4] at hi
  injection hi with hi
  subst hi
  exact AC ha h hj (by omega) fun e he => hne (by rw [e, hj, he])
 ·rw [if_neg h4] at hi
  exact A (i - 1) (j - 1) u v (by omega) hi hj
theorem AD {a : List (List UInt8)} (ha : Asc a) {c : Nat} (hc : c < a.length) : Asc (wP a c) := by
 refine Zr.2 fun i j u v hij hi hj => ?_
 rw [LK a c hc] at hi hj
 have A := Zr.1 ha
 by_cases h1 : j < c
 ·rw [if_pos h1] at hj; rw [if_pos (by omega)] at hi
  exact A i j u v hij hi hj
 rw [if_neg h1] at hj
 by_cases h3 : i < c
 ·rw [if_pos h3] at hi
  exact A i (j + 1) u v (by omega) hi hj
 ·rw [if_neg h3] at hi
  exact A (i + 1) (j + 1) u v (by omega) hi hj
theorem Vc {e : GEntry} : ∀ {l : List GEntry}, (∀ x ∈ l, Op.bytesLess e.Addr x.Addr = true) → va e true l = l
 | [], _ => rfl
 | x :: l, h => by
  rw [va, h x List.mem_cons_self, cond_true, cond_true, Vc fun y hy => h y (List.mem_cons_of_mem _ hy)]
theorem HN {a b : List UInt8} (h : Op.bytesLess a b = true) : Op.bytesLess b a = false := by
 cases hb : Op.bytesLess b a with
 | false => rfl
 | true => have := j4 h hb; rw [vR] at this; cases this
theorem Px {e : GEntry} : ∀ {l : List GEntry} {c : Nat}, Asc (l.map GEntry.Addr) → ki (l.map GEntry.Addr) e.Addr c → va e false l = if (l.map GEntry.Addr)[c]? = some e.Addr then l.set c e else yF l c e
 | [], c, _, hp => by
  have := hp.1
  simp only [List.map_nil, List.length_nil] at this
  obtain rfl : c = 0 := by omega
  rfl
 | x :: l, c, ha, hp => by
  have hal : Asc (l.map GEntry.Addr) := Zr.2 fun i j u v hij hi hj => Zr.1 ha (i + 1) (j + 1) u v (by omega) (by simpa using hi) (by simpa using hj)
  have hx : ∀ y ∈ l, Op.bytesLess x.Addr y.Addr = true := fun y hy => by
   obtain ⟨j, hj⟩ := List.mem_iff_getElem?.1 hy
   exact Zr.1 ha 0 (j + 1) _ _ (by omega) rfl (by simp [hj])
  have h0 : 0 < c ↔ Op.bytesLess x.Addr e.Addr = true := Zs hp (by rfl)
  cases c with
  | zero =>
   have hn : Op.bytesLess x.Addr e.Addr = false := by
    cases hq : Op.bytesLess x.Addr e.Addr with
    | false => rfl
    | true => have := h0.2 hq; omega
   rw [va, hn]
   rcases XT e.Addr x.Addr with h1 | h1 | h1
   ·rw [h1]
    simp only [cond_true, cond_false]
    rw [Vc fun y hy => j4 h1 (hx y hy), if_neg]
    ·rfl
    ·simp only [List.map_cons, List.getElem?_cons_zero, Option.some.injEq]
     intro he
     rw [he, vR] at h1; cases h1
   ·rw [h1, vR]
    simp only [cond_false]
    rw [Vc fun y hy => by rw [h1]; exact hx y hy, if_pos (by simp)]
    rfl
   ·rw [hn] at h1; cases h1
  | succ c =>
   have hl : Op.bytesLess x.Addr e.Addr = true := h0.1 (by omega)
   have hpl : ki (l.map GEntry.Addr) e.Addr c := by
    refine ⟨by have := hp.1; simp only [List.map_cons, List.length_cons] at this; omega, fun k hk => ?_⟩
    have h1 := Zs hp (i := k + 1) (y := (l.map GEntry.Addr)[k]) (by rw [List.map_cons, List.getElem?_cons_succ]; exact List.getElem?_eq_getElem hk)
    rw [<- h1]
    omega
   rw [va, HN hl, hl]
   simp only [cond_true, cond_false]
   rw [Px hal hpl]
   simp only [List.map_cons, List.getElem?_cons_succ]
   split
   ·rfl
   ·rfl
theorem Ds {α : Type} {l : List α} {c : Nat} {x : α} (h : l[c]? = some x) : l.set c x = l := by
 apply List.ext_getElem?
 intro i
 rw [List.getElem?_set]
 split
 ·rename_i hi
  subst hi
  have := (List.getElem?_eq_some_iff.1 h).1
  rw [if_pos this, h]
 ·rfl
theorem Mg {l : List GEntry} {c : Nat} {e : GEntry} (h : (l.map GEntry.Addr)[c]? = some e.Addr) : (l.set c e).map GEntry.Addr = l.map GEntry.Addr := by
 rw [List.map_set]
 exact Ds h
theorem Vd {l : List GEntry} {c : Nat} {e : GEntry} : (yF l c e).map GEntry.Addr = yF (l.map GEntry.Addr) c e.Addr := by simp [yF, List.map_take, List.map_drop]
theorem Mh {l : List GEntry} {c : Nat} : (wP l c).map GEntry.Addr = wP (l.map GEntry.Addr) c := by simp [wP, List.map_take, List.map_drop]
theorem Ww : ∀ (a b : List GEntry), yh (a ++ b) = yh a + yh b
 | [], b => by simp [yh]
 | x :: a, b => by simp only [List.cons_append, yh, Ww a b]; omega
theorem RK (l : List GEntry) (c : Nat) : yh l = yh (l.take c) + yh (l.drop c) := by
 rw [<- Ww, List.take_append_drop]
theorem Mi (l : List GEntry) (c : Nat) (e : GEntry) : yh (yF l c e) = yh l + 1 + esz e := by
 unfold yF
 rw [Ww, Ww, RK l c]
 simp only [yh]; omega
theorem Dt (l : List GEntry) (c : Nat) : yh (wP l c) <= yh l := by
 unfold wP
 have h1 := RK l c
 have h2 := RK (l.drop c) 1
 rw [List.drop_drop] at h2
 rw [Ww]
 omega
theorem Mj : ∀ (l : List GEntry) (c : Nat) (e : GEntry), yh (l.set c e) <= yh l + esz e
 | [], c, e => by simp [yh]
 | x :: l, 0, e => by simp only [List.set_cons_zero, yh]; omega
 | x :: l, c + 1, e => by have := Mj l c e; simp only [List.set_cons_succ, yh]; omega
theorem HO : ∀ (l : List GEntry) (c : Nat) (e : GEntry), (∀ x, l[c]? = some x → esz e = esz x) → yh (l.set c e) = yh l
 | [], c, e, _ => by simp [yh]
 | x :: l, 0, e, h => by simp only [List.set_cons_zero, yh]; rw [h x rfl]
 | x :: l, c + 1, e, h => by have := HO l c e (fun y hy => h y (by simpa using hy)); simp only [List.set_cons_succ, yh, this]
def stI (s : GState) : Prop := 0 <= s.Serial ∧ s.Serial <= 1000000 ∧ Asc (s.Entries.map GEntry.Addr) ∧ (s.Pending ≠ [] → s.Open = true ∧ yJ s.Entries s.Pending = decide (s.Act ≠ 1))
theorem OQ {s : GState} (h : stB s = true) : stI s := by
 unfold stB at h
 simp only [Bool.and_eq_true, decide_eq_true_eq] at h
 obtain ⟨⟨⟨h1, h2, _⟩, h3⟩, h4⟩ := h
 refine ⟨h1, h2, My h3, fun hp => ?_⟩
 unfold OR at h4
 rw [if_neg hp] at h4
 simp only [Bool.and_eq_true, beq_iff_eq] at h4
 exact ⟨h4.1.1.1, h4.2⟩
def Y8 (s : GState) (e : GEvent) : Bool :=
 if s.Serial = 1000000 then false
 else if e.Kind = 0 then !s.Open
 else if e.Kind = 1 then s.Open && decide (s.Pending = []) && (yJ s.Entries e.Addr == decide (e.Act ≠ 1)) && (yJ s.Entries e.Addr || decide (s.Entries.length < 16))
 else if e.Kind = 2 then decide (s.Pending = e.Addr) && decide (s.Act ≠ 4)
 else if e.Kind = 3 then decide (s.Pending = e.Addr) && decide (s.Act = 4)
 else if e.Kind = 4 then decide (s.Pending = e.Addr)
 else if e.Kind = 5 then s.Open && decide (s.Pending = [])
 else s.Open
theorem Uo {e : GEvent} (h : evB e = true) (hk : e.Kind = 1 ∨ e.Kind = 2 ∨ e.Kind = 3 ∨ e.Kind = 4) : e.Addr ≠ [] := by
 intro he
 have ha : ya e.Addr = false := by rw [he]; decide
 unfold evB at h
 rw [ha] at h
 rcases hk with hk | hk | hk | hk <;> simp [hk] at h
theorem YV {a : List UInt8} : ((a.length : Int) = 0) ↔ a = [] := by
 constructor
 ·intro h; exact List.eq_nil_of_length_eq_zero (by omega)
 ·rintro rfl; rfl
theorem Nr {a : List UInt8} : (0 < (a.length : Int)) ↔ a ≠ [] := by
 constructor
 ·rintro h rfl; simp at h
 ·intro h
  have : a.length ≠ 0 := fun e => h (List.eq_nil_of_length_eq_zero e)
  omega
theorem Du {s : GState} {e : GEvent} (hI : stI s) (he : evB e = true) (hl : s.Entries.length <= 2 ^ 40) : Yw s e = some (Y8 s e) := by
 unfold Yw Y8 xP
 have hs := hI.2.1
 by_cases h0 : s.Serial = 1000000
 ·rw [if_pos (by omega), if_pos h0]
 rw [if_neg (by omega), if_neg h0]
 by_cases k0 : e.Kind = 0
 ·rw [if_pos k0, if_pos k0]
 rw [if_neg k0, if_neg k0]
 by_cases k1 : e.Kind = 1
 ·rw [if_pos k1, if_pos k1, if_pos hl, Option.bind_some]
  have hh := K6 s.Entries e.Addr 0
  have hp := @Nr s.Pending
  cases s.Open with
  | false => rfl
  | true =>
   dsimp only
   by_cases q : s.Pending = []
   ·rw [if_neg (fun h => hp.1 h q), decide_eq_true q]
    by_cases a1 : e.Act = 1
    ·rw [if_pos a1, decide_eq_false (p := e.Act ≠ 1) (by omega)]
     cases hb : yJ s.Entries e.Addr with
     | true => rw [if_pos (hh.2 hb)]; rfl
     | false => rw [if_neg (fun h => by rw [hh.1 h] at hb; cases hb)]; simp; omega
    ·rw [if_neg a1, decide_eq_true (p := e.Act ≠ 1) a1]
     cases hb : yJ s.Entries e.Addr with
     | true => rw [if_pos (hh.2 hb)]; rfl
     | false => rw [if_neg (fun h => by rw [hh.1 h] at hb; cases hb)]; simp
   ·rw [if_pos (hp.2 q), decide_eq_false q]; rfl
 rw [if_neg k1, if_neg k1]
 have hp := @Nr s.Pending
 by_cases k2 : e.Kind = 2
 ·rw [if_pos k2, if_pos k2]
  have hne := Uo he (.inr (.inl k2))
  by_cases q : s.Pending = []
  ·rw [if_neg (fun h => hp.1 h q), decide_eq_false (fun h => hne (by rw [<- h, q]))]; rfl
  ·rw [if_pos (hp.2 q)]
   by_cases q2 : s.Pending = e.Addr
   ·rw [if_pos q2, decide_eq_true q2]; by_cases a4 : s.Act = 4 <;> simp [a4]
   ·rw [if_neg q2, decide_eq_false q2]; rfl
 rw [if_neg k2, if_neg k2]
 by_cases k3 : e.Kind = 3
 ·rw [if_pos k3, if_pos k3]
  have hne := Uo he (.inr (.inr (.inl k3)))
  by_cases q : s.Pending = []
  ·rw [if_neg (fun h => hp.1 h q), decide_eq_false (fun h => hne (by rw [<- h, q]))]; rfl
  ·rw [if_pos (hp.2 q)]
   by_cases q2 : s.Pending = e.Addr
   ·rw [if_pos q2, decide_eq_true q2]; rfl
   ·rw [if_neg q2, decide_eq_false q2]; rfl
 rw [if_neg k3, if_neg k3]
 by_cases k4 : e.Kind = 4
 ·rw [if_pos k4, if_pos k4]
  have hne := Uo he (.inr (.inr (.inr k4)))
  by_cases q : s.Pending = []
  ·rw [if_neg (fun h => hp.1 h q), decide_eq_false (fun h => hne (by rw [<- h, q]))]
  ·rw [if_pos (hp.2 q)]
 rw [if_neg k4, if_neg k4]
 by_cases k5 : e.Kind = 5
 ·rw [if_pos k5, if_pos k5]
  cases s.Open with
  | false => rfl
  | true =>
   dsimp only
   by_cases q : s.Pending = []
   ·rw [decide_eq_false (fun h => hp.1 h q), decide_eq_true q]; rfl
   ·rw [decide_eq_true (hp.2 q), decide_eq_false q]; rfl
 ·rw [if_neg k5, if_neg k5]
theorem zdg {s : GState} {a : List UInt8} (hl : s.Entries.length <= 2 ^ 40) : ∃ c b, zO s a = some (c, b) := by
 unfold zO
 obtain ⟨c, b, hc⟩ := Dl (a := s.Entries) (x := a) hl
 rw [hc]
 exact ⟨_, _, rfl⟩
theorem Mk {s : GState} {a : List UInt8} (hl : s.Entries.length <= 2 ^ 40) (hA : Asc (s.Entries.map GEntry.Addr)) : ∃ c : Nat, ki (s.Entries.map GEntry.Addr) a c ∧ zO s a = some ((c : Int), yJ s.Entries a) ∧ (yJ s.Entries a = true ↔ (s.Entries.map GEntry.Addr)[c]? = some a) := by
 unfold zO
 obtain ⟨c, hp, hc⟩ := HD (a := s.Entries) (x := a) hl hA
 rw [hc]
 exact ⟨c, hp, rfl, ZJ.trans (ki.mem hA hp).symm⟩
theorem PU {s : GState} {e : GEvent} (hI : stI s) (hl : s.Entries.length <= 2 ^ 40) : jJ s e = some (Y8 s e) := by
 unfold jJ Y8 yl
 obtain ⟨c, hp, hc, _⟩ := Mk (a := e.Addr) hl hI.2.2.1
 rw [hc, Option.bind_some]
 dsimp only
 by_cases h0 : s.Serial = 1000000
 ·rw [if_pos h0, if_pos h0]
 rw [if_neg h0, if_neg h0]
 by_cases k0 : e.Kind = 0
 ·rw [if_pos k0, if_pos k0]
 rw [if_neg k0, if_neg k0]
 have hz := @YV s.Pending
 by_cases k1 : e.Kind = 1
 ·rw [if_pos k1, if_pos k1]
  cases s.Open with
  | false => rfl
  | true =>
   dsimp only
   by_cases q : s.Pending = []
   ·rw [if_pos (hz.2 q), decide_eq_true q]
    by_cases a1 : e.Act = 1
    ·rw [decide_eq_false (p := e.Act ≠ 1) (by omega)]
     cases hb : yJ s.Entries e.Addr with
     | true => rw [if_pos rfl, if_pos a1]; rfl
     | false => rw [if_neg (by decide), if_pos a1]; simp; omega
    ·rw [decide_eq_true (p := e.Act ≠ 1) a1]
     cases hb : yJ s.Entries e.Addr with
     | true => rw [if_pos rfl, if_neg a1]; rfl
     | false => rw [if_neg (by decide), if_neg a1]; simp
   ·rw [if_neg (fun h => q (hz.1 h)), decide_eq_false q]; rfl
 rw [if_neg k1, if_neg k1]
 by_cases k2 : e.Kind = 2
 ·rw [if_pos k2, if_pos k2, Option.bind_some]
  by_cases q : s.Pending = e.Addr
  ·rw [decide_eq_true q]; by_cases a4 : s.Act = 4 <;> simp [a4]
  ·rw [decide_eq_false q]; rfl
 rw [if_neg k2, if_neg k2]
 by_cases k3 : e.Kind = 3
 ·rw [if_pos k3, if_pos k3, Option.bind_some]
  by_cases q : s.Pending = e.Addr
  ·rw [decide_eq_true q]; rfl
  ·rw [decide_eq_false q]; rfl
 rw [if_neg k3, if_neg k3]
 by_cases k4 : e.Kind = 4
 ·rw [if_pos k4, if_pos k4]; rfl
 rw [if_neg k4, if_neg k4]
 by_cases k5 : e.Kind = 5
 ·rw [if_pos k5, if_pos k5]
  cases s.Open with
  | false => rfl
  | true =>
   dsimp only
   by_cases q : s.Pending = []
   ·rw [decide_eq_true (hz.2 q), decide_eq_true q]; rfl
   ·rw [decide_eq_false (fun h => q (hz.1 h)), decide_eq_false q]; rfl
 ·rw [if_neg k5, if_neg k5]
theorem HP {l : List GEntry} {c : Nat} {x : GEntry} (h : l[c]? = some x) (A : GEntry) (f : GEntry → GEntry) : (((l.set c A)[c]?).bind fun y => some ((l.set c A).set c (f y))) = some (l.set c (f A)) := by
 have hl := (List.getElem?_eq_some_iff.1 h).1
 rw [List.getElem?_set_self (by simpa using hl), Option.bind_some, List.set_set]
theorem Vw {l : List GEntry} {c : Nat} {a : List UInt8} (h : (l.map GEntry.Addr)[c]? = some a) : ∃ x, l[c]? = some x ∧ x.Addr = a := by
 rw [List.getElem?_map] at h
 obtain ⟨x, h1, h2⟩ := Option.map_eq_some_iff.1 h
 exact ⟨x, h1, h2⟩
theorem Py {l : List GEntry} {a : List UInt8} {c : Nat} (hA : Asc (l.map GEntry.Addr)) (h : (l.map GEntry.Addr)[c]? = some a) : ZB l a 0 = (c : Int) := by
 have hb : yJ l a = true := ZJ.2 (List.mem_of_getElem? h)
 obtain ⟨k, h1, e, h2, h3⟩ := Mf l 0 hb
 rw [Nat.zero_add] at h1
 have hk : (l.map GEntry.Addr)[k]? = some a := by rw [List.getElem?_map, h2, Option.map_some, h3]
 have A := Zr.1 hA
 have : k = c := by
  rcases Nat.lt_trichotomy k c with h4 | h4 | h4
  ·have := A k c a a h4 hk h; rw [vR] at this; cases this
  ·exact h4
  ·have := A c k a a h4 h hk; rw [vR] at this; cases this
 rw [h1, this]
def tnE (ser : Int) (x : GEntry) : GEntry := .mk x.Addr x.Val x.Deps true ser
def nwE (a : List UInt8) (ser : Int) : GEntry := .mk a (.mk 5 0 [] [] []) [] true ser
theorem zce (a : List UInt8) (ser : Int) : esz (nwE a ser) = a.length := by
 show a.length + vsz (.mk 5 0 [] [] []) + bsz [] = a.length
 rw [show vsz (.mk 5 0 [] [] []) = 0 from rfl, show bsz [] = 0 from rfl]; rfl
theorem Ns {l : List GEntry} {c : Nat} (hc : c <= l.length) (hl : l.length <= 1048576) (x : GEntry) : wv (c : Int) l [x] = some (yF l c x) := by
 show (if 0 <= (c : Int) ∧ (c : Int) <= (l.length : Int) ∧ l.length <= 1048576 then some (yF l (c : Int).toNat x) else none) = _
 rw [if_pos ⟨by omega, by omega, hl⟩, Int.toNat_natCast]
theorem AE {l : List GEntry} {c : Nat} (hc : c < l.length) (hl : l.length <= 1048576) : ww (c : Int) (((c + 1 : Nat) : Int)) l = some (wP l c) := by
 unfold ww
 rw [if_pos ⟨by omega, by omega, by omega, hl⟩, Int.toNat_natCast]
theorem Nt {l : List GEntry} {c : Nat} (hc : c <= l.length) (x y : GEntry) : (yF l c x).set c y = yF l c y := by
 apply List.ext_getElem?
 intro m
 rw [List.getElem?_set, Wn l c x hc, Wn l c y hc]
 have hlen : (yF l c x).length = l.length + 1 := by simp [yF]; omega
 by_cases h : c = m
 ·subst h
  rw [if_pos rfl, if_pos (by omega), if_neg (by omega), if_pos rfl]
 ·rw [if_neg h]
  by_cases h1 : m < c
  ·rw [if_pos h1, if_pos h1]
  ·rw [if_neg h1, if_neg h1, if_neg (Ne.symm h), if_neg (Ne.symm h)]
theorem Nu {l : List GEntry} {c : Nat} {x : GEntry} (h : l[c]? = some x) (f : GEntry → GEntry) : l.modify c f = l.set c (f x) := by
 apply List.ext_getElem?
 intro i
 rw [List.getElem?_modify, List.getElem?_set]
 have hl := (List.getElem?_eq_some_iff.1 h).1
 by_cases hi : c = i
 ·subst hi; rw [if_pos rfl, if_pos hl, h]; simp
 ·rw [if_neg hi]; simp [hi]
theorem Ml {b : Bool} {ser : Int} {op : Bool} {act : Int} {a : List UInt8} {l : List GEntry} {c : Nat} (hl : l.length <= 1048576) (hal : a.length <= 2 ^ 38) (hA : Asc (l.map GEntry.Addr)) (hp : ki (l.map GEntry.Addr) a c) :
  qw b ser op act a l = some (.mk ser op a act (if a = [] then l else if yJ l a = true then l.modify c (tnE ser) else if b = true then yF l c (nwE a ser) else l)) := by
 unfold qw
 by_cases ha : a = []
 ·rw [if_pos (YV.2 ha), if_pos ha]
 rw [if_neg (fun h => ha (YV.1 h)), if_neg ha]
 obtain ⟨c', hp', hc, hb⟩ := Mk (s := GState.mk ser op a act l) (a := a) (by show l.length <= _; omega) hA
 change ki (l.map GEntry.Addr) a c' at hp'
 change yJ l a = true ↔ (l.map GEntry.Addr)[c']? = some a at hb
 change zO (GState.mk ser op a act l) a = some ((c' : Int), yJ l a) at hc
 have hcc : c' = c := by
  have h1 := hp.1; have h2 := hp'.1
  rcases Nat.lt_trichotomy c' c with h | h | h
  ·have := (Zs hp' (i := c') (List.getElem?_eq_getElem (by omega))).2 ((Zs hp (i := c') (List.getElem?_eq_getElem (by omega))).1 h); omega
  ·exact h
  ·have := (Zs hp (i := c) (List.getElem?_eq_getElem (by omega))).2 ((Zs hp' (i := c) (List.getElem?_eq_getElem (by omega))).1 h); omega
 subst hcc
 have hcl : c' <= l.length := by have := hp.1; rwa [List.length_map] at this
 rw [hc, Option.bind_some]
 try dsimp only
 cases hh : yJ l a with
 | true =>
  obtain ⟨x, hx, hxa⟩ := Vw (hb.1 hh)
  try dsimp only
  rw [zd, Option.bind_some, hx, Option.bind_some, if_pos rfl]
  have := HP hx (GEntry.mk x.Addr x.Val x.Deps true x.Turned) (fun x5 => GEntry.mk x5.Addr x5.Val x5.Deps x5.Taint ser)
  have hl2 := (List.getElem?_eq_some_iff.1 hx).1
  rw [List.getElem?_set_self (by simpa using hl2), Option.bind_some, List.set_set, Nu hx]
  rfl
 | false =>
  rw [if_neg (by decide)]
  try dsimp only
  cases b with
  | false => rfl
  | true =>
   try dsimp only
   unfold zS
   rw [if_pos (kY (by decide) (by omega)), Option.bind_some, Ns hcl hl, Option.bind_some, zd, Option.bind_some]
   have hg : ∀ x, (yF l c' x)[c']? = some x := fun x => by rw [Wn l c' x hcl, if_neg (by omega), if_pos rfl]
   rw [hg, Option.bind_some, Nt hcl, hg, Option.bind_some, Nt hcl, if_pos rfl]
   rfl
theorem Mm {l : List GEntry} {c : Nat} {ser : Int} : (l.modify c (tnE ser)).map GEntry.Addr = l.map GEntry.Addr := by
 apply List.ext_getElem?
 intro i
 rw [List.getElem?_map, List.getElem?_map, List.getElem?_modify]
 split <;> cases l[i]? <;> rfl
theorem RL {ser : Int} : ∀ (l : List GEntry) (c : Nat), yh (l.modify c (tnE ser)) = yh l
 | [], c => by simp [yh]
 | x :: l, 0 => by simp only [List.modify_zero_cons, yh]; rfl
 | x :: l, c + 1 => by simp only [List.modify_succ_cons, yh, RL l c]
theorem AF {s : GState} {e : GEvent} (hI : stI s) (he : evB e = true) (hm : Y8 s e = true) (hz : ssz s + qi e <= 2 ^ 36) (hl : s.Entries.length <= 1048576) :
  ∃ s', kX e s = some s' ∧ w6 s e = some (s', true) ∧ stI s' ∧ ssz s' <= ssz s + qi e + 1 ∧ s'.Entries.length <= s.Entries.length + 1 := by
 have hI0 := hI
 obtain ⟨i1, i2, i3, i4⟩ := hI
 have hser : s.Serial < 1000000 := by
  rcases Int.lt_or_le s.Serial 1000000 with h | h
  ·exact h
  ·unfold Y8 at hm; rw [if_pos (by omega)] at hm; cases hm
 have hw : w64 (s.Serial + 1) = s.Serial + 1 := yA (by omega) (by omega)
 have hcp : xg s = some s := if_pos (by omega)
 have hft := PU (e := e) hI0 (by omega)
 rw [hm] at hft
 unfold ssz qi at *
 have hroom : ∀ n, n <= 1048577 → yC 152 n := fun n hn => Zj (by omega)
 unfold kX w6
 rw [hcp, Option.bind_some, hft, Option.bind_some, hw]
 dsimp only
 obtain ⟨c, hp, hc, hb⟩ := Mk (s := GState.mk (s.Serial + 1) s.Open s.Pending s.Act s.Entries) (a := e.Addr) (by show s.Entries.length <= _; omega) i3
 change ki (s.Entries.map GEntry.Addr) e.Addr c at hp
 change yJ s.Entries e.Addr = true ↔ (s.Entries.map GEntry.Addr)[c]? = some e.Addr at hb
 change zO (GState.mk (s.Serial + 1) s.Open s.Pending s.Act s.Entries) e.Addr = some ((c : Int), yJ s.Entries e.Addr) at hc
 have hcl : c <= s.Entries.length := by have := hp.1; rwa [List.length_map] at this
 rw [hc, Option.bind_some]
 dsimp only
 unfold xP
 rw [if_pos (by show s.Entries.length <= _; omega), Option.bind_some, show (GState.mk (s.Serial + 1) s.Open s.Pending s.Act s.Entries).Entries = s.Entries from rfl]
 unfold Y8 at hm
 rw [if_neg (by omega)] at hm
 have hdone : ∀ (l : List GEntry) (o : Bool), Asc (l.map GEntry.Addr) → stI (GState.mk (s.Serial + 1) o [] 0 l) := fun l o h => ⟨by show (0 : Int) <= s.Serial + 1; omega, by show s.Serial + 1 <= 1000000; omega, h, fun h => absurd rfl h⟩
 by_cases k0 : e.Kind = 0
 ·rw [if_pos k0, if_pos k0]
  refine ⟨_, rfl, rfl, ⟨by show (0 : Int) <= s.Serial + 1; omega, by show s.Serial + 1 <= 1000000; omega, i3, fun h => ⟨rfl, (i4 h).2⟩⟩, by (try simp only [je, jf]); omega, by (try simp only [je, jf]); omega⟩
 rw [if_neg k0, if_neg k0]
 rw [if_neg k0] at hm
 by_cases k1 : e.Kind = 1
 ·rw [if_pos k1, if_pos k1]
  rw [if_pos k1] at hm
  simp only [Bool.and_eq_true, decide_eq_true_eq, beq_iff_eq] at hm
  unfold zS
  rw [if_pos (kY (by decide) (by omega)), Option.bind_some]
  refine ⟨_, rfl, rfl, ⟨by show (0 : Int) <= s.Serial + 1; omega, by show s.Serial + 1 <= 1000000; omega, i3, fun h => ⟨hm.1.1.1, hm.1.2⟩⟩, by (try simp only [je, jf]); omega, by (try simp only [je, jf]); omega⟩
 rw [if_neg k1, if_neg k1]
 rw [if_neg k1] at hm
 by_cases k2 : e.Kind = 2
 ·rw [if_pos k2, if_pos k2]
  rw [if_pos k2] at hm
  simp only [Bool.and_eq_true, decide_eq_true_eq] at hm
  unfold zS xT yN qT
  rw [if_pos (kY (by decide) (by omega)), Option.bind_some, if_pos (by omega), Option.bind_some, if_pos (by omega), Option.bind_some, if_pos (by omega), Option.bind_some]
  have hpe : va (GEntry.mk e.Addr e.Val e.Deps false (s.Serial + 1)) false s.Entries = if (s.Entries.map GEntry.Addr)[c]? = some e.Addr then s.Entries.set c (GEntry.mk e.Addr e.Val e.Deps false (s.Serial + 1)) else yF s.Entries c (GEntry.mk e.Addr e.Val e.Deps false (s.Serial + 1)) := Px (e := GEntry.mk e.Addr e.Val e.Deps false (s.Serial + 1)) i3 hp
  rw [hpe]
  cases hh : yJ s.Entries e.Addr with
  | true =>
   have hk := hb.1 hh
   obtain ⟨x, hx, hxa⟩ := Vw hk
   dsimp only
   rw [zd, Option.bind_some, hx, Option.bind_some, if_pos hk]
   refine ⟨_, rfl, rfl, hdone _ _ (by rw [Mg (by exact hk)]; exact i3), ?_, by (try simp only [je, jf]); rw [List.length_set]; omega⟩
   have h1 := Mj s.Entries c (GEntry.mk e.Addr e.Val e.Deps false (s.Serial + 1))
   have h2 : esz (GEntry.mk e.Addr e.Val e.Deps false (s.Serial + 1)) = e.Addr.length + vsz e.Val + bsz e.Deps := rfl
   try simp only [je, jf]
   try simp only [List.length_nil]
   omega
  | false =>
   have hk : ¬ (s.Entries.map GEntry.Addr)[c]? = some e.Addr := fun h => by rw [hb.2 h] at hh; cases hh
   dsimp only
   rw [Ns hcl hl, Option.bind_some, if_neg hk]
   refine ⟨_, rfl, rfl, hdone _ _ (by rw [Vd]; exact Nq i3 hp hk), ?_, by (try simp only [je, jf]); simp [yF]; omega⟩
   have h1 := Mi s.Entries c (GEntry.mk e.Addr e.Val e.Deps false (s.Serial + 1))
   have h2 : esz (GEntry.mk e.Addr e.Val e.Deps false (s.Serial + 1)) = e.Addr.length + vsz e.Val + bsz e.Deps := rfl
   try simp only [je, jf]
   try simp only [List.length_nil]
   omega
 rw [if_neg k2, if_neg k2]
 rw [if_neg k2] at hm
 by_cases k3 : e.Kind = 3
 ·rw [if_pos k3, if_pos k3]
  rw [if_pos k3] at hm
  simp only [Bool.and_eq_true, decide_eq_true_eq] at hm
  have hne := Uo he (.inr (.inr (.inl k3)))
  have hh : yJ s.Entries e.Addr = true := by
   have := (i4 (by rw [hm.1]; exact hne)).2
   rw [<- hm.1, this, decide_eq_true]; omega
  have hk := hb.1 hh
  have hcl2 : c < s.Entries.length := by have := (List.getElem?_eq_some_iff.1 hk).1; rwa [List.length_map] at this
  rw [hm.1, Py i3 hk, zd, Option.bind_some, zC (by omega), zd]
  unfold wO
  rw [show vk none (some c) s.Entries.length = some (0, c) by unfold vk; simp; omega, Option.map_some, Option.bind_some]
  rw [if_pos (hroom _ (by simp; omega)), Option.bind_some, show vk (some (c + 1)) none s.Entries.length = some (c + 1, s.Entries.length) by unfold vk; simp; omega, Option.map_some, Option.bind_some]
  rw [if_pos (hroom _ (by simp; omega)), AE hcl2 hl, Option.bind_some]
  refine ⟨_, rfl, ?_, hdone _ _ ?_, ?_, ?_⟩
  ·simp [wP]
  ·have := AD i3 (c := c) (by rwa [List.length_map])
   rw [<- Mh] at this
   simpa [wP] using this
  ·have := Dt s.Entries c
   have h2 : ∀ L : List GEntry, L = wP s.Entries c → yh L <= yh s.Entries := fun L h => by rw [h]; exact this
   have := h2 (List.drop 0 (List.take c s.Entries) ++ List.drop (c + 1) (List.take s.Entries.length s.Entries)) (by simp [wP])
   try simp only [je, jf]
   try simp only [List.length_nil]
   omega
  ·(try simp only [je, jf]); simp; omega
 rw [if_neg k3, if_neg k3]
 rw [if_neg k3] at hm
 obtain ⟨c2, hp2⟩ := ki.of i3 s.Pending
 have hcl2 : c2 <= s.Entries.length := by have := hp2.1; rwa [List.length_map] at this
 have hmem := ki.mem i3 hp2
 have hsp : ∀ (o : Bool) (x : GEntry), s.Entries[c2]? = some x → ((zw (c2 : Int)).bind fun i10 => (s.Entries[i10]?).bind fun x11 => ((s.Entries.set i10 (GEntry.mk x11.Addr x11.Val x11.Deps true x11.Turned))[i10]?).bind fun x12 => some (GState.mk (s.Serial + 1) o [] 0 ((s.Entries.set i10 (GEntry.mk x11.Addr x11.Val x11.Deps true x11.Turned)).set i10 (GEntry.mk x12.Addr x12.Val x12.Deps x12.Taint (s.Serial + 1))))) =
   some (GState.mk (s.Serial + 1) o [] 0 (s.Entries.modify c2 (tnE (s.Serial + 1)))) := fun o x hx => by
  have hl2 := (List.getElem?_eq_some_iff.1 hx).1
  rw [zd, Option.bind_some, hx, Option.bind_some, List.getElem?_set_self (by simpa using hl2), Option.bind_some, List.set_set, Nu hx]
  rfl
 by_cases k4 : e.Kind = 4
 ·rw [if_pos k4, if_pos k4]
  rw [if_pos k4] at hm
  simp only [decide_eq_true_eq] at hm
  have hne := Uo he (.inr (.inr (.inr k4)))
  have hpn : s.Pending ≠ [] := by rw [hm]; exact hne
  rw [Ml hl (by omega) i3 hp2, Option.bind_some, if_neg hpn, if_neg (fun h => hpn (YV.1 h)), (i4 hpn).1]
  cases hh : yJ s.Entries s.Pending with
  | true =>
   have hk := hmem.2 (ZJ.1 hh)
   obtain ⟨x, hx, _⟩ := Vw hk
   rw [Py i3 hk, if_pos (by omega), if_pos (hroom _ (by omega)), hsp true x hx]
   refine ⟨_, rfl, rfl, hdone _ _ (by rw [Mm]; exact i3), ?_, by (try simp only [je, jf]); simp⟩
   try simp only [je, jf]
   try simp only [List.length_nil]
   rw [RL]
   omega
  | false =>
   rw [Jc hh, if_neg (by decide)]
   refine ⟨_, rfl, rfl, hdone _ _ i3, ?_, by (try simp only [je, jf]); simp⟩
   try simp only [je, jf]
   try simp only [Bool.false_eq_true, if_false]
   try simp only [List.length_nil]
   omega
 rw [if_neg k4, if_neg k4]
 rw [if_neg k4] at hm
 by_cases k6 : e.Kind = 6
 ·rw [if_pos k6, if_pos k6]
  rw [Ml hl (by omega) i3 hp2, Option.bind_some]
  by_cases hpn : s.Pending = []
  ·rw [if_pos hpn, if_pos (YV.2 hpn)]
   refine ⟨_, rfl, rfl, hdone _ _ i3, ?_, by (try simp only [je, jf]); omega⟩
   try simp only [je, jf]
   try simp only [List.length_nil]
   omega
  rw [if_neg hpn, if_neg (fun h => hpn (YV.1 h))]
  cases hh : yJ s.Entries s.Pending with
  | true =>
   have hk := hmem.2 (ZJ.1 hh)
   obtain ⟨x, hx, _⟩ := Vw hk
   rw [Py i3 hk, if_pos (by omega), if_pos (hroom _ (by omega)), hsp false x hx]
   refine ⟨_, rfl, rfl, hdone _ _ (by rw [Mm]; exact i3), ?_, by (try simp only [je, jf]); simp⟩
   try simp only [je, jf]
   try simp only [List.length_nil]
   rw [RL]
   omega
  | false =>
   have hk : ¬ (s.Entries.map GEntry.Addr)[c2]? = some s.Pending := fun h => by rw [ZJ.2 (hmem.1 h)] at hh; cases hh
   unfold qT
   rw [Jc hh, if_neg (by decide), if_pos (by omega), Option.bind_some]
   rw [show va (GEntry.mk s.Pending (GValue.mk 5 0 [] [] []) [] true (s.Serial + 1)) false s.Entries = yF s.Entries c2 (nwE s.Pending (s.Serial + 1)) by
    have : va (nwE s.Pending (s.Serial + 1)) false s.Entries = if (s.Entries.map GEntry.Addr)[c2]? = some s.Pending then s.Entries.set c2 (nwE s.Pending (s.Serial + 1)) else yF s.Entries c2 (nwE s.Pending (s.Serial + 1)) := Px (e := nwE s.Pending (s.Serial + 1)) i3 hp2
    rw [if_neg hk] at this
    exact this]
   refine ⟨_, rfl, rfl, hdone _ _ (by rw [Vd]; exact Nq i3 hp2 hk), ?_, by (try simp only [je, jf]); simp [yF]; omega⟩
   have h1 := Mi s.Entries c2 (nwE s.Pending (s.Serial + 1))
   rw [zce] at h1
   try simp only [je, jf]
   try simp only [List.length_nil]
   omega
 rw [if_neg k6, if_neg k6]
 by_cases k5 : e.Kind = 5
 ·rw [if_pos k5, if_pos k5]
  refine ⟨_, rfl, rfl, hdone _ _ i3, ?_, by (try simp only [je, jf]); omega⟩
  try simp only [je, jf]
  try simp only [List.length_nil]
  omega
 ·exfalso
  unfold evB at he
  rw [if_neg k2, if_neg (by omega), if_neg k1, if_neg (by omega), Bool.and_false] at he
  cases he
def nxS (e : GEvent) (s : GState) : GState := (kX e s).getD s
def ZQ : GState → List GEvent → GState × Bool
 | s, [] => (s, true)
 | s, e :: l => bif Y8 s e then ZQ (nxS e s) l else (s, false)
def RM : GState → List GEvent → List GState
 | _, [] => []
 | s, e :: l => nxS e s :: RM (nxS e s) l
def okS : GState → List GEvent → Bool
 | _, [] => true
 | s, e :: l => evB e && (Y8 s e && okS (nxS e s) l)
theorem G0 {s : GState} {e : GEvent} (hI : stI s) (he : evB e = true) (hm : Y8 s e = true) (hz : ssz s + qi e <= 2 ^ 20) : kX e s = some (nxS e s) ∧ w6 s e = some (nxS e s, true) ∧ stI (nxS e s) ∧ ssz (nxS e s) <= ssz s + qi e + 1 := by
 have hlen := qX s.Entries
 obtain ⟨s', h1, h2, h3, h4, _⟩ := AF hI he hm (by omega) (by unfold ssz at hz; omega)
 have : nxS e s = s' := by unfold nxS; rw [h1]; rfl
 rw [this]
 exact ⟨h1, h2, h3, h4⟩
theorem doN {s : GState} {e : GEvent} (hI : stI s) (hm : Y8 s e = false) (hz : ssz s <= 2 ^ 20) : w6 s e = some (s, false) := by
 have hlen := qX s.Entries
 have hft := PU (e := e) hI (by unfold ssz at hz; omega)
 rw [hm] at hft
 unfold w6
 rw [show xg s = some s from if_pos (by omega), Option.bind_some, hft, Option.bind_some]
theorem Nv : ∀ {l : List GEvent} {s : GState}, (∀ e ∈ l, evB e = true) → okS s l = (ZQ s l).2
 | [], s, _ => rfl
 | e :: l, s, h => by
  rw [okS, ZQ, h e List.mem_cons_self, Bool.true_and, Nv fun x hx => h x (List.mem_cons_of_mem _ hx)]
  cases Y8 s e <;> rfl
theorem Mn : ∀ {l : List GEvent} {s : GState}, okS s l = true → ∀ e ∈ l, evB e = true
 | [], _, _ => by simp
 | e :: l, s, h => by
  rw [okS, Bool.and_eq_true, Bool.and_eq_true] at h
  intro x hx
  rcases List.mem_cons.1 hx with rfl | hx
  ·exact h.1
  ·exact Mn h.2.2 x hx
theorem zcf {m : Nat} (hm : m <= 2 ^ 39) : yC 72 m := kY (by decide) (by omega)
theorem PV {h : GHistory} {k : Int} {v3 : Int} {v4 : Bool} {v5 : Int} {v7 : List UInt8} {v8 : List GEntry} : ∀ (l p r : List GEvent) (s : GState) (m : Nat), h.Events = p ++ l ++ r → k = ((p.length + l.length : Nat) : Int) → l.length < m → (∀ e ∈ l, evB e = true) → stI s → ssz s + yv l <= 2 ^ 20 → p.length + l.length <= 2 ^ 40 →
  ∃ z, wX k h v3 v4 v5 v7 v8 m (p.length : Int) s = some (bif (ZQ s l).2 then .inr (z, (ZQ s l).1) else .inl (false, (ZQ s l).1)) := by
 intro l
 induction l with
 | nil =>
  intro p r s m _ hk hm _ _ _ _
  obtain ⟨m, rfl, _⟩ := zh hm
  exact ⟨_, by rw [wX, hk, if_neg (by simp)]; rfl⟩
 | cons e l ih =>
  intro p r s m he hk hm hev hI hz hp
  obtain ⟨m, rfl, hm'⟩ := zh hm
  simp only [List.length_cons] at hk hm' hp
  simp only [yv] at hz
  have hlen := qX s.Entries
  have hg : h.Events[p.length]? = some e := by rw [he, List.append_assoc]; exact zR p e (l ++ r)
  have hee := hev e List.mem_cons_self
  rw [wX, hk, if_pos (by omega), zd, Option.bind_some, hg, Option.bind_some, Du hI hee (by unfold ssz at hz; omega), Option.bind_some, ZQ]
  cases hmy : Y8 s e with
  | false => exact ⟨0, rfl⟩
  | true =>
   obtain ⟨h1, _, h3, h4⟩ := G0 hI hee hmy (by omega)
   obtain ⟨z, hzz⟩ := ih (p ++ [e]) r (nxS e s) m (by rw [he]; simp) (by rw [hk]; simp; omega) (by omega) (fun x hx => hev x (List.mem_cons_of_mem _ hx)) h3 (by omega) (by simp; omega)
   refine ⟨z, ?_⟩
   dsimp only
   rw [h1, Option.bind_some, yI p e (by omega), <- hk, hzz]
   rfl
theorem MQ {evs : List GEvent} {n : Int} : ∀ (l p : List GEvent) (q : List GState) (s : GState) (m : Nat), evs = p ++ l → n = (evs.length : Int) → l.length < m → q.length = p.length → stI s → ssz s + yv l <= 2 ^ 20 → evs.length <= 2 ^ 30 →
  ∃ z, yH evs n m (p.length : Int) (q ++ [s]) = some (bif okS s l then .inr (z, q ++ [s] ++ RM s l) else .inl (false, [])) := by
 intro l
 induction l with
 | nil =>
  intro p q s m he hn hm _ _ _ _
  obtain ⟨m, rfl, _⟩ := zh hm
  exact ⟨_, by rw [yH, hn, he, if_neg (by simp)]; simp [okS, RM]; rfl⟩
 | cons e l ih =>
  intro p q s m he hn hm hq hI hz hb
  obtain ⟨m, rfl, hm'⟩ := zh hm
  simp only [List.length_cons] at hm'
  simp only [yv] at hz
  have hg : evs[p.length]? = some e := by rw [he]; exact zR p e l
  have hlen : evs.length = p.length + (l.length + 1) := by rw [he]; simp
  have hgs : (q ++ [s])[p.length]? = some s := by rw [<- hq]; exact zR q s []
  rw [yH, hn, if_pos (by omega), zd, Option.bind_some, hg, Option.bind_some, HL (by omega), Option.bind_some, okS]
  cases hev : evB e with
  | false => exact ⟨0, rfl⟩
  | true =>
   dsimp only
   rw [hgs, Option.bind_some]
   cases hmy : Y8 s e with
   | false =>
    rw [doN hI hmy (by omega), Option.bind_some]
    exact ⟨0, rfl⟩
   | true =>
    obtain ⟨_, h2, h3, h4⟩ := G0 hI hev hmy (by omega)
    obtain ⟨z, hzz⟩ := ih (p ++ [e]) (q ++ [s]) (nxS e s) m (by rw [he]; simp) hn (by omega) (by simp [hq]) h3 (by omega) hb
    rw [h2, Option.bind_some]
    dsimp only
    rw [if_pos (zcf (by simp; omega)), yI p e (by omega), <- hn, hzz]
    refine ⟨z, ?_⟩
    simp only [Bool.true_and, RM]
    cases okS (nxS e s) l <;> simp
theorem Dv {h : GHistory} (hz : yv h.Events <= 2 ^ 20) : ∀ (l p : List GEvent) (m : Nat), h.Events = p ++ l → l.length < m → ∃ z, wY h m (p.length : Int) = some (bif l.all evB then .inr z else .inl false) := by
 have hl := vS h.Events
 intro l
 induction l with
 | nil =>
  intro p m he hm
  obtain ⟨m, rfl, _⟩ := zh hm
  exact ⟨_, by rw [wY, he, if_neg (by simp)]; rfl⟩
 | cons e l ih =>
  intro p m he hm
  obtain ⟨m, rfl, hm'⟩ := zh hm
  have hlen : h.Events.length = p.length + (l.length + 1) := by rw [he]; simp
  have hx : 1 + qi e <= yv h.Events := Vh (by rw [he]; simp)
  obtain ⟨z, hzz⟩ := ih (p ++ [e]) m (by rw [he]; simp) (by simp only [List.length_cons] at hm'; omega)
  rw [wY, if_pos (by omega), zd, Option.bind_some, show h.Events[p.length]? = some e by rw [he]; exact zR p e l, Option.bind_some, HM (by omega), Option.bind_some, List.all_cons]
  cases evB e with
  | false => exact ⟨0, rfl⟩
  | true =>
   refine ⟨z, ?_⟩
   dsimp only
   rw [yI p e (by omega), hzz, Bool.true_and]
def hsz (h : GHistory) : Nat := ssz h.Base + yv h.Events
def hOk (h : GHistory) : Bool := stB h.Base && (decide (h.Events.length <= 300) && (decide (0 <= h.Safe ∧ h.Safe <= h.Events.length) && okS h.Base h.Events))
theorem Dw {h : GHistory} (hz : hsz h <= 2 ^ 20) : kO h = some (hOk h) := by
 unfold hsz at hz
 have hl := vS h.Events
 unfold kO ZC hOk
 rw [H4 (by omega), Option.bind_some]
 cases hs : stB h.Base with
 | false => rfl
 | true =>
  dsimp only
  by_cases c1 : 300 < (h.Events.length : Int)
  ·rw [if_pos c1, decide_eq_false (p := h.Events.length <= 300) (by omega)]; rfl
  rw [if_neg c1, decide_eq_true (p := h.Events.length <= 300) (by omega)]
  by_cases c2 : h.Safe < 0
  ·rw [if_pos c2, decide_eq_false (p := 0 <= h.Safe ∧ h.Safe <= h.Events.length) (by omega)]; rfl
  rw [if_neg c2]
  by_cases c3 : (h.Events.length : Int) < h.Safe
  ·rw [if_pos c3, decide_eq_false (p := 0 <= h.Safe ∧ h.Safe <= h.Events.length) (by omega)]; rfl
  rw [if_neg c3, decide_eq_true (p := 0 <= h.Safe ∧ h.Safe <= h.Events.length) (by omega)]
  obtain ⟨z, hzz⟩ := Dv (h := h) (by omega) h.Events [] (h.Events.length + 5) rfl (by omega)
  simp only [List.length_nil, Int.natCast_zero] at hzz
  rw [hzz, Option.bind_some]
  cases hall : h.Events.all evB with
  | false =>
   have : okS h.Base h.Events = false := by
    cases hk : okS h.Base h.Events with
    | false => rfl
    | true => rw [List.all_eq_true.2 (Mn hk)] at hall; cases hall
   rw [this]; rfl
  | true =>
   have hev := List.all_eq_true.1 hall
   simp only [cond_true]
   unfold jj kN
   obtain ⟨z2, h2⟩ := PV (h := h) (k := (h.Events.length : Int)) (v3 := 0) (v4 := false) (v5 := 0) (v7 := []) (v8 := []) h.Events [] [] h.Base (h.Events.length + 5) (by simp) (by simp) (by omega) hev (OQ hs) hz (by simp; omega)
   simp only [List.length_nil, Int.natCast_zero] at h2
   rw [h2, Nv hev, Option.bind_some]
   cases (ZQ h.Base h.Events).2 <;> rfl
theorem HQ {h : GHistory} (hz : hsz h <= 2 ^ 20) : wk h = some (bif hOk h then (h.Base :: RM h.Base h.Events, true) else ([], false)) := by
 unfold hsz at hz
 have hl := vS h.Events
 unfold wk qA hOk
 rw [HF (by omega), Option.bind_some]
 cases hs : stB h.Base with
 | false => rfl
 | true =>
  dsimp only
  by_cases c1 : 300 < (h.Events.length : Int)
  ·rw [if_pos c1, decide_eq_false (p := h.Events.length <= 300) (by omega)]; rfl
  rw [if_neg c1, decide_eq_true (p := h.Events.length <= 300) (by omega)]
  have hin : yT h.Safe 0 (h.Events.length : Int) = some (decide (0 <= h.Safe ∧ h.Safe <= h.Events.length)) := by
   unfold yT
   by_cases c2 : 0 <= h.Safe
   ·rw [if_pos c2]; simp [c2]
   ·rw [if_neg c2]; simp [c2]
  rw [hin, Option.bind_some]
  by_cases c2 : 0 <= h.Safe ∧ h.Safe <= h.Events.length
  ·rw [decide_eq_true c2]
   dsimp only
   rw [show xg h.Base = some h.Base from if_pos (by omega), Option.bind_some]
   obtain ⟨z, hzz⟩ := MQ (evs := h.Events) (n := (h.Events.length : Int)) h.Events [] [] h.Base (h.Events.length + 5) rfl rfl (by omega) rfl (OQ hs) hz (by omega)
   simp only [List.length_nil, Int.natCast_zero, List.nil_append] at hzz
   rw [hzz, Option.bind_some]
   cases okS h.Base h.Events <;> simp
  ·rw [decide_eq_false c2]; rfl
def MdH (h : GHistory) : Prop := MdS h.Base ∧ h.Events.length <= 2 ^ 63 - 1 ∧ XO h.Events
theorem zcg {h : GHistory} {n : Int} (hm : MdH h) (h0 : 0 <= n) (h1 : n <= 2 ^ 20) : k8 h n = some (yP (hsz h) n) := by
 unfold k8
 rw [zcb hm.1 h0 h1, Option.bind_some]
 unfold yP hsz
 by_cases c1 : (ssz h.Base : Int) <= n
 ·rw [if_pos c1, if_neg (by omega)]
  unfold jr
  rw [if_pos ⟨hm.2.1, hm.2.2, by omega, by omega⟩, Option.bind_some]
  unfold yP
  by_cases c2 : (yv h.Events : Int) <= n - ssz h.Base
  ·rw [if_pos c2, if_neg (by omega), if_pos (by omega)]; congr 1; omega
  ·rw [if_neg c2, if_pos (by omega), if_neg (by omega)]
 ·rw [if_neg c1, if_pos (by omega), if_neg (by omega)]
theorem zch {h : GHistory} (hz : hsz h <= 2 ^ 20) : k9 h = some h := by
 unfold hsz at hz
 unfold k9 jt
 rw [zcc (by omega), Option.bind_some, if_pos (by omega), Option.bind_some]
 cases h; rfl
theorem zci {h : GHistory} (hz : hsz h <= 2 ^ 39) : kH h h = some true := by
 unfold hsz at hz
 unfold kH
 rw [zcd (by omega), Option.bind_some]
 dsimp only
 rw [MN (by omega), Option.bind_some]
 dsimp only
 rw [if_pos rfl]
theorem zed (b : GState) (e : List GEvent) (z : Int) : hsz (GHistory.mk b e z) = ssz b + yv e := rfl
theorem HR {h : GHistory} (hk : hOk h = true) : stB h.Base = true ∧ h.Events.length <= 300 ∧ (0 <= h.Safe ∧ h.Safe <= h.Events.length) ∧ okS h.Base h.Events = true := by
 unfold hOk at hk
 simp only [Bool.and_eq_true, decide_eq_true_eq] at hk
 exact ⟨hk.1, hk.2.1, hk.2.2.1, hk.2.2.2⟩
theorem HS : ∀ {l : List GEvent} {s : GState}, stI s → ssz s + yv l <= 2 ^ 20 → okS s l = true → stI (ZQ s l).1 ∧ ssz (ZQ s l).1 <= ssz s + yv l ∧ (ZQ s l).2 = true ∧ (s :: RM s l)[l.length]? = some (ZQ s l).1
 | [], s, hI, hz, _ => ⟨hI, by simp [ZQ, yv], rfl, rfl⟩
 | e :: l, s, hI, hz, hk => by
  rw [okS, Bool.and_eq_true, Bool.and_eq_true] at hk
  simp only [yv] at hz ⊢
  obtain ⟨_, _, h3, h4⟩ := G0 hI hk.1 hk.2.1 (by omega)
  obtain ⟨g1, g2, g3, g4⟩ := HS (l := l) (s := nxS e s) h3 (by omega) hk.2.2
  rw [ZQ, hk.2.1]
  exact ⟨g1, by simp only [cond_true]; omega, g3, by simp only [RM, List.length_cons, List.getElem?_cons_succ, cond_true]; exact g4⟩
theorem PW : ∀ (a b : List GEvent), yv (a ++ b) = yv a + yv b
 | [], b => by simp [yv]
 | x :: a, b => by simp only [List.cons_append, yv, PW a b]; omega
theorem zcz (l : List GEvent) (n : Nat) : yv (l.take n) <= yv l := by
 have := PW (l.take n) (l.drop n)
 rw [List.take_append_drop] at this
 omega
theorem zd7 {h : GHistory} (hz : hsz h <= 2 ^ 20) (hk : hOk h = true) : jj h (h.Events.length : Int) = some ((ZQ h.Base h.Events).1, true) := by
 unfold hsz at hz
 have hl := vS h.Events
 obtain ⟨k1, _, _, k4⟩ := HR hk
 unfold jj kN
 obtain ⟨z2, h2⟩ := PV (h := h) (k := (h.Events.length : Int)) (v3 := 0) (v4 := false) (v5 := 0) (v7 := []) (v8 := []) h.Events [] [] h.Base (h.Events.length + 5) (by simp) (by simp) (by omega) (Mn k4) (OQ k1) hz (by simp; omega)
 simp only [List.length_nil, Int.natCast_zero] at h2
 rw [h2, (HS (OQ k1) hz k4).2.2.1]
 rfl
theorem Dx {h : GHistory} (hz : hsz h <= 2 ^ 30) : ∃ (k : Int) (a : List UInt8) (b : List GEntry) (c : List GEvent), jz h.Base.Serial h.Base.Open h.Base.Act h.Safe 1 h.Base.Pending h.Base.Entries h.Events = some (k, a, b, c) ∧ 0 <= k ∧ k <= 1 + 4 * hsz h := by
 unfold hsz ssz at hz ⊢
 have := Ea h.Base.Entries
 have := N2 h.Events
 unfold jz ZP
 rw [qx (by omega) (by omega), Option.bind_some]
 dsimp only
 rw [OB (by omega) (by omega), Option.bind_some]
 dsimp only
 rw [Option.bind_some]
 dsimp only
 rw [OC (by omega) (by omega), Option.bind_some]
 exact ⟨_, _, _, _, rfl, by omega, by omega⟩
theorem zcj {h : GHistory} (hz : hsz h <= 2 ^ 20) : kG h = some (hOk h) := by
 unfold kG
 rw [HQ hz, Option.bind_some]
 cases hOk h <;> rfl
theorem BB {m : Nat} (hm : m <= 2 ^ 39) : yC 8 m := kY (by decide) (by omega)
theorem G1 {h : GHistory} {a : List UInt8} (hl : h.Events.length <= 300) : ∀ (l p : List GEvent) (b : List Int) (m : Nat), h.Events = p ++ l → l.length < m → b.length + l.length <= 300 →
  ∃ z r, yx a h m (p.length : Int) b = some (z, r) ∧ yy a h.Events (h.Events.length : Int) h m (p.length : Int) b = some (z, r) ∧ r.length <= 300 := by
 intro l
 induction l with
 | nil =>
  intro p b m he hm hb
  obtain ⟨m, rfl, _⟩ := zh hm
  refine ⟨_, b, by rw [yx, he, List.append_nil, if_neg (by omega)], by rw [yy, he, List.append_nil, if_neg (by omega)], by omega⟩
 | cons x l ih =>
  intro p b m he hm hb
  obtain ⟨m, rfl, hm'⟩ := zh hm
  have hlen : h.Events.length = p.length + (l.length + 1) := by rw [he]; simp
  simp only [List.length_cons] at hb hm'
  have hg : h.Events[p.length]? = some x := by rw [he]; exact zR p x l
  by_cases c : 0 < (a.length : Int)
  ·by_cases c2 : x.Addr = a
   ·obtain ⟨z, r, i1, i2, i3⟩ := ih (p ++ [x]) (b ++ [w64 (w64 (h.Base.Serial + (p.length : Int)) + 1)]) m (by rw [he]; simp) (by omega) (by simp only [List.length_append, List.length_cons, List.length_nil]; omega)
    refine ⟨z, r, ?_, ?_, i3⟩
    ·rw [yx, if_pos (by omega), if_pos c, zd, Option.bind_some, hg, Option.bind_some, if_pos c2, if_pos (BB (by simp only [List.length_cons, List.length_nil]; omega)), yI p x (by omega), i1]
    ·rw [yy, if_pos (by omega), zd, Option.bind_some, hg, Option.bind_some, if_pos c, show yl x.Addr a = some true from by unfold yl; rw [decide_eq_true c2], Option.bind_some]
     dsimp only
     rw [if_pos (BB (by simp only [List.length_cons, List.length_nil]; omega)), yI p x (by omega), i2]
   ·obtain ⟨z, r, i1, i2, i3⟩ := ih (p ++ [x]) b m (by rw [he]; simp) (by omega) (by omega)
    refine ⟨z, r, ?_, ?_, i3⟩
    ·rw [yx, if_pos (by omega), if_pos c, zd, Option.bind_some, hg, Option.bind_some, if_neg c2, yI p x (by omega), i1]
    ·rw [yy, if_pos (by omega), zd, Option.bind_some, hg, Option.bind_some, if_pos c, show yl x.Addr a = some false from by unfold yl; rw [decide_eq_false c2], Option.bind_some]
     dsimp only
     rw [yI p x (by omega), i2]
  ·obtain ⟨z, r, i1, i2, i3⟩ := ih (p ++ [x]) b m (by rw [he]; simp) (by omega) (by omega)
   refine ⟨z, r, ?_, ?_, i3⟩
   ·rw [yx, if_pos (by omega), if_neg c, yI p x (by omega), i1]
   ·rw [yy, if_pos (by omega), zd, Option.bind_some, hg, Option.bind_some, if_neg c, yI p x (by omega), i2]
theorem HT {h : GHistory} {a : List UInt8} (hz : hsz h <= 2 ^ 20) : ∃ r, jW h a = some r ∧ ka h a = some r ∧ r.length <= 300 := by
 unfold jW ka Zk Zo
 rw [Dw hz, Option.bind_some, zcj hz, Option.bind_some]
 cases hk : hOk h with
 | false => exact ⟨_, rfl, rfl, by decide⟩
 | true =>
  dsimp only
  obtain ⟨_, k2, _, _⟩ := HR hk
  obtain ⟨z, r, h1, h2, h3⟩ := G1 (a := a) k2 h.Events [] [] (h.Events.length + 5) rfl (by omega) (by simp only [List.length_nil]; omega)
  simp only [List.length_nil, Int.natCast_zero] at h1 h2
  rw [h1, h2]
  exact ⟨_, rfl, rfl, h3⟩
theorem law_Touches {h : GHistory} {a : List UInt8} (hm : MdH h) (_ : a.length <= 2 ^ 63 - 1) : kg h a = some true := by
 unfold kg
 by_cases ca : 1048576 < (a.length : Int)
 ·rw [if_pos ca]
 rw [if_neg ca, zcg hm (by decide) (by decide), Option.bind_some]
 unfold yP
 by_cases c : (hsz h : Int) <= 1048576
 ·have hz : hsz h <= 2 ^ 20 := by omega
  rw [if_pos c, if_neg (by omega), zch hz, Option.bind_some, zb9 (by omega), Option.bind_some]
  obtain ⟨r, e1, e2, e3⟩ := HT (a := a) hz
  obtain ⟨k1, a1, b1, c1, m1, m2, m3⟩ := Dx (h := h) (by omega)
  rw [e1, e2, Option.bind_some, Option.bind_some, show kS r r = some true from if_pos ⟨rfl, by omega⟩, Option.bind_some]
  dsimp only
  rw [zci (by omega), Option.bind_some]
  dsimp only
  rw [zca (by omega), Option.bind_some]
  dsimp only
  rw [m1, Option.bind_some]
  dsimp only
  rw [qx (by omega) (by omega), Option.bind_some]
  dsimp only
  rw [if_neg (by omega), MO (by omega) (by omega), Option.bind_some]
  dsimp only
  rw [MP (AI _ _) (by decide) (by rw [HX]; omega), Option.bind_some, HX, if_neg (by omega), if_pos rfl]
 ·rw [if_neg c, if_pos (by omega)]
end
end Go.Am.Try
