/- The law of FnExactBlame, in plain terms. -/
import Derived.Test.YtjmhaigcaidloaaGreatDoorBG4
set_option linter.unusedVariables false
set_option linter.unusedSimpArgs false
namespace Go.Am.Try
open Go.Am
noncomputable section
theorem Ni {v : GValue} (h : vsz v <= 2 ^ 20) : xg v = some (kK v) := by
 unfold xg vA
 rw [if_pos ⟨h, by decide, by decide, by decide⟩, Option.bind_some]
 congr 1
 unfold okV kK
 rw [show (6 - (1 : Int)).toNat = 5 from rfl]
 by_cases hc : shV 5 v = true ∧ (ptV v : Int) <= 40
 ·rw [if_pos hc, decide_eq_true hc]; exact decide_eq_true (by omega)
 ·rw [if_neg hc, decide_eq_false hc]; rfl
theorem BB {v : GValue} (h : vsz v <= 2 ^ 20) : jb v = some (kK v) := by
 unfold jb qK wm kK
 rw [if_pos ⟨h, by decide, by decide⟩, Option.bind_some]
 rw [show (5 : Int).toNat = 5 from rfl]
 cases hs : shV 5 v
 ·simp
 ·dsimp only
  rw [if_pos h, Option.bind_some]
  simp
theorem ze3 {s : List UInt8} (h : s.length <= 2 ^ 20) : zW s = some s := if_pos h
theorem ze4 {s : List UInt8} (h : s.length <= 2 ^ 39) : zK s s = some true := if_pos ⟨rfl, by omega⟩
def js (v : GValue) : Bool := decide (v.Kind = 0 ∧ v.N = 0 ∧ v.S.length = 0 ∧ v.K.length = 0 ∧ v.L.length = 0)
def evB (e : GEvent) : Bool :=
  if e.Kind = 2 then yj e.Addr && decide (e.Act = 0) && ju e.Val && jN e.Deps
  else js e.Val && decide (e.Deps.length = 0) &&
    (if e.Kind = 0 ∨ e.Kind = 5 ∨ e.Kind = 6 then decide (e.Addr.length = 0) && decide (e.Act = 0)
     else if e.Kind = 1 then yj e.Addr && decide (1 <= e.Act ∧ e.Act <= 4)
     else if e.Kind = 3 ∨ e.Kind = 4 then yj e.Addr && decide (e.Act = 0) else false)
theorem zcf {v : GValue} (h : vsz v <= 2 ^ 20) : yW v = some (ju v) := by
 unfold yW YY ju
 by_cases h5 : v.Kind = 5
 ·rw [if_pos h5, BB h, Option.bind_some, decide_eq_true h5, Bool.true_and]
  cases hv : kK v with
  | false => rfl
  | true =>
   simp only [Bool.true_and]
   unfold wn
   rw [if_pos (by omega)]; rfl
 ·rw [if_neg h5, decide_eq_false h5]; rfl
theorem zcg {v : GValue} (h : vsz v <= 2 ^ 20) : ji v = some (ju v) := by
 unfold ji ju
 by_cases h5 : v.Kind = 5
 ·rw [if_pos h5, Ni h, Option.bind_some, decide_eq_true h5, Bool.true_and]
  cases hv : kK v with
  | false => rfl
  | true =>
   simp only [Bool.true_and]
   unfold qY
   rw [if_pos (by omega)]; rfl
 ·rw [if_neg h5, decide_eq_false h5]; rfl
theorem Dg (v : GValue) : Yk v = some (js v) := by
 unfold Yk js
 by_cases h1 : v.Kind = 0 <;> by_cases h2 : v.N = 0 <;> by_cases h3 : v.S.length = 0 <;> by_cases h4 : v.K.length = 0 <;> by_cases h5 : v.L.length = 0 <;> simp [h1, h2, h3, h4, h5, List.length_eq_zero_iff.1] <;> simp_all
theorem JT (a : Int) : ∃ r, qA a 0 = some r ∧ (r = 0 ↔ a = 0) := by
 unfold qA
 by_cases h : a < 0
 ·exact ⟨_, if_pos h, by omega⟩
 ·rw [if_neg h]
  by_cases h' : 0 < a
  ·exact ⟨_, if_pos h', by omega⟩
  ·exact ⟨_, if_neg h', by omega⟩
theorem HB (G : GValue → GValue → Option Int) (n : Nat) (v z : GValue) (hk : z.Kind = 0) (hn : z.N = 0) (hl : z.L.length = 0) : ∃ r, kz G (n + 1) v z = some r ∧ ((r = 0 ∧ v.N = 0) ↔ (v.Kind = 0 ∧ v.N = 0 ∧ v.L.length = 0)) := by
 unfold kz
 rw [hk]
 by_cases h1 : v.Kind = 0
 ·rw [if_pos h1, if_neg (by omega), hn]
  by_cases h2 : v.N = 0
  ·rw [if_pos h2, xb, hl]
   obtain ⟨r, hr, hr2⟩ := JT (v.L.length : Int)
   refine ⟨r, ?_, by simp only [h1, h2, true_and, and_true]; omega⟩
   by_cases h3 : (0 : Int) < (v.L.length : Int)
   ·rw [if_pos h3, if_neg (by omega), Option.bind_some]
    dsimp only
    rw [show ((0 : Nat) : Int) = 0 from rfl, hr, Option.bind_some]
   ·rw [if_neg h3, Option.bind_some]
    dsimp only
    rw [show ((0 : Nat) : Int) = 0 from rfl, hr, Option.bind_some]
  ·rw [if_neg h2]
   obtain ⟨r, hr, hr2⟩ := JT v.N
   exact ⟨r, by rw [hr, Option.bind_some], ⟨fun h => absurd h.2 h2, fun h => absurd h.2.1 h2⟩⟩
 ·rw [if_neg h1]
  obtain ⟨r, hr, hr2⟩ := JT v.Kind
  exact ⟨r, by rw [hr, Option.bind_some], ⟨fun h => absurd (hr2.1 h.1) h1, fun h => absurd h.1 h1⟩⟩
theorem Dh (v : GValue) : wR v = some (decide (v.Kind = 0 ∧ v.N = 0 ∧ v.L.length = 0)) := by
 unfold wR k7
 rw [show vsz v + 3 = (vsz v + 1 + 1) + 1 from rfl, y7]
 obtain ⟨r, hr, hr2⟩ := HB (y7 (vsz v + 1 + 1)) (vsz v + 1) v (GValue.mk 0 0 [] [] []) rfl rfl rfl
 rw [hr, Option.bind_some]
 by_cases h : r = 0
 ·rw [if_pos h]; exact congrArg some (decide_eq_decide.2 (by rw [<- hr2]; simp [h]))
 ·rw [if_neg h]; exact congrArg some (decide_eq_false (fun h' => h (hr2.2 h').1)).symm
theorem BC {v : GValue} (h : js v = true) : kK v = true := by
 unfold js at h
 cases v
 simp only [GValue.Kind, GValue.N, GValue.S, GValue.K, GValue.L, decide_eq_true_eq, List.length_eq_zero_iff] at h
 obtain ⟨rfl, rfl, rfl, rfl, rfl⟩ := h
 exact decide_eq_true ⟨by simp [shV, y3, GValue.Kind, GValue.N, GValue.S, GValue.K, GValue.L], by simp [ptV, wz]⟩
theorem zch {v : GValue} (h : kK v = true) : js v = decide (v.Kind = 0 ∧ v.N = 0 ∧ v.L.length = 0) := by
 unfold js
 refine decide_eq_decide.2 ⟨fun ⟨a, b, _, _, c⟩ => ⟨a, b, c⟩, fun ⟨a, b, c⟩ => ?_⟩
 have := (of_decide_eq_true h).1
 rw [shV] at this
 have hl := (Bool.and_eq_true _ _ ▸ this).1
 unfold y3 at hl
 rw [if_pos (Or.inl a)] at hl
 have := of_decide_eq_true hl
 exact ⟨a, this⟩
theorem BD {a : List UInt8} (h : yj a = true) : 0 < a.length := by
 rcases a with _ | ⟨x, l⟩
 ·revert h; decide
 ·simp
theorem Di {e : GEvent} (h : qE e <= 2 ^ 20) : ZP e = some (evB e) := by
 unfold qE at h
 unfold ZP evB
 by_cases k2 : e.Kind = 2
 ·rw [if_pos k2, if_pos k2, Zs (by omega), Option.bind_some]
  cases yj e.Addr with
  | false => rfl
  | true =>
   dsimp only
   by_cases ha : e.Act = 0
   ·rw [if_pos ha, zcf (by omega), Option.bind_some, decide_eq_true ha]
    cases ju e.Val with
    | false => rfl
    | true =>
     dsimp only
     rw [show xL e.Deps = some (jN e.Deps) from if_pos (by omega)]
     simp
   ·rw [if_neg ha, decide_eq_false ha]; rfl
 ·rw [if_neg k2, if_neg k2, Dg, Option.bind_some]
  cases js e.Val with
  | false => rfl
  | true =>
   dsimp only
   by_cases d : e.Deps.length = 0
   ·rw [if_neg (by omega), decide_eq_true d, Bool.true_and, Bool.true_and]
    by_cases k0 : e.Kind = 0 ∨ e.Kind = 5 ∨ e.Kind = 6
    ·rw [if_pos k0]
     have hh : (if (e.Addr.length : Int) = 0 then some (decide (e.Act = 0)) else some false) = some (decide (e.Addr.length = 0) && decide (e.Act = 0)) := by
      by_cases hl : e.Addr.length = 0
      ·rw [if_pos (by omega), decide_eq_true hl, Bool.true_and]
      ·rw [if_neg (by omega), decide_eq_false hl, Bool.false_and]
     rw [hh]
     by_cases k00 : e.Kind = 0
     ·rw [if_pos k00]
     ·rw [if_neg k00]
      by_cases k05 : e.Kind = 5
      ·rw [if_pos k05]
      ·rw [if_neg k05, if_pos (by omega)]
    ·rw [if_neg k0, if_neg (by omega), if_neg (by omega), if_neg (by omega)]
     by_cases k1 : e.Kind = 1
     ·rw [if_pos k1, if_pos k1, Zs (by omega), Option.bind_some]
      cases yj e.Addr with
      | false => rfl
      | true => dsimp only; rw [YW, Option.bind_some]; rfl
     ·rw [if_neg k1, if_neg k1]
      by_cases k3 : e.Kind = 3
      ·rw [if_pos k3, if_pos (Or.inl k3), Zs (by omega), Option.bind_some]
       cases yj e.Addr <;> rfl
      ·rw [if_neg k3]
       by_cases k4 : e.Kind = 4
       ·rw [if_pos k4, if_pos (Or.inr k4), Zs (by omega), Option.bind_some]
        cases yj e.Addr <;> rfl
       ·rw [if_neg k4, if_neg (by omega)]
   ·rw [if_pos (by omega), decide_eq_false d]; rfl
theorem zvd {v : GValue} (h : vsz v <= 2 ^ 20) (d : Nat) : ((xg v).bind fun r => match r with | true => (wR v).bind fun r => (match r with | true => some (decide (((d : Nat) : Int) = 0)) | false => some false) | false => some false) = some (js v && decide (d = 0)) := by
 rw [Ni h, Option.bind_some]
 cases hv : kK v with
 | true =>
  dsimp only
  rw [Dh, Option.bind_some, zch hv]
  cases decide (v.Kind = 0 ∧ v.N = 0 ∧ v.L.length = 0) with
  | true => exact congrArg some (by rw [Bool.true_and]; exact decide_eq_decide.2 (by omega))
  | false => rfl
 | false =>
  dsimp only
  cases hz : js v with
  | true => rw [BC hz] at hv; cases hv
  | false => rfl
theorem Dj {e : GEvent} (h : qE e <= 2 ^ 20) : ZJ e = some (evB e) := by
 unfold qE at h
 unfold ZJ evB
 rw [Q9 (by omega)]
 simp only [Option.bind_some]
 have Z := zvd (v := e.Val) (by omega) e.Deps.length
 have hb := @BD e.Addr
 by_cases r0 : e.Kind < 0
 ·rw [if_pos r0, if_neg (show ¬ e.Kind = 2 by omega), if_neg (show ¬ (e.Kind = 0 ∨ e.Kind = 5 ∨ e.Kind = 6) by omega), if_neg (show ¬ e.Kind = 1 by omega), if_neg (show ¬ (e.Kind = 3 ∨ e.Kind = 4) by omega), Bool.and_false]
 rw [if_neg r0]
 by_cases r6 : 6 < e.Kind
 ·rw [if_pos r6, if_neg (show ¬ e.Kind = 2 by omega), if_neg (show ¬ (e.Kind = 0 ∨ e.Kind = 5 ∨ e.Kind = 6) by omega), if_neg (show ¬ e.Kind = 1 by omega), if_neg (show ¬ (e.Kind = 3 ∨ e.Kind = 4) by omega), Bool.and_false]
 rw [if_neg r6]
 generalize (js e.Val && decide (e.Deps.length = 0)) = z at Z ⊢
 by_cases k1 : e.Kind = 1
 ·rw [if_pos k1, if_neg (show ¬ e.Kind = 2 by omega), if_neg (show ¬ (e.Kind = 0 ∨ e.Kind = 5 ∨ e.Kind = 6) by omega), if_pos k1]
  cases hA : yj e.Addr with
  | false =>
   dsimp only
   rw [Bool.false_and, Bool.and_false]
   split <;> rfl
  | true =>
   have := hb hA
   rw [if_pos (show (0 : Int) < (e.Addr.length : Int) by omega)]
   dsimp only
   by_cases a1 : e.Act < 1
   ·rw [if_pos a1, decide_eq_false (by omega)]; simp
   ·rw [if_neg a1]
    by_cases a2 : 4 < e.Act
    ·rw [if_pos a2, decide_eq_false (by omega)]; simp
    ·rw [if_neg a2, decide_eq_true (show 1 <= e.Act ∧ e.Act <= 4 by omega)]; exact Z.trans (by simp)
 rw [if_neg k1]
 by_cases k2 : e.Kind = 2
 ·rw [if_pos k2, if_pos k2]
  cases hA : yj e.Addr with
  | false =>
   dsimp only
   split <;> rfl
  | true =>
   have := hb hA
   rw [if_pos (show (0 : Int) < (e.Addr.length : Int) by omega)]
   dsimp only
   by_cases ha : e.Act = 0
   ·rw [if_pos ha, zcg (by omega), Option.bind_some, decide_eq_true ha]
    cases ju e.Val with
    | false => rfl
    | true =>
     dsimp only
     rw [show qh e.Deps = some (jN e.Deps) from if_pos (by omega)]
     simp
   ·rw [if_neg ha, decide_eq_false ha]; rfl
 rw [if_neg k2, if_neg k2]
 by_cases k3 : e.Kind = 3
 ·rw [if_pos k3, if_neg (show ¬ (e.Kind = 0 ∨ e.Kind = 5 ∨ e.Kind = 6) by omega), if_neg k1, if_pos (Or.inl k3)]
  cases hA : yj e.Addr with
  | false => dsimp only; rw [Bool.false_and, Bool.and_false]; split <;> rfl
  | true =>
   have := hb hA
   rw [if_pos (show (0 : Int) < (e.Addr.length : Int) by omega)]
   dsimp only
   by_cases ha : e.Act = 0
   ·rw [if_pos ha, decide_eq_true ha]; exact Z.trans (by simp)
   ·rw [if_neg ha, decide_eq_false ha]; simp
 rw [if_neg k3]
 by_cases k4 : e.Kind = 4
 ·rw [if_pos k4, if_neg (show ¬ (e.Kind = 0 ∨ e.Kind = 5 ∨ e.Kind = 6) by omega), if_neg k1, if_pos (Or.inr k4)]
  cases hA : yj e.Addr with
  | false => dsimp only; rw [Bool.false_and, Bool.and_false]; split <;> rfl
  | true =>
   have := hb hA
   rw [if_pos (show (0 : Int) < (e.Addr.length : Int) by omega)]
   dsimp only
   by_cases ha : e.Act = 0
   ·rw [if_pos ha, decide_eq_true ha]; exact Z.trans (by simp)
   ·rw [if_neg ha, decide_eq_false ha]; simp
 rw [if_neg k4, if_pos (show e.Kind = 0 ∨ e.Kind = 5 ∨ e.Kind = 6 by omega)]
 by_cases hl : e.Addr.length = 0
 ·rw [if_neg (by omega), decide_eq_true hl, Bool.true_and]
  by_cases ha : e.Act = 0
  ·rw [if_pos ha, decide_eq_true ha]; exact Z.trans (by simp)
  ·rw [if_neg ha, decide_eq_false ha]; simp
 ·rw [if_pos (by omega), decide_eq_false hl, Bool.false_and, Bool.and_false]
def MdS (s : GState) : Prop := s.Pending.length <= 2 ^ 63 - 1 ∧ s.Entries.length <= 2 ^ 63 - 1 ∧ Wy s.Entries
theorem ze5 {s : GState} {n : Int} (h : MdS s) (h0 : 0 <= n) (h1 : n <= 2 ^ 20) : ZB s n = some (yv (ssz s) n) := by
 unfold ZB
 rw [ZA h.1 h0 h1, Option.bind_some]
 unfold yv ssz
 by_cases c1 : (s.Pending.length : Int) <= n
 ·rw [if_pos c1, if_neg (by omega)]
  unfold jB
  rw [if_pos ⟨h.2.1, h.2.2, by omega, by omega⟩, Option.bind_some]
  unfold yv
  by_cases c2 : (yr s.Entries : Int) <= n - s.Pending.length
  ·rw [if_pos c2, if_neg (by omega), if_pos (by omega)]; congr 1; omega
  ·rw [if_neg c2, if_pos (by omega), if_neg (by omega)]
 ·rw [if_neg c1, if_pos (by omega), if_neg (by omega)]
theorem ze6 {s : GState} (h : ssz s <= 2 ^ 20) : ZC s = some s := by
 unfold ssz at h
 unfold ZC zW jD
 rw [if_pos (by omega), Option.bind_some, if_pos (by omega), Option.bind_some]
 cases s; rfl
theorem ze7 {s : GState} (h : ssz s <= 2 ^ 39) : ZR s s = some true := by
 unfold ssz at h
 unfold ZR zK
 rw [if_pos rfl]
 by_cases ho : s.Open = true
 ·rw [if_pos ho, if_pos ho, if_pos ⟨rfl, by omega⟩, Option.bind_some]; dsimp only; rw [if_pos rfl, RN (by omega), Option.bind_some]
 ·rw [if_neg ho, if_neg ho, if_pos ⟨rfl, by omega⟩, Option.bind_some]; dsimp only; rw [if_pos rfl, RN (by omega), Option.bind_some]
theorem jy (a : Int) (b : Bool) (c : List UInt8) (d : Int) (e : List GEntry) : (GState.mk a b c d e).Pending = c := rfl
theorem jz (a : Int) (b : Bool) (c : List UInt8) (d : Int) (e : List GEntry) : (GState.mk a b c d e).Entries = e := rfl
theorem Nj {a : List UInt8} : ∀ (l : List GEntry) (i : Nat), yB l a = true → ∃ k, ZF l a i = ((i + k : Nat) : Int) ∧ ∃ e, l[k]? = some e ∧ e.Addr = a
 | [], i, h => by simp [yB] at h
 | e :: l, i, h => by
  rw [ZF]
  by_cases he : e.Addr = a
  ·exact ⟨0, by rw [if_pos he]; rfl, e, rfl, he⟩
  ·have h' : yB l a = true := by
    unfold yB at h ⊢
    rw [List.any_cons, decide_eq_false he, Bool.false_or] at h
    exact h
   obtain ⟨k, h1, e', h2, h3⟩ := Nj l (i + 1) h'
   exact ⟨k + 1, by rw [if_neg he, h1]; congr 1; omega, e', by simpa using h2, h3⟩
theorem kJ {a : List (List UInt8)} : Asc a ↔ ∀ (i j : Nat) x y, i < j → a[i]? = some x → a[j]? = some y → Op.bytesLess x y = true := by
 constructor
 ·intro h i j x y hij hi hj
  obtain ⟨hi1, hi2⟩ := List.getElem?_eq_some_iff.1 hi
  obtain ⟨hj1, hj2⟩ := List.getElem?_eq_some_iff.1 hj
  have := h i j hj1 hij
  rw [hi2, hj2] at this
  exact this
 ·intro h i j hj hij
  exact h i j _ _ hij (List.getElem?_eq_getElem _) (List.getElem?_eq_getElem _)
theorem ZT {a : List (List UInt8)} {x : List UInt8} {c : Nat} (h : qv a x c) {i : Nat} {y : List UInt8} (hi : a[i]? = some y) : i < c ↔ Op.bytesLess y x = true := by
 obtain ⟨hi1, hi2⟩ := List.getElem?_eq_some_iff.1 hi
 rw [<- hi2]
 exact h.2 i hi1
theorem zci {a : List (List UInt8)} (ha : Asc a) {x : List UInt8} {c : Nat} (h : qv a x c) {j : Nat} {y : List UInt8} (hj : a[j]? = some y) (hc : c <= j) (hne : c = j → y ≠ x) : Op.bytesLess x y = true := by
 rcases W7 x y with h1 | h1 | h1
 ·exact h1
 ·exfalso
  have hcj : c ≠ j := fun e => hne e h1.symm
  have hjl := (List.getElem?_eq_some_iff.1 hj).1
  have hcl : c < a.length := by omega
  have h2 := kJ.1 ha c j _ _ (by omega) (List.getElem?_eq_getElem hcl) hj
  rw [<- h1] at h2
  have := (ZT h (List.getElem?_eq_getElem hcl)).2 h2
  omega
 ·have := (ZT h hj).2 h1
  omega
theorem Gv {a : List (List UInt8)} (ha : Asc a) {x : List UInt8} {c : Nat} (h : qv a x c) (hne : a[c]? ≠ some x) : Asc (yF a c x) := by
 refine kJ.2 fun i j u v hij hi hj => ?_
 rw [WQ a c x h.1] at hi hj
 have A := kJ.1 ha
 by_cases h1 : j < c
 ·rw [if_pos h1] at hj; rw [if_pos (by omega)] at hi
  exact A i j u v hij hi hj
 rw [if_neg h1] at hj
 by_cases h2 : j = c
 ·rw [if_pos h2] at hj; rw [if_pos (by omega)] at hi
  injection hj with hj
  subst hj
  exact (ZT h hi).1 (by omega)
 rw [if_neg h2] at hj
 by_cases h3 : i < c
 ·rw [if_pos h3] at hi
  exact A i (j - 1) u v (by omega) hi hj
 rw [if_neg h3] at hi
 by_cases h4 : i = c
 ·rw [if_pos h4] at hi
  injection hi with hi
  subst hi
  exact zci ha h hj (by omega) fun e he => hne (by rw [e, hj, he])
 ·rw [if_neg h4] at hi
  exact A (i - 1) (j - 1) u v (by omega) hi hj
theorem zcj {a : List (List UInt8)} (ha : Asc a) {c : Nat} (hc : c < a.length) : Asc (wZ a c) := by
 refine kJ.2 fun i j u v hij hi hj => ?_
 rw [ME a c hc] at hi hj
 have A := kJ.1 ha
 by_cases h1 : j < c
 ·rw [if_pos h1] at hj; rw [if_pos (by omega)] at hi
  exact A i j u v hij hi hj
 rw [if_neg h1] at hj
 by_cases h3 : i < c
 ·rw [if_pos h3] at hi
  exact A i (j + 1) u v (by omega) hi hj
 ·rw [if_neg h3] at hi
  exact A (i + 1) (j + 1) u v (by omega) hi hj
theorem VJ {e : GEntry} : ∀ {l : List GEntry}, (∀ x ∈ l, Op.bytesLess e.Addr x.Addr = true) → jj e true l = l
 | [], _ => rfl
 | x :: l, h => by
  rw [jj, h x List.mem_cons_self, cond_true, cond_true, VJ fun y hy => h y (List.mem_cons_of_mem _ hy)]
theorem Dk {a b : List UInt8} (h : Op.bytesLess a b = true) : Op.bytesLess b a = false := by
 cases hb : Op.bytesLess b a with
 | false => rfl
 | true => have := jM h hb; rw [jW] at this; cases this
theorem O2 {e : GEntry} : ∀ {l : List GEntry} {c : Nat}, Asc (l.map GEntry.Addr) → qv (l.map GEntry.Addr) e.Addr c → jj e false l = if (l.map GEntry.Addr)[c]? = some e.Addr then l.set c e else yF l c e
 | [], c, _, hp => by
  have := hp.1
  simp only [List.map_nil, List.length_nil] at this
  obtain rfl : c = 0 := by omega
  rfl
 | x :: l, c, ha, hp => by
  have hal : Asc (l.map GEntry.Addr) := kJ.2 fun i j u v hij hi hj => kJ.1 ha (i + 1) (j + 1) u v (by omega) (by simpa using hi) (by simpa using hj)
  have hx : ∀ y ∈ l, Op.bytesLess x.Addr y.Addr = true := fun y hy => by
   obtain ⟨j, hj⟩ := List.mem_iff_getElem?.1 hy
   exact kJ.1 ha 0 (j + 1) _ _ (by omega) rfl (by simp [hj])
  have h0 : 0 < c ↔ Op.bytesLess x.Addr e.Addr = true := ZT hp (by rfl)
  cases c with
  | zero =>
   have hn : Op.bytesLess x.Addr e.Addr = false := by
    cases hq : Op.bytesLess x.Addr e.Addr with
    | false => rfl
    | true => have := h0.2 hq; omega
   rw [jj, hn]
   rcases W7 e.Addr x.Addr with h1 | h1 | h1
   ·rw [h1]
    simp only [cond_true, cond_false]
    rw [VJ fun y hy => jM h1 (hx y hy), if_neg]
    ·rfl
    ·simp only [List.map_cons, List.getElem?_cons_zero, Option.some.injEq]
     intro he
     rw [he, jW] at h1; cases h1
   ·rw [h1, jW]
    simp only [cond_false]
    rw [VJ fun y hy => by rw [h1]; exact hx y hy, if_pos (by simp)]
    rfl
   ·rw [hn] at h1; cases h1
  | succ c =>
   have hl : Op.bytesLess x.Addr e.Addr = true := h0.1 (by omega)
   have hpl : qv (l.map GEntry.Addr) e.Addr c := by
    refine ⟨by have := hp.1; simp only [List.map_cons, List.length_cons] at this; omega, fun k hk => ?_⟩
    have h1 := ZT hp (i := k + 1) (y := (l.map GEntry.Addr)[k]) (by rw [List.map_cons, List.getElem?_cons_succ]; exact List.getElem?_eq_getElem hk)
    rw [<- h1]
    omega
   rw [jj, Dk hl, hl]
   simp only [cond_true, cond_false]
   rw [O2 hal hpl]
   simp only [List.map_cons, List.getElem?_cons_succ]
   split
   ·rfl
   ·rfl
theorem BE {α : Type} {l : List α} {c : Nat} {x : α} (h : l[c]? = some x) : l.set c x = l := by
 apply List.ext_getElem?
 intro i
 rw [List.getElem?_set]
 split
 ·rename_i hi
  subst hi
  have := (List.getElem?_eq_some_iff.1 h).1
  rw [if_pos this, h]
 ·rfl
theorem Nk {l : List GEntry} {c : Nat} {e : GEntry} (h : (l.map GEntry.Addr)[c]? = some e.Addr) : (l.set c e).map GEntry.Addr = l.map GEntry.Addr := by
 rw [List.map_set]
 exact BE h
theorem VK {l : List GEntry} {c : Nat} {e : GEntry} : (yF l c e).map GEntry.Addr = yF (l.map GEntry.Addr) c e.Addr := by simp [yF, List.map_take, List.map_drop]
theorem Nl {l : List GEntry} {c : Nat} : (wZ l c).map GEntry.Addr = wZ (l.map GEntry.Addr) c := by simp [wZ, List.map_take, List.map_drop]
theorem Qc : ∀ (a b : List GEntry), yr (a ++ b) = yr a + yr b
 | [], b => by simp [yr]
 | x :: a, b => by simp only [List.cons_append, yr, Qc a b]; omega
theorem TF (l : List GEntry) (c : Nat) : yr l = yr (l.take c) + yr (l.drop c) := by
 rw [<- Qc, List.take_append_drop]
theorem Nm (l : List GEntry) (c : Nat) (e : GEntry) : yr (yF l c e) = yr l + 1 + esz e := by
 unfold yF
 rw [Qc, Qc, TF l c]
 simp only [yr]; omega
theorem BF (l : List GEntry) (c : Nat) : yr (wZ l c) <= yr l := by
 unfold wZ
 have h1 := TF l c
 have h2 := TF (l.drop c) 1
 rw [List.drop_drop] at h2
 rw [Qc]
 omega
theorem Nn : ∀ (l : List GEntry) (c : Nat) (e : GEntry), yr (l.set c e) <= yr l + esz e
 | [], c, e => by simp [yr]
 | x :: l, 0, e => by simp only [List.set_cons_zero, yr]; omega
 | x :: l, c + 1, e => by have := Nn l c e; simp only [List.set_cons_succ, yr]; omega
theorem Dl : ∀ (l : List GEntry) (c : Nat) (e : GEntry), (∀ x, l[c]? = some x → esz e = esz x) → yr (l.set c e) = yr l
 | [], c, e, _ => by simp [yr]
 | x :: l, 0, e, h => by simp only [List.set_cons_zero, yr]; rw [h x rfl]
 | x :: l, c + 1, e, h => by have := Dl l c e (fun y hy => h y (by simpa using hy)); simp only [List.set_cons_succ, yr, this]
def stI (s : GState) : Prop := 0 <= s.Serial ∧ s.Serial <= 1000000 ∧ Asc (s.Entries.map GEntry.Addr) ∧ (s.Pending ≠ [] → s.Open = true ∧ yB s.Entries s.Pending = decide (s.Act ≠ 1))
theorem Xh {s : GState} (h : stB s = true) : stI s := by
 unfold stB at h
 simp only [Bool.and_eq_true, decide_eq_true_eq] at h
 obtain ⟨⟨⟨h1, h2, _⟩, h3⟩, h4⟩ := h
 refine ⟨h1, h2, N5 h3, fun hp => ?_⟩
 unfold LO at h4
 rw [if_neg hp] at h4
 simp only [Bool.and_eq_true, beq_iff_eq] at h4
 exact ⟨h4.1.1.1, h4.2⟩
def Xi (s : GState) (e : GEvent) : Bool :=
 if s.Serial = 1000000 then false
 else if e.Kind = 0 then !s.Open
 else if e.Kind = 1 then s.Open && decide (s.Pending = []) && (yB s.Entries e.Addr == decide (e.Act ≠ 1)) && (yB s.Entries e.Addr || decide (s.Entries.length < 16))
 else if e.Kind = 2 then decide (s.Pending = e.Addr) && decide (s.Act ≠ 4)
 else if e.Kind = 3 then decide (s.Pending = e.Addr) && decide (s.Act = 4)
 else if e.Kind = 4 then decide (s.Pending = e.Addr)
 else if e.Kind = 5 then s.Open && decide (s.Pending = [])
 else s.Open
theorem Pd {e : GEvent} (h : evB e = true) (hk : e.Kind = 1 ∨ e.Kind = 2 ∨ e.Kind = 3 ∨ e.Kind = 4) : e.Addr ≠ [] := by
 intro he
 have ha : yj e.Addr = false := by rw [he]; decide
 unfold evB at h
 rw [ha] at h
 rcases hk with hk | hk | hk | hk <;> simp [hk] at h
theorem X6 {a : List UInt8} : ((a.length : Int) = 0) ↔ a = [] := by
 constructor
 ·intro h; exact List.eq_nil_of_length_eq_zero (by omega)
 ·rintro rfl; rfl
theorem Gw {a : List UInt8} : (0 < (a.length : Int)) ↔ a ≠ [] := by
 constructor
 ·rintro h rfl; simp at h
 ·intro h
  have : a.length ≠ 0 := fun e => h (List.eq_nil_of_length_eq_zero e)
  omega
theorem BG {s : GState} {e : GEvent} (hI : stI s) (he : evB e = true) (hl : s.Entries.length <= 2 ^ 40) : YT s e = some (Xi s e) := by
 unfold YT Xi yS
 have hs := hI.2.1
 by_cases h0 : s.Serial = 1000000
 ·rw [if_pos (by omega), if_pos h0]
 rw [if_neg (by omega), if_neg h0]
 by_cases k0 : e.Kind = 0
 ·rw [if_pos k0, if_pos k0]
 rw [if_neg k0, if_neg k0]
 by_cases k1 : e.Kind = 1
 ·rw [if_pos k1, if_pos k1, if_pos hl, Option.bind_some]
  have hh := Vo s.Entries e.Addr 0
  have hp := @Gw s.Pending
  cases s.Open with
  | false => rfl
  | true =>
   dsimp only
   by_cases q : s.Pending = []
   ·rw [if_neg (fun h => hp.1 h q), decide_eq_true q]
    by_cases a1 : e.Act = 1
    ·rw [if_pos a1, decide_eq_false (p := e.Act ≠ 1) (by omega)]
     cases hb : yB s.Entries e.Addr with
     | true => rw [if_pos (hh.2 hb)]; rfl
     | false => rw [if_neg (fun h => by rw [hh.1 h] at hb; cases hb)]; simp; omega
    ·rw [if_neg a1, decide_eq_true (p := e.Act ≠ 1) a1]
     cases hb : yB s.Entries e.Addr with
     | true => rw [if_pos (hh.2 hb)]; rfl
     | false => rw [if_neg (fun h => by rw [hh.1 h] at hb; cases hb)]; simp
   ·rw [if_pos (hp.2 q), decide_eq_false q]; rfl
 rw [if_neg k1, if_neg k1]
 have hp := @Gw s.Pending
 by_cases k2 : e.Kind = 2
 ·rw [if_pos k2, if_pos k2]
  have hne := Pd he (.inr (.inl k2))
  by_cases q : s.Pending = []
  ·rw [if_neg (fun h => hp.1 h q), decide_eq_false (fun h => hne (by rw [<- h, q]))]; rfl
  ·rw [if_pos (hp.2 q)]
   by_cases q2 : s.Pending = e.Addr
   ·rw [if_pos q2, decide_eq_true q2]; by_cases a4 : s.Act = 4 <;> simp [a4]
   ·rw [if_neg q2, decide_eq_false q2]; rfl
 rw [if_neg k2, if_neg k2]
 by_cases k3 : e.Kind = 3
 ·rw [if_pos k3, if_pos k3]
  have hne := Pd he (.inr (.inr (.inl k3)))
  by_cases q : s.Pending = []
  ·rw [if_neg (fun h => hp.1 h q), decide_eq_false (fun h => hne (by rw [<- h, q]))]; rfl
  ·rw [if_pos (hp.2 q)]
   by_cases q2 : s.Pending = e.Addr
   ·rw [if_pos q2, decide_eq_true q2]; rfl
   ·rw [if_neg q2, decide_eq_false q2]; rfl
 rw [if_neg k3, if_neg k3]
 by_cases k4 : e.Kind = 4
 ·rw [if_pos k4, if_pos k4]
  have hne := Pd he (.inr (.inr (.inr k4)))
  by_cases q : s.Pending = []
  ·rw [if_neg (fun h => hp.1 h q), decide_eq_false (fun h => hne (by rw [<- h, q]))]
  ·rw [if_pos (hp.2 q)]
 rw [if_neg k4, if_neg k4]
 by_cases k5 : e.Kind = 5
 ·rw [if_pos k5, if_pos k5]
  cases s.Open with
  | false => rfl
  | true =>
   dsimp only
   by_cases q : s.Pending = []
   ·rw [decide_eq_false (fun h => hp.1 h q), decide_eq_true q]; rfl
   ·rw [decide_eq_true (hp.2 q), decide_eq_false q]; rfl
 ·rw [if_neg k5, if_neg k5]
theorem zgh {s : GState} {a : List UInt8} (hl : s.Entries.length <= 2 ^ 40) : ∃ c b, zJ s a = some (c, b) := by
 unfold zJ
 obtain ⟨c, b, hc⟩ := B7 (a := s.Entries) (x := a) hl
 rw [hc]
 exact ⟨_, _, rfl⟩
theorem Pe {s : GState} {a : List UInt8} (hl : s.Entries.length <= 2 ^ 40) (hA : Asc (s.Entries.map GEntry.Addr)) : ∃ c : Nat, qv (s.Entries.map GEntry.Addr) a c ∧ zJ s a = some ((c : Int), yB s.Entries a) ∧ (yB s.Entries a = true ↔ (s.Entries.map GEntry.Addr)[c]? = some a) := by
 unfold zJ
 obtain ⟨c, hp, hc⟩ := EY (a := s.Entries) (x := a) hl hA
 rw [hc]
 exact ⟨c, hp, rfl, Ys.trans (qv.mem hA hp).symm⟩
theorem OV {s : GState} {e : GEvent} (hI : stI s) (hl : s.Entries.length <= 2 ^ 40) : kg s e = some (Xi s e) := by
 unfold kg Xi xp
 obtain ⟨c, hp, hc, _⟩ := Pe (a := e.Addr) hl hI.2.2.1
 rw [hc, Option.bind_some]
 dsimp only
 by_cases h0 : s.Serial = 1000000
 ·rw [if_pos h0, if_pos h0]
 rw [if_neg h0, if_neg h0]
 by_cases k0 : e.Kind = 0
 ·rw [if_pos k0, if_pos k0]
 rw [if_neg k0, if_neg k0]
 have hz := @X6 s.Pending
 by_cases k1 : e.Kind = 1
 ·rw [if_pos k1, if_pos k1]
  cases s.Open with
  | false => rfl
  | true =>
   dsimp only
   by_cases q : s.Pending = []
   ·rw [if_pos (hz.2 q), decide_eq_true q]
    by_cases a1 : e.Act = 1
    ·rw [decide_eq_false (p := e.Act ≠ 1) (by omega)]
     cases hb : yB s.Entries e.Addr with
     | true => rw [if_pos rfl, if_pos a1]; rfl
     | false => rw [if_neg (by decide), if_pos a1]; simp; omega
    ·rw [decide_eq_true (p := e.Act ≠ 1) a1]
     cases hb : yB s.Entries e.Addr with
     | true => rw [if_pos rfl, if_neg a1]; rfl
     | false => rw [if_neg (by decide), if_neg a1]; simp
   ·rw [if_neg (fun h => q (hz.1 h)), decide_eq_false q]; rfl
 rw [if_neg k1, if_neg k1]
 by_cases k2 : e.Kind = 2
 ·rw [if_pos k2, if_pos k2, Option.bind_some]
  by_cases q : s.Pending = e.Addr
  ·rw [decide_eq_true q]; by_cases a4 : s.Act = 4 <;> simp [a4]
  ·rw [decide_eq_false q]; rfl
 rw [if_neg k2, if_neg k2]
 by_cases k3 : e.Kind = 3
 ·rw [if_pos k3, if_pos k3, Option.bind_some]
  by_cases q : s.Pending = e.Addr
  ·rw [decide_eq_true q]; rfl
  ·rw [decide_eq_false q]; rfl
 rw [if_neg k3, if_neg k3]
 by_cases k4 : e.Kind = 4
 ·rw [if_pos k4, if_pos k4]; rfl
 rw [if_neg k4, if_neg k4]
 by_cases k5 : e.Kind = 5
 ·rw [if_pos k5, if_pos k5]
  cases s.Open with
  | false => rfl
  | true =>
   dsimp only
   by_cases q : s.Pending = []
   ·rw [decide_eq_true (hz.2 q), decide_eq_true q]; rfl
   ·rw [decide_eq_false (fun h => q (hz.1 h)), decide_eq_false q]; rfl
 ·rw [if_neg k5, if_neg k5]
theorem Dm {l : List GEntry} {c : Nat} {x : GEntry} (h : l[c]? = some x) (A : GEntry) (f : GEntry → GEntry) : (((l.set c A)[c]?).bind fun y => some ((l.set c A).set c (f y))) = some (l.set c (f A)) := by
 have hl := (List.getElem?_eq_some_iff.1 h).1
 rw [List.getElem?_set_self (by simpa using hl), Option.bind_some, List.set_set]
theorem Jt {l : List GEntry} {c : Nat} {a : List UInt8} (h : (l.map GEntry.Addr)[c]? = some a) : ∃ x, l[c]? = some x ∧ x.Addr = a := by
 rw [List.getElem?_map] at h
 obtain ⟨x, h1, h2⟩ := Option.map_eq_some_iff.1 h
 exact ⟨x, h1, h2⟩
theorem Rm {l : List GEntry} {a : List UInt8} {c : Nat} (hA : Asc (l.map GEntry.Addr)) (h : (l.map GEntry.Addr)[c]? = some a) : ZF l a 0 = (c : Int) := by
 have hb : yB l a = true := Ys.2 (List.mem_of_getElem? h)
 obtain ⟨k, h1, e, h2, h3⟩ := Nj l 0 hb
 rw [Nat.zero_add] at h1
 have hk : (l.map GEntry.Addr)[k]? = some a := by rw [List.getElem?_map, h2, Option.map_some, h3]
 have A := kJ.1 hA
 have : k = c := by
  rcases Nat.lt_trichotomy k c with h4 | h4 | h4
  ·have := A k c a a h4 hk h; rw [jW] at this; cases this
  ·exact h4
  ·have := A c k a a h4 h hk; rw [jW] at this; cases this
 rw [h1, this]
def tnE (ser : Int) (x : GEntry) : GEntry := .mk x.Addr x.Val x.Deps true ser
def nwE (a : List UInt8) (ser : Int) : GEntry := .mk a (.mk 5 0 [] [] []) [] true ser
theorem ze8 (a : List UInt8) (ser : Int) : esz (nwE a ser) = a.length := by
 show a.length + vsz (.mk 5 0 [] [] []) + bsz [] = a.length
 rw [show vsz (.mk 5 0 [] [] []) = 0 from rfl, show bsz [] = 0 from rfl]; rfl
theorem Gx {l : List GEntry} {c : Nat} (hc : c <= l.length) (hl : l.length <= 1048576) (x : GEntry) : wx (c : Int) l [x] = some (yF l c x) := by
 show (if 0 <= (c : Int) ∧ (c : Int) <= (l.length : Int) ∧ l.length <= 1048576 then some (yF l (c : Int).toNat x) else none) = _
 rw [if_pos ⟨by omega, by omega, hl⟩, Int.toNat_natCast]
theorem zck {l : List GEntry} {c : Nat} (hc : c < l.length) (hl : l.length <= 1048576) : wy (c : Int) (((c + 1 : Nat) : Int)) l = some (wZ l c) := by
 unfold wy
 rw [if_pos ⟨by omega, by omega, by omega, hl⟩, Int.toNat_natCast]
theorem Gy {l : List GEntry} {c : Nat} (hc : c <= l.length) (x y : GEntry) : (yF l c x).set c y = yF l c y := by
 apply List.ext_getElem?
 intro m
 rw [List.getElem?_set, WQ l c x hc, WQ l c y hc]
 have hlen : (yF l c x).length = l.length + 1 := by simp [yF]; omega
 by_cases h : c = m
 ·subst h
  rw [if_pos rfl, if_pos (by omega), if_neg (by omega), if_pos rfl]
 ·rw [if_neg h]
  by_cases h1 : m < c
  ·rw [if_pos h1, if_pos h1]
  ·rw [if_neg h1, if_neg h1, if_neg (Ne.symm h), if_neg (Ne.symm h)]
theorem Gz {l : List GEntry} {c : Nat} {x : GEntry} (h : l[c]? = some x) (f : GEntry → GEntry) : l.modify c f = l.set c (f x) := by
 apply List.ext_getElem?
 intro i
 rw [List.getElem?_modify, List.getElem?_set]
 have hl := (List.getElem?_eq_some_iff.1 h).1
 by_cases hi : c = i
 ·subst hi; rw [if_pos rfl, if_pos hl, h]; simp
 ·rw [if_neg hi]; simp [hi]
theorem Np {b : Bool} {ser : Int} {op : Bool} {act : Int} {a : List UInt8} {l : List GEntry} {c : Nat} (hl : l.length <= 1048576) (hal : a.length <= 2 ^ 38) (hA : Asc (l.map GEntry.Addr)) (hp : qv (l.map GEntry.Addr) a c) :
  qC b ser op act a l = some (.mk ser op a act (if a = [] then l else if yB l a = true then l.modify c (tnE ser) else if b = true then yF l c (nwE a ser) else l)) := by
 unfold qC
 by_cases ha : a = []
 ·rw [if_pos (X6.2 ha), if_pos ha]
 rw [if_neg (fun h => ha (X6.1 h)), if_neg ha]
 obtain ⟨c', hp', hc, hb⟩ := Pe (s := GState.mk ser op a act l) (a := a) (by show l.length <= _; omega) hA
 change qv (l.map GEntry.Addr) a c' at hp'
 change yB l a = true ↔ (l.map GEntry.Addr)[c']? = some a at hb
 change zJ (GState.mk ser op a act l) a = some ((c' : Int), yB l a) at hc
 have hcc : c' = c := by
  have h1 := hp.1; have h2 := hp'.1
  rcases Nat.lt_trichotomy c' c with h | h | h
  ·have := (ZT hp' (i := c') (List.getElem?_eq_getElem (by omega))).2 ((ZT hp (i := c') (List.getElem?_eq_getElem (by omega))).1 h); omega
  ·exact h
  ·have := (ZT hp (i := c) (List.getElem?_eq_getElem (by omega))).2 ((ZT hp' (i := c) (List.getElem?_eq_getElem (by omega))).1 h); omega
 subst hcc
 have hcl : c' <= l.length := by have := hp.1; rwa [List.length_map] at this
 rw [hc, Option.bind_some]
 try dsimp only
 cases hh : yB l a with
 | true =>
  obtain ⟨x, hx, hxa⟩ := Jt (hb.1 hh)
  try dsimp only
  rw [zb, Option.bind_some, hx, Option.bind_some, if_pos rfl]
  have := Dm hx (GEntry.mk x.Addr x.Val x.Deps true x.Turned) (fun x5 => GEntry.mk x5.Addr x5.Val x5.Deps x5.Taint ser)
  have hl2 := (List.getElem?_eq_some_iff.1 hx).1
  rw [List.getElem?_set_self (by simpa using hl2), Option.bind_some, List.set_set, Gz hx]
  rfl
 | false =>
  rw [if_neg (by decide)]
  try dsimp only
  cases b with
  | false => rfl
  | true =>
   try dsimp only
   unfold yb
   rw [if_pos (ZU (by decide) (by omega)), Option.bind_some, Gx hcl hl, Option.bind_some, zb, Option.bind_some]
   have hg : ∀ x, (yF l c' x)[c']? = some x := fun x => by rw [WQ l c' x hcl, if_neg (by omega), if_pos rfl]
   rw [hg, Option.bind_some, Gy hcl, hg, Option.bind_some, Gy hcl, if_pos rfl]
   rfl
theorem Nq {l : List GEntry} {c : Nat} {ser : Int} : (l.modify c (tnE ser)).map GEntry.Addr = l.map GEntry.Addr := by
 apply List.ext_getElem?
 intro i
 rw [List.getElem?_map, List.getElem?_map, List.getElem?_modify]
 split <;> cases l[i]? <;> rfl
theorem TG {ser : Int} : ∀ (l : List GEntry) (c : Nat), yr (l.modify c (tnE ser)) = yr l
 | [], c => by simp [yr]
 | x :: l, 0 => by simp only [List.modify_zero_cons, yr]; rfl
 | x :: l, c + 1 => by simp only [List.modify_succ_cons, yr, TG l c]
theorem zcl {s : GState} {e : GEvent} (hI : stI s) (he : evB e = true) (hm : Xi s e = true) (hz : ssz s + qE e <= 2 ^ 36) (hl : s.Entries.length <= 1048576) :
  ∃ s', qW e s = some s' ∧ wA s e = some (s', true) ∧ stI s' ∧ ssz s' <= ssz s + qE e + 1 ∧ s'.Entries.length <= s.Entries.length + 1 := by
 have hI0 := hI
 obtain ⟨i1, i2, i3, i4⟩ := hI
 have hser : s.Serial < 1000000 := by
  rcases Int.lt_or_le s.Serial 1000000 with h | h
  ·exact h
  ·unfold Xi at hm; rw [if_pos (by omega)] at hm; cases hm
 have hw : w64 (s.Serial + 1) = s.Serial + 1 := xz (by omega) (by omega)
 have hcp : xl s = some s := if_pos (by omega)
 have hft := OV (e := e) hI0 (by omega)
 rw [hm] at hft
 unfold ssz qE at *
 have hroom : ∀ n, n <= 1048577 → yM 152 n := fun n hn => ZK (by omega)
 unfold qW wA
 rw [hcp, Option.bind_some, hft, Option.bind_some, hw]
 dsimp only
 obtain ⟨c, hp, hc, hb⟩ := Pe (s := GState.mk (s.Serial + 1) s.Open s.Pending s.Act s.Entries) (a := e.Addr) (by show s.Entries.length <= _; omega) i3
 change qv (s.Entries.map GEntry.Addr) e.Addr c at hp
 change yB s.Entries e.Addr = true ↔ (s.Entries.map GEntry.Addr)[c]? = some e.Addr at hb
 change zJ (GState.mk (s.Serial + 1) s.Open s.Pending s.Act s.Entries) e.Addr = some ((c : Int), yB s.Entries e.Addr) at hc
 have hcl : c <= s.Entries.length := by have := hp.1; rwa [List.length_map] at this
 rw [hc, Option.bind_some]
 dsimp only
 unfold yS
 rw [if_pos (by show s.Entries.length <= _; omega), Option.bind_some, show (GState.mk (s.Serial + 1) s.Open s.Pending s.Act s.Entries).Entries = s.Entries from rfl]
 unfold Xi at hm
 rw [if_neg (by omega)] at hm
 have hdone : ∀ (l : List GEntry) (o : Bool), Asc (l.map GEntry.Addr) → stI (GState.mk (s.Serial + 1) o [] 0 l) := fun l o h => ⟨by show (0 : Int) <= s.Serial + 1; omega, by show s.Serial + 1 <= 1000000; omega, h, fun h => absurd rfl h⟩
 by_cases k0 : e.Kind = 0
 ·rw [if_pos k0, if_pos k0]
  refine ⟨_, rfl, rfl, ⟨by show (0 : Int) <= s.Serial + 1; omega, by show s.Serial + 1 <= 1000000; omega, i3, fun h => ⟨rfl, (i4 h).2⟩⟩, by (try simp only [jy, jz]); omega, by (try simp only [jy, jz]); omega⟩
 rw [if_neg k0, if_neg k0]
 rw [if_neg k0] at hm
 by_cases k1 : e.Kind = 1
 ·rw [if_pos k1, if_pos k1]
  rw [if_pos k1] at hm
  simp only [Bool.and_eq_true, decide_eq_true_eq, beq_iff_eq] at hm
  unfold yb
  rw [if_pos (ZU (by decide) (by omega)), Option.bind_some]
  refine ⟨_, rfl, rfl, ⟨by show (0 : Int) <= s.Serial + 1; omega, by show s.Serial + 1 <= 1000000; omega, i3, fun h => ⟨hm.1.1.1, hm.1.2⟩⟩, by (try simp only [jy, jz]); omega, by (try simp only [jy, jz]); omega⟩
 rw [if_neg k1, if_neg k1]
 rw [if_neg k1] at hm
 by_cases k2 : e.Kind = 2
 ·rw [if_pos k2, if_pos k2]
  rw [if_pos k2] at hm
  simp only [Bool.and_eq_true, decide_eq_true_eq] at hm
  unfold yb xV yN w8
  rw [if_pos (ZU (by decide) (by omega)), Option.bind_some, if_pos (by omega), Option.bind_some, if_pos (by omega), Option.bind_some, if_pos (by omega), Option.bind_some]
  have hpe : jj (GEntry.mk e.Addr e.Val e.Deps false (s.Serial + 1)) false s.Entries = if (s.Entries.map GEntry.Addr)[c]? = some e.Addr then s.Entries.set c (GEntry.mk e.Addr e.Val e.Deps false (s.Serial + 1)) else yF s.Entries c (GEntry.mk e.Addr e.Val e.Deps false (s.Serial + 1)) := O2 (e := GEntry.mk e.Addr e.Val e.Deps false (s.Serial + 1)) i3 hp
  rw [hpe]
  cases hh : yB s.Entries e.Addr with
  | true =>
   have hk := hb.1 hh
   obtain ⟨x, hx, hxa⟩ := Jt hk
   dsimp only
   rw [zb, Option.bind_some, hx, Option.bind_some, if_pos hk]
   refine ⟨_, rfl, rfl, hdone _ _ (by rw [Nk (by exact hk)]; exact i3), ?_, by (try simp only [jy, jz]); rw [List.length_set]; omega⟩
   have h1 := Nn s.Entries c (GEntry.mk e.Addr e.Val e.Deps false (s.Serial + 1))
   have h2 : esz (GEntry.mk e.Addr e.Val e.Deps false (s.Serial + 1)) = e.Addr.length + vsz e.Val + bsz e.Deps := rfl
   try simp only [jy, jz]
   try simp only [List.length_nil]
   omega
  | false =>
   have hk : ¬ (s.Entries.map GEntry.Addr)[c]? = some e.Addr := fun h => by rw [hb.2 h] at hh; cases hh
   dsimp only
   rw [Gx hcl hl, Option.bind_some, if_neg hk]
   refine ⟨_, rfl, rfl, hdone _ _ (by rw [VK]; exact Gv i3 hp hk), ?_, by (try simp only [jy, jz]); simp [yF]; omega⟩
   have h1 := Nm s.Entries c (GEntry.mk e.Addr e.Val e.Deps false (s.Serial + 1))
   have h2 : esz (GEntry.mk e.Addr e.Val e.Deps false (s.Serial + 1)) = e.Addr.length + vsz e.Val + bsz e.Deps := rfl
   try simp only [jy, jz]
   try simp only [List.length_nil]
   omega
 rw [if_neg k2, if_neg k2]
 rw [if_neg k2] at hm
 by_cases k3 : e.Kind = 3
 ·rw [if_pos k3, if_pos k3]
  rw [if_pos k3] at hm
  simp only [Bool.and_eq_true, decide_eq_true_eq] at hm
  have hne := Pd he (.inr (.inr (.inl k3)))
  have hh : yB s.Entries e.Addr = true := by
   have := (i4 (by rw [hm.1]; exact hne)).2
   rw [<- hm.1, this, decide_eq_true]; omega
  have hk := hb.1 hh
  have hcl2 : c < s.Entries.length := by have := (List.getElem?_eq_some_iff.1 hk).1; rwa [List.length_map] at this
  rw [hm.1, Rm i3 hk, zb, Option.bind_some, z7 (by omega), zb]
  unfold w6
  rw [show vP none (some c) s.Entries.length = some (0, c) by unfold vP; simp; omega, Option.map_some, Option.bind_some]
  rw [if_pos (hroom _ (by simp; omega)), Option.bind_some, show vP (some (c + 1)) none s.Entries.length = some (c + 1, s.Entries.length) by unfold vP; simp; omega, Option.map_some, Option.bind_some]
  rw [if_pos (hroom _ (by simp; omega)), zck hcl2 hl, Option.bind_some]
  refine ⟨_, rfl, ?_, hdone _ _ ?_, ?_, ?_⟩
  ·simp [wZ]
  ·have := zcj i3 (c := c) (by rwa [List.length_map])
   rw [<- Nl] at this
   simpa [wZ] using this
  ·have := BF s.Entries c
   have h2 : ∀ L : List GEntry, L = wZ s.Entries c → yr L <= yr s.Entries := fun L h => by rw [h]; exact this
   have := h2 (List.drop 0 (List.take c s.Entries) ++ List.drop (c + 1) (List.take s.Entries.length s.Entries)) (by simp [wZ])
   try simp only [jy, jz]
   try simp only [List.length_nil]
   omega
  ·(try simp only [jy, jz]); simp; omega
 rw [if_neg k3, if_neg k3]
 rw [if_neg k3] at hm
 obtain ⟨c2, hp2⟩ := qv.of i3 s.Pending
 have hcl2 : c2 <= s.Entries.length := by have := hp2.1; rwa [List.length_map] at this
 have hmem := qv.mem i3 hp2
 have hsp : ∀ (o : Bool) (x : GEntry), s.Entries[c2]? = some x → ((zv (c2 : Int)).bind fun i10 => (s.Entries[i10]?).bind fun x11 => ((s.Entries.set i10 (GEntry.mk x11.Addr x11.Val x11.Deps true x11.Turned))[i10]?).bind fun x12 => some (GState.mk (s.Serial + 1) o [] 0 ((s.Entries.set i10 (GEntry.mk x11.Addr x11.Val x11.Deps true x11.Turned)).set i10 (GEntry.mk x12.Addr x12.Val x12.Deps x12.Taint (s.Serial + 1))))) =
   some (GState.mk (s.Serial + 1) o [] 0 (s.Entries.modify c2 (tnE (s.Serial + 1)))) := fun o x hx => by
  have hl2 := (List.getElem?_eq_some_iff.1 hx).1
  rw [zb, Option.bind_some, hx, Option.bind_some, List.getElem?_set_self (by simpa using hl2), Option.bind_some, List.set_set, Gz hx]
  rfl
 by_cases k4 : e.Kind = 4
 ·rw [if_pos k4, if_pos k4]
  rw [if_pos k4] at hm
  simp only [decide_eq_true_eq] at hm
  have hne := Pd he (.inr (.inr (.inr k4)))
  have hpn : s.Pending ≠ [] := by rw [hm]; exact hne
  rw [Np hl (by omega) i3 hp2, Option.bind_some, if_neg hpn, if_neg (fun h => hpn (X6.1 h)), (i4 hpn).1]
  cases hh : yB s.Entries s.Pending with
  | true =>
   have hk := hmem.2 (Ys.1 hh)
   obtain ⟨x, hx, _⟩ := Jt hk
   rw [Rm i3 hk, if_pos (by omega), if_pos (hroom _ (by omega)), hsp true x hx]
   refine ⟨_, rfl, rfl, hdone _ _ (by rw [Nq]; exact i3), ?_, by (try simp only [jy, jz]); simp⟩
   try simp only [jy, jz]
   try simp only [List.length_nil]
   rw [TG]
   omega
  | false =>
   rw [W3 hh, if_neg (by decide)]
   refine ⟨_, rfl, rfl, hdone _ _ i3, ?_, by (try simp only [jy, jz]); simp⟩
   try simp only [jy, jz]
   try simp only [Bool.false_eq_true, if_false]
   try simp only [List.length_nil]
   omega
 rw [if_neg k4, if_neg k4]
 rw [if_neg k4] at hm
 by_cases k6 : e.Kind = 6
 ·rw [if_pos k6, if_pos k6]
  rw [Np hl (by omega) i3 hp2, Option.bind_some]
  by_cases hpn : s.Pending = []
  ·rw [if_pos hpn, if_pos (X6.2 hpn)]
   refine ⟨_, rfl, rfl, hdone _ _ i3, ?_, by (try simp only [jy, jz]); omega⟩
   try simp only [jy, jz]
   try simp only [List.length_nil]
   omega
  rw [if_neg hpn, if_neg (fun h => hpn (X6.1 h))]
  cases hh : yB s.Entries s.Pending with
  | true =>
   have hk := hmem.2 (Ys.1 hh)
   obtain ⟨x, hx, _⟩ := Jt hk
   rw [Rm i3 hk, if_pos (by omega), if_pos (hroom _ (by omega)), hsp false x hx]
   refine ⟨_, rfl, rfl, hdone _ _ (by rw [Nq]; exact i3), ?_, by (try simp only [jy, jz]); simp⟩
   try simp only [jy, jz]
   try simp only [List.length_nil]
   rw [TG]
   omega
  | false =>
   have hk : ¬ (s.Entries.map GEntry.Addr)[c2]? = some s.Pending := fun h => by rw [Ys.2 (hmem.1 h)] at hh; cases hh
   unfold w8
   rw [W3 hh, if_neg (by decide), if_pos (by omega), Option.bind_some]
   rw [show jj (GEntry.mk s.Pending (GValue.mk 5 0 [] [] []) [] true (s.Serial + 1)) false s.Entries = yF s.Entries c2 (nwE s.Pending (s.Serial + 1)) by
    have : jj (nwE s.Pending (s.Serial + 1)) false s.Entries = if (s.Entries.map GEntry.Addr)[c2]? = some s.Pending then s.Entries.set c2 (nwE s.Pending (s.Serial + 1)) else yF s.Entries c2 (nwE s.Pending (s.Serial + 1)) := O2 (e := nwE s.Pending (s.Serial + 1)) i3 hp2
    rw [if_neg hk] at this
    exact this]
   refine ⟨_, rfl, rfl, hdone _ _ (by rw [VK]; exact Gv i3 hp2 hk), ?_, by (try simp only [jy, jz]); simp [yF]; omega⟩
   have h1 := Nm s.Entries c2 (nwE s.Pending (s.Serial + 1))
   rw [ze8] at h1
   try simp only [jy, jz]
   try simp only [List.length_nil]
   omega
 rw [if_neg k6, if_neg k6]
 by_cases k5 : e.Kind = 5
 ·rw [if_pos k5, if_pos k5]
  refine ⟨_, rfl, rfl, hdone _ _ i3, ?_, by (try simp only [jy, jz]); omega⟩
  try simp only [jy, jz]
  try simp only [List.length_nil]
  omega
 ·exfalso
  unfold evB at he
  rw [if_neg k2, if_neg (by omega), if_neg k1, if_neg (by omega), Bool.and_false] at he
  cases he
def nxS (e : GEvent) (s : GState) : GState := (qW e s).getD s
def xX : GState → List GEvent → GState × Bool
 | s, [] => (s, true)
 | s, e :: l => bif Xi s e then xX (nxS e s) l else (s, false)
def Wh : GState → List GEvent → List GState
 | _, [] => []
 | s, e :: l => nxS e s :: Wh (nxS e s) l
def okS : GState → List GEvent → Bool
 | _, [] => true
 | s, e :: l => evB e && (Xi s e && okS (nxS e s) l)
theorem LN {s : GState} {e : GEvent} (hI : stI s) (he : evB e = true) (hm : Xi s e = true) (hz : ssz s + qE e <= 2 ^ 20) : qW e s = some (nxS e s) ∧ wA s e = some (nxS e s, true) ∧ stI (nxS e s) ∧ ssz (nxS e s) <= ssz s + qE e + 1 := by
 have hlen := qP s.Entries
 obtain ⟨s', h1, h2, h3, h4, _⟩ := zcl hI he hm (by omega) (by unfold ssz at hz; omega)
 have : nxS e s = s' := by unfold nxS; rw [h1]; rfl
 rw [this]
 exact ⟨h1, h2, h3, h4⟩
theorem doN {s : GState} {e : GEvent} (hI : stI s) (hm : Xi s e = false) (hz : ssz s <= 2 ^ 20) : wA s e = some (s, false) := by
 have hlen := qP s.Entries
 have hft := OV (e := e) hI (by unfold ssz at hz; omega)
 rw [hm] at hft
 unfold wA
 rw [show xl s = some s from if_pos (by omega), Option.bind_some, hft, Option.bind_some]
theorem G0 : ∀ {l : List GEvent} {s : GState}, (∀ e ∈ l, evB e = true) → okS s l = (xX s l).2
 | [], s, _ => rfl
 | e :: l, s, h => by
  rw [okS, xX, h e List.mem_cons_self, Bool.true_and, G0 fun x hx => h x (List.mem_cons_of_mem _ hx)]
  cases Xi s e <;> rfl
theorem Pf : ∀ {l : List GEvent} {s : GState}, okS s l = true → ∀ e ∈ l, evB e = true
 | [], _, _ => by simp
 | e :: l, s, h => by
  rw [okS, Bool.and_eq_true, Bool.and_eq_true] at h
  intro x hx
  rcases List.mem_cons.1 hx with rfl | hx
  ·exact h.1
  ·exact Pf h.2.2 x hx
theorem ze9 {m : Nat} (hm : m <= 2 ^ 39) : yM 72 m := ZU (by decide) (by omega)
theorem VL {h : GHistory} {k : Int} {v3 : Int} {v4 : Bool} {v5 : Int} {v7 : List UInt8} {v8 : List GEntry} : ∀ (l p r : List GEvent) (s : GState) (m : Nat), h.Events = p ++ l ++ r → k = ((p.length + l.length : Nat) : Int) → l.length < m → (∀ e ∈ l, evB e = true) → stI s → ssz s + yk l <= 2 ^ 20 → p.length + l.length <= 2 ^ 40 →
  ∃ z, qi k h v3 v4 v5 v7 v8 m (p.length : Int) s = some (bif (xX s l).2 then .inr (z, (xX s l).1) else .inl (false, (xX s l).1)) := by
 intro l
 induction l with
 | nil =>
  intro p r s m _ hk hm _ _ _ _
  obtain ⟨m, rfl, _⟩ := zi hm
  exact ⟨_, by rw [qi, hk, if_neg (by simp)]; rfl⟩
 | cons e l ih =>
  intro p r s m he hk hm hev hI hz hp
  obtain ⟨m, rfl, hm'⟩ := zi hm
  simp only [List.length_cons] at hk hm' hp
  simp only [yk] at hz
  have hlen := qP s.Entries
  have hg : h.Events[p.length]? = some e := by rw [he, List.append_assoc]; exact wP p e (l ++ r)
  have hee := hev e List.mem_cons_self
  rw [qi, hk, if_pos (by omega), zb, Option.bind_some, hg, Option.bind_some, BG hI hee (by unfold ssz at hz; omega), Option.bind_some, xX]
  cases hmy : Xi s e with
  | false => exact ⟨0, rfl⟩
  | true =>
   obtain ⟨h1, _, h3, h4⟩ := LN hI hee hmy (by omega)
   obtain ⟨z, hzz⟩ := ih (p ++ [e]) r (nxS e s) m (by rw [he]; simp) (by rw [hk]; simp; omega) (by omega) (fun x hx => hev x (List.mem_cons_of_mem _ hx)) h3 (by omega) (by simp; omega)
   refine ⟨z, ?_⟩
   dsimp only
   rw [h1, Option.bind_some, qw p e (by omega), <- hk, hzz]
   rfl
theorem BH {h : GHistory} (hz : yk h.Events <= 2 ^ 20) : ∀ (l p : List GEvent) (m : Nat), h.Events = p ++ l → l.length < m → ∃ z, qj h m (p.length : Int) = some (bif l.all evB then .inr z else .inl false) := by
 have hl := Zz h.Events
 intro l
 induction l with
 | nil =>
  intro p m he hm
  obtain ⟨m, rfl, _⟩ := zi hm
  exact ⟨_, by rw [qj, he, if_neg (by simp)]; rfl⟩
 | cons e l ih =>
  intro p m he hm
  obtain ⟨m, rfl, hm'⟩ := zi hm
  have hlen : h.Events.length = p.length + (l.length + 1) := by rw [he]; simp
  have hx : 1 + qE e <= yk h.Events := VU (by rw [he]; simp)
  obtain ⟨z, hzz⟩ := ih (p ++ [e]) m (by rw [he]; simp) (by simp only [List.length_cons] at hm'; omega)
  rw [qj, if_pos (by omega), zb, Option.bind_some, show h.Events[p.length]? = some e by rw [he]; exact wP p e l, Option.bind_some, Dj (by omega), Option.bind_some, List.all_cons]
  cases evB e with
  | false => exact ⟨0, rfl⟩
  | true =>
   refine ⟨z, ?_⟩
   dsimp only
   rw [qw p e (by omega), hzz, Bool.true_and]
def hsz (h : GHistory) : Nat := ssz h.Base + yk h.Events
def hOk (h : GHistory) : Bool := stB h.Base && (decide (h.Events.length <= 300) && (decide (0 <= h.Safe ∧ h.Safe <= h.Events.length) && okS h.Base h.Events))
theorem BI {h : GHistory} (hz : hsz h <= 2 ^ 20) : vk h = some (hOk h) := by
 unfold hsz at hz
 have hl := Zz h.Events
 unfold vk Yj hOk
 rw [EP (by omega), Option.bind_some]
 cases hs : stB h.Base with
 | false => rfl
 | true =>
  dsimp only
  by_cases c1 : 300 < (h.Events.length : Int)
  ·rw [if_pos c1, decide_eq_false (p := h.Events.length <= 300) (by omega)]; rfl
  rw [if_neg c1, decide_eq_true (p := h.Events.length <= 300) (by omega)]
  by_cases c2 : h.Safe < 0
  ·rw [if_pos c2, decide_eq_false (p := 0 <= h.Safe ∧ h.Safe <= h.Events.length) (by omega)]; rfl
  rw [if_neg c2]
  by_cases c3 : (h.Events.length : Int) < h.Safe
  ·rw [if_pos c3, decide_eq_false (p := 0 <= h.Safe ∧ h.Safe <= h.Events.length) (by omega)]; rfl
  rw [if_neg c3, decide_eq_true (p := 0 <= h.Safe ∧ h.Safe <= h.Events.length) (by omega)]
  obtain ⟨z, hzz⟩ := BH (h := h) (by omega) h.Events [] (h.Events.length + 5) rfl (by omega)
  simp only [List.length_nil, Int.natCast_zero] at hzz
  rw [hzz, Option.bind_some]
  cases hall : h.Events.all evB with
  | false =>
   have : okS h.Base h.Events = false := by
    cases hk : okS h.Base h.Events with
    | false => rfl
    | true => rw [List.all_eq_true.2 (Pf hk)] at hall; cases hall
   rw [this]; rfl
  | true =>
   have hev := List.all_eq_true.1 hall
   simp only [cond_true]
   unfold xo j5
   obtain ⟨z2, h2⟩ := VL (h := h) (k := (h.Events.length : Int)) (v3 := 0) (v4 := false) (v5 := 0) (v7 := []) (v8 := []) h.Events [] [] h.Base (h.Events.length + 5) (by simp) (by simp) (by omega) hev (Xh hs) hz (by simp; omega)
   simp only [List.length_nil, Int.natCast_zero] at h2
   rw [h2, G0 hev, Option.bind_some]
   cases (xX h.Base h.Events).2 <;> rfl
theorem NY {evs : List GEvent} {n : Int} : ∀ (l p : List GEvent) (q : List GState) (s : GState) (m : Nat), evs = p ++ l → n = (evs.length : Int) → l.length < m → q.length = p.length → stI s → ssz s + yk l <= 2 ^ 20 → evs.length <= 2 ^ 30 →
  ∃ z, yH evs n m (p.length : Int) (q ++ [s]) = some (bif okS s l then .inr (z, q ++ [s] ++ Wh s l) else .inl (false, [])) := by
 intro l
 induction l with
 | nil =>
  intro p q s m he hn hm _ _ _ _
  obtain ⟨m, rfl, _⟩ := zi hm
  exact ⟨_, by rw [yH, hn, he, if_neg (by simp)]; simp [okS, Wh]; rfl⟩
 | cons e l ih =>
  intro p q s m he hn hm hq hI hz hb
  obtain ⟨m, rfl, hm'⟩ := zi hm
  simp only [List.length_cons] at hm'
  simp only [yk] at hz
  have hg : evs[p.length]? = some e := by rw [he]; exact wP p e l
  have hlen : evs.length = p.length + (l.length + 1) := by rw [he]; simp
  have hgs : (q ++ [s])[p.length]? = some s := by rw [<- hq]; exact wP q s []
  rw [yH, hn, if_pos (by omega), zb, Option.bind_some, hg, Option.bind_some, Di (by omega), Option.bind_some, okS]
  cases hev : evB e with
  | false => exact ⟨0, rfl⟩
  | true =>
   dsimp only
   rw [hgs, Option.bind_some]
   cases hmy : Xi s e with
   | false =>
    rw [doN hI hmy (by omega), Option.bind_some]
    exact ⟨0, rfl⟩
   | true =>
    obtain ⟨_, h2, h3, h4⟩ := LN hI hev hmy (by omega)
    obtain ⟨z, hzz⟩ := ih (p ++ [e]) (q ++ [s]) (nxS e s) m (by rw [he]; simp) hn (by omega) (by simp [hq]) h3 (by omega) hb
    rw [h2, Option.bind_some]
    dsimp only
    rw [if_pos (ze9 (by simp; omega)), qw p e (by omega), <- hn, hzz]
    refine ⟨z, ?_⟩
    simp only [Bool.true_and, Wh]
    cases okS (nxS e s) l <;> simp
theorem Dn {h : GHistory} (hz : hsz h <= 2 ^ 20) : wq h = some (bif hOk h then (h.Base :: Wh h.Base h.Events, true) else ([], false)) := by
 unfold hsz at hz
 have hl := Zz h.Events
 unfold wq qL hOk
 rw [Da (by omega), Option.bind_some]
 cases hs : stB h.Base with
 | false => rfl
 | true =>
  dsimp only
  by_cases c1 : 300 < (h.Events.length : Int)
  ·rw [if_pos c1, decide_eq_false (p := h.Events.length <= 300) (by omega)]; rfl
  rw [if_neg c1, decide_eq_true (p := h.Events.length <= 300) (by omega)]
  have hin : y8 h.Safe 0 (h.Events.length : Int) = some (decide (0 <= h.Safe ∧ h.Safe <= h.Events.length)) := by
   unfold y8
   by_cases c2 : 0 <= h.Safe
   ·rw [if_pos c2]; simp [c2]
   ·rw [if_neg c2]; simp [c2]
  rw [hin, Option.bind_some]
  by_cases c2 : 0 <= h.Safe ∧ h.Safe <= h.Events.length
  ·rw [decide_eq_true c2]
   dsimp only
   rw [show xl h.Base = some h.Base from if_pos (by omega), Option.bind_some]
   obtain ⟨z, hzz⟩ := NY (evs := h.Events) (n := (h.Events.length : Int)) h.Events [] [] h.Base (h.Events.length + 5) rfl rfl (by omega) rfl (Xh hs) hz (by omega)
   simp only [List.length_nil, Int.natCast_zero, List.nil_append] at hzz
   rw [hzz, Option.bind_some]
   cases okS h.Base h.Events <;> simp
  ·rw [decide_eq_false c2]; rfl
def MdH (h : GHistory) : Prop := MdS h.Base ∧ h.Events.length <= 2 ^ 63 - 1 ∧ Wz h.Events
theorem zfa {h : GHistory} {n : Int} (hm : MdH h) (h0 : 0 <= n) (h1 : n <= 2 ^ 20) : kX h n = some (yv (hsz h) n) := by
 unfold kX
 rw [ze5 hm.1 h0 h1, Option.bind_some]
 unfold yv hsz
 by_cases c1 : (ssz h.Base : Int) <= n
 ·rw [if_pos c1, if_neg (by omega)]
  unfold jC
  rw [if_pos ⟨hm.2.1, hm.2.2, by omega, by omega⟩, Option.bind_some]
  unfold yv
  by_cases c2 : (yk h.Events : Int) <= n - ssz h.Base
  ·rw [if_pos c2, if_neg (by omega), if_pos (by omega)]; congr 1; omega
  ·rw [if_neg c2, if_pos (by omega), if_neg (by omega)]
 ·rw [if_neg c1, if_pos (by omega), if_neg (by omega)]
theorem zfb {h : GHistory} (hz : hsz h <= 2 ^ 20) : kY h = some h := by
 unfold hsz at hz
 unfold kY jE
 rw [ze6 (by omega), Option.bind_some, if_pos (by omega), Option.bind_some]
 cases h; rfl
theorem zfc {h : GHistory} (hz : hsz h <= 2 ^ 39) : jn h h = some true := by
 unfold hsz at hz
 unfold jn
 rw [ze7 (by omega), Option.bind_some]
 dsimp only
 rw [NX (by omega), Option.bind_some]
 dsimp only
 rw [if_pos rfl]
theorem zhj (b : GState) (e : List GEvent) (z : Int) : hsz (GHistory.mk b e z) = ssz b + yk e := rfl
theorem Pg {h : GHistory} (hk : hOk h = true) : stB h.Base = true ∧ h.Events.length <= 300 ∧ (0 <= h.Safe ∧ h.Safe <= h.Events.length) ∧ okS h.Base h.Events = true := by
 unfold hOk at hk
 simp only [Bool.and_eq_true, decide_eq_true_eq] at hk
 exact ⟨hk.1, hk.2.1, hk.2.2.1, hk.2.2.2⟩
theorem VM : ∀ {l : List GEvent} {s : GState}, stI s → ssz s + yk l <= 2 ^ 20 → okS s l = true → stI (xX s l).1 ∧ ssz (xX s l).1 <= ssz s + yk l ∧ (xX s l).2 = true ∧ (s :: Wh s l)[l.length]? = some (xX s l).1
 | [], s, hI, hz, _ => ⟨hI, by simp [xX, yk], rfl, rfl⟩
 | e :: l, s, hI, hz, hk => by
  rw [okS, Bool.and_eq_true, Bool.and_eq_true] at hk
  simp only [yk] at hz ⊢
  obtain ⟨_, _, h3, h4⟩ := LN hI hk.1 hk.2.1 (by omega)
  obtain ⟨g1, g2, g3, g4⟩ := VM (l := l) (s := nxS e s) h3 (by omega) hk.2.2
  rw [xX, hk.2.1]
  exact ⟨g1, by simp only [cond_true]; omega, g3, by simp only [Wh, List.length_cons, List.getElem?_cons_succ, cond_true]; exact g4⟩
theorem VN : ∀ (a b : List GEvent), yk (a ++ b) = yk a + yk b
 | [], b => by simp [yk]
 | x :: a, b => by simp only [List.cons_append, yk, VN a b]; omega
theorem Ph (l : List GEvent) (n : Nat) : yk (l.take n) <= yk l := by
 have := VN (l.take n) (l.drop n)
 rw [List.take_append_drop] at this
 omega
theorem zg9 {h : GHistory} (hz : hsz h <= 2 ^ 20) (hk : hOk h = true) : xo h (h.Events.length : Int) = some ((xX h.Base h.Events).1, true) := by
 unfold hsz at hz
 have hl := Zz h.Events
 obtain ⟨k1, _, _, k4⟩ := Pg hk
 unfold xo j5
 obtain ⟨z2, h2⟩ := VL (h := h) (k := (h.Events.length : Int)) (v3 := 0) (v4 := false) (v5 := 0) (v7 := []) (v8 := []) h.Events [] [] h.Base (h.Events.length + 5) (by simp) (by simp) (by omega) (Pf k4) (Xh k1) hz (by simp; omega)
 simp only [List.length_nil, Int.natCast_zero] at h2
 rw [h2, (VM (Xh k1) hz k4).2.2.1]
 rfl
theorem Pi : ∀ {l : List GEvent} {s : GState} {n : Nat}, okS s l = true → n <= l.length → okS s (l.take n) = true ∧ (s :: Wh s l)[n]? = some (xX s (l.take n)).1
 | l, s, 0, _, _ => ⟨rfl, by simp [xX]⟩
 | [], s, n + 1, _, hn => by simp at hn
 | e :: l, s, n + 1, hk, hn => by
  rw [okS, Bool.and_eq_true, Bool.and_eq_true] at hk
  obtain ⟨h1, h2⟩ := Pi (l := l) (s := nxS e s) (n := n) hk.2.2 (by simpa using hn)
  rw [List.take_succ_cons, okS, xX, hk.1, hk.2.1, h1]
  exact ⟨rfl, by simp only [Wh, List.getElem?_cons_succ, cond_true]; exact h2⟩
theorem HC (l : List GEvent) (n : Nat) : yk (l.take n) + yk (l.drop n) = yk l := by
 rw [<- VN, List.take_append_drop]
theorem G1 {h : GHistory} {n : Nat} (hz : hsz h <= 2 ^ 20) (hk : hOk h = true) (hn : n <= h.Events.length) : xo h ((n : Nat) : Int) = some ((xX h.Base (h.Events.take n)).1, true) ∧ (h.Base :: Wh h.Base h.Events)[n]? = some (xX h.Base (h.Events.take n)).1 ∧
  ssz (xX h.Base (h.Events.take n)).1 + yk (h.Events.drop n) <= hsz h := by
 unfold hsz at hz ⊢
 have hl := Zz h.Events
 have hd := HC h.Events n
 obtain ⟨k1, _, _, k4⟩ := Pg hk
 obtain ⟨v1, v2⟩ := Pi k4 hn
 have hz2 : ssz h.Base + yk (h.Events.take n) <= 2 ^ 20 := by omega
 obtain ⟨r1, r2, r3, _⟩ := VM (Xh k1) hz2 v1
 refine ⟨?_, v2, by omega⟩
 have hln : (h.Events.take n).length = n := by simp [hn]
 unfold xo j5
 obtain ⟨z2, h2⟩ := VL (h := h) (k := ((n : Nat) : Int)) (v3 := 0) (v4 := false) (v5 := 0) (v7 := []) (v8 := []) (h.Events.take n) [] (h.Events.drop n) h.Base (h.Events.length + 5) (by simp) (by rw [hln]; simp) (by omega) (Pf v1) (Xh k1) hz2 (by rw [hln]; simp; omega)
 simp only [List.length_nil, Int.natCast_zero] at h2
 rw [h2, r3]
 rfl
def VO (a b : Int) : Int := if a < b then -1 else if b < a then 1 else 0
theorem Rn (a b : Int) : wM a b = some (VO a b) := by
 unfold wM vZ VO
 rw [Option.bind_some, Option.bind_some]
 dsimp only
 split
 ·rfl
 ·split <;> rfl
theorem TH (a b : Int) : qA a b = some (VO a b) := by
 unfold qA VO
 split
 ·rfl
 ·split <;> rfl
theorem VP (a : Int) : VO a a = 0 := by unfold VO; rw [if_neg (by omega), if_neg (by omega)]
theorem Ro {a b : Int} (h : a ≠ b) : VO a b ≠ 0 := by
 unfold VO
 split
 ·decide
 ·rw [if_pos (by omega)]; decide
theorem Do : ∀ (a b : List UInt8), xw a b = some (Lib.compareBytes a b) := by
 intro a
 induction a with
 | nil => intro b; cases b <;> simp [xw, Op.bytesLess, Lib.compareBytes]
 | cons x a ih =>
  intro b
  cases b with
  | nil => simp [xw, Op.bytesLess, Lib.compareBytes]
  | cons y b =>
   have := ih b
   unfold xw at this ⊢
   simp only [Op.bytesLess, Lib.compareBytes]
   by_cases h1 : x < y
   ·simp [h1]
   ·by_cases h2 : y < x
    ·have h3 : ¬ x = y := fun e => by subst e; exact h1 h2
     have h4 : ¬ y = x := fun e => h3 e.symm
     simp [h1, h2, h3, h4]
    ·have h3 : x = y := UInt8.le_antisymm (UInt8.not_lt.1 h2) (UInt8.not_lt.1 h1)
     subst h3
     simpa [h1] using this
theorem G2 (a b : List UInt8) : ya a b = some (Lib.compareBytes a b) := rfl
theorem BJ : Lib.compareBytes [] [] = 0 := rfl
theorem or3 (a b c : Int) : kE [a, b, c] = some (if a = 0 then (if b = 0 then (if c = 0 then 0 else c) else b) else a) := by
 unfold kE
 rw [if_pos (by simp)]
 rfl
theorem JU {v : GValue} (h : y3 v = true) : (v.Kind = 3 ∨ v.S.length = 0) ∧ (v.Kind = 5 → v.K.length = v.L.length ∧ Asc v.K) ∧ v.L.length <= 40 ∧ (v.Kind = 3 → v.N = 0 ∧ v.L.length = 0) ∧ (v.Kind ≠ 5 → v.K.length = 0) ∧ v.K.length <= 40 := by
 unfold y3 at h
 by_cases k0 : v.Kind = 0 ∨ v.Kind = 6
 ·rw [if_pos k0] at h
  have h := of_decide_eq_true h
  exact ⟨.inr h.2.1, fun e => by omega, by omega, fun e => by omega, fun _ => h.2.2.1, by omega⟩
 rw [if_neg k0] at h
 by_cases k1 : v.Kind = 1
 ·rw [if_pos k1] at h
  have h := of_decide_eq_true h
  exact ⟨.inr h.2.1, fun e => by omega, by omega, fun e => by omega, fun _ => h.2.2.1, by omega⟩
 rw [if_neg k1] at h
 by_cases k2 : v.Kind = 2
 ·rw [if_pos k2] at h
  have h := of_decide_eq_true h
  exact ⟨.inr h.2.1, fun e => by omega, by omega, fun e => by omega, fun _ => h.2.2.1, by omega⟩
 rw [if_neg k2] at h
 by_cases k3 : v.Kind = 3
 ·rw [if_pos k3, Bool.and_eq_true] at h
  have h := of_decide_eq_true h.2
  exact ⟨.inl k3, fun e => by omega, by omega, fun _ => ⟨h.1, h.2.2⟩, fun _ => h.2.1, by omega⟩
 rw [if_neg k3] at h
 by_cases k4 : v.Kind = 4
 ·rw [if_pos k4] at h
  have h := of_decide_eq_true h
  exact ⟨.inr h.2.1, fun e => by omega, by omega, fun e => by omega, fun _ => h.2.2.1, by omega⟩
 rw [if_neg k4] at h
 by_cases k5 : v.Kind = 5
 ·rw [if_pos k5, Bool.and_eq_true] at h
  have h1 := of_decide_eq_true h.1
  exact ⟨.inr h1.2.2.1, fun _ => ⟨h1.1, BP h.2⟩, by omega, fun e => by omega, fun e => absurd k5 e, by omega⟩
 ·rw [if_neg k5] at h; cases h
theorem Ju {d : Nat} {v : GValue} (h : shV (d + 1) v = true) : y3 v = true ∧ ∀ x ∈ v.L, shV d x = true := by
 rw [shV, Bool.and_eq_true] at h
 exact ⟨h.1, fun x hx => List.all_eq_true.1 h.2 x hx⟩
theorem Nr : ∀ (d : Nat) (a b : GValue) (f g : Nat), shV d a = true → shV d b = true → vsz a + 3 <= f → vsz a + 3 <= g → ∃ c, y7 f a b = some c ∧ zT g a b = some c
 | 0, a, b, f, g, h, _, _, _ => by cases h
 | d + 1, a, b, f, g, ha, hb, hf, hg => by
  obtain ⟨f, rfl, hf'⟩ : ∃ n, f = n + 1 ∧ vsz a + 2 <= n := ⟨f - 1, by omega, by omega⟩
  obtain ⟨g, rfl, hg'⟩ : ∃ n, g = n + 1 ∧ vsz a + 2 <= n := ⟨g - 1, by omega, by omega⟩
  obtain ⟨la, ca⟩ := Ju ha
  obtain ⟨lb, cb⟩ := Ju hb
  obtain ⟨a1, a2, a3, a4, a5, a6⟩ := JU la
  obtain ⟨b1, b2, b3, b4, b5, b6⟩ := JU lb
  have hva := jq a
  have hLa := xm a.L
  rw [show y7 (f + 1) a b = kz (y7 f) f a b from rfl, show zT (g + 1) a b = qU (zT g) g a b from rfl]
  unfold kz qU
  rw [Rn, Option.bind_some, Rn, Option.bind_some, G2, Option.bind_some, or3, Option.bind_some]
  by_cases hk : a.Kind = b.Kind
  ·rw [if_pos hk, hk, VP, if_pos rfl]
   by_cases k3 : a.Kind = 3
   ·have k3b : b.Kind = 3 := by omega
    rw [if_pos k3b, (a4 k3).1, (b4 k3b).1, VP, if_pos rfl, Do, Option.bind_some]
    refine ⟨_, rfl, ?_⟩
    by_cases hc : Lib.compareBytes a.S b.S = 0
    ·rw [if_pos hc, if_pos rfl, hc, (a4 k3).2, (b4 k3b).2]
     obtain ⟨g, rfl, _⟩ : ∃ n, g = n + 1 ∧ 0 <= n := ⟨g - 1, by omega, by omega⟩
     rw [yg, if_neg (by decide), Option.bind_some]
     dsimp only
     rw [Rn]; rfl
    ·rw [if_neg hc, if_neg hc]
   ·have k3b : ¬ b.Kind = 3 := by omega
    have s1 : a.S = [] := List.eq_nil_of_length_eq_zero (a1.resolve_left k3)
    have s2 : b.S = [] := List.eq_nil_of_length_eq_zero (b1.resolve_left k3b)
    rw [if_neg k3b, s1, s2, BJ, if_pos rfl]
    by_cases hn : a.N = b.N
    ·rw [if_pos hn, hn, VP, if_pos rfl, if_pos rfl]
     have loop : ∀ (j i m m' : Nat), i + j = min a.L.length b.L.length → j < m → j < m' → (∃ z z', xb (y7 f) a b m (i : Int) = some (.inr z) ∧ yg (zT g) (if (b.L.length : Int) < (a.L.length : Int) then (b.L.length : Int) else (a.L.length : Int)) a b m' (i : Int) = some (.inr z')) ∨
       ∃ c, xb (y7 f) a b m (i : Int) = some (.inl c) ∧ yg (zT g) (if (b.L.length : Int) < (a.L.length : Int) then (b.L.length : Int) else (a.L.length : Int)) a b m' (i : Int) = some (.inl c) := by
      have hmin : (if (b.L.length : Int) < (a.L.length : Int) then (b.L.length : Int) else (a.L.length : Int)) = ((min a.L.length b.L.length : Nat) : Int) := by split <;> omega
      rw [hmin]
      intro j
      induction j with
      | zero =>
       intro i m m' hi hm hm'
       obtain ⟨m, rfl, _⟩ := zi hm
       obtain ⟨m', rfl, _⟩ := zi hm'
       refine .inl ⟨(i : Int), (i : Int), ?_, by rw [yg, if_neg (by omega)]⟩
       rw [xb]
       by_cases h1 : ((i : Nat) : Int) < (a.L.length : Int)
       ·rw [if_pos h1, if_neg (by omega)]
       ·rw [if_neg h1]
      | succ j ih =>
       intro i m m' hi hm hm'
       obtain ⟨m, rfl, hm2⟩ := zi hm
       obtain ⟨m', rfl, hm2'⟩ := zi hm'
       have i1 : i < a.L.length := by omega
       have i2 : i < b.L.length := by omega
       have next := ih (i + 1) m m' (by omega) (by omega) (by omega)
       have hin : 1 + vsz a.L[i] <= qr a.L := qu (List.getElem_mem i1)
       obtain ⟨c, c1, c2⟩ := Nr d a.L[i] b.L[i] f g (ca _ (List.getElem_mem i1)) (cb _ (List.getElem_mem i2)) (by omega) (by omega)
       rw [xb, yg, if_pos (by omega), if_pos (by omega)]
       rw [if_pos (show ((i : Nat) : Int) < ((min a.L.length b.L.length : Nat) : Int) by omega)]
       by_cases k5 : a.Kind = 5
       ·have e1 := (a2 k5).1
        have e2 := (b2 (by omega)).1
        rw [if_pos k5, if_pos k5, zb, Option.bind_some, Option.bind_some, zd (show i < a.K.length by omega), Option.bind_some, Option.bind_some, zd (show i < b.K.length by omega), Option.bind_some, Option.bind_some, Do, Option.bind_some, G2, Option.bind_some]
        by_cases hc : Lib.compareBytes (a.K[i]'(by omega)) (b.K[i]'(by omega)) = 0
        ·rw [if_pos hc, if_pos hc, zd i1, Option.bind_some, Option.bind_some, zd i2, Option.bind_some, Option.bind_some, c1, Option.bind_some, c2, Option.bind_some, z7 (by omega)]
         by_cases h0 : c = 0
         ·rw [if_pos h0, if_pos h0]; exact next
         ·rw [if_neg h0, if_neg h0]; exact .inr ⟨c, rfl, rfl⟩
        ·rw [if_neg hc, if_neg hc]; exact .inr ⟨_, rfl, rfl⟩
       ·rw [if_neg k5, if_neg k5, zb, Option.bind_some, Option.bind_some, zd i1, Option.bind_some, Option.bind_some, zd i2, Option.bind_some, Option.bind_some, c1, Option.bind_some, c2, Option.bind_some, z7 (by omega)]
        by_cases h0 : c = 0
        ·rw [if_pos h0, if_pos h0]; exact next
        ·rw [if_neg h0, if_neg h0]; exact .inr ⟨c, rfl, rfl⟩
     have := loop (min a.L.length b.L.length) 0 f g (by omega) (by omega) (by omega)
     rw [show ((0 : Nat) : Int) = 0 from rfl] at this
     rcases this with ⟨z, z', e1, e2⟩ | ⟨c, e1, e2⟩
     ·rw [e1, e2, Option.bind_some, Option.bind_some]
      dsimp only
      rw [TH, Rn]
      exact ⟨_, rfl, rfl⟩
     ·rw [e1, e2]
      exact ⟨c, rfl, rfl⟩
    ·rw [if_neg hn, if_neg (Ro hn), if_neg (Ro hn), TH]
     exact ⟨_, rfl, rfl⟩
  ·rw [if_neg hk, if_neg (Ro hk), if_neg (Ro hk), TH]
   exact ⟨_, rfl, rfl⟩
theorem MF {a b : GValue} (ha : shV 5 a = true) (hb : shV 5 b = true) : ∃ c, k7 a b = some c ∧ wC a b = some c := Nr 5 a b _ _ ha hb (Nat.le_refl _) (Nat.le_refl _)
/-! #### what stands at a path -/
def Xj (v : GValue) (s : GStep) : Option GValue :=
 if s.Kind = 0 then (if v.Kind = 5 ∧ s.Key ∈ v.K then v.L[(ixB v.K s.Key 0).toNat]? else none)
 else if v.Kind = 4 then v.L[s.I.toNat]? else none
def atV : GValue → List GStep → Option GValue
 | v, [] => some v
 | v, s :: l => (Xj v s).bind fun x => atV x l
theorem Ns : ∀ (l : List (List UInt8)) (x : List UInt8) (i : Nat), x ∈ l → ∃ k : Nat, ixB l x i = ((i + k : Nat) : Int) ∧ l[k]? = some x
 | [], x, i, h => by cases h
 | y :: l, x, i, h => by
  rw [ixB]
  by_cases hy : y = x
  ·exact ⟨0, by rw [if_pos hy]; simp, by simp [hy]⟩
  ·obtain ⟨k, h1, h2⟩ := Ns l x (i + 1) ((List.mem_cons.1 h).resolve_left fun e => hy e.symm)
   exact ⟨k + 1, by rw [if_neg hy, h1]; congr 1; omega, by simpa using h2⟩
theorem BK {a : List (List UInt8)} (ha : Asc a) {i j : Nat} {x : List UInt8} (hi : a[i]? = some x) (hj : a[j]? = some x) : i = j := by
 rcases Nat.lt_trichotomy i j with h | h | h
 ·have := kJ.1 ha i j x x h hi hj; rw [jW] at this; cases this
 ·exact h
 ·have := kJ.1 ha j i x x h hj hi; rw [jW] at this; cases this
theorem zcm : Asc [] := fun i j hj => by simp at hj
theorem Dp {d : Nat} {v x : GValue} {s : GStep} (h : shV (d + 1) v = true) (hk : Xj v s = some x) : shV d x = true := by
 obtain ⟨_, hc⟩ := Ju h
 unfold Xj at hk
 split at hk
 ·split at hk
  ·exact hc _ (List.mem_of_getElem? hk)
  ·cases hk
 ·split at hk
  ·exact hc _ (List.mem_of_getElem? hk)
  ·cases hk
theorem BL {d : Nat} {v : GValue} {s : GStep} (h : shV d v = true) (hs : qV s = true) : ∃ r, YU v s = some r ∧ ((r < 0 ∧ Xj v s = none) ∨ ∃ (k : Nat) (x : GValue), r = (k : Int) ∧ v.L[k]? = some x ∧ Xj v s = some x) := by
 cases d with
 | zero => cases h
 | succ d =>
  obtain ⟨lv, _⟩ := Ju h
  obtain ⟨_, b2, b3, _, b5, b6⟩ := JU lv
  unfold YU Xj
  by_cases k0 : s.Kind = 0
  ·rw [if_pos k0, if_pos k0]
   by_cases k5 : v.Kind = 5
   ·obtain ⟨e1, _⟩ := b2 k5
    rw [if_pos k5]
    unfold vm
    rw [if_pos (by omega), Option.bind_some]
    by_cases hm : s.Key ∈ v.K
    ·rw [if_pos ⟨k5, hm⟩]
     obtain ⟨k, q1, q2⟩ := Ns v.K s.Key 0 hm
     rw [q1, Nat.zero_add]
     have hkl : k < v.L.length := by rw [<- e1]; exact (List.getElem?_eq_some_iff.1 q2).1
     exact ⟨_, rfl, .inr ⟨k, v.L[k], rfl, zd hkl, by rw [Int.toNat_natCast]; exact zd hkl⟩⟩
    ·rw [if_neg (fun h => hm h.2), Oh _ _ _ hm]
     exact ⟨_, rfl, .inl ⟨by decide, rfl⟩⟩
   ·rw [if_neg k5, if_neg (fun h => k5 h.1)]
    exact ⟨_, rfl, .inl ⟨by decide, rfl⟩⟩
  ·rw [if_neg k0, if_neg k0]
   have hs' := hs
   unfold qV at hs'
   rw [if_neg k0] at hs'
   have hs' := of_decide_eq_true hs'
   rw [if_pos hs'.1]
   by_cases k4 : v.Kind = 4
   ·rw [if_pos k4, if_pos k4]
    obtain ⟨n, hn⟩ : ∃ n : Nat, s.I = (n : Int) := ⟨s.I.toNat, by omega⟩
    rw [hn, Int.toNat_natCast]
    by_cases hl : n < v.L.length
    ·rw [if_pos (by omega)]
     exact ⟨_, rfl, .inr ⟨n, v.L[n], rfl, zd hl, zd hl⟩⟩
    ·rw [if_neg (by omega)]
     exact ⟨_, rfl, .inl ⟨by decide, List.getElem?_eq_none (by omega)⟩⟩
   ·rw [if_neg k4, if_neg k4]
    exact ⟨_, rfl, .inl ⟨by decide, rfl⟩⟩
theorem zcn {a : List GStep} (ha : a.length <= 2 ^ 20) : ∀ (l p : List GStep) (d : Nat) (v : GValue) (m : Nat), a = p ++ l → (∀ s ∈ l, qV s = true) → (∃ d, shV d v = true) → l.length < m →
  yL a (a.length : Int) m v.Kind v.N v.S v.K v.L (p.length : Int) = some (match atV v l with | some x => .inr (x.Kind, x.N, x.S, x.K, x.L, (a.length : Int)) | none => .inl ()) := by
 intro l
 induction l with
 | nil =>
  intro p d v m he _ _ hm
  obtain ⟨m, rfl, _⟩ := zi hm
  rw [yL, he, List.append_nil, if_neg (by omega)]; rfl
 | cons s l ih =>
  intro p d v m he hs hv hm
  obtain ⟨m, rfl, hm'⟩ := zi hm
  have hl : a.length = p.length + (l.length + 1) := by rw [he]; simp
  have hss := hs s List.mem_cons_self
  obtain ⟨d0, hv⟩ := hv
  cases d0 with
  | zero => cases hv
  | succ d0 =>
  obtain ⟨lv, cv⟩ := Ju hv
  obtain ⟨_, b2, b3, _, b5, b6⟩ := JU lv
  have next : ∀ (k : Nat) (x : GValue), v.L[k]? = some x → Xj v s = some x → yL a (a.length : Int) m x.Kind x.N x.S x.K x.L (w64 ((p.length : Int) + 1)) = some (match atV v (s :: l) with | some x => .inr (x.Kind, x.N, x.S, x.K, x.L, (a.length : Int)) | none => .inl ()) := fun k x hx hk => by
   rw [qw p s (by omega), ih (p ++ [s]) 0 x m (by rw [he]; simp) (fun t ht => hs t (List.mem_cons_of_mem _ ht)) ⟨d0, cv x (List.mem_of_getElem? hx)⟩ (by simp only [List.length_cons] at hm'; omega), atV, hk, Option.bind_some]
  have stop : Xj v s = none → (some (.inl ()) : Option (Unit ⊕ (Int × Int × List UInt8 × List (List UInt8) × List GValue × Int))) = some (match atV v (s :: l) with | some x => .inr (x.Kind, x.N, x.S, x.K, x.L, (a.length : Int)) | none => .inl ()) := fun hk => by
   rw [atV, hk]; rfl
  rw [yL, if_pos (by omega), zb, Option.bind_some, show a[p.length]? = some s by rw [he]; exact wP p s l, Option.bind_some]
  by_cases k0 : s.Kind = 0
  ·rw [if_pos k0]
   have hasc : Asc v.K := by
    by_cases k5 : v.Kind = 5
    ·exact (b2 k5).2
    ·rw [List.eq_nil_of_length_eq_zero (b5 k5)]; exact zcm
   obtain ⟨c, hc, hb⟩ := H6 (x := s.Key) (show v.K.length <= 2 ^ 40 by omega) hasc
   rw [show jI (GValue.mk v.Kind v.N v.S v.K v.L) s.Key = some ((c : Int), decide (s.Key ∈ v.K)) from by
    unfold jI
    rw [show (GValue.mk v.Kind v.N v.S v.K v.L).K = v.K from rfl, hb]; rfl, Option.bind_some]
   dsimp only
   by_cases k5 : v.Kind = 5
   ·rw [if_pos k5]
    by_cases hm2 : s.Key ∈ v.K
    ·rw [decide_eq_true hm2]
     have hcx := (qv.mem hasc hc).2 hm2
     have hcl : c < v.L.length := by rw [<- (b2 k5).1]; exact (List.getElem?_eq_some_iff.1 hcx).1
     obtain ⟨k, q1, q2⟩ := Ns v.K s.Key 0 hm2
     have hck : c = k := BK hasc hcx q2
     dsimp only
     rw [zb, Option.bind_some, zd hcl, Option.bind_some]
     refine next c _ (zd hcl) ?_
     unfold Xj
     rw [if_pos k0, if_pos ⟨k5, hm2⟩, q1, Nat.zero_add, Int.toNat_natCast, <- hck]
     exact zd hcl
    ·rw [decide_eq_false hm2]
     refine stop ?_
     unfold Xj
     rw [if_pos k0, if_neg (fun h => hm2 h.2)]
   ·rw [if_neg k5]
    refine stop ?_
    unfold Xj
    rw [if_pos k0, if_neg (fun h => k5 h.1)]
  ·rw [if_neg k0]
   have hs' := hss
   unfold qV at hs'
   rw [if_neg k0] at hs'
   have hs' := of_decide_eq_true hs'
   obtain ⟨n, hn⟩ : ∃ n : Nat, s.I = (n : Int) := ⟨s.I.toNat, by omega⟩
   by_cases k4 : v.Kind = 4
   ·rw [if_pos k4]
    by_cases hl2 : n < v.L.length
    ·rw [if_neg (by omega), hn, zb, Option.bind_some, zd hl2, Option.bind_some]
     refine next n _ (zd hl2) ?_
     unfold Xj
     rw [if_neg k0, if_pos k4, hn, Int.toNat_natCast]
     exact zd hl2
    ·rw [if_pos (by omega)]
     refine stop ?_
     unfold Xj
     rw [if_neg k0, if_pos k4, hn, Int.toNat_natCast]
     exact List.getElem?_eq_none (by omega)
   ·rw [if_neg k4]
    refine stop ?_
    unfold Xj
    rw [if_neg k0, if_neg k4]
theorem zfz {v : GValue} {l : List GStep} (hl : l.length <= 2 ^ 20) (hs : ∀ s ∈ l, qV s = true) (hv : ∃ d, shV d v = true) : jJ v l = some (match atV v l with | some x => .inl x | none => .inr ()) := by
 unfold jJ vY
 have := zcn hl l [] 0 v (l.length + 5) rfl hs hv (by omega)
 simp only [List.length_nil, Int.natCast_zero] at this
 rw [this]
 cases atV v l with
 | none => rfl
 | some x => cases x; rfl
theorem zco {a : List GStep} (ha : a.length <= 2 ^ 20) : ∀ (l p : List GStep) (v : GValue) (m : Nat), a = p ++ l → (∀ s ∈ l, qV s = true) → (∃ d, shV d v = true) → l.length < m →
  ∃ z, wK a 0 0 [] [] [] m (p.length : Int) v = some (match atV v l with | some x => .inr (z, x) | none => .inl (false, 0, [], [], [])) := by
 intro l
 induction l with
 | nil =>
  intro p v m he _ _ hm
  obtain ⟨m, rfl, _⟩ := zi hm
  exact ⟨_, by rw [wK, he, List.append_nil, if_neg (by omega)]; rfl⟩
 | cons s l ih =>
  intro p v m he hs hv hm
  obtain ⟨m, rfl, hm'⟩ := zi hm
  have hl : a.length = p.length + (l.length + 1) := by rw [he]; simp
  obtain ⟨d, hv⟩ := hv
  obtain ⟨r, h1, h2⟩ := BL hv (hs s List.mem_cons_self)
  rw [wK, if_pos (by omega), zb, Option.bind_some, show a[p.length]? = some s by rw [he]; exact wP p s l, Option.bind_some, h1, Option.bind_some, atV]
  rcases h2 with ⟨h2, h3⟩ | ⟨k, x, rfl, h2, h3⟩
  ·rw [if_pos h2, h3]; exact ⟨0, rfl⟩
  ·have hx : ∃ d, shV d x = true := by
    cases d with
    | zero => cases hv
    | succ d => exact ⟨d, Dp hv h3⟩
   obtain ⟨z, hz⟩ := ih (p ++ [s]) x m (by rw [he]; simp) (fun t ht => hs t (List.mem_cons_of_mem _ ht)) hx (by simp only [List.length_cons] at hm'; omega)
   rw [if_neg (by omega), zb, Option.bind_some, h2, Option.bind_some, qw p s (by omega), hz, h3, Option.bind_some]
   exact ⟨z, rfl⟩
def Qd (s : GState) : Prop := ∀ x ∈ s.Entries, shV 5 x.Val = true
def QJ (s : GState) (a : List UInt8) (l : List GStep) : Option GValue := if yB s.Entries a = true then (s.Entries[(ZF s.Entries a 0).toNat]?).bind fun e => atV e.Val l else none
theorem G3 {s : GState} {a : List UInt8} {l : List GStep} (hI : stI s) (hv : Qd s) (hn : s.Entries.length <= 2 ^ 40) (hl : l.length <= 2 ^ 20) (hs : ∀ t ∈ l, qV t = true) :
  wL s a l = some (match QJ s a l with | some x => .inl x | none => .inr ()) ∧ qZ s a l = some (match QJ s a l with | some x => (x, true) | none => (GValue.mk 0 0 [] [] [], false)) := by
 obtain ⟨c, hp, hc, hb⟩ := Pe (a := a) hn hI.2.2.1
 unfold wL qZ ZL yS QJ
 rw [hc, Option.bind_some, if_pos hn, Option.bind_some]
 dsimp only
 cases hh : yB s.Entries a with
 | false =>
  rw [if_neg (by decide), W3 hh, if_pos (by decide)]
  exact ⟨rfl, rfl⟩
 | true =>
  have hk := hb.1 hh
  obtain ⟨e, he, _⟩ := Jt hk
  have hev := hv e (List.mem_of_getElem? he)
  dsimp only
  rw [Rm hI.2.2.1 hk, if_pos rfl, if_neg (by omega), zb, Option.bind_some, Option.bind_some, he, Option.bind_some, Option.bind_some, Int.toNat_natCast, he, Option.bind_some, zfz hl hs ⟨5, hev⟩, Option.bind_some]
  obtain ⟨z, hz⟩ := zco hl l [] e.Val (l.length + 5) rfl hs ⟨5, hev⟩ (by omega)
  simp only [List.length_nil, Int.natCast_zero] at hz
  rw [hz, Option.bind_some]
  cases atV e.Val l <;> exact ⟨rfl, rfl⟩
theorem VY {s : GState} {a : List UInt8} {l : List GStep} {x : GValue} (hv : Qd s) (h : QJ s a l = some x) : ∃ d, d <= 5 ∧ shV d x = true := by
 have go : ∀ (l : List GStep) (d : Nat) (v : GValue), d <= 5 → shV d v = true → atV v l = some x → ∃ d, d <= 5 ∧ shV d x = true := by
  intro l
  induction l with
  | nil => intro d v hd hv h; simp only [atV, Option.some.injEq] at h; subst h; exact ⟨d, hd, hv⟩
  | cons t l ih =>
   intro d v hd hv h
   rw [atV] at h
   obtain ⟨y, h1, h2⟩ := Option.bind_eq_some_iff.1 h
   cases d with
   | zero => cases hv
   | succ d => exact ih d y (by omega) (Dp hv h1) h2
 unfold QJ at h
 split at h
 ·obtain ⟨e, he, h⟩ := Option.bind_eq_some_iff.1 h
  exact go l 5 e.Val (Nat.le_refl _) (hv e (List.mem_of_getElem? he)) h
 ·cases h
theorem Dq : ∀ (d : Nat) (v : GValue), shV d v = true → shV (d + 1) v = true
 | 0, v, h => by cases h
 | d + 1, v, h => by
  rw [shV, Bool.and_eq_true] at h ⊢
  exact ⟨h.1, List.all_eq_true.2 fun x hx => Dq d x (List.all_eq_true.1 h.2 x hx)⟩
theorem Nt {v : GValue} : ∀ (k d : Nat), d + k = 5 → shV d v = true → shV 5 v = true
 | 0, d, h, hv => by rw [show (5 : Nat) = d by omega]; exact hv
 | k + 1, d, h, hv => Nt k (d + 1) (by omega) (Dq d v hv)
theorem OW {s : GState} {a : List UInt8} {l : List GStep} {x : GValue} (hv : Qd s) (h : QJ s a l = some x) : shV 5 x = true := by
 obtain ⟨d, h1, h2⟩ := VY hv h
 exact Nt (5 - d) d (by omega) h2
/-! #### values of states stay ok -/
theorem BM {e x : GEntry} : ∀ {l : List GEntry} {b : Bool}, x ∈ jj e b l → x = e ∨ x ∈ l := by
 intro l
 induction l with
 | nil =>
  intro b h
  cases b <;> simp [jj] at h
  exact .inl h
 | cons y l ih =>
  intro b h
  rw [jj] at h
  revert h
  cases b <;> cases Op.bytesLess e.Addr y.Addr <;> cases Op.bytesLess y.Addr e.Addr <;> simp only [cond_true, cond_false, List.mem_cons, Bool.not_true, Bool.not_false, Bool.and_true, Bool.and_false, Bool.true_and, Bool.false_and] <;> intro h <;> first
   | (rcases h with h | h | h <;> first | exact .inl h | exact .inr (.inl h) | (rcases ih h with h | h <;> first | exact .inl h | exact .inr (.inr h)))
   | (rcases h with h | h <;> first | exact .inl h | exact .inr (.inl h) | (rcases ih h with h | h <;> first | exact .inl h | exact .inr (.inr h)))
   | (rcases ih h with h | h <;> first | exact .inl h | exact .inr (.inr h))
theorem G4 {α : Type} {l q : List α} {a b : Option Nat} {x : α} (h : w6 l a b = some q) (hx : x ∈ q) : x ∈ l := by
 unfold w6 at h
 obtain ⟨r, _, rfl⟩ := Option.map_eq_some_iff.1 h
 exact List.mem_of_mem_take (List.mem_of_mem_drop hx)
theorem zcp : shV 5 (GValue.mk 5 0 [] [] []) = true := by decide
theorem BN {l : List GEntry} {i : Nat} {x y : GEntry} {a a' : GEntry} (hx : l[i]? = some x) (ha : a.Val = x.Val) (hy : (l.set i a)[i]? = some y) (ha' : a'.Val = y.Val) (hv : ∀ z ∈ l, shV 5 z.Val = true) : ∀ z ∈ (l.set i a).set i a', shV 5 z.Val = true := by
 have hl := (List.getElem?_eq_some_iff.1 hx).1
 rw [List.getElem?_set_self hl] at hy
 injection hy with hy
 subst hy
 intro z hz
 rcases List.mem_or_eq_of_mem_set hz with hz | rfl
 ·rcases List.mem_or_eq_of_mem_set hz with hz | rfl
  ·exact hv z hz
  ·rw [ha]; exact hv x (List.mem_of_getElem? hx)
 ·rw [ha', ha]; exact hv x (List.mem_of_getElem? hx)
theorem zcq {e : GEvent} {s s' : GState} (h : qW e s = some s') (hv : Qd s) (he : e.Kind = 2 → shV 5 e.Val = true) : Qd s' := by
 have same : ∀ {a : Int} {b : Bool} {c : List UInt8} {d : Int}, some (GState.mk a b c d s.Entries) = some s' → Qd s' := fun h => by injection h with h; subst h; exact hv
 have put : ∀ {x : GEntry} {r : List GEntry} {a : Int} {b : Bool} {c : List UInt8} {d : Int}, w8 s.Entries x = some r → shV 5 x.Val = true → some (GState.mk a b c d r) = some s' → Qd s' := fun {x r a b c d} hp hx h => by
  injection h with h
  subst h
  unfold w8 at hp
  obtain ⟨_, hp⟩ := zF hp
  intro z hz
  have hz : z ∈ jj x false s.Entries := by
   have : r = jj x false s.Entries := by simpa using hp.symm
   rw [<- this]; exact hz
  rcases BM hz with rfl | hz
  ·exact hx
  ·exact hv z hz
 have tnt : ∀ {r1 : Int} {o : Bool} {T : Option GState}, (if yM 152 (0 + s.Entries.length) then (zv r1).bind fun i10 => (s.Entries[i10]?).bind fun x11 => ((s.Entries.set i10 (GEntry.mk x11.Addr x11.Val x11.Deps true x11.Turned))[i10]?).bind fun x12 => some (GState.mk (w64 (s.Serial + 1)) o [] 0 ((s.Entries.set i10 (GEntry.mk x11.Addr x11.Val x11.Deps true x11.Turned)).set i10 (GEntry.mk x12.Addr x12.Val x12.Deps x12.Taint (w64 (s.Serial + 1))))) else none) = some s' → Qd s' := fun {r1 o T} h => by
  obtain ⟨_, h⟩ := zF h
  obtain ⟨i, _, h⟩ := Option.bind_eq_some_iff.1 h
  obtain ⟨x, hx, h⟩ := Option.bind_eq_some_iff.1 h
  obtain ⟨y, hy, h⟩ := Option.bind_eq_some_iff.1 h
  injection h with h
  subst h
  exact BN hx rfl hy rfl hv
 unfold qW at h
 obtain ⟨r, _, h⟩ := Option.bind_eq_some_iff.1 h
 by_cases k0 : e.Kind = 0
 ·rw [if_pos k0] at h; exact same h
 rw [if_neg k0] at h
 by_cases k1 : e.Kind = 1
 ·rw [if_pos k1] at h; exact same h
 rw [if_neg k1] at h
 by_cases k2 : e.Kind = 2
 ·rw [if_pos k2] at h
  obtain ⟨q, hq, h⟩ := Option.bind_eq_some_iff.1 h
  exact put hq (he k2) h
 rw [if_neg k2] at h
 by_cases k3 : e.Kind = 3
 ·rw [if_pos k3] at h
  obtain ⟨i, _, h⟩ := Option.bind_eq_some_iff.1 h
  obtain ⟨u, hu, h⟩ := Option.bind_eq_some_iff.1 h
  obtain ⟨_, h⟩ := zF h
  obtain ⟨j, _, h⟩ := Option.bind_eq_some_iff.1 h
  obtain ⟨w, hw, h⟩ := Option.bind_eq_some_iff.1 h
  obtain ⟨_, h⟩ := zF h
  injection h with h
  subst h
  intro z hz
  rcases List.mem_append.1 (show z ∈ u ++ w from hz) with hz | hz
  ·exact hv z (G4 hu hz)
  ·exact hv z (G4 hw hz)
 rw [if_neg k3] at h
 by_cases k4 : e.Kind = 4
 ·rw [if_pos k4] at h
  split at h
  ·exact same h
  ·split at h
   ·exact tnt (T := none) h
   ·exact same h
 rw [if_neg k4] at h
 by_cases k6 : e.Kind = 6
 ·rw [if_pos k6] at h
  split at h
  ·exact same h
  ·split at h
   ·exact tnt (T := none) h
   ·obtain ⟨q, hq, h⟩ := Option.bind_eq_some_iff.1 h
    exact put hq zcp h
 rw [if_neg k6] at h
 split at h
 ·exact same h
 ·exact same h
theorem Dr {v : GValue} (h : kK v = true) : shV 5 v = true := (of_decide_eq_true h).1
theorem G5 {s : GState} (h : stB s = true) : Qd s := by
 unfold stB at h
 simp only [Bool.and_eq_true] at h
 intro x hx
 have h2 := h.1.2
 unfold Po at h2
 have h3 := zfl h2 hx
 unfold Wk ju at h3
 simp only [Bool.and_eq_true] at h3
 exact Dr h3.1.1.2.1.2
theorem zfd {e : GEvent} (h : evB e = true) (k : e.Kind = 2) : shV 5 e.Val = true := by
 unfold evB at h
 rw [if_pos k] at h
 simp only [Bool.and_eq_true] at h
 have h2 := h.1.2
 unfold ju at h2
 simp only [Bool.and_eq_true] at h2
 exact Dr h2.1.2
theorem TJ : ∀ {l : List GEvent} {s : GState}, Qd s → stI s → ssz s + yk l <= 2 ^ 20 → okS s l = true → Qd (xX s l).1
 | [], s, hv, _, _, _ => hv
 | e :: l, s, hv, hI, hz, hk => by
  rw [okS, Bool.and_eq_true, Bool.and_eq_true] at hk
  simp only [yk] at hz
  obtain ⟨h1, _, h3, h4⟩ := LN hI hk.1 hk.2.1 (by omega)
  rw [xX, hk.2.1]
  exact TJ (l := l) (zcq h1 hv (zfd hk.1)) h3 (by omega) hk.2.2
/-! #### the latest turn -/
theorem zfe {l : List GStep} (h : wT l <= 2 ^ 20) : Yl l = some (Kc l) := by
 unfold Yl xx Kc
 by_cases c : l.length <= 6
 ·obtain ⟨z, h1, h2⟩ := Dc h
  rw [if_pos (by omega), h1, Option.bind_some, Option.bind_some, h2, decide_eq_true c]
  cases l.all qV <;> rfl
 ·rw [if_neg (by omega), decide_eq_false c]; rfl
theorem zff (a b c : Int) : y8 a b c = some (decide (b <= a ∧ a <= c)) := YW a b c
theorem HD {h : GHistory} {a : List UInt8} {l : List GStep} {v : GValue} (hz : hsz h <= 2 ^ 20) (hk : hOk h = true) (hl : l.length <= 2 ^ 20) (hs : ∀ t ∈ l, qV t = true) (hv : shV 5 v = true) (hb0 : 0 <= h.Base.Serial) (hb1 : h.Base.Serial <= 1000000) : ∀ (n m m' : Nat), n <= h.Events.length → n < m → n < m' →
  ∃ k : Nat, qI a l h v m ((n : Nat) : Int) = some (if k = 0 then .inr 0 else .inl (h.Base.Serial + ((k : Nat) : Int), true)) ∧ k <= n ∧
   xW a l (h.Base :: Wh h.Base h.Events) v.Kind v.N v.S v.K v.L h m' ((n : Nat) : Int) = some ((k : Nat) : Int) := by
 obtain ⟨k1, k2, _, k4⟩ := Pg hk
 have hzz := hz
 unfold hsz at hzz
 intro n
 induction n with
 | zero =>
  intro m m' _ hm hm'
  obtain ⟨m, rfl, _⟩ := zi hm
  obtain ⟨m', rfl, _⟩ := zi hm'
  exact ⟨0, by rw [qI, if_neg (by decide)]; rfl, Nat.le_refl _, by rw [xW, if_neg (by decide)]⟩
 | succ n ih =>
  intro m m' hn hm hm'
  obtain ⟨m, rfl, hm2⟩ := zi hm
  obtain ⟨m', rfl, hm2'⟩ := zi hm'
  obtain ⟨f1, f2, f3⟩ := G1 (n := n) hz hk (by omega)
  obtain ⟨v1, _⟩ := Pi k4 (show n <= h.Events.length by omega)
  have hz2 : ssz h.Base + yk (h.Events.take n) <= 2 ^ 20 := by have := Ph h.Events n; omega
  obtain ⟨r1, r2, _, _⟩ := VM (Xh k1) hz2 v1
  have r5 := TJ (G5 k1) (Xh k1) hz2 v1
  have hent := qP (xX h.Base (h.Events.take n)).1.Entries
  have r2' : (xX h.Base (h.Events.take n)).1.Pending.length + yr (xX h.Base (h.Events.take n)).1.Entries <= ssz h.Base + yk (h.Events.take n) := r2
  obtain ⟨p1, p2⟩ := G3 (a := a) r1 r5 (by omega) hl hs
  have hw : w64 (((n + 1 : Nat) : Int) - 1) = ((n : Nat) : Int) := by rw [show ((n + 1 : Nat) : Int) - 1 = ((n : Nat) : Int) by omega, xz (by omega) (by omega)]
  rw [qI, xW, if_pos (by omega), hw, f1, Option.bind_some]
  rw [if_pos (by omega), zb, Option.bind_some, f2, Option.bind_some, p1, Option.bind_some]
  dsimp only
  rw [p2, Option.bind_some]
  have stop : (some (.inl (w64 (h.Base.Serial + ((n + 1 : Nat) : Int)), true)) : Option ((Int × Bool) ⊕ Int)) = some (if n + 1 = 0 then .inr 0 else .inl (h.Base.Serial + ((n + 1 : Nat) : Int), true)) := by
   rw [if_neg (by omega), xz (by omega) (by omega)]
  cases hp : QJ (xX h.Base (h.Events.take n)).1 a l with
  | none => exact ⟨n + 1, stop, Nat.le_refl _, rfl⟩
  | some x =>
   obtain ⟨c, c1, c2⟩ := MF hv (OW r5 hp)
   dsimp only
   rw [c1, Option.bind_some, show (GValue.mk v.Kind v.N v.S v.K v.L) = v from by cases v; rfl, c2, Option.bind_some]
   by_cases c0 : c = 0
   ·rw [if_pos c0, if_pos c0]
    obtain ⟨k, q1, q2, q3⟩ := ih m m' (by omega) (by omega) (by omega)
    exact ⟨k, q1, by omega, q3⟩
   ·rw [if_neg c0, if_neg c0]
    exact ⟨n + 1, stop, Nat.le_refl _, rfl⟩
theorem Ds {h : GHistory} {ser : Int} {a : List UInt8} {l : List GStep} (hz : hsz h <= 2 ^ 20) (hp : wT l <= 2 ^ 20) : ∃ k b, Zp h ser a l = some (k, b) ∧ Zx h ser a l = some (k, b) := by
 unfold Zp Zx YV Xb QU
 rw [BI hz, Option.bind_some, Dn hz, Option.bind_some]
 cases hk : hOk h with
 | false => exact ⟨_, _, rfl, rfl⟩
 | true =>
  simp only [cond_true]
  obtain ⟨k1, k2, _, k4⟩ := Pg hk
  have hI := Xh k1
  have hs0 := hI.1
  have hs1 := hI.2.1
  have hzz := hz
  unfold hsz at hzz
  rw [zff, Option.bind_some, xz (x := h.Base.Serial + (h.Events.length : Int)) (by omega) (by omega)]
  by_cases c1 : h.Base.Serial <= ser
  ·rw [if_pos c1, Option.bind_some]
   by_cases c2 : ser <= h.Base.Serial + (h.Events.length : Int)
   ·rw [decide_eq_true c2, decide_eq_true (p := h.Base.Serial <= ser ∧ ser <= h.Base.Serial + (h.Events.length : Int)) ⟨c1, c2⟩]
    dsimp only
    rw [show vl l = some (Kc l) from if_pos hp, Option.bind_some, zfe hp, Option.bind_some]
    cases hpb : Kc l with
    | false => exact ⟨_, _, rfl, rfl⟩
    | true =>
     unfold Kc at hpb
     rw [Bool.and_eq_true, decide_eq_true_eq] at hpb
     have hst := List.all_eq_true.1 hpb.2
     obtain ⟨n, hn⟩ : ∃ n : Nat, ser - h.Base.Serial = (n : Int) := ⟨(ser - h.Base.Serial).toNat, by omega⟩
     have hnl : n <= h.Events.length := by omega
     obtain ⟨f1, f2, f3⟩ := G1 (n := n) hz hk hnl
     obtain ⟨v1, _⟩ := Pi k4 hnl
     have hz2 : ssz h.Base + yk (h.Events.take n) <= 2 ^ 20 := by have := Ph h.Events n; omega
     obtain ⟨r1, r2, _, _⟩ := VM (Xh k1) hz2 v1
     have r5 := TJ (G5 k1) (Xh k1) hz2 v1
     have hent := qP (xX h.Base (h.Events.take n)).1.Entries
     have r2' : (xX h.Base (h.Events.take n)).1.Pending.length + yr (xX h.Base (h.Events.take n)).1.Entries <= ssz h.Base + yk (h.Events.take n) := r2
     obtain ⟨p1, p2⟩ := G3 (a := a) r1 r5 (by omega) (show l.length <= 2 ^ 20 by omega) hst
     dsimp only
     rw [hn, xz (x := ((n : Nat) : Int)) (by omega) (by omega), f1, Option.bind_some]
     dsimp only
     rw [p2, Option.bind_some, zb, Option.bind_some, f2, Option.bind_some, p1, Option.bind_some]
     cases hx : QJ (xX h.Base (h.Events.take n)).1 a l with
     | none => exact ⟨_, _, rfl, rfl⟩
     | some x =>
      obtain ⟨k, q1, q2, q3⟩ := HD (a := a) hz hk (show l.length <= 2 ^ 20 by omega) hst (OW r5 hx) hs0 hs1 n (h.Events.length + 5) (h.Events.length + 6) hnl (by omega) (by omega)
      dsimp only
      rw [q1]
      have hi : Za (h.Events.length + 5) a l (h.Base :: Wh h.Base h.Events) ((n : Nat) : Int) x.Kind x.N x.S x.K x.L false h (h.Events.length + 5) = some ((k : Nat) : Int) := by
       rw [<- q3, Za, xW]
       simp only [Option.bind_fun_some]
       try rfl
      rw [hi, Option.bind_some]
      by_cases k0 : k = 0
      ·rw [if_pos k0, k0, Option.bind_some]
       refine ⟨_, _, rfl, ?_⟩
       rw [show h.Base.Serial + ((0 : Nat) : Int) = h.Base.Serial by omega, xz (by omega) (by omega)]
      ·rw [if_neg k0, Option.bind_some, xz (by omega) (by omega)]
       exact ⟨_, _, rfl, rfl⟩
   ·rw [decide_eq_false c2, decide_eq_false (p := h.Base.Serial <= ser ∧ ser <= h.Base.Serial + (h.Events.length : Int)) (fun h => c2 h.2)]
    exact ⟨_, _, rfl, rfl⟩
  ·rw [if_neg c1, Option.bind_some, decide_eq_false (p := h.Base.Serial <= ser ∧ ser <= h.Base.Serial + (h.Events.length : Int)) (fun h => c1 h.1)]
   exact ⟨_, _, rfl, rfl⟩
theorem law_Blame {h : GHistory} {ser : Int} {a : List UInt8} {l : List GStep} (hm : MdH h) (_ : a.length <= 2 ^ 63 - 1) (hl : l.length <= 2 ^ 63 - 1 ∧ W2 l) : vI h ser a l = some true := by
 unfold vI
 by_cases ca : 1048576 < (a.length : Int)
 ·rw [if_pos ca]
 rw [if_neg ca, zfa hm (by decide) (by decide), Option.bind_some]
 unfold yv
 by_cases c : (hsz h : Int) <= 1048576
 ·rw [if_pos c, if_neg (by omega), show km l (1048576 - (hsz h : Int)) = some (yv (wT l) (1048576 - (hsz h : Int))) from if_pos ⟨hl.1, hl.2, by omega, by omega⟩, Option.bind_some]
  unfold yv
  by_cases c2 : (wT l : Int) <= 1048576 - hsz h
  ·rw [if_pos c2, if_neg (by omega), zfb (by omega), Option.bind_some, ze3 (by omega), Option.bind_some, show kr l = some l from if_pos (by omega), Option.bind_some]
   obtain ⟨k, b, e1, e2⟩ := Ds (ser := ser) (a := a) (show hsz h <= 2 ^ 20 by omega) (show wT l <= 2 ^ 20 by omega)
   rw [e1, e2, Option.bind_some]
   dsimp only
   rw [Option.bind_some]
   dsimp only
   rw [if_pos rfl]
   cases b <;> (first | rw [if_pos rfl, if_pos rfl] | rw [if_neg (by decide), if_neg (by decide)])
   all_goals
    rw [zfc (by omega), Option.bind_some]
    dsimp only
    rw [ze4 (by omega), Option.bind_some]
    dsimp only
    rw [HA (by omega), Option.bind_some]
  ·rw [if_neg c2, if_pos (by omega)]
 ·rw [if_neg c, if_pos (by omega)]
end
end Go.Am.Try
