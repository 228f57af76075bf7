
/- The law of FnExactHistBytes, in plain terms. -/
import Derived.Test.YtjmhaigcaidloaaGreatDoorWG5
set_option linter.unusedVariables false
set_option linter.unusedSimpArgs false
namespace Go.Am.Try
open Go.Am
noncomputable section
theorem MI {v : GValue} (h : vsz v <= 2 ^ 20) : xg v = some (ZN v) := by
 unfold xg vu
 rw [if_pos ⟨h, by decide, by decide, by decide⟩, Option.bind_some]
 congr 1
 unfold okV ZN
 rw [show (6 - (1 : Int)).toNat = 5 from rfl]
 by_cases hc : shV 5 v = true ∧ (ptV v : Int) <= 40
 ·rw [if_pos hc, decide_eq_true hc]; exact decide_eq_true (by omega)
 ·rw [if_neg hc, decide_eq_false hc]; rfl
theorem DJ {v : GValue} (h : vsz v <= 2 ^ 20) : jc v = some (ZN v) := by
 unfold jc qM wx ZN
 rw [if_pos ⟨h, by decide, by decide⟩, Option.bind_some]
 rw [show (5 : Int).toNat = 5 from rfl]
 cases hs : shV 5 v
 ·simp
 ·dsimp only
  rw [if_pos h, Option.bind_some]
  simp
theorem zc7 {s : List UInt8} (h : s.length <= 2 ^ 39) : zV s s = some true := if_pos ⟨rfl, by omega⟩
def jv (v : GValue) : Bool := decide (v.Kind = 0 ∧ v.N = 0 ∧ v.S.length = 0 ∧ v.K.length = 0 ∧ v.L.length = 0)
def evB (e : GEvent) : Bool :=
  if e.Kind = 2 then yd e.Addr && decide (e.Act = 0) && jL e.Val && js e.Deps
  else jv e.Val && decide (e.Deps.length = 0) &&
    (if e.Kind = 0 ∨ e.Kind = 5 ∨ e.Kind = 6 then decide (e.Addr.length = 0) && decide (e.Act = 0)
     else if e.Kind = 1 then yd e.Addr && decide (1 <= e.Act ∧ e.Act <= 4)
     else if e.Kind = 3 ∨ e.Kind = 4 then yd e.Addr && decide (e.Act = 0) else false)
theorem zaf {v : GValue} (h : vsz v <= 2 ^ 20) : yX v = some (jL v) := by
 unfold yX YO jL
 by_cases h5 : v.Kind = 5
 ·rw [if_pos h5, DJ h, Option.bind_some, decide_eq_true h5, Bool.true_and]
  cases hv : ZN v with
  | false => rfl
  | true =>
   simp only [Bool.true_and]
   unfold wy
   rw [if_pos (by omega)]; rfl
 ·rw [if_neg h5, decide_eq_false h5]; rfl
theorem zag {v : GValue} (h : vsz v <= 2 ^ 20) : jj v = some (jL v) := by
 unfold jj jL
 by_cases h5 : v.Kind = 5
 ·rw [if_pos h5, MI h, Option.bind_some, decide_eq_true h5, Bool.true_and]
  cases hv : ZN v with
  | false => rfl
  | true =>
   simp only [Bool.true_and]
   unfold ja
   rw [if_pos (by omega)]; rfl
 ·rw [if_neg h5, decide_eq_false h5]; rfl
theorem Es (v : GValue) : Yb v = some (jv v) := by
 unfold Yb jv
 by_cases h1 : v.Kind = 0 <;> by_cases h2 : v.N = 0 <;> by_cases h3 : v.S.length = 0 <;> by_cases h4 : v.K.length = 0 <;> by_cases h5 : v.L.length = 0 <;> simp [h1, h2, h3, h4, h5, List.length_eq_zero_iff.1] <;> simp_all
theorem JM (a : Int) : ∃ r, kr a 0 = some r ∧ (r = 0 ↔ a = 0) := by
 unfold kr
 by_cases h : a < 0
 ·exact ⟨_, if_pos h, by omega⟩
 ·rw [if_neg h]
  by_cases h' : 0 < a
  ·exact ⟨_, if_pos h', by omega⟩
  ·exact ⟨_, if_neg h', by omega⟩
theorem GW (G : GValue → GValue → Option Int) (n : Nat) (v z : GValue) (hk : z.Kind = 0) (hn : z.N = 0) (hl : z.L.length = 0) : ∃ r, YJ G (n + 1) v z = some r ∧ ((r = 0 ∧ v.N = 0) ↔ (v.Kind = 0 ∧ v.N = 0 ∧ v.L.length = 0)) := by
 unfold YJ
 rw [hk]
 by_cases h1 : v.Kind = 0
 ·rw [if_pos h1, if_neg (by omega), hn]
  by_cases h2 : v.N = 0
  ·rw [if_pos h2, jF, hl]
   obtain ⟨r, hr, hr2⟩ := JM (v.L.length : Int)
   refine ⟨r, ?_, by simp only [h1, h2, true_and, and_true]; omega⟩
   by_cases h3 : (0 : Int) < (v.L.length : Int)
   ·rw [if_pos h3, if_neg (by omega), Option.bind_some]
    dsimp only
    rw [show ((0 : Nat) : Int) = 0 from rfl, hr, Option.bind_some]
   ·rw [if_neg h3, Option.bind_some]
    dsimp only
    rw [show ((0 : Nat) : Int) = 0 from rfl, hr, Option.bind_some]
  ·rw [if_neg h2]
   obtain ⟨r, hr, hr2⟩ := JM v.N
   exact ⟨r, by rw [hr, Option.bind_some], ⟨fun h => absurd h.2 h2, fun h => absurd h.2.1 h2⟩⟩
 ·rw [if_neg h1]
  obtain ⟨r, hr, hr2⟩ := JM v.Kind
  exact ⟨r, by rw [hr, Option.bind_some], ⟨fun h => absurd (hr2.1 h.1) h1, fun h => absurd h.1 h1⟩⟩
theorem Et (v : GValue) : wS v = some (decide (v.Kind = 0 ∧ v.N = 0 ∧ v.L.length = 0)) := by
 unfold wS YK
 rw [show vsz v + 3 = (vsz v + 1 + 1) + 1 from rfl, wF]
 obtain ⟨r, hr, hr2⟩ := GW (wF (vsz v + 1 + 1)) (vsz v + 1) v (GValue.mk 0 0 [] [] []) rfl rfl rfl
 rw [hr, Option.bind_some]
 by_cases h : r = 0
 ·rw [if_pos h]; exact congrArg some (decide_eq_decide.2 (by rw [<- hr2]; simp [h]))
 ·rw [if_neg h]; exact congrArg some (decide_eq_false (fun h' => h (hr2.2 h').1)).symm
theorem DK {v : GValue} (h : jv v = true) : ZN v = true := by
 unfold jv at h
 cases v
 simp only [GValue.Kind, GValue.N, GValue.S, GValue.K, GValue.L, decide_eq_true_eq, List.length_eq_zero_iff] at h
 obtain ⟨rfl, rfl, rfl, rfl, rfl⟩ := h
 exact decide_eq_true ⟨by simp [shV, y7, GValue.Kind, GValue.N, GValue.S, GValue.K, GValue.L], by simp [ptV, xx]⟩
theorem zah {v : GValue} (h : ZN v = true) : jv v = decide (v.Kind = 0 ∧ v.N = 0 ∧ v.L.length = 0) := by
 unfold jv
 refine decide_eq_decide.2 ⟨fun ⟨a, b, _, _, c⟩ => ⟨a, b, c⟩, fun ⟨a, b, c⟩ => ?_⟩
 have := (of_decide_eq_true h).1
 rw [shV] at this
 have hl := (Bool.and_eq_true _ _ ▸ this).1
 unfold y7 at hl
 rw [if_pos (Or.inl a)] at hl
 have := of_decide_eq_true hl
 exact ⟨a, this⟩
theorem JN {a : List UInt8} (h : yd a = true) : 0 < a.length := by
 rcases a with _ | ⟨x, l⟩
 ·revert h; decide
 ·simp
theorem Eu {e : GEvent} (h : qx e <= 2 ^ 20) : Z9 e = some (evB e) := by
 unfold qx at h
 unfold Z9 evB
 by_cases k2 : e.Kind = 2
 ·rw [if_pos k2, if_pos k2, Zk (by omega), Option.bind_some]
  cases yd e.Addr with
  | false => rfl
  | true =>
   dsimp only
   by_cases ha : e.Act = 0
   ·rw [if_pos ha, zaf (by omega), Option.bind_some, decide_eq_true ha]
    cases jL e.Val with
    | false => rfl
    | true =>
     dsimp only
     rw [show xO e.Deps = some (js e.Deps) from if_pos (by omega)]
     simp
   ·rw [if_neg ha, decide_eq_false ha]; rfl
 ·rw [if_neg k2, if_neg k2, Es, Option.bind_some]
  cases jv e.Val with
  | false => rfl
  | true =>
   dsimp only
   by_cases d : e.Deps.length = 0
   ·rw [if_neg (by omega), decide_eq_true d, Bool.true_and, Bool.true_and]
    by_cases k0 : e.Kind = 0 ∨ e.Kind = 5 ∨ e.Kind = 6
    ·rw [if_pos k0]
     have hh : (if (e.Addr.length : Int) = 0 then some (decide (e.Act = 0)) else some false) = some (decide (e.Addr.length = 0) && decide (e.Act = 0)) := by
      by_cases hl : e.Addr.length = 0
      ·rw [if_pos (by omega), decide_eq_true hl, Bool.true_and]
      ·rw [if_neg (by omega), decide_eq_false hl, Bool.false_and]
     rw [hh]
     by_cases k00 : e.Kind = 0
     ·rw [if_pos k00]
     ·rw [if_neg k00]
      by_cases k05 : e.Kind = 5
      ·rw [if_pos k05]
      ·rw [if_neg k05, if_pos (by omega)]
    ·rw [if_neg k0, if_neg (by omega), if_neg (by omega), if_neg (by omega)]
     by_cases k1 : e.Kind = 1
     ·rw [if_pos k1, if_pos k1, Zk (by omega), Option.bind_some]
      cases yd e.Addr with
      | false => rfl
      | true => dsimp only; rw [X7, Option.bind_some]; rfl
     ·rw [if_neg k1, if_neg k1]
      by_cases k3 : e.Kind = 3
      ·rw [if_pos k3, if_pos (Or.inl k3), Zk (by omega), Option.bind_some]
       cases yd e.Addr <;> rfl
      ·rw [if_neg k3]
       by_cases k4 : e.Kind = 4
       ·rw [if_pos k4, if_pos (Or.inr k4), Zk (by omega), Option.bind_some]
        cases yd e.Addr <;> rfl
       ·rw [if_neg k4, if_neg (by omega)]
   ·rw [if_pos (by omega), decide_eq_false d]; rfl
theorem zvd {v : GValue} (h : vsz v <= 2 ^ 20) (d : Nat) : ((xg v).bind fun r => match r with | true => (wS v).bind fun r => (match r with | true => some (decide (((d : Nat) : Int) = 0)) | false => some false) | false => some false) = some (jv v && decide (d = 0)) := by
 rw [MI h, Option.bind_some]
 cases hv : ZN v with
 | true =>
  dsimp only
  rw [Et, Option.bind_some, zah hv]
  cases decide (v.Kind = 0 ∧ v.N = 0 ∧ v.L.length = 0) with
  | true => exact congrArg some (by rw [Bool.true_and]; exact decide_eq_decide.2 (by omega))
  | false => rfl
 | false =>
  dsimp only
  cases hz : jv v with
  | true => rw [DK hz] at hv; cases hv
  | false => rfl
theorem Ev {e : GEvent} (h : qx e <= 2 ^ 20) : Z4 e = some (evB e) := by
 unfold qx at h
 unfold Z4 evB
 rw [Q1 (by omega)]
 simp only [Option.bind_some]
 have Z := zvd (v := e.Val) (by omega) e.Deps.length
 have hb := @JN e.Addr
 by_cases r0 : e.Kind < 0
 ·rw [if_pos r0, if_neg (show ¬ e.Kind = 2 by omega), if_neg (show ¬ (e.Kind = 0 ∨ e.Kind = 5 ∨ e.Kind = 6) by omega), if_neg (show ¬ e.Kind = 1 by omega), if_neg (show ¬ (e.Kind = 3 ∨ e.Kind = 4) by omega), Bool.and_false]
 rw [if_neg r0]
 by_cases r6 : 6 < e.Kind
 ·rw [if_pos r6, if_neg (show ¬ e.Kind = 2 by omega), if_neg (show ¬ (e.Kind = 0 ∨ e.Kind = 5 ∨ e.Kind = 6) by omega), if_neg (show ¬ e.Kind = 1 by omega), if_neg (show ¬ (e.Kind = 3 ∨ e.Kind = 4) by omega), Bool.and_false]
 rw [if_neg r6]
 generalize (jv e.Val && decide (e.Deps.length = 0)) = z at Z ⊢
 by_cases k1 : e.Kind = 1
 ·rw [if_pos k1, if_neg (show ¬ e.Kind = 2 by omega), if_neg (show ¬ (e.Kind = 0 ∨ e.Kind = 5 ∨ e.Kind = 6) by omega), if_pos k1]
  cases hA : yd e.Addr with
  | false =>
   dsimp only
   rw [Bool.false_and, Bool.and_false]
   split <;> rfl
  | true =>
   have := hb hA
   rw [if_pos (show (0 : Int) < (e.Addr.length : Int) by omega)]
   dsimp only
   by_cases a1 : e.Act < 1
   ·rw [if_pos a1, decide_eq_false (by omega)]; simp
   ·rw [if_neg a1]
    by_cases a2 : 4 < e.Act
    ·rw [if_pos a2, decide_eq_false (by omega)]; simp
    ·rw [if_neg a2, decide_eq_true (show 1 <= e.Act ∧ e.Act <= 4 by omega)]; exact Z.trans (by simp)
 rw [if_neg k1]
 by_cases k2 : e.Kind = 2
 ·rw [if_pos k2, if_pos k2]
  cases hA : yd e.Addr with
  | false =>
   dsimp only
   split <;> rfl
  | true =>
   have := hb hA
   rw [if_pos (show (0 : Int) < (e.Addr.length : Int) by omega)]
   dsimp only
   by_cases ha : e.Act = 0
   ·rw [if_pos ha, zag (by omega), Option.bind_some, decide_eq_true ha]
    cases jL e.Val with
    | false => rfl
    | true =>
     dsimp only
     rw [show qh e.Deps = some (js e.Deps) from if_pos (by omega)]
     simp
   ·rw [if_neg ha, decide_eq_false ha]; rfl
 rw [if_neg k2, if_neg k2]
 by_cases k3 : e.Kind = 3
 ·rw [if_pos k3, if_neg (show ¬ (e.Kind = 0 ∨ e.Kind = 5 ∨ e.Kind = 6) by omega), if_neg k1, if_pos (Or.inl k3)]
  cases hA : yd e.Addr with
  | false => dsimp only; rw [Bool.false_and, Bool.and_false]; split <;> rfl
  | true =>
   have := hb hA
   rw [if_pos (show (0 : Int) < (e.Addr.length : Int) by omega)]
   dsimp only
   by_cases ha : e.Act = 0
   ·rw [if_pos ha, decide_eq_true ha]; exact Z.trans (by simp)
   ·rw [if_neg ha, decide_eq_false ha]; simp
 rw [if_neg k3]
 by_cases k4 : e.Kind = 4
 ·rw [if_pos k4, if_neg (show ¬ (e.Kind = 0 ∨ e.Kind = 5 ∨ e.Kind = 6) by omega), if_neg k1, if_pos (Or.inr k4)]
  cases hA : yd e.Addr with
  | false => dsimp only; rw [Bool.false_and, Bool.and_false]; split <;> rfl
  | true =>
   have := hb hA
   rw [if_pos (show (0 : Int) < (e.Addr.length : Int) by omega)]
   dsimp only
   by_cases ha : e.Act = 0
   ·rw [if_pos ha, decide_eq_true ha]; exact Z.trans (by simp)
   ·rw [if_neg ha, decide_eq_false ha]; simp
 rw [if_neg k4, if_pos (show e.Kind = 0 ∨ e.Kind = 5 ∨ e.Kind = 6 by omega)]
 by_cases hl : e.Addr.length = 0
 ·rw [if_neg (by omega), decide_eq_true hl, Bool.true_and]
  by_cases ha : e.Act = 0
  ·rw [if_pos ha, decide_eq_true ha]; exact Z.trans (by simp)
  ·rw [if_neg ha, decide_eq_false ha]; simp
 ·rw [if_pos (by omega), decide_eq_false hl, Bool.false_and, Bool.and_false]
def MdS (s : GState) : Prop := s.Pending.length <= 2 ^ 63 - 1 ∧ s.Entries.length <= 2 ^ 63 - 1 ∧ Wr s.Entries
theorem zc8 {s : GState} {n : Int} (h : MdS s) (h0 : 0 <= n) (h1 : n <= 2 ^ 20) : Zz s n = some (yS (ssz s) n) := by
 unfold Zz
 rw [Y9 h.1 h0 h1, Option.bind_some]
 unfold yS ssz
 by_cases c1 : (s.Pending.length : Int) <= n
 ·rw [if_pos c1, if_neg (by omega)]
  unfold jA
  rw [if_pos ⟨h.2.1, h.2.2, by omega, by omega⟩, Option.bind_some]
  unfold yS
  by_cases c2 : (yu s.Entries : Int) <= n - s.Pending.length
  ·rw [if_pos c2, if_neg (by omega), if_pos (by omega)]; congr 1; omega
  ·rw [if_neg c2, if_pos (by omega), if_neg (by omega)]
 ·rw [if_neg c1, if_pos (by omega), if_neg (by omega)]
theorem zc9 {s : GState} (h : ssz s <= 2 ^ 20) : Z0 s = some s := by
 unfold ssz at h
 unfold Z0 yt jD
 rw [if_pos (by omega), Option.bind_some, if_pos (by omega), Option.bind_some]
 cases s; rfl
theorem zda {s : GState} (h : ssz s <= 2 ^ 39) : ZA s s = some true := by
 unfold ssz at h
 unfold ZA zV
 rw [if_pos rfl]
 by_cases ho : s.Open = true
 ·rw [if_pos ho, if_pos ho, if_pos ⟨rfl, by omega⟩, Option.bind_some]; dsimp only; rw [if_pos rfl, RE (by omega), Option.bind_some]
 ·rw [if_neg ho, if_neg ho, if_pos ⟨rfl, by omega⟩, Option.bind_some]; dsimp only; rw [if_pos rfl, RE (by omega), Option.bind_some]
theorem j3 (a : Int) (b : Bool) (c : List UInt8) (d : Int) (e : List GEntry) : (GState.mk a b c d e).Pending = c := rfl
theorem j4 (a : Int) (b : Bool) (c : List UInt8) (d : Int) (e : List GEntry) : (GState.mk a b c d e).Entries = e := rfl
theorem MJ {a : List UInt8} : ∀ (l : List GEntry) (i : Nat), yK l a = true → ∃ k, ZW l a i = ((i + k : Nat) : Int) ∧ ∃ e, l[k]? = some e ∧ e.Addr = a
 | [], i, h => by simp [yK] at h
 | e :: l, i, h => by
  rw [ZW]
  by_cases he : e.Addr = a
  ·exact ⟨0, by rw [if_pos he]; rfl, e, rfl, he⟩
  ·have h' : yK l a = true := by
    unfold yK at h ⊢
    rw [List.any_cons, decide_eq_false he, Bool.false_or] at h
    exact h
   obtain ⟨k, h1, e', h2, h3⟩ := MJ l (i + 1) h'
   exact ⟨k + 1, by rw [if_neg he, h1]; congr 1; omega, e', by simpa using h2, h3⟩
theorem ZC {a : List (List UInt8)} : Asc a ↔ ∀ (i j : Nat) x y, i < j → a[i]? = some x → a[j]? = some y → Op.bytesLess x y = true := by
 constructor
 ·intro h i j x y hij hi hj
  obtain ⟨hi1, hi2⟩ := List.getElem?_eq_some_iff.1 hi
  obtain ⟨hj1, hj2⟩ := List.getElem?_eq_some_iff.1 hj
  have := h i j hj1 hij
  rw [hi2, hj2] at this
  exact this
 ·intro h i j hj hij
  exact h i j _ _ hij (List.getElem?_eq_getElem _) (List.getElem?_eq_getElem _)
theorem ZD {a : List (List UInt8)} {x : List UInt8} {c : Nat} (h : kE a x c) {i : Nat} {y : List UInt8} (hi : a[i]? = some y) : i < c ↔ Op.bytesLess y x = true := by
 obtain ⟨hi1, hi2⟩ := List.getElem?_eq_some_iff.1 hi
 rw [<- hi2]
 exact h.2 i hi1
theorem zai {a : List (List UInt8)} (ha : Asc a) {x : List UInt8} {c : Nat} (h : kE a x c) {j : Nat} {y : List UInt8} (hj : a[j]? = some y) (hc : c <= j) (hne : c = j → y ≠ x) : Op.bytesLess x y = true := by
 rcases Wv x y with h1 | h1 | h1
 ·exact h1
 ·exfalso
  have hcj : c ≠ j := fun e => hne e h1.symm
  have hjl := (List.getElem?_eq_some_iff.1 hj).1
  have hcl : c < a.length := by omega
  have h2 := ZC.1 ha c j _ _ (by omega) (List.getElem?_eq_getElem hcl) hj
  rw [<- h1] at h2
  have := (ZD h (List.getElem?_eq_getElem hcl)).2 h2
  omega
 ·have := (ZD h hj).2 h1
  omega
theorem NP {a : List (List UInt8)} (ha : Asc a) {x : List UInt8} {c : Nat} (h : kE a x c) (hne : a[c]? ≠ some x) : Asc (yH a c x) := by
 refine ZC.2 fun i j u v hij hi hj => ?_
 rw [WG a c x h.1] at hi hj
 have A := ZC.1 ha
 by_cases h1 : j < c
 ·rw [if_pos h1] at hj; rw [if_pos (by omega)] at hi
  exact A i j u v hij hi hj
 rw [if_neg h1] at hj
 by_cases h2 : j = c
 ·rw [if_pos h2] at hj; rw [if_pos (by omega)] at hi
  injection hj with hj
  subst hj
  exact (ZD h hi).1 (by omega)
 rw [if_neg h2] at hj
 by_cases h3 : i < c
 ·rw [if_pos h3] at hi
  exact A i (j - 1) u v (by omega) hi hj
 rw [if_neg h3] at hi
 by_cases h4 : i = c
 ·rw [if_pos h4] at hi
  injection hi with hi
  subst hi
  exact zai ha h hj (by omega) fun e he => hne (by rw [e, hj, he])
 ·rw [if_neg h4] at hi
  exact A (i - 1) (j - 1) u v (by omega) hi hj
theorem zaj {a : List (List UInt8)} (ha : Asc a) {c : Nat} (hc : c < a.length) : Asc (wZ a c) := by
 refine ZC.2 fun i j u v hij hi hj => ?_
 rw [Mw a c hc] at hi hj
 have A := ZC.1 ha
 by_cases h1 : j < c
 ·rw [if_pos h1] at hj; rw [if_pos (by omega)] at hi
  exact A i j u v hij hi hj
 rw [if_neg h1] at hj
 by_cases h3 : i < c
 ·rw [if_pos h3] at hi
  exact A i (j + 1) u v (by omega) hi hj
 ·rw [if_neg h3] at hi
  exact A (i + 1) (j + 1) u v (by omega) hi hj
theorem VC {e : GEntry} : ∀ {l : List GEntry}, (∀ x ∈ l, Op.bytesLess e.Addr x.Addr = true) → vy e true l = l
 | [], _ => rfl
 | x :: l, h => by
  rw [vy, h x List.mem_cons_self, cond_true, cond_true, VC fun y hy => h y (List.mem_cons_of_mem _ hy)]
theorem Ew {a b : List UInt8} (h : Op.bytesLess a b = true) : Op.bytesLess b a = false := by
 cases hb : Op.bytesLess b a with
 | false => rfl
 | true => have := vd h hb; rw [Zn] at this; cases this
theorem Ob {e : GEntry} : ∀ {l : List GEntry} {c : Nat}, Asc (l.map GEntry.Addr) → kE (l.map GEntry.Addr) e.Addr c → vy e false l = if (l.map GEntry.Addr)[c]? = some e.Addr then l.set c e else yH l c e
 | [], c, _, hp => by
  have := hp.1
  simp only [List.map_nil, List.length_nil] at this
  obtain rfl : c = 0 := by omega
  rfl
 | x :: l, c, ha, hp => by
  have hal : Asc (l.map GEntry.Addr) := ZC.2 fun i j u v hij hi hj => ZC.1 ha (i + 1) (j + 1) u v (by omega) (by simpa using hi) (by simpa using hj)
  have hx : ∀ y ∈ l, Op.bytesLess x.Addr y.Addr = true := fun y hy => by
   obtain ⟨j, hj⟩ := List.mem_iff_getElem?.1 hy
   exact ZC.1 ha 0 (j + 1) _ _ (by omega) rfl (by simp [hj])
  have h0 : 0 < c ↔ Op.bytesLess x.Addr e.Addr = true := ZD hp (by rfl)
  cases c with
  | zero =>
   have hn : Op.bytesLess x.Addr e.Addr = false := by
    cases hq : Op.bytesLess x.Addr e.Addr with
    | false => rfl
    | true => have := h0.2 hq; omega
   rw [vy, hn]
   rcases Wv e.Addr x.Addr with h1 | h1 | h1
   ·rw [h1]
    simp only [cond_true, cond_false]
    rw [VC fun y hy => vd h1 (hx y hy), if_neg]
    ·rfl
    ·simp only [List.map_cons, List.getElem?_cons_zero, Option.some.injEq]
     intro he
     rw [he, Zn] at h1; cases h1
   ·rw [h1, Zn]
    simp only [cond_false]
    rw [VC fun y hy => by rw [h1]; exact hx y hy, if_pos (by simp)]
    rfl
   ·rw [hn] at h1; cases h1
  | succ c =>
   have hl : Op.bytesLess x.Addr e.Addr = true := h0.1 (by omega)
   have hpl : kE (l.map GEntry.Addr) e.Addr c := by
    refine ⟨by have := hp.1; simp only [List.map_cons, List.length_cons] at this; omega, fun k hk => ?_⟩
    have h1 := ZD hp (i := k + 1) (y := (l.map GEntry.Addr)[k]) (by rw [List.map_cons, List.getElem?_cons_succ]; exact List.getElem?_eq_getElem hk)
    rw [<- h1]
    omega
   rw [vy, Ew hl, hl]
   simp only [cond_true, cond_false]
   rw [Ob hal hpl]
   simp only [List.map_cons, List.getElem?_cons_succ]
   split
   ·rfl
   ·rfl
theorem DL {α : Type} {l : List α} {c : Nat} {x : α} (h : l[c]? = some x) : l.set c x = l := by
 apply List.ext_getElem?
 intro i
 rw [List.getElem?_set]
 split
 ·rename_i hi
  subst hi
  have := (List.getElem?_eq_some_iff.1 h).1
  rw [if_pos this, h]
 ·rfl
theorem MK {l : List GEntry} {c : Nat} {e : GEntry} (h : (l.map GEntry.Addr)[c]? = some e.Addr) : (l.set c e).map GEntry.Addr = l.map GEntry.Addr := by
 rw [List.map_set]
 exact DL h
theorem VD {l : List GEntry} {c : Nat} {e : GEntry} : (yH l c e).map GEntry.Addr = yH (l.map GEntry.Addr) c e.Addr := by simp [yH, List.map_take, List.map_drop]
theorem ML {l : List GEntry} {c : Nat} : (wZ l c).map GEntry.Addr = wZ (l.map GEntry.Addr) c := by simp [wZ, List.map_take, List.map_drop]
theorem WV : ∀ (a b : List GEntry), yu (a ++ b) = yu a + yu b
 | [], b => by simp [yu]
 | x :: a, b => by simp only [List.cons_append, yu, WV a b]; omega
theorem T4 (l : List GEntry) (c : Nat) : yu l = yu (l.take c) + yu (l.drop c) := by
 rw [<- WV, List.take_append_drop]
theorem MM (l : List GEntry) (c : Nat) (e : GEntry) : yu (yH l c e) = yu l + 1 + esz e := by
 unfold yH
 rw [WV, WV, T4 l c]
 simp only [yu]; omega
theorem DM (l : List GEntry) (c : Nat) : yu (wZ l c) <= yu l := by
 unfold wZ
 have h1 := T4 l c
 have h2 := T4 (l.drop c) 1
 rw [List.drop_drop] at h2
 rw [WV]
 omega
theorem MN : ∀ (l : List GEntry) (c : Nat) (e : GEntry), yu (l.set c e) <= yu l + esz e
 | [], c, e => by simp [yu]
 | x :: l, 0, e => by simp only [List.set_cons_zero, yu]; omega
 | x :: l, c + 1, e => by have := MN l c e; simp only [List.set_cons_succ, yu]; omega
def stI (s : GState) : Prop := 0 <= s.Serial ∧ s.Serial <= 1000000 ∧ Asc (s.Entries.map GEntry.Addr) ∧ (s.Pending ≠ [] → s.Open = true ∧ yK s.Entries s.Pending = decide (s.Act ≠ 1))
theorem Aj {s : GState} (h : stB s = true) : stI s := by
 unfold stB at h
 simp only [Bool.and_eq_true, decide_eq_true_eq] at h
 obtain ⟨⟨⟨h1, h2, _⟩, h3⟩, h4⟩ := h
 refine ⟨h1, h2, Nb h3, fun hp => ?_⟩
 unfold L5 at h4
 rw [if_neg hp] at h4
 simp only [Bool.and_eq_true, beq_iff_eq] at h4
 exact ⟨h4.1.1.1, h4.2⟩
def YW (s : GState) (e : GEvent) : Bool :=
 if s.Serial = 1000000 then false
 else if e.Kind = 0 then !s.Open
 else if e.Kind = 1 then s.Open && decide (s.Pending = []) && (yK s.Entries e.Addr == decide (e.Act ≠ 1)) && (yK s.Entries e.Addr || decide (s.Entries.length < 16))
 else if e.Kind = 2 then decide (s.Pending = e.Addr) && decide (s.Act ≠ 4)
 else if e.Kind = 3 then decide (s.Pending = e.Addr) && decide (s.Act = 4)
 else if e.Kind = 4 then decide (s.Pending = e.Addr)
 else if e.Kind = 5 then s.Open && decide (s.Pending = [])
 else s.Open
theorem US {e : GEvent} (h : evB e = true) (hk : e.Kind = 1 ∨ e.Kind = 2 ∨ e.Kind = 3 ∨ e.Kind = 4) : e.Addr ≠ [] := by
 intro he
 have ha : yd e.Addr = false := by rw [he]; decide
 unfold evB at h
 rw [ha] at h
 rcases hk with hk | hk | hk | hk <;> simp [hk] at h
theorem Xv {a : List UInt8} : ((a.length : Int) = 0) ↔ a = [] := by
 constructor
 ·intro h; exact List.eq_nil_of_length_eq_zero (by omega)
 ·rintro rfl; rfl
theorem NQ {a : List UInt8} : (0 < (a.length : Int)) ↔ a ≠ [] := by
 constructor
 ·rintro h rfl; simp at h
 ·intro h
  have : a.length ≠ 0 := fun e => h (List.eq_nil_of_length_eq_zero e)
  omega
theorem DN {s : GState} {e : GEvent} (hI : stI s) (he : evB e = true) (hl : s.Entries.length <= 2 ^ 40) : YL s e = some (YW s e) := by
 unfold YL YW wc
 have hs := hI.2.1
 by_cases h0 : s.Serial = 1000000
 ·rw [if_pos (by omega), if_pos h0]
 rw [if_neg (by omega), if_neg h0]
 by_cases k0 : e.Kind = 0
 ·rw [if_pos k0, if_pos k0]
 rw [if_neg k0, if_neg k0]
 by_cases k1 : e.Kind = 1
 ·rw [if_pos k1, if_pos k1, if_pos hl, Option.bind_some]
  have hh := Vf s.Entries e.Addr 0
  have hp := @NQ s.Pending
  cases s.Open with
  | false => rfl
  | true =>
   dsimp only
   by_cases q : s.Pending = []
   ·rw [if_neg (fun h => hp.1 h q), decide_eq_true q]
    by_cases a1 : e.Act = 1
    ·rw [if_pos a1, decide_eq_false (p := e.Act ≠ 1) (by omega)]
     cases hb : yK s.Entries e.Addr with
     | true => rw [if_pos (hh.2 hb)]; rfl
     | false => rw [if_neg (fun h => by rw [hh.1 h] at hb; cases hb)]; simp; omega
    ·rw [if_neg a1, decide_eq_true (p := e.Act ≠ 1) a1]
     cases hb : yK s.Entries e.Addr with
     | true => rw [if_pos (hh.2 hb)]; rfl
     | false => rw [if_neg (fun h => by rw [hh.1 h] at hb; cases hb)]; simp
   ·rw [if_pos (hp.2 q), decide_eq_false q]; rfl
 rw [if_neg k1, if_neg k1]
 have hp := @NQ s.Pending
 by_cases k2 : e.Kind = 2
 ·rw [if_pos k2, if_pos k2]
  have hne := US he (.inr (.inl k2))
  by_cases q : s.Pending = []
  ·rw [if_neg (fun h => hp.1 h q), decide_eq_false (fun h => hne (by rw [<- h, q]))]; rfl
  ·rw [if_pos (hp.2 q)]
   by_cases q2 : s.Pending = e.Addr
   ·rw [if_pos q2, decide_eq_true q2]; by_cases a4 : s.Act = 4 <;> simp [a4]
   ·rw [if_neg q2, decide_eq_false q2]; rfl
 rw [if_neg k2, if_neg k2]
 by_cases k3 : e.Kind = 3
 ·rw [if_pos k3, if_pos k3]
  have hne := US he (.inr (.inr (.inl k3)))
  by_cases q : s.Pending = []
  ·rw [if_neg (fun h => hp.1 h q), decide_eq_false (fun h => hne (by rw [<- h, q]))]; rfl
  ·rw [if_pos (hp.2 q)]
   by_cases q2 : s.Pending = e.Addr
   ·rw [if_pos q2, decide_eq_true q2]; rfl
   ·rw [if_neg q2, decide_eq_false q2]; rfl
 rw [if_neg k3, if_neg k3]
 by_cases k4 : e.Kind = 4
 ·rw [if_pos k4, if_pos k4]
  have hne := US he (.inr (.inr (.inr k4)))
  by_cases q : s.Pending = []
  ·rw [if_neg (fun h => hp.1 h q), decide_eq_false (fun h => hne (by rw [<- h, q]))]
  ·rw [if_pos (hp.2 q)]
 rw [if_neg k4, if_neg k4]
 by_cases k5 : e.Kind = 5
 ·rw [if_pos k5, if_pos k5]
  cases s.Open with
  | false => rfl
  | true =>
   dsimp only
   by_cases q : s.Pending = []
   ·rw [decide_eq_false (fun h => hp.1 h q), decide_eq_true q]; rfl
   ·rw [decide_eq_true (hp.2 q), decide_eq_false q]; rfl
 ·rw [if_neg k5, if_neg k5]
theorem MO {s : GState} {a : List UInt8} (hl : s.Entries.length <= 2 ^ 40) (hA : Asc (s.Entries.map GEntry.Addr)) : ∃ c : Nat, kE (s.Entries.map GEntry.Addr) a c ∧ yi s a = some ((c : Int), yK s.Entries a) ∧ (yK s.Entries a = true ↔ (s.Entries.map GEntry.Addr)[c]? = some a) := by
 unfold yi
 obtain ⟨c, hp, hc⟩ := Em (a := s.Entries) (x := a) hl hA
 rw [hc]
 exact ⟨c, hp, rfl, Yi.trans (kE.mem hA hp).symm⟩
theorem OB {s : GState} {e : GEvent} (hI : stI s) (hl : s.Entries.length <= 2 ^ 40) : kb s e = some (YW s e) := by
 unfold kb YW xo
 obtain ⟨c, hp, hc, _⟩ := MO (a := e.Addr) hl hI.2.2.1
 rw [hc, Option.bind_some]
 dsimp only
 by_cases h0 : s.Serial = 1000000
 ·rw [if_pos h0, if_pos h0]
 rw [if_neg h0, if_neg h0]
 by_cases k0 : e.Kind = 0
 ·rw [if_pos k0, if_pos k0]
 rw [if_neg k0, if_neg k0]
 have hz := @Xv s.Pending
 by_cases k1 : e.Kind = 1
 ·rw [if_pos k1, if_pos k1]
  cases s.Open with
  | false => rfl
  | true =>
   dsimp only
   by_cases q : s.Pending = []
   ·rw [if_pos (hz.2 q), decide_eq_true q]
    by_cases a1 : e.Act = 1
    ·rw [decide_eq_false (p := e.Act ≠ 1) (by omega)]
     cases hb : yK s.Entries e.Addr with
     | true => rw [if_pos rfl, if_pos a1]; rfl
     | false => rw [if_neg (by decide), if_pos a1]; simp; omega
    ·rw [decide_eq_true (p := e.Act ≠ 1) a1]
     cases hb : yK s.Entries e.Addr with
     | true => rw [if_pos rfl, if_neg a1]; rfl
     | false => rw [if_neg (by decide), if_neg a1]; simp
   ·rw [if_neg (fun h => q (hz.1 h)), decide_eq_false q]; rfl
 rw [if_neg k1, if_neg k1]
 by_cases k2 : e.Kind = 2
 ·rw [if_pos k2, if_pos k2, Option.bind_some]
  by_cases q : s.Pending = e.Addr
  ·rw [decide_eq_true q]; by_cases a4 : s.Act = 4 <;> simp [a4]
  ·rw [decide_eq_false q]; rfl
 rw [if_neg k2, if_neg k2]
 by_cases k3 : e.Kind = 3
 ·rw [if_pos k3, if_pos k3, Option.bind_some]
  by_cases q : s.Pending = e.Addr
  ·rw [decide_eq_true q]; rfl
  ·rw [decide_eq_false q]; rfl
 rw [if_neg k3, if_neg k3]
 by_cases k4 : e.Kind = 4
 ·rw [if_pos k4, if_pos k4]; rfl
 rw [if_neg k4, if_neg k4]
 by_cases k5 : e.Kind = 5
 ·rw [if_pos k5, if_pos k5]
  cases s.Open with
  | false => rfl
  | true =>
   dsimp only
   by_cases q : s.Pending = []
   ·rw [decide_eq_true (hz.2 q), decide_eq_true q]; rfl
   ·rw [decide_eq_false (fun h => q (hz.1 h)), decide_eq_false q]; rfl
 ·rw [if_neg k5, if_neg k5]
theorem Ey {l : List GEntry} {c : Nat} {x : GEntry} (h : l[c]? = some x) (A : GEntry) (f : GEntry → GEntry) : (((l.set c A)[c]?).bind fun y => some ((l.set c A).set c (f y))) = some (l.set c (f A)) := by
 have hl := (List.getElem?_eq_some_iff.1 h).1
 rw [List.getElem?_set_self (by simpa using hl), Option.bind_some, List.set_set]
theorem VX {l : List GEntry} {c : Nat} {a : List UInt8} (h : (l.map GEntry.Addr)[c]? = some a) : ∃ x, l[c]? = some x ∧ x.Addr = a := by
 rw [List.getElem?_map] at h
 obtain ⟨x, h1, h2⟩ := Option.map_eq_some_iff.1 h
 exact ⟨x, h1, h2⟩
theorem Od {l : List GEntry} {a : List UInt8} {c : Nat} (hA : Asc (l.map GEntry.Addr)) (h : (l.map GEntry.Addr)[c]? = some a) : ZW l a 0 = (c : Int) := by
 have hb : yK l a = true := Yi.2 (List.mem_of_getElem? h)
 obtain ⟨k, h1, e, h2, h3⟩ := MJ l 0 hb
 rw [Nat.zero_add] at h1
 have hk : (l.map GEntry.Addr)[k]? = some a := by rw [List.getElem?_map, h2, Option.map_some, h3]
 have A := ZC.1 hA
 have : k = c := by
  rcases Nat.lt_trichotomy k c with h4 | h4 | h4
  ·have := A k c a a h4 hk h; rw [Zn] at this; cases this
  ·exact h4
  ·have := A c k a a h4 h hk; rw [Zn] at this; cases this
 rw [h1, this]
def tnE (ser : Int) (x : GEntry) : GEntry := .mk x.Addr x.Val x.Deps true ser
def nwE (a : List UInt8) (ser : Int) : GEntry := .mk a (.mk 5 0 [] [] []) [] true ser
theorem zdb (a : List UInt8) (ser : Int) : esz (nwE a ser) = a.length := by
 show a.length + vsz (.mk 5 0 [] [] []) + bsz [] = a.length
 rw [show vsz (.mk 5 0 [] [] []) = 0 from rfl, show bsz [] = 0 from rfl]; rfl
theorem NR {l : List GEntry} {c : Nat} (hc : c <= l.length) (hl : l.length <= 1048576) (x : GEntry) : wB (c : Int) l [x] = some (yH l c x) := by
 show (if 0 <= (c : Int) ∧ (c : Int) <= (l.length : Int) ∧ l.length <= 1048576 then some (yH l (c : Int).toNat x) else none) = _
 rw [if_pos ⟨by omega, by omega, hl⟩, Int.toNat_natCast]
theorem zak {l : List GEntry} {c : Nat} (hc : c < l.length) (hl : l.length <= 1048576) : wC (c : Int) (((c + 1 : Nat) : Int)) l = some (wZ l c) := by
 unfold wC
 rw [if_pos ⟨by omega, by omega, by omega, hl⟩, Int.toNat_natCast]
theorem NS {l : List GEntry} {c : Nat} (hc : c <= l.length) (x y : GEntry) : (yH l c x).set c y = yH l c y := by
 apply List.ext_getElem?
 intro m
 rw [List.getElem?_set, WG l c x hc, WG l c y hc]
 have hlen : (yH l c x).length = l.length + 1 := by simp [yH]; omega
 by_cases h : c = m
 ·subst h
  rw [if_pos rfl, if_pos (by omega), if_neg (by omega), if_pos rfl]
 ·rw [if_neg h]
  by_cases h1 : m < c
  ·rw [if_pos h1, if_pos h1]
  ·rw [if_neg h1, if_neg h1, if_neg (Ne.symm h), if_neg (Ne.symm h)]
theorem NT {l : List GEntry} {c : Nat} {x : GEntry} (h : l[c]? = some x) (f : GEntry → GEntry) : l.modify c f = l.set c (f x) := by
 apply List.ext_getElem?
 intro i
 rw [List.getElem?_modify, List.getElem?_set]
 have hl := (List.getElem?_eq_some_iff.1 h).1
 by_cases hi : c = i
 ·subst hi; rw [if_pos rfl, if_pos hl, h]; simp
 ·rw [if_neg hi]; simp [hi]
theorem MP {b : Bool} {ser : Int} {op : Bool} {act : Int} {a : List UInt8} {l : List GEntry} {c : Nat} (hl : l.length <= 1048576) (hal : a.length <= 2 ^ 38) (hA : Asc (l.map GEntry.Addr)) (hp : kE (l.map GEntry.Addr) a c) :
  qB b ser op act a l = some (.mk ser op a act (if a = [] then l else if yK l a = true then l.modify c (tnE ser) else if b = true then yH l c (nwE a ser) else l)) := by
 unfold qB
 by_cases ha : a = []
 ·rw [if_pos (Xv.2 ha), if_pos ha]
 rw [if_neg (fun h => ha (Xv.1 h)), if_neg ha]
 obtain ⟨c', hp', hc, hb⟩ := MO (s := GState.mk ser op a act l) (a := a) (by show l.length <= _; omega) hA
 change kE (l.map GEntry.Addr) a c' at hp'
 change yK l a = true ↔ (l.map GEntry.Addr)[c']? = some a at hb
 change yi (GState.mk ser op a act l) a = some ((c' : Int), yK l a) at hc
 have hcc : c' = c := by
  have h1 := hp.1; have h2 := hp'.1
  rcases Nat.lt_trichotomy c' c with h | h | h
  ·have := (ZD hp' (i := c') (List.getElem?_eq_getElem (by omega))).2 ((ZD hp (i := c') (List.getElem?_eq_getElem (by omega))).1 h); omega
  ·exact h
  ·have := (ZD hp (i := c) (List.getElem?_eq_getElem (by omega))).2 ((ZD hp' (i := c) (List.getElem?_eq_getElem (by omega))).1 h); omega
 subst hcc
 have hcl : c' <= l.length := by have := hp.1; rwa [List.length_map] at this
 rw [hc, Option.bind_some]
 try dsimp only
 cases hh : yK l a with
 | true =>
  obtain ⟨x, hx, hxa⟩ := VX (hb.1 hh)
  try dsimp only
  rw [zf, Option.bind_some, hx, Option.bind_some, if_pos rfl]
  have := Ey hx (GEntry.mk x.Addr x.Val x.Deps true x.Turned) (fun x5 => GEntry.mk x5.Addr x5.Val x5.Deps x5.Taint ser)
  have hl2 := (List.getElem?_eq_some_iff.1 hx).1
  rw [List.getElem?_set_self (by simpa using hl2), Option.bind_some, List.set_set, NT hx]
  rfl
 | false =>
  rw [if_neg (by decide)]
  try dsimp only
  cases b with
  | false => rfl
  | true =>
   try dsimp only
   unfold zU
   rw [if_pos (wA (by decide) (by omega)), Option.bind_some, NR hcl hl, Option.bind_some, zf, Option.bind_some]
   have hg : ∀ x, (yH l c' x)[c']? = some x := fun x => by rw [WG l c' x hcl, if_neg (by omega), if_pos rfl]
   rw [hg, Option.bind_some, NS hcl, hg, Option.bind_some, NS hcl, if_pos rfl]
   rfl
theorem MQ {l : List GEntry} {c : Nat} {ser : Int} : (l.modify c (tnE ser)).map GEntry.Addr = l.map GEntry.Addr := by
 apply List.ext_getElem?
 intro i
 rw [List.getElem?_map, List.getElem?_map, List.getElem?_modify]
 split <;> cases l[i]? <;> rfl
theorem T5 {ser : Int} : ∀ (l : List GEntry) (c : Nat), yu (l.modify c (tnE ser)) = yu l
 | [], c => by simp [yu]
 | x :: l, 0 => by simp only [List.modify_zero_cons, yu]; rfl
 | x :: l, c + 1 => by simp only [List.modify_succ_cons, yu, T5 l c]
theorem zal {s : GState} {e : GEvent} (hI : stI s) (he : evB e = true) (hm : YW s e = true) (hz : ssz s + qx e <= 2 ^ 36) (hl : s.Entries.length <= 1048576) :
  ∃ s', vv e s = some s' ∧ wH s e = some (s', true) ∧ stI s' ∧ ssz s' <= ssz s + qx e + 1 ∧ s'.Entries.length <= s.Entries.length + 1 := by
 have hI0 := hI
 obtain ⟨i1, i2, i3, i4⟩ := hI
 have hser : s.Serial < 1000000 := by
  rcases Int.lt_or_le s.Serial 1000000 with h | h
  ·exact h
  ·unfold YW at hm; rw [if_pos (by omega)] at hm; cases hm
 have hw : w64 (s.Serial + 1) = s.Serial + 1 := yC (by omega) (by omega)
 have hcp : xj s = some s := if_pos (by omega)
 have hft := OB (e := e) hI0 (by omega)
 rw [hm] at hft
 unfold ssz qx at *
 have hroom : ∀ n, n <= 1048577 → zY 152 n := fun n hn => Z5 (by omega)
 unfold vv wH
 rw [hcp, Option.bind_some, hft, Option.bind_some, hw]
 dsimp only
 obtain ⟨c, hp, hc, hb⟩ := MO (s := GState.mk (s.Serial + 1) s.Open s.Pending s.Act s.Entries) (a := e.Addr) (by show s.Entries.length <= _; omega) i3
 change kE (s.Entries.map GEntry.Addr) e.Addr c at hp
 change yK s.Entries e.Addr = true ↔ (s.Entries.map GEntry.Addr)[c]? = some e.Addr at hb
 change yi (GState.mk (s.Serial + 1) s.Open s.Pending s.Act s.Entries) e.Addr = some ((c : Int), yK s.Entries e.Addr) at hc
 have hcl : c <= s.Entries.length := by have := hp.1; rwa [List.length_map] at this
 rw [hc, Option.bind_some]
 dsimp only
 unfold wc
 rw [if_pos (by show s.Entries.length <= _; omega), Option.bind_some, show (GState.mk (s.Serial + 1) s.Open s.Pending s.Act s.Entries).Entries = s.Entries from rfl]
 unfold YW at hm
 rw [if_neg (by omega)] at hm
 have hdone : ∀ (l : List GEntry) (o : Bool), Asc (l.map GEntry.Addr) → stI (GState.mk (s.Serial + 1) o [] 0 l) := fun l o h => ⟨by show (0 : Int) <= s.Serial + 1; omega, by show s.Serial + 1 <= 1000000; omega, h, fun h => absurd rfl h⟩
 by_cases k0 : e.Kind = 0
 ·rw [if_pos k0, if_pos k0]
  refine ⟨_, rfl, rfl, ⟨by show (0 : Int) <= s.Serial + 1; omega, by show s.Serial + 1 <= 1000000; omega, i3, fun h => ⟨rfl, (i4 h).2⟩⟩, by (try simp only [j3, j4]); omega, by (try simp only [j3, j4]); omega⟩
 rw [if_neg k0, if_neg k0]
 rw [if_neg k0] at hm
 by_cases k1 : e.Kind = 1
 ·rw [if_pos k1, if_pos k1]
  rw [if_pos k1] at hm
  simp only [Bool.and_eq_true, decide_eq_true_eq, beq_iff_eq] at hm
  unfold zU
  rw [if_pos (wA (by decide) (by omega)), Option.bind_some]
  refine ⟨_, rfl, rfl, ⟨by show (0 : Int) <= s.Serial + 1; omega, by show s.Serial + 1 <= 1000000; omega, i3, fun h => ⟨hm.1.1.1, hm.1.2⟩⟩, by (try simp only [j3, j4]); omega, by (try simp only [j3, j4]); omega⟩
 rw [if_neg k1, if_neg k1]
 rw [if_neg k1] at hm
 by_cases k2 : e.Kind = 2
 ·rw [if_pos k2, if_pos k2]
  rw [if_pos k2] at hm
  simp only [Bool.and_eq_true, decide_eq_true_eq] at hm
  unfold zU wh yP jk
  rw [if_pos (wA (by decide) (by omega)), Option.bind_some, if_pos (by omega), Option.bind_some, if_pos (by omega), Option.bind_some, if_pos (by omega), Option.bind_some]
  have hpe : vy (GEntry.mk e.Addr e.Val e.Deps false (s.Serial + 1)) false s.Entries = if (s.Entries.map GEntry.Addr)[c]? = some e.Addr then s.Entries.set c (GEntry.mk e.Addr e.Val e.Deps false (s.Serial + 1)) else yH s.Entries c (GEntry.mk e.Addr e.Val e.Deps false (s.Serial + 1)) := Ob (e := GEntry.mk e.Addr e.Val e.Deps false (s.Serial + 1)) i3 hp
  rw [hpe]
  cases hh : yK s.Entries e.Addr with
  | true =>
   have hk := hb.1 hh
   obtain ⟨x, hx, hxa⟩ := VX hk
   dsimp only
   rw [zf, Option.bind_some, hx, Option.bind_some, if_pos hk]
   refine ⟨_, rfl, rfl, hdone _ _ (by rw [MK (by exact hk)]; exact i3), ?_, by (try simp only [j3, j4]); rw [List.length_set]; omega⟩
   have h1 := MN s.Entries c (GEntry.mk e.Addr e.Val e.Deps false (s.Serial + 1))
   have h2 : esz (GEntry.mk e.Addr e.Val e.Deps false (s.Serial + 1)) = e.Addr.length + vsz e.Val + bsz e.Deps := rfl
   try simp only [j3, j4]
   try simp only [List.length_nil]
   omega
  | false =>
   have hk : ¬ (s.Entries.map GEntry.Addr)[c]? = some e.Addr := fun h => by rw [hb.2 h] at hh; cases hh
   dsimp only
   rw [NR hcl hl, Option.bind_some, if_neg hk]
   refine ⟨_, rfl, rfl, hdone _ _ (by rw [VD]; exact NP i3 hp hk), ?_, by (try simp only [j3, j4]); simp [yH]; omega⟩
   have h1 := MM s.Entries c (GEntry.mk e.Addr e.Val e.Deps false (s.Serial + 1))
   have h2 : esz (GEntry.mk e.Addr e.Val e.Deps false (s.Serial + 1)) = e.Addr.length + vsz e.Val + bsz e.Deps := rfl
   try simp only [j3, j4]
   try simp only [List.length_nil]
   omega
 rw [if_neg k2, if_neg k2]
 rw [if_neg k2] at hm
 by_cases k3 : e.Kind = 3
 ·rw [if_pos k3, if_pos k3]
  rw [if_pos k3] at hm
  simp only [Bool.and_eq_true, decide_eq_true_eq] at hm
  have hne := US he (.inr (.inr (.inl k3)))
  have hh : yK s.Entries e.Addr = true := by
   have := (i4 (by rw [hm.1]; exact hne)).2
   rw [<- hm.1, this, decide_eq_true]; omega
  have hk := hb.1 hh
  have hcl2 : c < s.Entries.length := by have := (List.getElem?_eq_some_iff.1 hk).1; rwa [List.length_map] at this
  rw [hm.1, Od i3 hk, zf, Option.bind_some, zC (by omega), zf]
  unfold wY
  rw [show vG none (some c) s.Entries.length = some (0, c) by unfold vG; simp; omega, Option.map_some, Option.bind_some]
  rw [if_pos (hroom _ (by simp; omega)), Option.bind_some, show vG (some (c + 1)) none s.Entries.length = some (c + 1, s.Entries.length) by unfold vG; simp; omega, Option.map_some, Option.bind_some]
  rw [if_pos (hroom _ (by simp; omega)), zak hcl2 hl, Option.bind_some]
  refine ⟨_, rfl, ?_, hdone _ _ ?_, ?_, ?_⟩
  ·simp [wZ]
  ·have := zaj i3 (c := c) (by rwa [List.length_map])
   rw [<- ML] at this
   simpa [wZ] using this
  ·have := DM s.Entries c
   have h2 : ∀ L : List GEntry, L = wZ s.Entries c → yu L <= yu s.Entries := fun L h => by rw [h]; exact this
   have := h2 (List.drop 0 (List.take c s.Entries) ++ List.drop (c + 1) (List.take s.Entries.length s.Entries)) (by simp [wZ])
   try simp only [j3, j4]
   try simp only [List.length_nil]
   omega
  ·(try simp only [j3, j4]); simp; omega
 rw [if_neg k3, if_neg k3]
 rw [if_neg k3] at hm
 obtain ⟨c2, hp2⟩ := kE.of i3 s.Pending
 have hcl2 : c2 <= s.Entries.length := by have := hp2.1; rwa [List.length_map] at this
 have hmem := kE.mem i3 hp2
 have hsp : ∀ (o : Bool) (x : GEntry), s.Entries[c2]? = some x → ((zw (c2 : Int)).bind fun i10 => (s.Entries[i10]?).bind fun x11 => ((s.Entries.set i10 (GEntry.mk x11.Addr x11.Val x11.Deps true x11.Turned))[i10]?).bind fun x12 => some (GState.mk (s.Serial + 1) o [] 0 ((s.Entries.set i10 (GEntry.mk x11.Addr x11.Val x11.Deps true x11.Turned)).set i10 (GEntry.mk x12.Addr x12.Val x12.Deps x12.Taint (s.Serial + 1))))) =
   some (GState.mk (s.Serial + 1) o [] 0 (s.Entries.modify c2 (tnE (s.Serial + 1)))) := fun o x hx => by
  have hl2 := (List.getElem?_eq_some_iff.1 hx).1
  rw [zf, Option.bind_some, hx, Option.bind_some, List.getElem?_set_self (by simpa using hl2), Option.bind_some, List.set_set, NT hx]
  rfl
 by_cases k4 : e.Kind = 4
 ·rw [if_pos k4, if_pos k4]
  rw [if_pos k4] at hm
  simp only [decide_eq_true_eq] at hm
  have hne := US he (.inr (.inr (.inr k4)))
  have hpn : s.Pending ≠ [] := by rw [hm]; exact hne
  rw [MP hl (by omega) i3 hp2, Option.bind_some, if_neg hpn, if_neg (fun h => hpn (Xv.1 h)), (i4 hpn).1]
  cases hh : yK s.Entries s.Pending with
  | true =>
   have hk := hmem.2 (Yi.1 hh)
   obtain ⟨x, hx, _⟩ := VX hk
   rw [Od i3 hk, if_pos (by omega), if_pos (hroom _ (by omega)), hsp true x hx]
   refine ⟨_, rfl, rfl, hdone _ _ (by rw [MQ]; exact i3), ?_, by (try simp only [j3, j4]); simp⟩
   try simp only [j3, j4]
   try simp only [List.length_nil]
   rw [T5]
   omega
  | false =>
   rw [J3 hh, if_neg (by decide)]
   refine ⟨_, rfl, rfl, hdone _ _ i3, ?_, by (try simp only [j3, j4]); simp⟩
   try simp only [j3, j4]
   try simp only [Bool.false_eq_true, if_false]
   try simp only [List.length_nil]
   omega
 rw [if_neg k4, if_neg k4]
 rw [if_neg k4] at hm
 by_cases k6 : e.Kind = 6
 ·rw [if_pos k6, if_pos k6]
  rw [MP hl (by omega) i3 hp2, Option.bind_some]
  by_cases hpn : s.Pending = []
  ·rw [if_pos hpn, if_pos (Xv.2 hpn)]
   refine ⟨_, rfl, rfl, hdone _ _ i3, ?_, by (try simp only [j3, j4]); omega⟩
   try simp only [j3, j4]
   try simp only [List.length_nil]
   omega
  rw [if_neg hpn, if_neg (fun h => hpn (Xv.1 h))]
  cases hh : yK s.Entries s.Pending with
  | true =>
   have hk := hmem.2 (Yi.1 hh)
   obtain ⟨x, hx, _⟩ := VX hk
   rw [Od i3 hk, if_pos (by omega), if_pos (hroom _ (by omega)), hsp false x hx]
   refine ⟨_, rfl, rfl, hdone _ _ (by rw [MQ]; exact i3), ?_, by (try simp only [j3, j4]); simp⟩
   try simp only [j3, j4]
   try simp only [List.length_nil]
   rw [T5]
   omega
  | false =>
   have hk : ¬ (s.Entries.map GEntry.Addr)[c2]? = some s.Pending := fun h => by rw [Yi.2 (hmem.1 h)] at hh; cases hh
   unfold jk
   rw [J3 hh, if_neg (by decide), if_pos (by omega), Option.bind_some]
   rw [show vy (GEntry.mk s.Pending (GValue.mk 5 0 [] [] []) [] true (s.Serial + 1)) false s.Entries = yH s.Entries c2 (nwE s.Pending (s.Serial + 1)) by
    have : vy (nwE s.Pending (s.Serial + 1)) false s.Entries = if (s.Entries.map GEntry.Addr)[c2]? = some s.Pending then s.Entries.set c2 (nwE s.Pending (s.Serial + 1)) else yH s.Entries c2 (nwE s.Pending (s.Serial + 1)) := Ob (e := nwE s.Pending (s.Serial + 1)) i3 hp2
    rw [if_neg hk] at this
    exact this]
   refine ⟨_, rfl, rfl, hdone _ _ (by rw [VD]; exact NP i3 hp2 hk), ?_, by (try simp only [j3, j4]); simp [yH]; omega⟩
   have h1 := MM s.Entries c2 (nwE s.Pending (s.Serial + 1))
   rw [zdb] at h1
   try simp only [j3, j4]
   try simp only [List.length_nil]
   omega
 rw [if_neg k6, if_neg k6]
 by_cases k5 : e.Kind = 5
 ·rw [if_pos k5, if_pos k5]
  refine ⟨_, rfl, rfl, hdone _ _ i3, ?_, by (try simp only [j3, j4]); omega⟩
  try simp only [j3, j4]
  try simp only [List.length_nil]
  omega
 ·exfalso
  unfold evB at he
  rw [if_neg k2, if_neg (by omega), if_neg k1, if_neg (by omega), Bool.and_false] at he
  cases he
def nxS (e : GEvent) (s : GState) : GState := (vv e s).getD s
def VE : GState → List GEvent → GState × Bool
 | s, [] => (s, true)
 | s, e :: l => bif YW s e then VE (nxS e s) l else (s, false)
def MR : GState → List GEvent → List GState
 | _, [] => []
 | s, e :: l => nxS e s :: MR (nxS e s) l
def okS : GState → List GEvent → Bool
 | _, [] => true
 | s, e :: l => evB e && (YW s e && okS (nxS e s) l)
theorem Ak {s : GState} {e : GEvent} (hI : stI s) (he : evB e = true) (hm : YW s e = true) (hz : ssz s + qx e <= 2 ^ 20) : vv e s = some (nxS e s) ∧ wH s e = some (nxS e s, true) ∧ stI (nxS e s) ∧ ssz (nxS e s) <= ssz s + qx e + 1 := by
 have hlen := jt s.Entries
 obtain ⟨s', h1, h2, h3, h4, _⟩ := zal hI he hm (by omega) (by unfold ssz at hz; omega)
 have : nxS e s = s' := by unfold nxS; rw [h1]; rfl
 rw [this]
 exact ⟨h1, h2, h3, h4⟩
theorem doN {s : GState} {e : GEvent} (hI : stI s) (hm : YW s e = false) (hz : ssz s <= 2 ^ 20) : wH s e = some (s, false) := by
 have hlen := jt s.Entries
 have hft := OB (e := e) hI (by unfold ssz at hz; omega)
 rw [hm] at hft
 unfold wH
 rw [show xj s = some s from if_pos (by omega), Option.bind_some, hft, Option.bind_some]
theorem NU : ∀ {l : List GEvent} {s : GState}, (∀ e ∈ l, evB e = true) → okS s l = (VE s l).2
 | [], s, _ => rfl
 | e :: l, s, h => by
  rw [okS, VE, h e List.mem_cons_self, Bool.true_and, NU fun x hx => h x (List.mem_cons_of_mem _ hx)]
  cases YW s e <;> rfl
theorem MS : ∀ {l : List GEvent} {s : GState}, okS s l = true → ∀ e ∈ l, evB e = true
 | [], _, _ => by simp
 | e :: l, s, h => by
  rw [okS, Bool.and_eq_true, Bool.and_eq_true] at h
  intro x hx
  rcases List.mem_cons.1 hx with rfl | hx
  ·exact h.1
  ·exact MS h.2.2 x hx
theorem zdc {m : Nat} (hm : m <= 2 ^ 39) : zY 72 m := wA (by decide) (by omega)
theorem Ez {h : GHistory} {k : Int} {v3 : Int} {v4 : Bool} {v5 : Int} {v7 : List UInt8} {v8 : List GEntry} : ∀ (l p r : List GEvent) (s : GState) (m : Nat), h.Events = p ++ l ++ r → k = ((p.length + l.length : Nat) : Int) → l.length < m → (∀ e ∈ l, evB e = true) → stI s → ssz s + we l <= 2 ^ 20 → p.length + l.length <= 2 ^ 40 →
  ∃ z, qi k h v3 v4 v5 v7 v8 m (p.length : Int) s = some (bif (VE s l).2 then .inr (z, (VE s l).1) else .inl (false, (VE s l).1)) := by
 intro l
 induction l with
 | nil =>
  intro p r s m _ hk hm _ _ _ _
  obtain ⟨m, rfl, _⟩ := zh hm
  exact ⟨_, by rw [qi, hk, if_neg (by simp)]; rfl⟩
 | cons e l ih =>
  intro p r s m he hk hm hev hI hz hp
  obtain ⟨m, rfl, hm'⟩ := zh hm
  simp only [List.length_cons] at hk hm' hp
  simp only [we] at hz
  have hlen := jt s.Entries
  have hg : h.Events[p.length]? = some e := by rw [he, List.append_assoc]; exact zW p e (l ++ r)
  have hee := hev e List.mem_cons_self
  rw [qi, hk, if_pos (by omega), zf, Option.bind_some, hg, Option.bind_some, DN hI hee (by unfold ssz at hz; omega), Option.bind_some, VE]
  cases hmy : YW s e with
  | false => exact ⟨0, rfl⟩
  | true =>
   obtain ⟨h1, _, h3, h4⟩ := Ak hI hee hmy (by omega)
   obtain ⟨z, hzz⟩ := ih (p ++ [e]) r (nxS e s) m (by rw [he]; simp) (by rw [hk]; simp; omega) (by omega) (fun x hx => hev x (List.mem_cons_of_mem _ hx)) h3 (by omega) (by simp; omega)
   refine ⟨z, ?_⟩
   dsimp only
   rw [h1, Option.bind_some, xX p e (by omega), <- hk, hzz]
   rfl
theorem N2 {evs : List GEvent} {n : Int} : ∀ (l p : List GEvent) (q : List GState) (s : GState) (m : Nat), evs = p ++ l → n = (evs.length : Int) → l.length < m → q.length = p.length → stI s → ssz s + we l <= 2 ^ 20 → evs.length <= 2 ^ 30 →
  ∃ z, yJ evs n m (p.length : Int) (q ++ [s]) = some (bif okS s l then .inr (z, q ++ [s] ++ MR s l) else .inl (false, [])) := by
 intro l
 induction l with
 | nil =>
  intro p q s m he hn hm _ _ _ _
  obtain ⟨m, rfl, _⟩ := zh hm
  exact ⟨_, by rw [yJ, hn, he, if_neg (by simp)]; simp [okS, MR]; rfl⟩
 | cons e l ih =>
  intro p q s m he hn hm hq hI hz hb
  obtain ⟨m, rfl, hm'⟩ := zh hm
  simp only [List.length_cons] at hm'
  simp only [we] at hz
  have hg : evs[p.length]? = some e := by rw [he]; exact zW p e l
  have hlen : evs.length = p.length + (l.length + 1) := by rw [he]; simp
  have hgs : (q ++ [s])[p.length]? = some s := by rw [<- hq]; exact zW q s []
  rw [yJ, hn, if_pos (by omega), zf, Option.bind_some, hg, Option.bind_some, Eu (by omega), Option.bind_some, okS]
  cases hev : evB e with
  | false => exact ⟨0, rfl⟩
  | true =>
   dsimp only
   rw [hgs, Option.bind_some]
   cases hmy : YW s e with
   | false =>
    rw [doN hI hmy (by omega), Option.bind_some]
    exact ⟨0, rfl⟩
   | true =>
    obtain ⟨_, h2, h3, h4⟩ := Ak hI hev hmy (by omega)
    obtain ⟨z, hzz⟩ := ih (p ++ [e]) (q ++ [s]) (nxS e s) m (by rw [he]; simp) hn (by omega) (by simp [hq]) h3 (by omega) hb
    rw [h2, Option.bind_some]
    dsimp only
    rw [if_pos (zdc (by simp; omega)), xX p e (by omega), <- hn, hzz]
    refine ⟨z, ?_⟩
    simp only [Bool.true_and, MR]
    cases okS (nxS e s) l <;> simp
theorem DO {h : GHistory} (hz : we h.Events <= 2 ^ 20) : ∀ (l p : List GEvent) (m : Nat), h.Events = p ++ l → l.length < m → ∃ z, qj h m (p.length : Int) = some (bif l.all evB then .inr z else .inl false) := by
 have hl := Yz h.Events
 intro l
 induction l with
 | nil =>
  intro p m he hm
  obtain ⟨m, rfl, _⟩ := zh hm
  exact ⟨_, by rw [qj, he, if_neg (by simp)]; rfl⟩
 | cons e l ih =>
  intro p m he hm
  obtain ⟨m, rfl, hm'⟩ := zh hm
  have hlen : h.Events.length = p.length + (l.length + 1) := by rw [he]; simp
  have hx : 1 + qx e <= we h.Events := VI (by rw [he]; simp)
  obtain ⟨z, hzz⟩ := ih (p ++ [e]) m (by rw [he]; simp) (by simp only [List.length_cons] at hm'; omega)
  rw [qj, if_pos (by omega), zf, Option.bind_some, show h.Events[p.length]? = some e by rw [he]; exact zW p e l, Option.bind_some, Ev (by omega), Option.bind_some, List.all_cons]
  cases evB e with
  | false => exact ⟨0, rfl⟩
  | true =>
   refine ⟨z, ?_⟩
   dsimp only
   rw [xX p e (by omega), hzz, Bool.true_and]
def hsz (h : GHistory) : Nat := ssz h.Base + we h.Events
def hOk (h : GHistory) : Bool := stB h.Base && (decide (h.Events.length <= 300) && (decide (0 <= h.Safe ∧ h.Safe <= h.Events.length) && okS h.Base h.Events))
theorem DP {h : GHistory} (hz : hsz h <= 2 ^ 20) : vh h = some (hOk h) := by
 unfold hsz at hz
 have hl := Yz h.Events
 unfold vh ZZ hOk
 rw [Ed (by omega), Option.bind_some]
 cases hs : stB h.Base with
 | false => rfl
 | true =>
  dsimp only
  by_cases c1 : 300 < (h.Events.length : Int)
  ·rw [if_pos c1, decide_eq_false (p := h.Events.length <= 300) (by omega)]; rfl
  rw [if_neg c1, decide_eq_true (p := h.Events.length <= 300) (by omega)]
  by_cases c2 : h.Safe < 0
  ·rw [if_pos c2, decide_eq_false (p := 0 <= h.Safe ∧ h.Safe <= h.Events.length) (by omega)]; rfl
  rw [if_neg c2]
  by_cases c3 : (h.Events.length : Int) < h.Safe
  ·rw [if_pos c3, decide_eq_false (p := 0 <= h.Safe ∧ h.Safe <= h.Events.length) (by omega)]; rfl
  rw [if_neg c3, decide_eq_true (p := 0 <= h.Safe ∧ h.Safe <= h.Events.length) (by omega)]
  obtain ⟨z, hzz⟩ := DO (h := h) (by omega) h.Events [] (h.Events.length + 5) rfl (by omega)
  simp only [List.length_nil, Int.natCast_zero] at hzz
  rw [hzz, Option.bind_some]
  cases hall : h.Events.all evB with
  | false =>
   have : okS h.Base h.Events = false := by
    cases hk : okS h.Base h.Events with
    | false => rfl
    | true => rw [List.all_eq_true.2 (MS hk)] at hall; cases hall
   rw [this]; rfl
  | true =>
   have hev := List.all_eq_true.1 hall
   simp only [cond_true]
   unfold ZY ZX
   obtain ⟨z2, h2⟩ := Ez (h := h) (k := (h.Events.length : Int)) (v3 := 0) (v4 := false) (v5 := 0) (v7 := []) (v8 := []) h.Events [] [] h.Base (h.Events.length + 5) (by simp) (by simp) (by omega) hev (Aj hs) hz (by simp; omega)
   simp only [List.length_nil, Int.natCast_zero] at h2
   rw [h2, NU hev, Option.bind_some]
   cases (VE h.Base h.Events).2 <;> rfl
theorem E0 {h : GHistory} (hz : hsz h <= 2 ^ 20) : wz h = some (bif hOk h then (h.Base :: MR h.Base h.Events, true) else ([], false)) := by
 unfold hsz at hz
 have hl := Yz h.Events
 unfold wz qO hOk
 rw [Eo (by omega), Option.bind_some]
 cases hs : stB h.Base with
 | false => rfl
 | true =>
  dsimp only
  by_cases c1 : 300 < (h.Events.length : Int)
  ·rw [if_pos c1, decide_eq_false (p := h.Events.length <= 300) (by omega)]; rfl
  rw [if_neg c1, decide_eq_true (p := h.Events.length <= 300) (by omega)]
  have hin : yD h.Safe 0 (h.Events.length : Int) = some (decide (0 <= h.Safe ∧ h.Safe <= h.Events.length)) := by
   unfold yD
   by_cases c2 : 0 <= h.Safe
   ·rw [if_pos c2]; simp [c2]
   ·rw [if_neg c2]; simp [c2]
  rw [hin, Option.bind_some]
  by_cases c2 : 0 <= h.Safe ∧ h.Safe <= h.Events.length
  ·rw [decide_eq_true c2]
   dsimp only
   rw [show xj h.Base = some h.Base from if_pos (by omega), Option.bind_some]
   obtain ⟨z, hzz⟩ := N2 (evs := h.Events) (n := (h.Events.length : Int)) h.Events [] [] h.Base (h.Events.length + 5) rfl rfl (by omega) rfl (Aj hs) hz (by omega)
   simp only [List.length_nil, Int.natCast_zero, List.nil_append] at hzz
   rw [hzz, Option.bind_some]
   cases okS h.Base h.Events <;> simp
  ·rw [decide_eq_false c2]; rfl
def MdH (h : GHistory) : Prop := MdS h.Base ∧ h.Events.length <= 2 ^ 63 - 1 ∧ Ws h.Events
theorem zdd {h : GHistory} {n : Int} (hm : MdH h) (h0 : 0 <= n) (h1 : n <= 2 ^ 20) : kR h n = some (yS (hsz h) n) := by
 unfold kR
 rw [zc8 hm.1 h0 h1, Option.bind_some]
 unfold yS hsz
 by_cases c1 : (ssz h.Base : Int) <= n
 ·rw [if_pos c1, if_neg (by omega)]
  unfold jB
  rw [if_pos ⟨hm.2.1, hm.2.2, by omega, by omega⟩, Option.bind_some]
  unfold yS
  by_cases c2 : (we h.Events : Int) <= n - ssz h.Base
  ·rw [if_pos c2, if_neg (by omega), if_pos (by omega)]; congr 1; omega
  ·rw [if_neg c2, if_pos (by omega), if_neg (by omega)]
 ·rw [if_neg c1, if_pos (by omega), if_neg (by omega)]
theorem zde {h : GHistory} (hz : hsz h <= 2 ^ 20) : kS h = some h := by
 unfold hsz at hz
 unfold kS jE
 rw [zc9 (by omega), Option.bind_some, if_pos (by omega), Option.bind_some]
 cases h; rfl
theorem zdf {h : GHistory} (hz : hsz h <= 2 ^ 39) : jr h h = some true := by
 unfold hsz at hz
 unfold jr
 rw [zda (by omega), Option.bind_some]
 dsimp only
 rw [N1 (by omega), Option.bind_some]
 dsimp only
 rw [if_pos rfl]
theorem zdg {h : GHistory} (hk : hOk h = true) : stB h.Base = true ∧ h.Events.length <= 300 ∧ (0 <= h.Safe ∧ h.Safe <= h.Events.length) ∧ okS h.Base h.Events = true := by
 unfold hOk at hk
 simp only [Bool.and_eq_true, decide_eq_true_eq] at hk
 exact ⟨hk.1, hk.2.1, hk.2.2.1, hk.2.2.2⟩
theorem DQ {h : GHistory} (hz : hsz h <= 2 ^ 30) : ∃ (k : Int) (a : List UInt8) (b : List GEntry) (c : List GEvent), qH h.Base.Serial h.Base.Open h.Base.Act h.Safe 1 h.Base.Pending h.Base.Entries h.Events = some (k, a, b, c) ∧ 0 <= k ∧ k <= 1 + 4 * hsz h := by
 unfold hsz ssz at hz ⊢
 have := E9 h.Base.Entries
 have := Ga h.Events
 unfold qH Yo
 rw [qF (by omega) (by omega), Option.bind_some]
 dsimp only
 rw [Lo (by omega) (by omega), Option.bind_some]
 dsimp only
 rw [Option.bind_some]
 dsimp only
 rw [Lq (by omega) (by omega), Option.bind_some]
 exact ⟨_, _, _, _, rfl, by omega, by omega⟩
theorem zdh {h : GHistory} (hz : hsz h <= 2 ^ 20) : kY h = some (hOk h) := by
 unfold kY
 rw [E0 hz, Option.bind_some]
 cases hOk h <;> rfl
theorem zam : ∀ (f m : Nat) (n : Int) (v : List UInt8), 0 <= n → n < 128 ^ (f + 1) → n < 2 ^ 31 → v.length + f <= 2 ^ 30 → f < m → ∃ n' v', xC m n v = some (n', v') ∧ xa m n v = some (n', v') ∧ xF m n v = some (n', v') ∧ v'.length <= v.length + f := by
 intro f
 induction f with
 | zero =>
  intro m n v h0 h1 _ hv hm
  obtain ⟨m, rfl, _⟩ := zh hm
  exact ⟨n, v, by rw [xC, if_neg (by omega)], by rw [xa, if_neg (by omega)], by rw [xF, if_neg (by omega)], by omega⟩
 | succ f ih =>
  intro m n v h0 h1 h31 hv hm
  obtain ⟨m, rfl, hm'⟩ := zh hm
  by_cases hn : 127 < n
  ·have hd : n.tdiv 128 = n / 128 := Int.tdiv_eq_ediv_of_nonneg h0
   have hp : (128 : Int) ^ (f + 1 + 1) = 128 ^ (f + 1) * 128 := Int.pow_succ ..
   have hlt : n / 128 < 128 ^ (f + 1) := Int.ediv_lt_of_lt_mul (by decide) (by rw [<- hp]; exact h1)
   have hw : w64 (n.tdiv 128) = n / 128 := by rw [hd]; exact yC (by omega) (by omega)
   obtain ⟨n', v', e1, e2, e3, e4⟩ := ih m (n / 128) (v ++ [(b8 (w64 ((n.tmod 128) + 128)))]) (by omega) hlt (by omega) (by simp only [List.length_append, List.length_singleton]; omega) (by omega)
   have hr : zY 1 (v.length + [(b8 (w64 ((n.tmod 128) + 128)))].length) := wA (by decide) (by simp only [List.length_singleton]; omega)
   refine ⟨n', v', ?_, ?_, ?_, by simp only [List.length_append, List.length_singleton] at e4; omega⟩
   ·rw [xC, if_pos hn, if_pos hr, hw, e1]
   ·rw [xa, if_pos (by omega), if_pos hr, hw, e2]
   ·rw [xF, if_pos (by omega), if_pos hr, hw, e3]
  ·exact ⟨n, v, by rw [xC, if_neg hn], by rw [xa, if_neg (by omega)], by rw [xF, if_neg (by omega)], by omega⟩
theorem DR {n : Int} {v : List UInt8} (h0 : 0 <= n) (h31 : n < 2 ^ 31) (hv : v.length <= 2 ^ 29) : ∃ n' v', jl 10 n false v 10 = some (n', v') ∧ qC 10 n false v 10 = some (n', v') ∧ jp 10 n false v 10 = some (n', v') ∧ v'.length <= v.length + 5 := by
 show ∃ n' v', jl 10 n false v (9 + 1) = some (n', v') ∧ qC 10 n false v (9 + 1) = some (n', v') ∧ jp 10 n false v (9 + 1) = some (n', v') ∧ _
 rw [jl, qC, jp]
 by_cases hn : 127 < n
 ·have hd : n.tdiv 128 = n / 128 := Int.tdiv_eq_ediv_of_nonneg h0
  have hw : w64 (n.tdiv 128) = n / 128 := by rw [hd]; exact yC (by omega) (by omega)
  have hr : zY 1 (v.length + [(b8 (w64 ((n.tmod 128) + 128)))].length) := wA (by decide) (by simp only [List.length_singleton]; omega)
  obtain ⟨n', v', e1, e2, e3, e4⟩ := zam 4 10 (n / 128) (v ++ [(b8 (w64 ((n.tmod 128) + 128)))]) (by omega) (by rw [show (128 : Int) ^ (4 + 1) = 34359738368 from rfl]; omega) (by omega) (by simp only [List.length_append, List.length_singleton]; omega) (by decide)
  rw [if_pos hn, if_pos hr, if_pos (show (128 : Int) <= n by omega), if_pos hr, if_pos (show (128 : Int) <= n by omega), if_pos hr, hw, e1, e2, e3]
  exact ⟨n', v', rfl, rfl, rfl, by simp only [List.length_append, List.length_singleton] at e4; omega⟩
 ·rw [if_neg hn, if_neg (show ¬ (128 : Int) <= n by omega), if_neg (show ¬ (128 : Int) <= n by omega)]
  exact ⟨n, v, rfl, rfl, rfl, by omega⟩
theorem yL (n : Int) {b : List UInt8} (hb : b.length <= 2 ^ 29) : ∃ r, zQ b n = some r ∧ zA n b = some r ∧ r.length <= b.length + 6 ∧ (b = [] → vm n = some r) := by
 unfold zQ zA vm Ya vR Yc
 rw [if_pos (wA (by decide) (by omega)), X7, Option.bind_some, Option.bind_some]
 by_cases h0 : n < 0
 ·rw [if_pos h0, decide_eq_false (by omega)]
  exact ⟨b, rfl, rfl, by omega, fun h => by rw [h]⟩
 rw [if_neg h0]
 by_cases h1 : 2147483647 < n
 ·rw [if_pos h1, decide_eq_false (by omega)]
  exact ⟨b, rfl, rfl, by omega, fun h => by rw [h]⟩
 rw [if_neg h1, decide_eq_true (by omega)]
 obtain ⟨n', v', e1, e2, e3, e4⟩ := DR (n := n) (v := b) (by omega) (by omega) hb
 have hr : zY 1 (v'.length + [(b8 n')].length) := wA (by decide) (by simp only [List.length_singleton]; omega)
 try simp only [Bool.not_true]
 try dsimp only
 rw [e1, e2]
 simp only [Option.bind_some]
 rw [if_pos hr]
 refine ⟨_, rfl, rfl, by simp only [List.length_append, List.length_singleton]; omega, fun h => ?_⟩
 subst h
 rw [e3, Option.bind_some]
 dsimp only
 rw [if_pos hr]
theorem YX (t : List UInt8) {b : List UInt8} (hb : b.length <= 2 ^ 28) : ∃ r, qk b t = some r ∧ qq t b = some r ∧ r.length <= b.length + 26 := by
 unfold qk qq
 by_cases h : (20 : Int) < (t.length : Int)
 ·rw [if_pos h, if_pos h, if_pos (wA (by decide) (by omega))]
  exact ⟨b, rfl, rfl, by omega⟩
 ·rw [if_neg h, if_neg h]
  obtain ⟨r, h1, h2, h3, _⟩ := yL (t.length : Int) (b := b) (by omega)
  rw [h1, h2]
  simp only [Option.bind_some]
  rw [if_pos (wA (by decide) (by omega))]
  exact ⟨_, rfl, rfl, by rw [List.length_append]; omega⟩
theorem zan : ∀ (d : Nat) (f : Nat) (v : GValue) (b : List UInt8), shV d v = true → d + 50 <= f → b.length + 60 * ptV v <= 2 ^ 28 + 26 → ∃ r, xZ f b v = some r ∧ yr f v b = some r ∧ r.length + 26 <= b.length + 60 * ptV v := by
 intro d
 induction d with
 | zero => intro f v b h; cases h
 | succ d ih =>
  intro f v b h hf hb
  have hpt := VF v
  obtain ⟨f, rfl, _⟩ := zh (show 0 < f by omega)
  rw [shV, Bool.and_eq_true] at h
  obtain ⟨hl, hk⟩ := h
  have hk := List.all_eq_true.1 hk
  have hloop : v.Kind = 4 ∨ v.Kind = 5 → ∀ (j i m : Nat) (c : List UInt8), i + j = v.L.length → j < m → c.length + 60 * xx (v.L.drop i) <= 2 ^ 28 → ∃ z r, xL (xZ f) v m (i : Int) c = some (z, r) ∧ yz (yr f) v.L (v.L.length : Int) v m (i : Int) c = some (z, r) ∧ r.length <= c.length + 60 * xx (v.L.drop i) := by
   intro h45 j
   induction j with
   | zero =>
    intro i m c hi hm hc
    obtain ⟨m, rfl, _⟩ := zh hm
    exact ⟨_, _, by rw [xL, if_neg (by omega)], by rw [yz, if_neg (by omega)], by omega⟩
   | succ j jh =>
    intro i m c hi hm hc
    obtain ⟨m, rfl, hm'⟩ := zh hm
    have hil : i < v.L.length := by omega
    have h40 : v.L.length <= 40 := by
     unfold y7 at hl
     rcases h45 with h4 | h5
     ·rw [if_neg (by omega), if_neg (by omega), if_neg (by omega), if_neg (by omega), if_pos h4] at hl
      exact (of_decide_eq_true hl).2.2.2
     ·rw [if_neg (by omega), if_neg (by omega), if_neg (by omega), if_neg (by omega), if_neg (by omega), if_pos h5, Bool.and_eq_true] at hl
      exact (of_decide_eq_true hl.1).2.2.2
    have hdr : v.L.drop i = v.L[i] :: v.L.drop (i + 1) := List.drop_eq_getElem_cons hil
    rw [hdr, xx] at hc
    have hsh := hk _ (List.getElem_mem hil)
    rw [hdr, xx]
    rw [xL, yz, if_pos (show (i : Int) < (v.L.length : Int) by omega), if_pos (show (i : Int) < (v.L.length : Int) by omega), zf]
    simp only [Option.bind_some]
    rw [zk hil]
    simp only [Option.bind_some]
    have hp1 := VF v.L[i]
    by_cases h5 : v.Kind = 5
    ·have hkl : v.K.length = v.L.length := by
      unfold y7 at hl
      rw [if_neg (by omega), if_neg (by omega), if_neg (by omega), if_neg (by omega), if_neg (by omega), if_pos h5, Bool.and_eq_true] at hl
      exact (of_decide_eq_true hl.1).1
     rw [if_pos h5, if_pos h5, zk (show i < v.K.length by omega)]
     simp only [Option.bind_some]
     obtain ⟨r1, a1, a2, a3⟩ := YX v.K[i] (b := c) (by omega)
     rw [a1, a2]
     simp only [Option.bind_some]
     obtain ⟨r2, b1, b2, b3⟩ := ih f v.L[i] r1 hsh (by omega) (by omega)
     rw [b1, b2]
     simp only [Option.bind_some]
     rw [zC (by omega)]
     obtain ⟨z, r, c1, c2, c3⟩ := jh (i + 1) m r2 (by omega) (by omega) (by omega)
     exact ⟨z, r, c1, c2, by omega⟩
    ·rw [if_neg h5, if_neg h5]
     obtain ⟨r2, b1, b2, b3⟩ := ih f v.L[i] c hsh (by omega) (by omega)
     rw [b1, b2]
     simp only [Option.bind_some]
     rw [zC (by omega)]
     obtain ⟨z, r, c1, c2, c3⟩ := jh (i + 1) m r2 (by omega) (by omega) (by omega)
     exact ⟨z, r, c1, c2, by omega⟩
  rw [xZ, yr]
  unfold WJ Zl
  obtain ⟨r1, a1, a2, a3, _⟩ := yL v.Kind (b := b) (by omega)
  rw [a1, a2]
  simp only [Option.bind_some]
  have h40 : v.Kind = 4 ∨ v.Kind = 5 → v.L.length <= 40 := by
   unfold y7 at hl
   rintro (h4 | h5)
   ·rw [if_neg (by omega), if_neg (by omega), if_neg (by omega), if_neg (by omega), if_pos h4] at hl
    exact (of_decide_eq_true hl).2.2.2
   ·rw [if_neg (by omega), if_neg (by omega), if_neg (by omega), if_neg (by omega), if_neg (by omega), if_pos h5, Bool.and_eq_true] at hl
    exact (of_decide_eq_true hl.1).2.2.2
  by_cases k1 : v.Kind = 1
  ·rw [if_pos k1, if_pos k1]
   obtain ⟨r2, b1, b2, b3, _⟩ := yL v.N (b := r1) (by omega)
   rw [b1, b2]
   exact ⟨r2, rfl, rfl, by omega⟩
  rw [if_neg k1, if_neg k1]
  by_cases k2 : v.Kind = 2
  ·rw [if_pos k2, if_pos k2]
   by_cases hn : v.N < 0
   ·rw [if_pos hn, if_pos hn]
    obtain ⟨r2, b1, b2, b3, _⟩ := yL 1 (b := r1) (by omega)
    rw [b1, b2]
    simp only [Option.bind_some]
    obtain ⟨r3, c1, c2, c3, _⟩ := yL (w64 ((w64 (0 - v.N)).tdiv 1000000)) (b := r2) (by omega)
    rw [c1, c2]
    simp only [Option.bind_some]
    obtain ⟨r4, d1, d2, d3, _⟩ := yL ((w64 (0 - v.N)).tmod 1000000) (b := r3) (by omega)
    rw [d1, d2]
    exact ⟨r4, rfl, rfl, by omega⟩
   ·rw [if_neg hn, if_neg hn]
    obtain ⟨r2, b1, b2, b3, _⟩ := yL 0 (b := r1) (by omega)
    rw [b1, b2]
    simp only [Option.bind_some]
    obtain ⟨r3, c1, c2, c3, _⟩ := yL (w64 (v.N.tdiv 1000000)) (b := r2) (by omega)
    rw [c1, c2]
    simp only [Option.bind_some]
    obtain ⟨r4, d1, d2, d3, _⟩ := yL (v.N.tmod 1000000) (b := r3) (by omega)
    rw [d1, d2]
    exact ⟨r4, rfl, rfl, by omega⟩
  rw [if_neg k2, if_neg k2]
  by_cases k3 : v.Kind = 3
  ·rw [if_pos k3, if_pos k3]
   obtain ⟨r2, b1, b2, b3⟩ := YX v.S (b := r1) (by omega)
   rw [b1, b2]
   exact ⟨r2, rfl, rfl, by omega⟩
  rw [if_neg k3, if_neg k3]
  by_cases k45 : v.Kind = 4 ∨ v.Kind = 5
  ·obtain ⟨r2, b1, b2, b3, _⟩ := yL (v.L.length : Int) (b := r1) (by omega)
   have hc := h40 k45
   obtain ⟨z, r3, c1, c2, c3⟩ := hloop k45 v.L.length 0 f r2 (by omega) (by omega) (by rw [List.drop_zero]; omega)
   rw [List.drop_zero] at c3
   by_cases k4 : v.Kind = 4
   ·rw [if_pos k4, if_pos k4, b1, b2]
    simp only [Option.bind_some]
    rw [show (0 : Int) = ((0 : Nat) : Int) from rfl, c1, c2]
    exact ⟨r3, rfl, rfl, by omega⟩
   ·have k5 : v.Kind = 5 := by omega
    rw [if_neg k4, if_neg k4, if_pos k5, if_pos k5, b1, b2]
    simp only [Option.bind_some]
    rw [show (0 : Int) = ((0 : Nat) : Int) from rfl, c1, c2]
    exact ⟨r3, rfl, rfl, by omega⟩
  ·rw [if_neg (show ¬ v.Kind = 4 by omega), if_neg (show ¬ v.Kind = 4 by omega), if_neg (show ¬ v.Kind = 5 by omega), if_neg (show ¬ v.Kind = 5 by omega)]
   exact ⟨r1, rfl, rfl, by omega⟩
theorem E3 {e : GEvent} (h8 : e.Deps.length <= 8) : ∀ (j i m : Nat) (c : List UInt8), i + j = e.Deps.length → j < m → c.length + 30 * j <= 2 ^ 20 → ∃ z r, wN e m (i : Int) c = some (z, r) ∧ yR e.Deps (e.Deps.length : Int) e m (i : Int) c = some (z, r) ∧ r.length <= c.length + 30 * j := by
 intro j
 induction j with
 | zero =>
  intro i m c hi hm hc
  obtain ⟨m, rfl, _⟩ := zh hm
  exact ⟨_, _, by rw [wN, if_neg (by omega)], by rw [yR, if_neg (by omega)], by omega⟩
 | succ j jh =>
  intro i m c hi hm hc
  obtain ⟨m, rfl, hm'⟩ := zh hm
  have hil : i < e.Deps.length := by omega
  rw [wN, yR, if_pos (show (i : Int) < (e.Deps.length : Int) by omega), if_pos (show (i : Int) < (e.Deps.length : Int) by omega), zf]
  simp only [Option.bind_some]
  rw [zk hil]
  simp only [Option.bind_some]
  obtain ⟨r1, a1, a2, a3⟩ := YX e.Deps[i] (b := c) (by omega)
  rw [a1, a2]
  simp only [Option.bind_some]
  rw [zC (by omega)]
  obtain ⟨z, r, c1, c2, c3⟩ := jh (i + 1) m r1 (by omega) (by omega) (by omega)
  exact ⟨z, r, c1, c2, by omega⟩
theorem N3 {e : GEvent} (h : evB e = true) : ∃ r, ku e = some r ∧ qS e = some r ∧ r.length <= 2 ^ 20 := by
 unfold ku qS Z6 kc
 obtain ⟨r1, a1, _, a3, a2⟩ := yL e.Kind (b := []) (by simp)
 rw [a1, a2 rfl]
 simp only [Option.bind_some, List.length_nil] at a3 ⊢
 unfold evB at h
 by_cases k0 : e.Kind = 0 ∨ e.Kind = 5 ∨ e.Kind = 6
 ·rw [if_neg (show ¬ e.Kind = 2 by omega), if_pos k0] at h
  simp only [Bool.and_eq_true] at h
  have hl := of_decide_eq_true h.2.1
  rw [if_neg (show ¬ (0 : Int) < (e.Addr.length : Int) by omega), if_neg (show ¬ e.Kind = 1 by omega), if_neg (show ¬ e.Kind = 2 by omega)]
  refine ⟨r1, ?_, rfl, by omega⟩
  rcases k0 with k | k | k
  ·rw [if_pos k]
  ·rw [if_neg (by omega), if_pos k]
  ·rw [if_neg (by omega), if_neg (by omega), if_pos k]
 ·have hA : 0 < e.Addr.length := by
   by_cases k2 : e.Kind = 2
   ·rw [if_pos k2, Bool.and_eq_true, Bool.and_eq_true, Bool.and_eq_true] at h
    exact JN h.1.1.1
   ·rw [if_neg k2, if_neg k0, Bool.and_eq_true] at h
    have h := h.2
    by_cases k1 : e.Kind = 1
    ·rw [if_pos k1, Bool.and_eq_true] at h; exact JN h.1
    ·rw [if_neg k1] at h
     by_cases k3 : e.Kind = 3 ∨ e.Kind = 4
     ·rw [if_pos k3, Bool.and_eq_true] at h; exact JN h.1
     ·rw [if_neg k3] at h; cases h
  rw [if_neg (show ¬ e.Kind = 0 by omega), if_neg (show ¬ e.Kind = 5 by omega), if_neg (show ¬ e.Kind = 6 by omega), if_pos (show (0 : Int) < (e.Addr.length : Int) by omega)]
  obtain ⟨r2, b1, b2, b3⟩ := YX e.Addr (b := r1) (by omega)
  rw [b1, b2]
  simp only [Option.bind_some]
  by_cases k1 : e.Kind = 1
  ·rw [if_pos k1, if_pos k1]
   obtain ⟨r3, c1, c2, c3, _⟩ := yL e.Act (b := r2) (by omega)
   rw [c1, c2]
   exact ⟨r3, rfl, rfl, by omega⟩
  rw [if_neg k1, if_neg k1]
  by_cases k2 : e.Kind = 2
  ·rw [if_pos k2, if_pos k2]
   rw [if_pos k2, Bool.and_eq_true, Bool.and_eq_true, Bool.and_eq_true] at h
   have hd := h.2
   have hv := h.1.2
   unfold js at hd
   rw [Bool.and_eq_true] at hd
   have h8 := of_decide_eq_true hd.1
   unfold jL at hv
   rw [Bool.and_eq_true, Bool.and_eq_true] at hv
   have hs := of_decide_eq_true hv.1.2
   obtain ⟨r3, c1, c2, c3, _⟩ := yL (e.Deps.length : Int) (b := r2) (by omega)
   rw [c1, c2]
   simp only [Option.bind_some]
   obtain ⟨z, r4, d1, d2, d3⟩ := E3 h8 e.Deps.length 0 100 r3 (by omega) (by omega) (by omega)
   rw [show (0 : Int) = ((0 : Nat) : Int) from rfl, d1, d2]
   simp only [Option.bind_some]
   obtain ⟨r5, f1, f2, f3⟩ := zan 5 100 e.Val r4 hs.1 (by decide) (by omega)
   unfold YM qE
   rw [f1, f2]
   exact ⟨r5, rfl, rfl, by omega⟩
  rw [if_neg k2, if_neg k2]
  exact ⟨r2, rfl, rfl, by omega⟩
theorem GX {h : GHistory} (hl : h.Events.length <= 300) : ∀ (l p : List GEvent) (b : List UInt8) (m : Nat), h.Events = p ++ l → (∀ e ∈ l, evB e = true) → l.length < m → b.length + l.length * (2 ^ 20 + 6) <= 2 ^ 29 →
  ∃ z r, xQ h m (p.length : Int) b = some (z, r) ∧ xU h.Events (h.Events.length : Int) m (p.length : Int) b = some (z, r) ∧ r.length <= 2 ^ 29 := by
 intro l
 induction l with
 | nil =>
  intro p b m he _ hm hb
  obtain ⟨m, rfl, _⟩ := zh hm
  refine ⟨_, b, by rw [xQ, he, List.append_nil, if_neg (by omega)], by rw [xU, he, List.append_nil, if_neg (by omega)], by omega⟩
 | cons x l ih =>
  intro p b m he hev hm hb
  obtain ⟨m, rfl, hm'⟩ := zh hm
  have hlen : h.Events.length = p.length + (l.length + 1) := by rw [he]; simp
  simp only [List.length_cons] at hb hm'
  have hbl : b.length <= 2 ^ 29 := by omega
  obtain ⟨r4, g1, g2, g3⟩ := N3 (hev x List.mem_cons_self)
  obtain ⟨r5, q1, q2, q3, _⟩ := yL (r4.length : Int) hbl
  obtain ⟨z, r, i1, i2, i3⟩ := ih (p ++ [x]) (r5 ++ r4) m (by rw [he]; simp) (fun e hm => hev e (List.mem_cons_of_mem _ hm)) (by omega) (by simp only [List.length_append]; omega)
  have hg : h.Events[p.length]? = some x := by rw [he]; exact zW p x l
  refine ⟨z, r, ?_, ?_, i3⟩
  ·rw [xQ, if_pos (by omega), zf, Option.bind_some, hg, Option.bind_some, g1, Option.bind_some, q1, Option.bind_some, if_pos (wA (by decide) (by omega)), xX p x (by omega), i1]
  ·rw [xU, if_pos (by omega), zf, Option.bind_some, hg, Option.bind_some, g2, Option.bind_some, q2, Option.bind_some, if_pos (wA (by decide) (by omega)), xX p x (by omega), i2]
theorem E4 {h : GHistory} (hz : hsz h <= 2 ^ 20) : ∃ r b, jm h = some (r, b) ∧ jq h = some (r, b) ∧ r.length <= 2 ^ 29 := by
 unfold jm jq kU kZ
 rw [DP hz, Option.bind_some, zdh hz, Option.bind_some]
 cases hk : hOk h with
 | false => exact ⟨_, _, rfl, rfl, by decide⟩
 | true =>
  dsimp only
  obtain ⟨_, k2, _, k4⟩ := zdg hk
  obtain ⟨z, r, h1, h2, h3⟩ := GX k2 h.Events [] [] (h.Events.length + 5) rfl (MS k4) (by omega) (by simp only [List.length_nil]; omega)
  simp only [List.length_nil, Int.natCast_zero] at h1 h2
  rw [h1, h2]
  exact ⟨_, _, rfl, rfl, h3⟩
theorem law_HistBytes {h : GHistory} (hm : MdH h) : j0 h = some true := by
 unfold j0
 rw [zdd hm (by decide) (by decide), Option.bind_some]
 unfold yS
 by_cases c : (hsz h : Int) <= 1048576
 ·have hz : hsz h <= 2 ^ 20 := by omega
  rw [if_pos c, if_neg (by omega), zde hz, Option.bind_some]
  obtain ⟨r, b, e1, e2, e3⟩ := E4 hz
  obtain ⟨k1, a1, b1, c1, m1, m2, m3⟩ := DQ (h := h) (by omega)
  rw [e1, e2, Option.bind_some]
  dsimp only
  rw [Option.bind_some]
  dsimp only
  rw [zc7 (by omega), Option.bind_some]
  dsimp only
  cases b <;> (first | rw [if_pos rfl, if_pos rfl] | rw [if_neg (by decide), if_neg (by decide)])
  all_goals
   rw [zdf (by omega), Option.bind_some]
   dsimp only
   rw [m1, Option.bind_some]
   dsimp only
   rw [if_neg (by omega), qF (by omega) (by omega), Option.bind_some]
   dsimp only
   rw [MG (Og _ _) (by decide) (by rw [WY]; omega), Option.bind_some, WY, if_neg (by omega), if_pos rfl]
 ·rw [if_neg c, if_pos (by omega)]
end
end Go.Am.Try
