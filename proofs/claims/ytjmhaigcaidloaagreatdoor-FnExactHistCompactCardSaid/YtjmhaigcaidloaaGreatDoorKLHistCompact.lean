
/- The law of FnExactHistCompact, in plain terms. -/
import Derived.Test.YtjmhaigcaidloaaGreatDoorKG5
set_option linter.unusedVariables false
set_option linter.unusedSimpArgs false
namespace Go.Am.Try
open Go.Am
noncomputable section
theorem Nk {v : GValue} (h : vsz v <= 2 ^ 20) : xo v = some (Yd v) := by
 unfold xo vJ
 rw [if_pos ⟨h, by decide, by decide, by decide⟩, oB]
 congr 1
 unfold okV Yd
 rw [show (6 - (1 : Int)).toNat = 5 from rfl]
 by_cases hc : shV 5 v = true ∧ (ptV v : Int) <= 40
 ·rw [if_pos hc, decide_eq_true hc]; exact decide_eq_true (by omega)
 ·rw [if_neg hc, decide_eq_false hc]; rfl
theorem Bz {v : GValue} (h : vsz v <= 2 ^ 20) : jn v = some (Yd v) := by
 unfold jn qQ w5 Yd
 rw [if_pos ⟨h, by decide, by decide⟩, oB]
 rw [show (5 : Int).toNat = 5 from rfl]
 cases hs : shV 5 v
 ·simp
 ·dsimp only
  rw [if_pos h, oB]
  simp
def j6 (v : GValue) : Bool := decide (v.Kind = 0 ∧ v.N = 0 ∧ v.S.length = 0 ∧ v.K.length = 0 ∧ v.L.length = 0)
def evB (e : GEvent) : Bool :=
  if e.Kind = 2 then ye e.Addr && decide (e.Act = 0) && ku e.Val && jX e.Deps
  else j6 e.Val && decide (e.Deps.length = 0) &&
    (if e.Kind = 0 ∨ e.Kind = 5 ∨ e.Kind = 6 then decide (e.Addr.length = 0) && decide (e.Act = 0)
     else if e.Kind = 1 then ye e.Addr && decide (1 <= e.Act ∧ e.Act <= 4)
     else if e.Kind = 3 ∨ e.Kind = 4 then ye e.Addr && decide (e.Act = 0) else false)
theorem zbo {v : GValue} (h : vsz v <= 2 ^ 20) : xd v = some (ku v) := by
 unfold xd YT ku
 by_cases h5 : v.Kind = 5
 ·rw [if_pos h5, Bz h, oB, decide_eq_true h5, Bool.true_and]
  cases hv : Yd v with
  | false => rfl
  | true =>
   simp only [Bool.true_and]
   unfold w6
   rw [if_pos (by omega)]; rfl
 ·rw [if_neg h5, decide_eq_false h5]; rfl
theorem zbp {v : GValue} (h : vsz v <= 2 ^ 20) : ju v = some (ku v) := by
 unfold ju ku
 by_cases h5 : v.Kind = 5
 ·rw [if_pos h5, Nk h, oB, decide_eq_true h5, Bool.true_and]
  cases hv : Yd v with
  | false => rfl
  | true =>
   simp only [Bool.true_and]
   unfold jk
   rw [if_pos (by omega)]; rfl
 ·rw [if_neg h5, decide_eq_false h5]; rfl
theorem EZ (v : GValue) : Ym v = some (j6 v) := by
 unfold Ym j6
 by_cases h1 : v.Kind = 0 <;> by_cases h2 : v.N = 0 <;> by_cases h3 : v.S.length = 0 <;> by_cases h4 : v.K.length = 0 <;> by_cases h5 : v.L.length = 0 <;> simp [h1, h2, h3, h4, h5, List.length_eq_zero_iff.1] <;> simp_all
theorem Kd (a : Int) : ∃ r, kH a 0 = some r ∧ (r = 0 ↔ a = 0) := by
 unfold kH
 by_cases h : a < 0
 ·exact ⟨_, if_pos h, by omega⟩
 ·rw [if_neg h]
  by_cases h' : 0 < a
  ·exact ⟨_, if_pos h', by omega⟩
  ·exact ⟨_, if_neg h', by omega⟩
theorem H7 (G : GValue → GValue → Option Int) (n : Nat) (v z : GValue) (hk : z.Kind = 0) (hn : z.N = 0) (hl : z.L.length = 0) : ∃ r, YP G (n + 1) v z = some r ∧ ((r = 0 ∧ v.N = 0) ↔ (v.Kind = 0 ∧ v.N = 0 ∧ v.L.length = 0)) := by
 unfold YP
 rw [hk]
 by_cases h1 : v.Kind = 0
 ·rw [if_pos h1, if_neg (by omega), hn]
  by_cases h2 : v.N = 0
  ·rw [if_pos h2, jP, hl]
   obtain ⟨r, hr, hr2⟩ := Kd (v.L.length : Int)
   refine ⟨r, ?_, by simp only [h1, h2, true_and, and_true]; omega⟩
   by_cases h3 : (0 : Int) < (v.L.length : Int)
   ·rw [if_pos h3, if_neg (by omega), oB]
    dsimp only
    rw [show ((0 : Nat) : Int) = 0 from rfl, hr, oB]
   ·rw [if_neg h3, oB]
    dsimp only
    rw [show ((0 : Nat) : Int) = 0 from rfl, hr, oB]
  ·rw [if_neg h2]
   obtain ⟨r, hr, hr2⟩ := Kd v.N
   exact ⟨r, by rw [hr, oB], ⟨fun h => absurd h.2 h2, fun h => absurd h.2.1 h2⟩⟩
 ·rw [if_neg h1]
  obtain ⟨r, hr, hr2⟩ := Kd v.Kind
  exact ⟨r, by rw [hr, oB], ⟨fun h => absurd (hr2.1 h.1) h1, fun h => absurd h.1 h1⟩⟩
theorem Da (v : GValue) : wW v = some (decide (v.Kind = 0 ∧ v.N = 0 ∧ v.L.length = 0)) := by
 unfold wW YQ
 rw [show vsz v + 3 = (vsz v + 1 + 1) + 1 from rfl, wJ]
 obtain ⟨r, hr, hr2⟩ := H7 (wJ (vsz v + 1 + 1)) (vsz v + 1) v (GValue.mk 0 0 [] [] []) rfl rfl rfl
 rw [hr, oB]
 by_cases h : r = 0
 ·rw [if_pos h]; exact congrArg some (decide_eq_decide.2 (by rw [<- hr2]; simp [h]))
 ·rw [if_neg h]; exact congrArg some (decide_eq_false (fun h' => h (hr2.2 h').1)).symm
theorem B0 {v : GValue} (h : j6 v = true) : Yd v = true := by
 unfold j6 at h
 cases v
 simp only [GValue.Kind, GValue.N, GValue.S, GValue.K, GValue.L, decide_eq_true_eq, List.length_eq_zero_iff] at h
 obtain ⟨rfl, rfl, rfl, rfl, rfl⟩ := h
 exact decide_eq_true ⟨by simp [shV, yQ, GValue.Kind, GValue.N, GValue.S, GValue.K, GValue.L], by simp [ptV, wG]⟩
theorem zbq {v : GValue} (h : Yd v = true) : j6 v = decide (v.Kind = 0 ∧ v.N = 0 ∧ v.L.length = 0) := by
 unfold j6
 refine decide_eq_decide.2 ⟨fun ⟨a, b, _, _, c⟩ => ⟨a, b, c⟩, fun ⟨a, b, c⟩ => ?_⟩
 have := (of_decide_eq_true h).1
 rw [shV] at this
 have hl := (Bool.and_eq_true _ _ ▸ this).1
 unfold yQ at hl
 rw [if_pos (Or.inl a)] at hl
 have := of_decide_eq_true hl
 exact ⟨a, this⟩
theorem B1 {a : List UInt8} (h : ye a = true) : 0 < a.length := by
 rcases a with _ | ⟨x, l⟩
 ·revert h; decide
 ·simp
theorem Db {e : GEvent} (h : xg e <= 2 ^ 20) : ZH e = some (evB e) := by
 unfold xg at h
 unfold ZH evB
 by_cases k2 : e.Kind = 2
 ·rw [if_pos k2, if_pos k2, Zv (by omega), oB]
  cases ye e.Addr with
  | false => rfl
  | true =>
   dsimp only
   by_cases ha : e.Act = 0
   ·rw [if_pos ha, zbo (by omega), oB, decide_eq_true ha]
    cases ku e.Val with
    | false => rfl
    | true =>
     dsimp only
     rw [show xU e.Deps = some (jX e.Deps) from if_pos (by omega)]
     simp
   ·rw [if_neg ha, decide_eq_false ha]; rfl
 ·rw [if_neg k2, if_neg k2, EZ, oB]
  cases j6 e.Val with
  | false => rfl
  | true =>
   dsimp only
   by_cases d : e.Deps.length = 0
   ·rw [if_neg (by omega), decide_eq_true d, Bool.true_and, Bool.true_and]
    by_cases k0 : e.Kind = 0 ∨ e.Kind = 5 ∨ e.Kind = 6
    ·rw [if_pos k0]
     have hh : (if (e.Addr.length : Int) = 0 then some (decide (e.Act = 0)) else some false) = some (decide (e.Addr.length = 0) && decide (e.Act = 0)) := by
      by_cases hl : e.Addr.length = 0
      ·rw [if_pos (by omega), decide_eq_true hl, Bool.true_and]
      ·rw [if_neg (by omega), decide_eq_false hl, Bool.false_and]
     rw [hh]
     by_cases k00 : e.Kind = 0
     ·rw [if_pos k00]
     ·rw [if_neg k00]
      by_cases k05 : e.Kind = 5
      ·rw [if_pos k05]
      ·rw [if_neg k05, if_pos (by omega)]
    ·rw [if_neg k0, if_neg (by omega), if_neg (by omega), if_neg (by omega)]
     by_cases k1 : e.Kind = 1
     ·rw [if_pos k1, if_pos k1, Zv (by omega), oB]
      cases ye e.Addr with
      | false => rfl
      | true => dsimp only; rw [W5, oB]; rfl
     ·rw [if_neg k1, if_neg k1]
      by_cases k3 : e.Kind = 3
      ·rw [if_pos k3, if_pos (Or.inl k3), Zv (by omega), oB]
       cases ye e.Addr <;> rfl
      ·rw [if_neg k3]
       by_cases k4 : e.Kind = 4
       ·rw [if_pos k4, if_pos (Or.inr k4), Zv (by omega), oB]
        cases ye e.Addr <;> rfl
       ·rw [if_neg k4, if_neg (by omega)]
   ·rw [if_pos (by omega), decide_eq_false d]; rfl
theorem zvd {v : GValue} (h : vsz v <= 2 ^ 20) (d : Nat) : ((xo v).bind fun r => match r with | true => (wW v).bind fun r => (match r with | true => some (decide (((d : Nat) : Int) = 0)) | false => some false) | false => some false) = some (j6 v && decide (d = 0)) := by
 rw [Nk h, oB]
 cases hv : Yd v with
 | true =>
  dsimp only
  rw [Da, oB, zbq hv]
  cases decide (v.Kind = 0 ∧ v.N = 0 ∧ v.L.length = 0) with
  | true => exact congrArg some (by rw [Bool.true_and]; exact decide_eq_decide.2 (by omega))
  | false => rfl
 | false =>
  dsimp only
  cases hz : j6 v with
  | true => rw [B0 hz] at hv; cases hv
  | false => rfl
theorem Dc {e : GEvent} (h : xg e <= 2 ^ 20) : ZE e = some (evB e) := by
 unfold xg at h
 unfold ZE evB
 rw [QA (by omega)]
 simp only [oB]
 have Z := zvd (v := e.Val) (by omega) e.Deps.length
 have hb := @B1 e.Addr
 by_cases r0 : e.Kind < 0
 ·rw [if_pos r0, if_neg (show ¬ e.Kind = 2 by omega), if_neg (show ¬ (e.Kind = 0 ∨ e.Kind = 5 ∨ e.Kind = 6) by omega), if_neg (show ¬ e.Kind = 1 by omega), if_neg (show ¬ (e.Kind = 3 ∨ e.Kind = 4) by omega), Bool.and_false]
 rw [if_neg r0]
 by_cases r6 : 6 < e.Kind
 ·rw [if_pos r6, if_neg (show ¬ e.Kind = 2 by omega), if_neg (show ¬ (e.Kind = 0 ∨ e.Kind = 5 ∨ e.Kind = 6) by omega), if_neg (show ¬ e.Kind = 1 by omega), if_neg (show ¬ (e.Kind = 3 ∨ e.Kind = 4) by omega), Bool.and_false]
 rw [if_neg r6]
 generalize (j6 e.Val && decide (e.Deps.length = 0)) = z at Z ⊢
 by_cases k1 : e.Kind = 1
 ·rw [if_pos k1, if_neg (show ¬ e.Kind = 2 by omega), if_neg (show ¬ (e.Kind = 0 ∨ e.Kind = 5 ∨ e.Kind = 6) by omega), if_pos k1]
  cases hA : ye e.Addr with
  | false =>
   dsimp only
   rw [Bool.false_and, Bool.and_false]
   split <;> rfl
  | true =>
   have := hb hA
   rw [if_pos (show (0 : Int) < (e.Addr.length : Int) by omega)]
   dsimp only
   by_cases a1 : e.Act < 1
   ·rw [if_pos a1, decide_eq_false (by omega)]; simp
   ·rw [if_neg a1]
    by_cases a2 : 4 < e.Act
    ·rw [if_pos a2, decide_eq_false (by omega)]; simp
    ·rw [if_neg a2, decide_eq_true (show 1 <= e.Act ∧ e.Act <= 4 by omega)]; exact Z.trans (by simp)
 rw [if_neg k1]
 by_cases k2 : e.Kind = 2
 ·rw [if_pos k2, if_pos k2]
  cases hA : ye e.Addr with
  | false =>
   dsimp only
   split <;> rfl
  | true =>
   have := hb hA
   rw [if_pos (show (0 : Int) < (e.Addr.length : Int) by omega)]
   dsimp only
   by_cases ha : e.Act = 0
   ·rw [if_pos ha, zbp (by omega), oB, decide_eq_true ha]
    cases ku e.Val with
    | false => rfl
    | true =>
     dsimp only
     rw [show qk e.Deps = some (jX e.Deps) from if_pos (by omega)]
     simp
   ·rw [if_neg ha, decide_eq_false ha]; rfl
 rw [if_neg k2, if_neg k2]
 by_cases k3 : e.Kind = 3
 ·rw [if_pos k3, if_neg (show ¬ (e.Kind = 0 ∨ e.Kind = 5 ∨ e.Kind = 6) by omega), if_neg k1, if_pos (Or.inl k3)]
  cases hA : ye e.Addr with
  | false => dsimp only; rw [Bool.false_and, Bool.and_false]; split <;> rfl
  | true =>
   have := hb hA
   rw [if_pos (show (0 : Int) < (e.Addr.length : Int) by omega)]
   dsimp only
   by_cases ha : e.Act = 0
   ·rw [if_pos ha, decide_eq_true ha]; exact Z.trans (by simp)
   ·rw [if_neg ha, decide_eq_false ha]; simp
 rw [if_neg k3]
 by_cases k4 : e.Kind = 4
 ·rw [if_pos k4, if_neg (show ¬ (e.Kind = 0 ∨ e.Kind = 5 ∨ e.Kind = 6) by omega), if_neg k1, if_pos (Or.inr k4)]
  cases hA : ye e.Addr with
  | false => dsimp only; rw [Bool.false_and, Bool.and_false]; split <;> rfl
  | true =>
   have := hb hA
   rw [if_pos (show (0 : Int) < (e.Addr.length : Int) by omega)]
   dsimp only
   by_cases ha : e.Act = 0
   ·rw [if_pos ha, decide_eq_true ha]; exact Z.trans (by simp)
   ·rw [if_neg ha, decide_eq_false ha]; simp
 rw [if_neg k4, if_pos (show e.Kind = 0 ∨ e.Kind = 5 ∨ e.Kind = 6 by omega)]
 by_cases hl : e.Addr.length = 0
 ·rw [if_neg (by omega), decide_eq_true hl, Bool.true_and]
  by_cases ha : e.Act = 0
  ·rw [if_pos ha, decide_eq_true ha]; exact Z.trans (by simp)
  ·rw [if_neg ha, decide_eq_false ha]; simp
 ·rw [if_pos (by omega), decide_eq_false hl, Bool.false_and, Bool.and_false]
def MdS (s : GState) : Prop := s.Pending.length <= 2 ^ 63 - 1 ∧ s.Entries.length <= 2 ^ 63 - 1 ∧ W3 s.Entries
theorem zef {s : GState} {n : Int} (h : MdS s) (h0 : 0 <= n) (h1 : n <= 2 ^ 20) : Z9 s n = some (yY (ssz s) n) := by
 unfold Z9
 rw [YF h.1 h0 h1, oB]
 unfold yY ssz
 by_cases c1 : (s.Pending.length : Int) <= n
 ·rw [if_pos c1, if_neg (by omega)]
  unfold jK
  rw [if_pos ⟨h.2.1, h.2.2, by omega, by omega⟩, oB]
  unfold yY
  by_cases c2 : (yb s.Entries : Int) <= n - s.Pending.length
  ·rw [if_pos c2, if_neg (by omega), if_pos (by omega)]; congr 1; omega
  ·rw [if_neg c2, if_pos (by omega), if_neg (by omega)]
 ·rw [if_neg c1, if_pos (by omega), if_neg (by omega)]
theorem zeg {s : GState} (h : ssz s <= 2 ^ 20) : ZA s = some s := by
 unfold ssz at h
 unfold ZA yv jN
 rw [if_pos (by omega), oB, if_pos (by omega), oB]
 cases s; rfl
theorem zeh {s : GState} (h : ssz s <= 2 ^ 39) : ZI s s = some true := by
 unfold ssz at h
 unfold ZI yo
 rw [if_pos rfl]
 by_cases ho : s.Open = true
 ·rw [if_pos ho, if_pos ho, if_pos ⟨rfl, by omega⟩, oB]; dsimp only; rw [if_pos rfl, RX (by omega), oB]
 ·rw [if_neg ho, if_neg ho, if_pos ⟨rfl, by omega⟩, oB]; dsimp only; rw [if_pos rfl, RX (by omega), oB]
theorem jC (a : Int) (b : Bool) (c : List UInt8) (d : Int) (e : List GEntry) : (GState.mk a b c d e).Pending = c := rfl
theorem jD (a : Int) (b : Bool) (c : List UInt8) (d : Int) (e : List GEntry) : (GState.mk a b c d e).Entries = e := rfl
theorem Nl {a : List UInt8} : ∀ (l : List GEntry) (i : Nat), yR l a = true → ∃ k, Yk l a i = ((i + k : Nat) : Int) ∧ ∃ e, l[k]? = some e ∧ e.Addr = a
 | [], i, h => by simp [yR] at h
 | e :: l, i, h => by
  rw [Yk]
  by_cases he : e.Addr = a
  ·exact ⟨0, by rw [if_pos he]; rfl, e, rfl, he⟩
  ·have h' : yR l a = true := by
    unfold yR at h ⊢
    rw [List.any_cons, decide_eq_false he, Bool.false_or] at h
    exact h
   obtain ⟨k, h1, e', h2, h3⟩ := Nl l (i + 1) h'
   exact ⟨k + 1, by rw [if_neg he, h1]; congr 1; omega, e', by simpa using h2, h3⟩
theorem ZK {a : List (List UInt8)} : Asc a ↔ ∀ (i j : Nat) x y, i < j → a[i]? = some x → a[j]? = some y → Op.bytesLess x y = true := by
 constructor
 ·intro h i j x y hij hi hj
  obtain ⟨hi1, hi2⟩ := oE hi
  obtain ⟨hj1, hj2⟩ := oE hj
  have := h i j hj1 hij
  rw [hi2, hj2] at this
  exact this
 ·intro h i j hj hij
  exact h i j _ _ hij (List.getElem?_eq_getElem _) (List.getElem?_eq_getElem _)
theorem ZL {a : List (List UInt8)} {x : List UInt8} {c : Nat} (h : kP a x c) {i : Nat} {y : List UInt8} (hi : a[i]? = some y) : i < c ↔ Op.bytesLess y x = true := by
 obtain ⟨hi1, hi2⟩ := oE hi
 rw [<- hi2]
 exact h.2 i hi1
theorem zbr {a : List (List UInt8)} (ha : Asc a) {x : List UInt8} {c : Nat} (h : kP a x c) {j : Nat} {y : List UInt8} (hj : a[j]? = some y) (hc : c <= j) (hne : c = j → y ≠ x) : Op.bytesLess x y = true := by
 rcases W8 x y with h1 | h1 | h1
 ·exact h1
 ·exfalso
  have hcj : c ≠ j := fun e => hne e h1.symm
  have hjl := (oE hj).1
  have hcl : c < a.length := by omega
  have h2 := ZK.1 ha c j _ _ (by omega) (List.getElem?_eq_getElem hcl) hj
  rw [<- h1] at h2
  have := (ZL h (List.getElem?_eq_getElem hcl)).2 h2
  omega
 ·have := (ZL h hj).2 h1
  omega
theorem Gv {a : List (List UInt8)} (ha : Asc a) {x : List UInt8} {c : Nat} (h : kP a x c) (hne : a[c]? ≠ some x) : Asc (yM a c x) := by
 refine ZK.2 fun i j u v hij hi hj => ?_
 rw [WU a c x h.1] at hi hj
 have A := ZK.1 ha
 by_cases h1 : j < c
 ·rw [if_pos h1] at hj; rw [if_pos (by omega)] at hi
  exact A i j u v hij hi hj
 rw [if_neg h1] at hj
 by_cases h2 : j = c
 ·rw [if_pos h2] at hj; rw [if_pos (by omega)] at hi
  injection hj with hj
  subst hj
  exact (ZL h hi).1 (by omega)
 rw [if_neg h2] at hj
 by_cases h3 : i < c
 ·rw [if_pos h3] at hi
  exact A i (j - 1) u v (by omega) hi hj
 rw [if_neg h3] at hi
 by_cases h4 : i = c
 ·rw [if_pos h4] at hi
  injection hi with hi
  subst hi
  exact zbr ha h hj (by omega) fun e he => hne (by rw [e, hj, he])
 ·rw [if_neg h4] at hi
  exact A (i - 1) (j - 1) u v (by omega) hi hj
theorem zbs {a : List (List UInt8)} (ha : Asc a) {c : Nat} (hc : c < a.length) : Asc (qd a c) := by
 refine ZK.2 fun i j u v hij hi hj => ?_
 rw [MK a c hc] at hi hj
 have A := ZK.1 ha
 by_cases h1 : j < c
 ·rw [if_pos h1] at hj; rw [if_pos (by omega)] at hi
  exact A i j u v hij hi hj
 rw [if_neg h1] at hj
 by_cases h3 : i < c
 ·rw [if_pos h3] at hi
  exact A i (j + 1) u v (by omega) hi hj
 ·rw [if_neg h3] at hi
  exact A (i + 1) (j + 1) u v (by omega) hi hj
theorem VZ {e : GEntry} : ∀ {l : List GEntry}, (∀ x ∈ l, Op.bytesLess e.Addr x.Addr = true) → vO e true l = l
 | [], _ => rfl
 | x :: l, h => by
  rw [vO, h x List.mem_cons_self, cond_true, cond_true, VZ fun y hy => h y (List.mem_cons_of_mem _ hy)]
theorem Dd {a b : List UInt8} (h : Op.bytesLess a b = true) : Op.bytesLess b a = false := by
 cases hb : Op.bytesLess b a with
 | false => rfl
 | true => have := vt h hb; rw [Zy] at this; cases this
theorem O2 {e : GEntry} : ∀ {l : List GEntry} {c : Nat}, Asc (l.map GEntry.Addr) → kP (l.map GEntry.Addr) e.Addr c → vO e false l = if (l.map GEntry.Addr)[c]? = some e.Addr then l.set c e else yM l c e
 | [], c, _, hp => by
  have := hp.1
  simp only [List.map_nil, List.length_nil] at this
  obtain rfl : c = 0 := by omega
  rfl
 | x :: l, c, ha, hp => by
  have hal : Asc (l.map GEntry.Addr) := ZK.2 fun i j u v hij hi hj => ZK.1 ha (i + 1) (j + 1) u v (by omega) (by simpa using hi) (by simpa using hj)
  have hx : ∀ y ∈ l, Op.bytesLess x.Addr y.Addr = true := fun y hy => by
   obtain ⟨j, hj⟩ := List.mem_iff_getElem?.1 hy
   exact ZK.1 ha 0 (j + 1) _ _ (by omega) rfl (by simp [hj])
  have h0 : 0 < c ↔ Op.bytesLess x.Addr e.Addr = true := ZL hp (by rfl)
  cases c with
  | zero =>
   have hn : Op.bytesLess x.Addr e.Addr = false := by
    cases hq : Op.bytesLess x.Addr e.Addr with
    | false => rfl
    | true => have := h0.2 hq; omega
   rw [vO, hn]
   rcases W8 e.Addr x.Addr with h1 | h1 | h1
   ·rw [h1]
    simp only [cond_true, cond_false]
    rw [VZ fun y hy => vt h1 (hx y hy), if_neg]
    ·rfl
    ·simp only [List.map_cons, List.getElem?_cons_zero, oS]
     intro he
     rw [he, Zy] at h1; cases h1
   ·rw [h1, Zy]
    simp only [cond_false]
    rw [VZ fun y hy => by rw [h1]; exact hx y hy, if_pos (by simp)]
    rfl
   ·rw [hn] at h1; cases h1
  | succ c =>
   have hl : Op.bytesLess x.Addr e.Addr = true := h0.1 (by omega)
   have hpl : kP (l.map GEntry.Addr) e.Addr c := by
    refine ⟨by have := hp.1; simp only [List.map_cons, List.length_cons] at this; omega, fun k hk => ?_⟩
    have h1 := ZL hp (i := k + 1) (y := (l.map GEntry.Addr)[k]) (by rw [List.map_cons, List.getElem?_cons_succ]; exact List.getElem?_eq_getElem hk)
    rw [<- h1]
    omega
   rw [vO, Dd hl, hl]
   simp only [cond_true, cond_false]
   rw [O2 hal hpl]
   simp only [List.map_cons, List.getElem?_cons_succ]
   split
   ·rfl
   ·rfl
theorem Ke {α : Type} {l : List α} {c : Nat} {x : α} (h : l[c]? = some x) : l.set c x = l := by
 apply List.ext_getElem?
 intro i
 rw [List.getElem?_set]
 split
 ·rename_i hi
  subst hi
  have := (oE h).1
  rw [if_pos this, h]
 ·rfl
theorem Nm {l : List GEntry} {c : Nat} {e : GEntry} (h : (l.map GEntry.Addr)[c]? = some e.Addr) : (l.set c e).map GEntry.Addr = l.map GEntry.Addr := by
 rw [List.map_set]
 exact Ke h
theorem Ra {l : List GEntry} {c : Nat} {e : GEntry} : (yM l c e).map GEntry.Addr = yM (l.map GEntry.Addr) c e.Addr := by simp [yM, List.map_take, List.map_drop]
theorem Nn {l : List GEntry} {c : Nat} : (qd l c).map GEntry.Addr = qd (l.map GEntry.Addr) c := by simp [qd, List.map_take, List.map_drop]
theorem Qh : ∀ (a b : List GEntry), yb (a ++ b) = yb a + yb b
 | [], b => by simp [yb]
 | x :: a, b => by simp only [List.cons_append, yb, Qh a b]; omega
theorem TP (l : List GEntry) (c : Nat) : yb l = yb (l.take c) + yb (l.drop c) := by
 rw [<- Qh, List.take_append_drop]
theorem Np (l : List GEntry) (c : Nat) (e : GEntry) : yb (yM l c e) = yb l + 1 + esz e := by
 unfold yM
 rw [Qh, Qh, TP l c]
 simp only [yb]; omega
theorem B2 (l : List GEntry) (c : Nat) : yb (qd l c) <= yb l := by
 unfold qd
 have h1 := TP l c
 have h2 := TP (l.drop c) 1
 rw [List.drop_drop] at h2
 rw [Qh]
 omega
theorem Nq : ∀ (l : List GEntry) (c : Nat) (e : GEntry), yb (l.set c e) <= yb l + esz e
 | [], c, e => by simp [yb]
 | x :: l, 0, e => by simp only [List.set_cons_zero, yb]; omega
 | x :: l, c + 1, e => by have := Nq l c e; simp only [List.set_cons_succ, yb]; omega
def stI (s : GState) : Prop := 0 <= s.Serial ∧ s.Serial <= 1000000 ∧ Asc (s.Entries.map GEntry.Addr) ∧ (s.Pending ≠ [] → s.Open = true ∧ yR s.Entries s.Pending = decide (s.Act ≠ 1))
theorem Pm {s : GState} (h : stB s = true) : stI s := by
 unfold stB at h
 simp only [Bool.and_eq_true, decide_eq_true_eq] at h
 obtain ⟨⟨⟨h1, h2, _⟩, h3⟩, h4⟩ := h
 refine ⟨h1, h2, N4 h3, fun hp => ?_⟩
 unfold LT at h4
 rw [if_neg hp] at h4
 simp only [Bool.and_eq_true, beq_iff_eq] at h4
 exact ⟨h4.1.1.1, h4.2⟩
def Xb (s : GState) (e : GEvent) : Bool :=
 if s.Serial = 1000000 then false
 else if e.Kind = 0 then !s.Open
 else if e.Kind = 1 then s.Open && decide (s.Pending = []) && (yR s.Entries e.Addr == decide (e.Act ≠ 1)) && (yR s.Entries e.Addr || decide (s.Entries.length < 16))
 else if e.Kind = 2 then decide (s.Pending = e.Addr) && decide (s.Act ≠ 4)
 else if e.Kind = 3 then decide (s.Pending = e.Addr) && decide (s.Act = 4)
 else if e.Kind = 4 then decide (s.Pending = e.Addr)
 else if e.Kind = 5 then s.Open && decide (s.Pending = [])
 else s.Open
theorem Pn {e : GEvent} (h : evB e = true) (hk : e.Kind = 1 ∨ e.Kind = 2 ∨ e.Kind = 3 ∨ e.Kind = 4) : e.Addr ≠ [] := by
 intro he
 have ha : ye e.Addr = false := by rw [he]; decide
 unfold evB at h
 rw [ha] at h
 rcases hk with hk | hk | hk | hk <;> simp [hk] at h
theorem X0 {a : List UInt8} : ((a.length : Int) = 0) ↔ a = [] := by
 constructor
 ·intro h; exact List.eq_nil_of_length_eq_zero (by omega)
 ·rintro rfl; rfl
theorem Gw {a : List UInt8} : (0 < (a.length : Int)) ↔ a ≠ [] := by
 constructor
 ·rintro h rfl; simp at h
 ·intro h
  have : a.length ≠ 0 := fun e => h (List.eq_nil_of_length_eq_zero e)
  omega
theorem B3 {s : GState} {e : GEvent} (hI : stI s) (he : evB e = true) (hl : s.Entries.length <= 2 ^ 40) : YR s e = some (Xb s e) := by
 unfold YR Xb wj
 have hs := hI.2.1
 by_cases h0 : s.Serial = 1000000
 ·rw [if_pos (by omega), if_pos h0]
 rw [if_neg (by omega), if_neg h0]
 by_cases k0 : e.Kind = 0
 ·rw [if_pos k0, if_pos k0]
 rw [if_neg k0, if_neg k0]
 by_cases k1 : e.Kind = 1
 ·rw [if_pos k1, if_pos k1, if_pos hl, oB]
  have hh := V1 s.Entries e.Addr 0
  have hp := @Gw s.Pending
  cases s.Open with
  | false => rfl
  | true =>
   dsimp only
   by_cases q : s.Pending = []
   ·rw [if_neg (fun h => hp.1 h q), decide_eq_true q]
    by_cases a1 : e.Act = 1
    ·rw [if_pos a1, decide_eq_false (p := e.Act ≠ 1) (by omega)]
     cases hb : yR s.Entries e.Addr with
     | true => rw [if_pos (hh.2 hb)]; rfl
     | false => rw [if_neg (fun h => by rw [hh.1 h] at hb; cases hb)]; simp; omega
    ·rw [if_neg a1, decide_eq_true (p := e.Act ≠ 1) a1]
     cases hb : yR s.Entries e.Addr with
     | true => rw [if_pos (hh.2 hb)]; rfl
     | false => rw [if_neg (fun h => by rw [hh.1 h] at hb; cases hb)]; simp
   ·rw [if_pos (hp.2 q), decide_eq_false q]; rfl
 rw [if_neg k1, if_neg k1]
 have hp := @Gw s.Pending
 by_cases k2 : e.Kind = 2
 ·rw [if_pos k2, if_pos k2]
  have hne := Pn he (.inr (.inl k2))
  by_cases q : s.Pending = []
  ·rw [if_neg (fun h => hp.1 h q), decide_eq_false (fun h => hne (by rw [<- h, q]))]; rfl
  ·rw [if_pos (hp.2 q)]
   by_cases q2 : s.Pending = e.Addr
   ·rw [if_pos q2, decide_eq_true q2]; by_cases a4 : s.Act = 4 <;> simp [a4]
   ·rw [if_neg q2, decide_eq_false q2]; rfl
 rw [if_neg k2, if_neg k2]
 by_cases k3 : e.Kind = 3
 ·rw [if_pos k3, if_pos k3]
  have hne := Pn he (.inr (.inr (.inl k3)))
  by_cases q : s.Pending = []
  ·rw [if_neg (fun h => hp.1 h q), decide_eq_false (fun h => hne (by rw [<- h, q]))]; rfl
  ·rw [if_pos (hp.2 q)]
   by_cases q2 : s.Pending = e.Addr
   ·rw [if_pos q2, decide_eq_true q2]; rfl
   ·rw [if_neg q2, decide_eq_false q2]; rfl
 rw [if_neg k3, if_neg k3]
 by_cases k4 : e.Kind = 4
 ·rw [if_pos k4, if_pos k4]
  have hne := Pn he (.inr (.inr (.inr k4)))
  by_cases q : s.Pending = []
  ·rw [if_neg (fun h => hp.1 h q), decide_eq_false (fun h => hne (by rw [<- h, q]))]
  ·rw [if_pos (hp.2 q)]
 rw [if_neg k4, if_neg k4]
 by_cases k5 : e.Kind = 5
 ·rw [if_pos k5, if_pos k5]
  cases s.Open with
  | false => rfl
  | true =>
   dsimp only
   by_cases q : s.Pending = []
   ·rw [decide_eq_false (fun h => hp.1 h q), decide_eq_true q]; rfl
   ·rw [decide_eq_true (hp.2 q), decide_eq_false q]; rfl
 ·rw [if_neg k5, if_neg k5]
theorem Nr {s : GState} {a : List UInt8} (hl : s.Entries.length <= 2 ^ 40) (hA : Asc (s.Entries.map GEntry.Addr)) : ∃ c : Nat, kP (s.Entries.map GEntry.Addr) a c ∧ yh s a = some ((c : Int), yR s.Entries a) ∧ (yR s.Entries a = true ↔ (s.Entries.map GEntry.Addr)[c]? = some a) := by
 unfold yh
 obtain ⟨c, hp, hc⟩ := EU (a := s.Entries) (x := a) hl hA
 rw [hc]
 exact ⟨c, hp, rfl, Ys.trans (kP.mem hA hp).symm⟩
theorem OY {s : GState} {e : GEvent} (hI : stI s) (hl : s.Entries.length <= 2 ^ 40) : kr s e = some (Xb s e) := by
 unfold kr Xb xt
 obtain ⟨c, hp, hc, _⟩ := Nr (a := e.Addr) hl hI.2.2.1
 rw [hc, oB]
 dsimp only
 by_cases h0 : s.Serial = 1000000
 ·rw [if_pos h0, if_pos h0]
 rw [if_neg h0, if_neg h0]
 by_cases k0 : e.Kind = 0
 ·rw [if_pos k0, if_pos k0]
 rw [if_neg k0, if_neg k0]
 have hz := @X0 s.Pending
 by_cases k1 : e.Kind = 1
 ·rw [if_pos k1, if_pos k1]
  cases s.Open with
  | false => rfl
  | true =>
   dsimp only
   by_cases q : s.Pending = []
   ·rw [if_pos (hz.2 q), decide_eq_true q]
    by_cases a1 : e.Act = 1
    ·rw [decide_eq_false (p := e.Act ≠ 1) (by omega)]
     cases hb : yR s.Entries e.Addr with
     | true => rw [if_pos rfl, if_pos a1]; rfl
     | false => rw [if_neg (by decide), if_pos a1]; simp; omega
    ·rw [decide_eq_true (p := e.Act ≠ 1) a1]
     cases hb : yR s.Entries e.Addr with
     | true => rw [if_pos rfl, if_neg a1]; rfl
     | false => rw [if_neg (by decide), if_neg a1]; simp
   ·rw [if_neg (fun h => q (hz.1 h)), decide_eq_false q]; rfl
 rw [if_neg k1, if_neg k1]
 by_cases k2 : e.Kind = 2
 ·rw [if_pos k2, if_pos k2, oB]
  by_cases q : s.Pending = e.Addr
  ·rw [decide_eq_true q]; by_cases a4 : s.Act = 4 <;> simp [a4]
  ·rw [decide_eq_false q]; rfl
 rw [if_neg k2, if_neg k2]
 by_cases k3 : e.Kind = 3
 ·rw [if_pos k3, if_pos k3, oB]
  by_cases q : s.Pending = e.Addr
  ·rw [decide_eq_true q]; rfl
  ·rw [decide_eq_false q]; rfl
 rw [if_neg k3, if_neg k3]
 by_cases k4 : e.Kind = 4
 ·rw [if_pos k4, if_pos k4]; rfl
 rw [if_neg k4, if_neg k4]
 by_cases k5 : e.Kind = 5
 ·rw [if_pos k5, if_pos k5]
  cases s.Open with
  | false => rfl
  | true =>
   dsimp only
   by_cases q : s.Pending = []
   ·rw [decide_eq_true (hz.2 q), decide_eq_true q]; rfl
   ·rw [decide_eq_false (fun h => q (hz.1 h)), decide_eq_false q]; rfl
 ·rw [if_neg k5, if_neg k5]
theorem De {l : List GEntry} {c : Nat} {x : GEntry} (h : l[c]? = some x) (A : GEntry) (f : GEntry → GEntry) : (((l.set c A)[c]?).bind fun y => some ((l.set c A).set c (f y))) = some (l.set c (f A)) := by
 have hl := (oE h).1
 rw [List.getElem?_set_self (by simpa using hl), oB, List.set_set]
theorem Rt {l : List GEntry} {c : Nat} {a : List UInt8} (h : (l.map GEntry.Addr)[c]? = some a) : ∃ x, l[c]? = some x ∧ x.Addr = a := by
 rw [List.getElem?_map] at h
 obtain ⟨x, h1, h2⟩ := oM h
 exact ⟨x, h1, h2⟩
theorem O3 {l : List GEntry} {a : List UInt8} {c : Nat} (hA : Asc (l.map GEntry.Addr)) (h : (l.map GEntry.Addr)[c]? = some a) : Yk l a 0 = (c : Int) := by
 have hb : yR l a = true := Ys.2 (List.mem_of_getElem? h)
 obtain ⟨k, h1, e, h2, h3⟩ := Nl l 0 hb
 rw [Nat.zero_add] at h1
 have hk : (l.map GEntry.Addr)[k]? = some a := by rw [List.getElem?_map, h2, Option.map_some, h3]
 have A := ZK.1 hA
 have : k = c := by
  rcases Nat.lt_trichotomy k c with h4 | h4 | h4
  ·have := A k c a a h4 hk h; rw [Zy] at this; cases this
  ·exact h4
  ·have := A c k a a h4 h hk; rw [Zy] at this; cases this
 rw [h1, this]
def tnE (ser : Int) (x : GEntry) : GEntry := .mk x.Addr x.Val x.Deps true ser
def nwE (a : List UInt8) (ser : Int) : GEntry := .mk a (.mk 5 0 [] [] []) [] true ser
theorem zei (a : List UInt8) (ser : Int) : esz (nwE a ser) = a.length := by
 show a.length + vsz (.mk 5 0 [] [] []) + bsz [] = a.length
 rw [show vsz (.mk 5 0 [] [] []) = 0 from rfl, show bsz [] = 0 from rfl]; rfl
theorem Gx {l : List GEntry} {c : Nat} (hc : c <= l.length) (hl : l.length <= 1048576) (x : GEntry) : wE (c : Int) l [x] = some (yM l c x) := by
 show (if 0 <= (c : Int) ∧ (c : Int) <= (l.length : Int) ∧ l.length <= 1048576 then some (yM l (c : Int).toNat x) else none) = _
 rw [if_pos ⟨by omega, by omega, hl⟩, Int.toNat_natCast]
theorem zbt {l : List GEntry} {c : Nat} (hc : c < l.length) (hl : l.length <= 1048576) : wF (c : Int) (((c + 1 : Nat) : Int)) l = some (qd l c) := by
 unfold wF
 rw [if_pos ⟨by omega, by omega, by omega, hl⟩, Int.toNat_natCast]
theorem Gy {l : List GEntry} {c : Nat} (hc : c <= l.length) (x y : GEntry) : (yM l c x).set c y = yM l c y := by
 apply List.ext_getElem?
 intro m
 rw [List.getElem?_set, WU l c x hc, WU l c y hc]
 have hlen : (yM l c x).length = l.length + 1 := by simp [yM]; omega
 by_cases h : c = m
 ·subst h
  rw [if_pos rfl, if_pos (by omega), if_neg (by omega), if_pos rfl]
 ·rw [if_neg h]
  by_cases h1 : m < c
  ·rw [if_pos h1, if_pos h1]
  ·rw [if_neg h1, if_neg h1, if_neg (Ne.symm h), if_neg (Ne.symm h)]
theorem Gz {l : List GEntry} {c : Nat} {x : GEntry} (h : l[c]? = some x) (f : GEntry → GEntry) : l.modify c f = l.set c (f x) := by
 apply List.ext_getElem?
 intro i
 rw [List.getElem?_modify, List.getElem?_set]
 have hl := (oE h).1
 by_cases hi : c = i
 ·subst hi; rw [if_pos rfl, if_pos hl, h]; simp
 ·rw [if_neg hi]; simp [hi]
theorem Ns {b : Bool} {ser : Int} {op : Bool} {act : Int} {a : List UInt8} {l : List GEntry} {c : Nat} (hl : l.length <= 1048576) (hal : a.length <= 2 ^ 38) (hA : Asc (l.map GEntry.Addr)) (hp : kP (l.map GEntry.Addr) a c) :
  qC b ser op act a l = some (.mk ser op a act (if a = [] then l else if yR l a = true then l.modify c (tnE ser) else if b = true then yM l c (nwE a ser) else l)) := by
 unfold qC
 by_cases ha : a = []
 ·rw [if_pos (X0.2 ha), if_pos ha]
 rw [if_neg (fun h => ha (X0.1 h)), if_neg ha]
 obtain ⟨c', hp', hc, hb⟩ := Nr (s := GState.mk ser op a act l) (a := a) (by show l.length <= _; omega) hA
 change kP (l.map GEntry.Addr) a c' at hp'
 change yR l a = true ↔ (l.map GEntry.Addr)[c']? = some a at hb
 change yh (GState.mk ser op a act l) a = some ((c' : Int), yR l a) at hc
 have hcc : c' = c := by
  have h1 := hp.1; have h2 := hp'.1
  rcases Nat.lt_trichotomy c' c with h | h | h
  ·have := (ZL hp' (i := c') (List.getElem?_eq_getElem (by omega))).2 ((ZL hp (i := c') (List.getElem?_eq_getElem (by omega))).1 h); omega
  ·exact h
  ·have := (ZL hp (i := c) (List.getElem?_eq_getElem (by omega))).2 ((ZL hp' (i := c) (List.getElem?_eq_getElem (by omega))).1 h); omega
 subst hcc
 have hcl : c' <= l.length := by have := hp.1; rwa [List.length_map] at this
 rw [hc, oB]
 try dsimp only
 cases hh : yR l a with
 | true =>
  obtain ⟨x, hx, hxa⟩ := Rt (hb.1 hh)
  try dsimp only
  rw [zb, oB, hx, oB, if_pos rfl]
  have := De hx (GEntry.mk x.Addr x.Val x.Deps true x.Turned) (fun x5 => GEntry.mk x5.Addr x5.Val x5.Deps x5.Taint ser)
  have hl2 := (oE hx).1
  rw [List.getElem?_set_self (by simpa using hl2), oB, List.set_set, Gz hx]
  rfl
 | false =>
  rw [if_neg (by decide)]
  try dsimp only
  cases b with
  | false => rfl
  | true =>
   try dsimp only
   unfold zQ
   rw [if_pos (xF (by decide) (by omega)), oB, Gx hcl hl, oB, zb, oB]
   have hg : ∀ x, (yM l c' x)[c']? = some x := fun x => by rw [WU l c' x hcl, if_neg (by omega), if_pos rfl]
   rw [hg, oB, Gy hcl, hg, oB, Gy hcl, if_pos rfl]
   rfl
theorem Nt {l : List GEntry} {c : Nat} {ser : Int} : (l.modify c (tnE ser)).map GEntry.Addr = l.map GEntry.Addr := by
 apply List.ext_getElem?
 intro i
 rw [List.getElem?_map, List.getElem?_map, List.getElem?_modify]
 split <;> cases l[i]? <;> rfl
theorem TQ {ser : Int} : ∀ (l : List GEntry) (c : Nat), yb (l.modify c (tnE ser)) = yb l
 | [], c => by simp [yb]
 | x :: l, 0 => by simp only [List.modify_zero_cons, yb]; rfl
 | x :: l, c + 1 => by simp only [List.modify_succ_cons, yb, TQ l c]
theorem zbu {s : GState} {e : GEvent} (hI : stI s) (he : evB e = true) (hm : Xb s e = true) (hz : ssz s + xg e <= 2 ^ 36) (hl : s.Entries.length <= 1048576) :
  ∃ s', vK e s = some s' ∧ wM s e = some (s', true) ∧ stI s' ∧ ssz s' <= ssz s + xg e + 1 ∧ s'.Entries.length <= s.Entries.length + 1 := by
 have hI0 := hI
 obtain ⟨i1, i2, i3, i4⟩ := hI
 have hser : s.Serial < 1000000 := by
  rcases Int.lt_or_le s.Serial 1000000 with h | h
  ·exact h
  ·unfold Xb at hm; rw [if_pos (by omega)] at hm; cases hm
 have hw : w64 (s.Serial + 1) = s.Serial + 1 := zW (by omega) (by omega)
 have hcp : yD s = some s := if_pos (by omega)
 have hft := OY (e := e) hI0 (by omega)
 rw [hm] at hft
 unfold ssz xg at *
 have hroom : ∀ n, n <= 1048577 → yl 152 n := fun n hn => jl (by omega)
 unfold vK wM
 rw [hcp, oB, hft, oB, hw]
 dsimp only
 obtain ⟨c, hp, hc, hb⟩ := Nr (s := GState.mk (s.Serial + 1) s.Open s.Pending s.Act s.Entries) (a := e.Addr) (by show s.Entries.length <= _; omega) i3
 change kP (s.Entries.map GEntry.Addr) e.Addr c at hp
 change yR s.Entries e.Addr = true ↔ (s.Entries.map GEntry.Addr)[c]? = some e.Addr at hb
 change yh (GState.mk (s.Serial + 1) s.Open s.Pending s.Act s.Entries) e.Addr = some ((c : Int), yR s.Entries e.Addr) at hc
 have hcl : c <= s.Entries.length := by have := hp.1; rwa [List.length_map] at this
 rw [hc, oB]
 dsimp only
 unfold wj
 rw [if_pos (by show s.Entries.length <= _; omega), oB, show (GState.mk (s.Serial + 1) s.Open s.Pending s.Act s.Entries).Entries = s.Entries from rfl]
 unfold Xb at hm
 rw [if_neg (by omega)] at hm
 have hdone : ∀ (l : List GEntry) (o : Bool), Asc (l.map GEntry.Addr) → stI (GState.mk (s.Serial + 1) o [] 0 l) := fun l o h => ⟨by show (0 : Int) <= s.Serial + 1; omega, by show s.Serial + 1 <= 1000000; omega, h, fun h => absurd rfl h⟩
 by_cases k0 : e.Kind = 0
 ·rw [if_pos k0, if_pos k0]
  refine ⟨_, rfl, rfl, ⟨by show (0 : Int) <= s.Serial + 1; omega, by show s.Serial + 1 <= 1000000; omega, i3, fun h => ⟨rfl, (i4 h).2⟩⟩, by (try simp only [jC, jD]); omega, by (try simp only [jC, jD]); omega⟩
 rw [if_neg k0, if_neg k0]
 rw [if_neg k0] at hm
 by_cases k1 : e.Kind = 1
 ·rw [if_pos k1, if_pos k1]
  rw [if_pos k1] at hm
  simp only [Bool.and_eq_true, decide_eq_true_eq, beq_iff_eq] at hm
  unfold zQ
  rw [if_pos (xF (by decide) (by omega)), oB]
  refine ⟨_, rfl, rfl, ⟨by show (0 : Int) <= s.Serial + 1; omega, by show s.Serial + 1 <= 1000000; omega, i3, fun h => ⟨hm.1.1.1, hm.1.2⟩⟩, by (try simp only [jC, jD]); omega, by (try simp only [jC, jD]); omega⟩
 rw [if_neg k1, if_neg k1]
 rw [if_neg k1] at hm
 by_cases k2 : e.Kind = 2
 ·rw [if_pos k2, if_pos k2]
  rw [if_pos k2] at hm
  simp only [Bool.and_eq_true, decide_eq_true_eq] at hm
  unfold zQ yW yx jv
  rw [if_pos (xF (by decide) (by omega)), oB, if_pos (by omega), oB, if_pos (by omega), oB, if_pos (by omega), oB]
  have hpe : vO (GEntry.mk e.Addr e.Val e.Deps false (s.Serial + 1)) false s.Entries = if (s.Entries.map GEntry.Addr)[c]? = some e.Addr then s.Entries.set c (GEntry.mk e.Addr e.Val e.Deps false (s.Serial + 1)) else yM s.Entries c (GEntry.mk e.Addr e.Val e.Deps false (s.Serial + 1)) := O2 (e := GEntry.mk e.Addr e.Val e.Deps false (s.Serial + 1)) i3 hp
  rw [hpe]
  cases hh : yR s.Entries e.Addr with
  | true =>
   have hk := hb.1 hh
   obtain ⟨x, hx, hxa⟩ := Rt hk
   dsimp only
   rw [zb, oB, hx, oB, if_pos hk]
   refine ⟨_, rfl, rfl, hdone _ _ (by rw [Nm (by exact hk)]; exact i3), ?_, by (try simp only [jC, jD]); rw [List.length_set]; omega⟩
   have h1 := Nq s.Entries c (GEntry.mk e.Addr e.Val e.Deps false (s.Serial + 1))
   have h2 : esz (GEntry.mk e.Addr e.Val e.Deps false (s.Serial + 1)) = e.Addr.length + vsz e.Val + bsz e.Deps := rfl
   try simp only [jC, jD]
   try simp only [List.length_nil]
   omega
  | false =>
   have hk : ¬ (s.Entries.map GEntry.Addr)[c]? = some e.Addr := fun h => by rw [hb.2 h] at hh; cases hh
   dsimp only
   rw [Gx hcl hl, oB, if_neg hk]
   refine ⟨_, rfl, rfl, hdone _ _ (by rw [Ra]; exact Gv i3 hp hk), ?_, by (try simp only [jC, jD]); simp [yM]; omega⟩
   have h1 := Np s.Entries c (GEntry.mk e.Addr e.Val e.Deps false (s.Serial + 1))
   have h2 : esz (GEntry.mk e.Addr e.Val e.Deps false (s.Serial + 1)) = e.Addr.length + vsz e.Val + bsz e.Deps := rfl
   try simp only [jC, jD]
   try simp only [List.length_nil]
   omega
 rw [if_neg k2, if_neg k2]
 rw [if_neg k2] at hm
 by_cases k3 : e.Kind = 3
 ·rw [if_pos k3, if_pos k3]
  rw [if_pos k3] at hm
  simp only [Bool.and_eq_true, decide_eq_true_eq] at hm
  have hne := Pn he (.inr (.inr (.inl k3)))
  have hh : yR s.Entries e.Addr = true := by
   have := (i4 (by rw [hm.1]; exact hne)).2
   rw [<- hm.1, this, decide_eq_true]; omega
  have hk := hb.1 hh
  have hcl2 : c < s.Entries.length := by have := (oE hk).1; rwa [List.length_map] at this
  rw [hm.1, O3 i3 hk, zb, oB, zH (by omega), zb]
  unfold wl
  rw [show va none (some c) s.Entries.length = some (0, c) by unfold va; simp; omega, Option.map_some, oB]
  rw [if_pos (hroom _ (by simp; omega)), oB, show va (some (c + 1)) none s.Entries.length = some (c + 1, s.Entries.length) by unfold va; simp; omega, Option.map_some, oB]
  rw [if_pos (hroom _ (by simp; omega)), zbt hcl2 hl, oB]
  refine ⟨_, rfl, ?_, hdone _ _ ?_, ?_, ?_⟩
  ·simp [qd]
  ·have := zbs i3 (c := c) (by rwa [List.length_map])
   rw [<- Nn] at this
   simpa [qd] using this
  ·have := B2 s.Entries c
   have h2 : ∀ L : List GEntry, L = qd s.Entries c → yb L <= yb s.Entries := fun L h => by rw [h]; exact this
   have := h2 (List.drop 0 (List.take c s.Entries) ++ List.drop (c + 1) (List.take s.Entries.length s.Entries)) (by simp [qd])
   try simp only [jC, jD]
   try simp only [List.length_nil]
   omega
  ·(try simp only [jC, jD]); simp; omega
 rw [if_neg k3, if_neg k3]
 rw [if_neg k3] at hm
 obtain ⟨c2, hp2⟩ := kP.of i3 s.Pending
 have hcl2 : c2 <= s.Entries.length := by have := hp2.1; rwa [List.length_map] at this
 have hmem := kP.mem i3 hp2
 have hsp : ∀ (o : Bool) (x : GEntry), s.Entries[c2]? = some x → ((zv (c2 : Int)).bind fun i10 => (s.Entries[i10]?).bind fun x11 => ((s.Entries.set i10 (GEntry.mk x11.Addr x11.Val x11.Deps true x11.Turned))[i10]?).bind fun x12 => some (GState.mk (s.Serial + 1) o [] 0 ((s.Entries.set i10 (GEntry.mk x11.Addr x11.Val x11.Deps true x11.Turned)).set i10 (GEntry.mk x12.Addr x12.Val x12.Deps x12.Taint (s.Serial + 1))))) =
   some (GState.mk (s.Serial + 1) o [] 0 (s.Entries.modify c2 (tnE (s.Serial + 1)))) := fun o x hx => by
  have hl2 := (oE hx).1
  rw [zb, oB, hx, oB, List.getElem?_set_self (by simpa using hl2), oB, List.set_set, Gz hx]
  rfl
 by_cases k4 : e.Kind = 4
 ·rw [if_pos k4, if_pos k4]
  rw [if_pos k4] at hm
  simp only [decide_eq_true_eq] at hm
  have hne := Pn he (.inr (.inr (.inr k4)))
  have hpn : s.Pending ≠ [] := by rw [hm]; exact hne
  rw [Ns hl (by omega) i3 hp2, oB, if_neg hpn, if_neg (fun h => hpn (X0.1 h)), (i4 hpn).1]
  cases hh : yR s.Entries s.Pending with
  | true =>
   have hk := hmem.2 (Ys.1 hh)
   obtain ⟨x, hx, _⟩ := Rt hk
   rw [O3 i3 hk, if_pos (by omega), if_pos (hroom _ (by omega)), hsp true x hx]
   refine ⟨_, rfl, rfl, hdone _ _ (by rw [Nt]; exact i3), ?_, by (try simp only [jC, jD]); simp⟩
   try simp only [jC, jD]
   try simp only [List.length_nil]
   rw [TQ]
   omega
  | false =>
   rw [JK hh, if_neg (by decide)]
   refine ⟨_, rfl, rfl, hdone _ _ i3, ?_, by (try simp only [jC, jD]); simp⟩
   try simp only [jC, jD]
   try simp only [Bool.false_eq_true, if_false]
   try simp only [List.length_nil]
   omega
 rw [if_neg k4, if_neg k4]
 rw [if_neg k4] at hm
 by_cases k6 : e.Kind = 6
 ·rw [if_pos k6, if_pos k6]
  rw [Ns hl (by omega) i3 hp2, oB]
  by_cases hpn : s.Pending = []
  ·rw [if_pos hpn, if_pos (X0.2 hpn)]
   refine ⟨_, rfl, rfl, hdone _ _ i3, ?_, by (try simp only [jC, jD]); omega⟩
   try simp only [jC, jD]
   try simp only [List.length_nil]
   omega
  rw [if_neg hpn, if_neg (fun h => hpn (X0.1 h))]
  cases hh : yR s.Entries s.Pending with
  | true =>
   have hk := hmem.2 (Ys.1 hh)
   obtain ⟨x, hx, _⟩ := Rt hk
   rw [O3 i3 hk, if_pos (by omega), if_pos (hroom _ (by omega)), hsp false x hx]
   refine ⟨_, rfl, rfl, hdone _ _ (by rw [Nt]; exact i3), ?_, by (try simp only [jC, jD]); simp⟩
   try simp only [jC, jD]
   try simp only [List.length_nil]
   rw [TQ]
   omega
  | false =>
   have hk : ¬ (s.Entries.map GEntry.Addr)[c2]? = some s.Pending := fun h => by rw [Ys.2 (hmem.1 h)] at hh; cases hh
   unfold jv
   rw [JK hh, if_neg (by decide), if_pos (by omega), oB]
   rw [show vO (GEntry.mk s.Pending (GValue.mk 5 0 [] [] []) [] true (s.Serial + 1)) false s.Entries = yM s.Entries c2 (nwE s.Pending (s.Serial + 1)) by
    have : vO (nwE s.Pending (s.Serial + 1)) false s.Entries = if (s.Entries.map GEntry.Addr)[c2]? = some s.Pending then s.Entries.set c2 (nwE s.Pending (s.Serial + 1)) else yM s.Entries c2 (nwE s.Pending (s.Serial + 1)) := O2 (e := nwE s.Pending (s.Serial + 1)) i3 hp2
    rw [if_neg hk] at this
    exact this]
   refine ⟨_, rfl, rfl, hdone _ _ (by rw [Ra]; exact Gv i3 hp2 hk), ?_, by (try simp only [jC, jD]); simp [yM]; omega⟩
   have h1 := Np s.Entries c2 (nwE s.Pending (s.Serial + 1))
   rw [zei] at h1
   try simp only [jC, jD]
   try simp only [List.length_nil]
   omega
 rw [if_neg k6, if_neg k6]
 by_cases k5 : e.Kind = 5
 ·rw [if_pos k5, if_pos k5]
  refine ⟨_, rfl, rfl, hdone _ _ i3, ?_, by (try simp only [jC, jD]); omega⟩
  try simp only [jC, jD]
  try simp only [List.length_nil]
  omega
 ·exfalso
  unfold evB at he
  rw [if_neg k2, if_neg (by omega), if_neg k1, if_neg (by omega), Bool.and_false] at he
  cases he
def nxS (e : GEvent) (s : GState) : GState := (vK e s).getD s
def j0 : GState → List GEvent → GState × Bool
 | s, [] => (s, true)
 | s, e :: l => bif Xb s e then j0 (nxS e s) l else (s, false)
def QT : GState → List GEvent → List GState
 | _, [] => []
 | s, e :: l => nxS e s :: QT (nxS e s) l
def okS : GState → List GEvent → Bool
 | _, [] => true
 | s, e :: l => evB e && (Xb s e && okS (nxS e s) l)
theorem H8 {s : GState} {e : GEvent} (hI : stI s) (he : evB e = true) (hm : Xb s e = true) (hz : ssz s + xg e <= 2 ^ 20) : vK e s = some (nxS e s) ∧ wM s e = some (nxS e s, true) ∧ stI (nxS e s) ∧ ssz (nxS e s) <= ssz s + xg e + 1 := by
 have hlen := qy s.Entries
 obtain ⟨s', h1, h2, h3, h4, _⟩ := zbu hI he hm (by omega) (by unfold ssz at hz; omega)
 have : nxS e s = s' := by unfold nxS; rw [h1]; rfl
 rw [this]
 exact ⟨h1, h2, h3, h4⟩
theorem doN {s : GState} {e : GEvent} (hI : stI s) (hm : Xb s e = false) (hz : ssz s <= 2 ^ 20) : wM s e = some (s, false) := by
 have hlen := qy s.Entries
 have hft := OY (e := e) hI (by unfold ssz at hz; omega)
 rw [hm] at hft
 unfold wM
 rw [show yD s = some s from if_pos (by omega), oB, hft, oB]
theorem G0 : ∀ {l : List GEvent} {s : GState}, (∀ e ∈ l, evB e = true) → okS s l = (j0 s l).2
 | [], s, _ => rfl
 | e :: l, s, h => by
  rw [okS, j0, h e List.mem_cons_self, Bool.true_and, G0 fun x hx => h x (List.mem_cons_of_mem _ hx)]
  cases Xb s e <;> rfl
theorem Nu : ∀ {l : List GEvent} {s : GState}, okS s l = true → ∀ e ∈ l, evB e = true
 | [], _, _ => by simp
 | e :: l, s, h => by
  rw [okS, Bool.and_eq_true, Bool.and_eq_true] at h
  intro x hx
  rcases List.mem_cons.1 hx with rfl | hx
  ·exact h.1
  ·exact Nu h.2.2 x hx
theorem zej {m : Nat} (hm : m <= 2 ^ 39) : yl 72 m := xF (by decide) (by omega)
theorem OZ {h : GHistory} {k : Int} {v3 : Int} {v4 : Bool} {v5 : Int} {v7 : List UInt8} {v8 : List GEntry} : ∀ (l p r : List GEvent) (s : GState) (m : Nat), h.Events = p ++ l ++ r → k = ((p.length + l.length : Nat) : Int) → l.length < m → (∀ e ∈ l, evB e = true) → stI s → ssz s + zP l <= 2 ^ 20 → p.length + l.length <= 2 ^ 40 →
  ∃ z, ql k h v3 v4 v5 v7 v8 m (p.length : Int) s = some (bif (j0 s l).2 then .inr (z, (j0 s l).1) else .inl (false, (j0 s l).1)) := by
 intro l
 induction l with
 | nil =>
  intro p r s m _ hk hm _ _ _ _
  obtain ⟨m, rfl, _⟩ := zg hm
  exact ⟨_, by rw [ql, hk, if_neg (by simp)]; rfl⟩
 | cons e l ih =>
  intro p r s m he hk hm hev hI hz hp
  obtain ⟨m, rfl, hm'⟩ := zg hm
  simp only [List.length_cons] at hk hm' hp
  simp only [zP] at hz
  have hlen := qy s.Entries
  have hg : h.Events[p.length]? = some e := by rw [he, List.append_assoc]; exact zF p e (l ++ r)
  have hee := hev e List.mem_cons_self
  rw [ql, hk, if_pos (by omega), zb, oB, hg, oB, B3 hI hee (by unfold ssz at hz; omega), oB, j0]
  cases hmy : Xb s e with
  | false => exact ⟨0, rfl⟩
  | true =>
   obtain ⟨h1, _, h3, h4⟩ := H8 hI hee hmy (by omega)
   obtain ⟨z, hzz⟩ := ih (p ++ [e]) r (nxS e s) m (by rw [he]; simp) (by rw [hk]; simp; omega) (by omega) (fun x hx => hev x (List.mem_cons_of_mem _ hx)) h3 (by omega) (by simp; omega)
   refine ⟨z, ?_⟩
   dsimp only
   rw [h1, oB, y4 p e (by omega), <- hk, hzz]
   rfl
theorem B4 {h : GHistory} (hz : zP h.Events <= 2 ^ 20) : ∀ (l p : List GEvent) (m : Nat), h.Events = p ++ l → l.length < m → ∃ z, qm h m (p.length : Int) = some (bif l.all evB then .inr z else .inl false) := by
 have hl := qI h.Events
 intro l
 induction l with
 | nil =>
  intro p m he hm
  obtain ⟨m, rfl, _⟩ := zg hm
  exact ⟨_, by rw [qm, he, if_neg (by simp)]; rfl⟩
 | cons e l ih =>
  intro p m he hm
  obtain ⟨m, rfl, hm'⟩ := zg hm
  have hlen : h.Events.length = p.length + (l.length + 1) := by rw [he]; simp
  have hx : 1 + xg e <= zP h.Events := XR (by rw [he]; simp)
  obtain ⟨z, hzz⟩ := ih (p ++ [e]) m (by rw [he]; simp) (by simp only [List.length_cons] at hm'; omega)
  rw [qm, if_pos (by omega), zb, oB, show h.Events[p.length]? = some e by rw [he]; exact zF p e l, oB, Dc (by omega), oB, List.all_cons]
  cases evB e with
  | false => exact ⟨0, rfl⟩
  | true =>
   refine ⟨z, ?_⟩
   dsimp only
   rw [y4 p e (by omega), hzz, Bool.true_and]
def hsz (h : GHistory) : Nat := ssz h.Base + zP h.Events
def hOk (h : GHistory) : Bool := stB h.Base && (decide (h.Events.length <= 300) && (decide (0 <= h.Safe ∧ h.Safe <= h.Events.length) && okS h.Base h.Events))
theorem B5 {h : GHistory} (hz : hsz h <= 2 ^ 20) : vB h = some (hOk h) := by
 unfold hsz at hz
 have hl := qI h.Events
 unfold vB Yl hOk
 rw [EK (by omega), oB]
 cases hs : stB h.Base with
 | false => rfl
 | true =>
  dsimp only
  by_cases c1 : 300 < (h.Events.length : Int)
  ·rw [if_pos c1, decide_eq_false (p := h.Events.length <= 300) (by omega)]; rfl
  rw [if_neg c1, decide_eq_true (p := h.Events.length <= 300) (by omega)]
  by_cases c2 : h.Safe < 0
  ·rw [if_pos c2, decide_eq_false (p := 0 <= h.Safe ∧ h.Safe <= h.Events.length) (by omega)]; rfl
  rw [if_neg c2]
  by_cases c3 : (h.Events.length : Int) < h.Safe
  ·rw [if_pos c3, decide_eq_false (p := 0 <= h.Safe ∧ h.Safe <= h.Events.length) (by omega)]; rfl
  rw [if_neg c3, decide_eq_true (p := 0 <= h.Safe ∧ h.Safe <= h.Events.length) (by omega)]
  obtain ⟨z, hzz⟩ := B4 (h := h) (by omega) h.Events [] (h.Events.length + 5) rfl (by omega)
  simp only [List.length_nil, Int.natCast_zero] at hzz
  rw [hzz, oB]
  cases hall : h.Events.all evB with
  | false =>
   have : okS h.Base h.Events = false := by
    cases hk : okS h.Base h.Events with
    | false => rfl
    | true => rw [List.all_eq_true.2 (Nu hk)] at hall; cases hall
   rw [this]; rfl
  | true =>
   have hev := List.all_eq_true.1 hall
   simp only [cond_true]
   unfold qX vA
   obtain ⟨z2, h2⟩ := OZ (h := h) (k := (h.Events.length : Int)) (v3 := 0) (v4 := false) (v5 := 0) (v7 := []) (v8 := []) h.Events [] [] h.Base (h.Events.length + 5) (by simp) (by simp) (by omega) hev (Pm hs) hz (by simp; omega)
   simp only [List.length_nil, Int.natCast_zero] at h2
   rw [h2, G0 hev, oB]
   cases (j0 h.Base h.Events).2 <;> rfl
theorem NY {evs : List GEvent} {n : Int} : ∀ (l p : List GEvent) (q : List GState) (s : GState) (m : Nat), evs = p ++ l → n = (evs.length : Int) → l.length < m → q.length = p.length → stI s → ssz s + zP l <= 2 ^ 20 → evs.length <= 2 ^ 30 →
  ∃ z, yO evs n m (p.length : Int) (q ++ [s]) = some (bif okS s l then .inr (z, q ++ [s] ++ QT s l) else .inl (false, [])) := by
 intro l
 induction l with
 | nil =>
  intro p q s m he hn hm _ _ _ _
  obtain ⟨m, rfl, _⟩ := zg hm
  exact ⟨_, by rw [yO, hn, he, if_neg (by simp)]; simp [okS, QT]; rfl⟩
 | cons e l ih =>
  intro p q s m he hn hm hq hI hz hb
  obtain ⟨m, rfl, hm'⟩ := zg hm
  simp only [List.length_cons] at hm'
  simp only [zP] at hz
  have hg : evs[p.length]? = some e := by rw [he]; exact zF p e l
  have hlen : evs.length = p.length + (l.length + 1) := by rw [he]; simp
  have hgs : (q ++ [s])[p.length]? = some s := by rw [<- hq]; exact zF q s []
  rw [yO, hn, if_pos (by omega), zb, oB, hg, oB, Db (by omega), oB, okS]
  cases hev : evB e with
  | false => exact ⟨0, rfl⟩
  | true =>
   have heta : GState.mk s.Serial s.Open s.Pending s.Act s.Entries = s := by cases s; rfl
   dsimp only
   rw [hgs, oB]
   cases hmy : Xb s e with
   | false =>
    rw [doN hI hmy (by omega), oB]
    try dsimp only
    rw [Ke hgs, hgs, oB]
    exact ⟨0, rfl⟩
   | true =>
    obtain ⟨_, h2, h3, h4⟩ := H8 hI hev hmy (by omega)
    obtain ⟨z, hzz⟩ := ih (p ++ [e]) (q ++ [s]) (nxS e s) m (by rw [he]; simp) hn (by omega) (by simp [hq]) h3 (by omega) hb
    rw [h2, oB]
    try dsimp only
    rw [Ke hgs, hgs, oB]
    try dsimp only
    rw [heta, Ke hgs, if_pos (zej (by simp; omega)), y4 p e (by omega), <- hn, hzz]
    refine ⟨z, ?_⟩
    simp only [Bool.true_and, QT]
    cases okS (nxS e s) l <;> simp
theorem Df {h : GHistory} (hz : hsz h <= 2 ^ 20) : w7 h = some (bif hOk h then (h.Base :: QT h.Base h.Events, true) else ([], false)) := by
 unfold hsz at hz
 have hl := qI h.Events
 unfold w7 qS hOk
 rw [EW (by omega), oB]
 cases hs : stB h.Base with
 | false => rfl
 | true =>
  dsimp only
  by_cases c1 : 300 < (h.Events.length : Int)
  ·rw [if_pos c1, decide_eq_false (p := h.Events.length <= 300) (by omega)]; rfl
  rw [if_neg c1, decide_eq_true (p := h.Events.length <= 300) (by omega)]
  have hin : yA h.Safe 0 (h.Events.length : Int) = some (decide (0 <= h.Safe ∧ h.Safe <= h.Events.length)) := by
   unfold yA
   by_cases c2 : 0 <= h.Safe
   ·rw [if_pos c2]; simp [c2]
   ·rw [if_neg c2]; simp [c2]
  rw [hin, oB]
  by_cases c2 : 0 <= h.Safe ∧ h.Safe <= h.Events.length
  ·rw [decide_eq_true c2]
   dsimp only
   rw [show yD h.Base = some h.Base from if_pos (by omega), oB]
   obtain ⟨z, hzz⟩ := NY (evs := h.Events) (n := (h.Events.length : Int)) h.Events [] [] h.Base (h.Events.length + 5) rfl rfl (by omega) rfl (Pm hs) hz (by omega)
   simp only [List.length_nil, Int.natCast_zero, List.nil_append] at hzz
   rw [hzz, oB]
   cases okS h.Base h.Events <;> simp
  ·rw [decide_eq_false c2]; rfl
def MdH (h : GHistory) : Prop := MdS h.Base ∧ h.Events.length <= 2 ^ 63 - 1 ∧ W4 h.Events
theorem zek {h : GHistory} {n : Int} (hm : MdH h) (h0 : 0 <= n) (h1 : n <= 2 ^ 20) : vf h n = some (yY (hsz h) n) := by
 unfold vf
 rw [zef hm.1 h0 h1, oB]
 unfold yY hsz
 by_cases c1 : (ssz h.Base : Int) <= n
 ·rw [if_pos c1, if_neg (by omega)]
  unfold jL
  rw [if_pos ⟨hm.2.1, hm.2.2, by omega, by omega⟩, oB]
  unfold yY
  by_cases c2 : (zP h.Events : Int) <= n - ssz h.Base
  ·rw [if_pos c2, if_neg (by omega), if_pos (by omega)]; congr 1; omega
  ·rw [if_neg c2, if_pos (by omega), if_neg (by omega)]
 ·rw [if_neg c1, if_pos (by omega), if_neg (by omega)]
theorem zel {h : GHistory} (hz : hsz h <= 2 ^ 20) : vg h = some h := by
 unfold hsz at hz
 unfold vg jO
 rw [zeg (by omega), oB, if_pos (by omega), oB]
 cases h; rfl
theorem Dg {h : GHistory} (hz : hsz h <= 2 ^ 39) : qv h h = some true := by
 unfold hsz at hz
 unfold qv
 rw [zeh (by omega), oB]
 dsimp only
 rw [NX (by omega), oB]
 dsimp only
 rw [if_pos rfl]
theorem zem (b : GState) (e : List GEvent) (z : Int) : hsz (GHistory.mk b e z) = ssz b + zP e := rfl
theorem Dh {h : GHistory} (hk : hOk h = true) : stB h.Base = true ∧ h.Events.length <= 300 ∧ (0 <= h.Safe ∧ h.Safe <= h.Events.length) ∧ okS h.Base h.Events = true := by
 unfold hOk at hk
 simp only [Bool.and_eq_true, decide_eq_true_eq] at hk
 exact ⟨hk.1, hk.2.1, hk.2.2.1, hk.2.2.2⟩
theorem Di : ∀ {l : List GEvent} {s : GState}, stI s → ssz s + zP l <= 2 ^ 20 → okS s l = true → stI (j0 s l).1 ∧ ssz (j0 s l).1 <= ssz s + zP l ∧ (j0 s l).2 = true ∧ (s :: QT s l)[l.length]? = some (j0 s l).1
 | [], s, hI, hz, _ => ⟨hI, by simp [j0, zP], rfl, rfl⟩
 | e :: l, s, hI, hz, hk => by
  rw [okS, Bool.and_eq_true, Bool.and_eq_true] at hk
  simp only [zP] at hz ⊢
  obtain ⟨_, _, h3, h4⟩ := H8 hI hk.1 hk.2.1 (by omega)
  obtain ⟨g1, g2, g3, g4⟩ := Di (l := l) (s := nxS e s) h3 (by omega) hk.2.2
  rw [j0, hk.2.1]
  exact ⟨g1, by simp only [cond_true]; omega, g3, by simp only [QT, List.length_cons, List.getElem?_cons_succ, cond_true]; exact g4⟩
theorem La : ∀ (a b : List GEvent), zP (a ++ b) = zP a + zP b
 | [], b => by simp [zP]
 | x :: a, b => by simp only [List.cons_append, zP, La a b]; omega
theorem Dj : ∀ {l : List GEvent} {s : GState} {n : Nat}, okS s l = true → n <= l.length → okS s (l.take n) = true ∧ (s :: QT s l)[n]? = some (j0 s (l.take n)).1
 | l, s, 0, _, _ => ⟨rfl, by simp [j0]⟩
 | [], s, n + 1, _, hn => by simp at hn
 | e :: l, s, n + 1, hk, hn => by
  rw [okS, Bool.and_eq_true, Bool.and_eq_true] at hk
  obtain ⟨h1, h2⟩ := Dj (l := l) (s := nxS e s) (n := n) hk.2.2 (by simpa using hn)
  rw [List.take_succ_cons, okS, j0, hk.1, hk.2.1, h1]
  exact ⟨rfl, by simp only [QT, List.getElem?_cons_succ, cond_true]; exact h2⟩
theorem H9 (l : List GEvent) (n : Nat) : zP (l.take n) + zP (l.drop n) = zP l := by
 rw [<- La, List.take_append_drop]
theorem zbv {h : GHistory} {n : Nat} (hz : hsz h <= 2 ^ 20) (hk : hOk h = true) (hn : n <= h.Events.length) : qX h ((n : Nat) : Int) = some ((j0 h.Base (h.Events.take n)).1, true) ∧ (h.Base :: QT h.Base h.Events)[n]? = some (j0 h.Base (h.Events.take n)).1 ∧
  ssz (j0 h.Base (h.Events.take n)).1 + zP (h.Events.drop n) <= hsz h := by
 unfold hsz at hz ⊢
 have hl := qI h.Events
 have hd := H9 h.Events n
 obtain ⟨k1, _, _, k4⟩ := Dh hk
 obtain ⟨v1, v2⟩ := Dj k4 hn
 have hz2 : ssz h.Base + zP (h.Events.take n) <= 2 ^ 20 := by omega
 obtain ⟨r1, r2, r3, _⟩ := Di (Pm k1) hz2 v1
 refine ⟨?_, v2, by omega⟩
 have hln : (h.Events.take n).length = n := by simp [hn]
 unfold qX vA
 obtain ⟨z2, h2⟩ := OZ (h := h) (k := ((n : Nat) : Int)) (v3 := 0) (v4 := false) (v5 := 0) (v7 := []) (v8 := []) (h.Events.take n) [] (h.Events.drop n) h.Base (h.Events.length + 5) (by simp) (by rw [hln]; simp) (by omega) (Nu v1) (Pm k1) hz2 (by rw [hln]; simp; omega)
 simp only [List.length_nil, Int.natCast_zero] at h2
 rw [h2, r3]
 rfl
theorem zen (k : Int) (e : GEntry) : cE (mE k e) = cE e := by
 unfold cE mE
 simp only [GEntry.Addr, GEntry.Val, GEntry.Deps, kQ, O6, Qj]
theorem ze1 (k : Int) (e : GEntry) : esz (mE k e) = esz e := by
 unfold esz mE
 simp only [GEntry.Addr, GEntry.Val, GEntry.Deps, kQ, HA, O5]
theorem zbw (k : Int) (e : GEntry) : mE k (mE k e) = mE k e := by
 obtain ⟨a, v, d, t, u⟩ := e
 unfold mE
 simp only [GEntry.Addr, GEntry.Val, GEntry.Deps, kQ, O6, Qj, Jy, O7, TR]
 rfl
theorem Nv : ∀ (k : Int) (l : List GEntry), mEs k (mEs k l) = mEs k l
 | _, [] => rfl
 | k, e :: l => by simp only [mEs, zbw, zen, Nv]
theorem zaa : ∀ (k : Int) (l : List GEntry), cEs (mEs k l) = cEs l
 | _, [] => rfl
 | k, e :: l => by simp only [mEs, cEs, zen, zaa]
theorem Dk : ∀ (k : Int) (l : List GEntry), yb (mEs k l) = yb l
 | _, [] => rfl
 | k, e :: l => by simp only [mEs, yb, ze1, Dk]
theorem B6 {h : GHistory} (hz : hsz h <= 2 ^ 30) : ∃ (k : Int) (a : List UInt8) (b : List GEntry) (c : List GEvent), yC h.Base.Serial h.Base.Open h.Base.Act h.Safe 1 h.Base.Pending h.Base.Entries h.Events = some (k, a, b, c) ∧ 0 <= k ∧ k <= 1 + 4 * hsz h := by
 unfold hsz ssz at hz ⊢
 have := N6 h.Base.Entries
 have := O8 h.Events
 unfold yC vm
 rw [qE (by omega) (by omega), oB]
 dsimp only
 rw [K3 (by omega) (by omega), oB]
 dsimp only
 rw [oB]
 dsimp only
 rw [K4 (by omega) (by omega), oB]
 exact ⟨_, _, _, _, rfl, by omega, by omega⟩
theorem zab (k : Int) (e : GEvent) : cEv (mEv k e) = cEv e := by
 unfold cEv mEv
 simp only [GEvent.Addr, GEvent.Val, GEvent.Deps, kQ, O6, Qj]
theorem zeo (k : Int) (e : GEvent) : xg (mEv k e) = xg e := by
 unfold xg mEv
 simp only [GEvent.Addr, GEvent.Val, GEvent.Deps, kQ, HA, O5]
theorem B7 (k : Int) (e : GEvent) : mEv k (mEv k e) = mEv k e := by
 obtain ⟨a, b, c, v, d⟩ := e
 unfold mEv
 simp only [GEvent.Addr, GEvent.Val, GEvent.Deps, kQ, O6, Qj, Jy, O7, TR]
theorem Lb : ∀ (k : Int) (l : List GEvent), vU k (vU k l) = vU k l
 | _, [] => rfl
 | k, e :: l => by simp only [vU, B7, zab, Lb]
theorem Dl : ∀ (k : Int) (l : List GEvent), kg (vU k l) = kg l
 | _, [] => rfl
 | k, e :: l => by simp only [vU, kg, zab, Dl]
theorem G1 : ∀ (k : Int) (l : List GEvent), zP (vU k l) = zP l
 | _, [] => rfl
 | k, e :: l => by simp only [vU, zP, zeo, G1]
theorem Dm {h : GHistory} (hz : hsz h <= 2 ^ 30) : ∃ (k : Int) (a : List UInt8) (b : List GEntry) (c : List GEvent), yC h.Base.Serial h.Base.Open h.Base.Act h.Safe 1 h.Base.Pending h.Base.Entries h.Events = some (k, a, b, c) ∧ 0 <= k ∧ qH (GHistory.mk (GState.mk h.Base.Serial h.Base.Open a h.Base.Act b) c h.Safe) 1 = some k := by
 unfold hsz ssz at hz
 obtain ⟨⟨ser, op, pe, act, en⟩, ev, sf⟩ := h
 simp only [GHistory.Base, GHistory.Events, GHistory.Safe, GState.Serial, GState.Open, GState.Pending, GState.Act, GState.Entries] at hz ⊢
 have := N6 en
 have := O8 ev
 unfold yC vm
 rw [qE (by omega) (by omega), oB]
 dsimp only
 rw [K3 (by omega) (by omega), oB]
 dsimp only
 rw [oB]
 dsimp only
 rw [K4 (by omega) (by omega), oB]
 refine ⟨_, _, _, _, rfl, by omega, ?_⟩
 unfold qH Yz
 simp only [GHistory.Base, GHistory.Events, GState.Pending, GState.Entries]
 rw [jz (Jy _ _) (by decide) (by rw [kQ]; omega), oB, kQ, if_neg (by omega), LF (Nv _ _) (by omega) (by rw [Dk]; omega), oB, zaa, if_neg (by omega), oB, if_neg (by omega),
  LG (Lb _ _) (by omega) (by rw [G1]; omega), oB, Dl, if_neg (by omega)]
theorem zep (a b c : Int) : yA a b c = some (decide (b <= a ∧ a <= c)) := by
 unfold yA
 by_cases h : b <= a
 ·rw [if_pos h]; simp [h]
 ·rw [if_neg h]; simp [h]
theorem B8 {h : GHistory} {a : Int} (hz : hsz h <= 2 ^ 20) : ∃ h' b, jQ h a = some (h', b) ∧ jU h a = some (h', b) ∧ hsz h' <= 2 ^ 22 := by
 unfold jQ jU QP
 rw [B5 hz, oB, Df hz, oB]
 cases hk : hOk h with
 | false => exact ⟨_, _, rfl, rfl, by decide⟩
 | true =>
  simp only [cond_true]
  obtain ⟨k1, k2, k3, _⟩ := Dh hk
  have hI := Pm k1
  have hs0 := hI.1
  have hs1 := hI.2.1
  have hzz := hz
  unfold hsz at hzz
  rw [zep, oB, zW (x := h.Base.Serial + (h.Events.length : Int)) (by omega) (by omega), zW (x := h.Base.Serial + h.Safe) (by omega) (by omega)]
  by_cases c1 : h.Base.Serial <= a
  ·rw [if_pos c1, oB]
   by_cases c2 : a <= h.Base.Serial + (h.Events.length : Int)
   ·rw [decide_eq_true c2]
    dsimp only
    obtain ⟨n, hn⟩ : ∃ n : Nat, a - h.Base.Serial = (n : Int) := ⟨(a - h.Base.Serial).toNat, by omega⟩
    obtain ⟨f1, f2, f3⟩ := zbv (n := n) hz hk (by omega)
    rw [hn, zW (x := ((n : Nat) : Int)) (by omega) (by omega)]
    by_cases c3 : h.Safe < ((n : Nat) : Int)
    ·rw [if_pos c3, decide_eq_false (p := h.Base.Serial <= a ∧ a <= h.Base.Serial + h.Safe) (fun h => by omega)]
     exact ⟨_, _, rfl, rfl, by decide⟩
    ·have hcut : wl h.Events (some n) none = some (h.Events.drop n) := by
      have : n <= h.Events.length := by omega
      unfold wl va
      simp [this]
     have hlen := qI (h.Events.drop n)
     rw [if_neg c3, decide_eq_true (p := h.Base.Serial <= a ∧ a <= h.Base.Serial + h.Safe) ⟨c1, by omega⟩, f1, oB]
     dsimp only
     rw [zb, oB, hcut, oB, show qD h = some h from if_pos (by omega), oB, oB, f2, oB, hcut, oB,
      show ∀ z, Zs (GHistory.mk (j0 h.Base (h.Events.take n)).1 (h.Events.drop n) z) = some (GHistory.mk (j0 h.Base (h.Events.take n)).1 (h.Events.drop n) z) from fun z => if_pos (by show ssz (j0 h.Base (h.Events.take n)).1 + zP (h.Events.drop n) <= _; omega),
      oB, if_pos (jl (by omega))]
     exact ⟨_, _, rfl, rfl, by rw [zem]; omega⟩
   ·rw [decide_eq_false c2, decide_eq_false (p := h.Base.Serial <= a ∧ a <= h.Base.Serial + h.Safe) (fun h => by omega)]
    exact ⟨_, _, rfl, rfl, by decide⟩
  ·rw [if_neg c1, oB, decide_eq_false (p := h.Base.Serial <= a ∧ a <= h.Base.Serial + h.Safe) (fun h => c1 h.1)]
   exact ⟨_, _, rfl, rfl, by decide⟩
theorem law_HistCompact {h : GHistory} {a : Int} (hm : MdH h) : jh h a = some true := by
 unfold jh
 rw [zek hm (by decide) (by decide), oB]
 unfold yY
 by_cases c : (hsz h : Int) <= 1048576
 ·have hz : hsz h <= 2 ^ 20 := by omega
  rw [if_pos c, if_neg (by omega), zel hz, oB]
  obtain ⟨h2, b, e1, e2, e3⟩ := B8 (a := a) hz
  obtain ⟨k1, a1, b1, c1, m1, m2, m3⟩ := B6 (h := h) (by omega)
  obtain ⟨k2, a2, b2, c2, n1, n2, n3⟩ := Dm (h := h2) (by omega)
  rw [e1, e2, oB]
  dsimp only
  rw [oB]
  dsimp only
  rw [Dg (by omega), oB]
  dsimp only
  cases b <;> (first | rw [if_pos rfl, if_pos rfl] | rw [if_neg (by decide), if_neg (by decide)])
  all_goals
   rw [Dg (by omega), oB]
   dsimp only
   rw [m1, oB]
   dsimp only
   rw [if_neg (by omega), n1, oB]
   dsimp only
   rw [n3, oB, if_neg (by omega), if_pos rfl]
 ·rw [if_neg c, if_pos (by omega)]
end
end Go.Am.Try
