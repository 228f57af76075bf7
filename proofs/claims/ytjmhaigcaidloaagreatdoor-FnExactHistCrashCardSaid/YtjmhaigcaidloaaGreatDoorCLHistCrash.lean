
/- The law of FnExactHistCrash, in plain terms. -/
import Derived.Test.YtjmhaigcaidloaaGreatDoorCG5
set_option linter.unusedVariables false
set_option linter.unusedSimpArgs false
namespace Go.Am.Try
open Go.Am
noncomputable section
theorem Nf {v : GValue} (h : vsz v <= 2 ^ 20) : xn v = some (ZY v) := by
 unfold xn vG
 rw [if_pos ⟨h, by decide, by decide, by decide⟩, Option.bind_some]
 congr 1
 unfold okV ZY
 rw [show (6 - (1 : Int)).toNat = 5 from rfl]
 by_cases hc : shV 5 v = true ∧ (ptV v : Int) <= 40
 ·rw [if_pos hc, decide_eq_true hc]; exact decide_eq_true (by omega)
 ·rw [if_neg hc, decide_eq_false hc]; rfl
theorem Bs {v : GValue} (h : vsz v <= 2 ^ 20) : jg v = some (ZY v) := by
 unfold jg qO w4 ZY
 rw [if_pos ⟨h, by decide, by decide⟩, Option.bind_some]
 rw [show (5 : Int).toNat = 5 from rfl]
 cases hs : shV 5 v
 ·simp
 ·dsimp only
  rw [if_pos h, Option.bind_some]
  simp
def jw (v : GValue) : Bool := decide (v.Kind = 0 ∧ v.N = 0 ∧ v.S.length = 0 ∧ v.K.length = 0 ∧ v.L.length = 0)
def evB (e : GEvent) : Bool :=
  if e.Kind = 2 then ye e.Addr && decide (e.Act = 0) && km e.Val && jP e.Deps
  else jw e.Val && decide (e.Deps.length = 0) &&
    (if e.Kind = 0 ∨ e.Kind = 5 ∨ e.Kind = 6 then decide (e.Addr.length = 0) && decide (e.Act = 0)
     else if e.Kind = 1 then ye e.Addr && decide (1 <= e.Act ∧ e.Act <= 4)
     else if e.Kind = 3 ∨ e.Kind = 4 then ye e.Addr && decide (e.Act = 0) else false)
theorem zbi {v : GValue} (h : vsz v <= 2 ^ 20) : xc v = some (km v) := by
 unfold xc YU km
 by_cases h5 : v.Kind = 5
 ·rw [if_pos h5, Bs h, Option.bind_some, decide_eq_true h5, Bool.true_and]
  cases hv : ZY v with
  | false => rfl
  | true =>
   simp only [Bool.true_and]
   unfold w5
   rw [if_pos (by omega)]; rfl
 ·rw [if_neg h5, decide_eq_false h5]; rfl
theorem zbj {v : GValue} (h : vsz v <= 2 ^ 20) : jm v = some (km v) := by
 unfold jm km
 by_cases h5 : v.Kind = 5
 ·rw [if_pos h5, Nf h, Option.bind_some, decide_eq_true h5, Bool.true_and]
  cases hv : ZY v with
  | false => rfl
  | true =>
   simp only [Bool.true_and]
   unfold je
   rw [if_pos (by omega)]; rfl
 ·rw [if_neg h5, decide_eq_false h5]; rfl
theorem ET (v : GValue) : Yk v = some (jw v) := by
 unfold Yk jw
 by_cases h1 : v.Kind = 0 <;> by_cases h2 : v.N = 0 <;> by_cases h3 : v.S.length = 0 <;> by_cases h4 : v.K.length = 0 <;> by_cases h5 : v.L.length = 0 <;> simp [h1, h2, h3, h4, h5, List.length_eq_zero_iff.1] <;> simp_all
theorem Kb (a : Int) : ∃ r, kC a 0 = some r ∧ (r = 0 ↔ a = 0) := by
 unfold kC
 by_cases h : a < 0
 ·exact ⟨_, if_pos h, by omega⟩
 ·rw [if_neg h]
  by_cases h' : 0 < a
  ·exact ⟨_, if_pos h', by omega⟩
  ·exact ⟨_, if_neg h', by omega⟩
theorem H2 (G : GValue → GValue → Option Int) (n : Nat) (v z : GValue) (hk : z.Kind = 0) (hn : z.N = 0) (hl : z.L.length = 0) : ∃ r, YQ G (n + 1) v z = some r ∧ ((r = 0 ∧ v.N = 0) ↔ (v.Kind = 0 ∧ v.N = 0 ∧ v.L.length = 0)) := by
 unfold YQ
 rw [hk]
 by_cases h1 : v.Kind = 0
 ·rw [if_pos h1, if_neg (by omega), hn]
  by_cases h2 : v.N = 0
  ·rw [if_pos h2, jI, hl]
   obtain ⟨r, hr, hr2⟩ := Kb (v.L.length : Int)
   refine ⟨r, ?_, by simp only [h1, h2, true_and, and_true]; omega⟩
   by_cases h3 : (0 : Int) < (v.L.length : Int)
   ·rw [if_pos h3, if_neg (by omega), Option.bind_some]
    dsimp only
    rw [show ((0 : Nat) : Int) = 0 from rfl, hr, Option.bind_some]
   ·rw [if_neg h3, Option.bind_some]
    dsimp only
    rw [show ((0 : Nat) : Int) = 0 from rfl, hr, Option.bind_some]
  ·rw [if_neg h2]
   obtain ⟨r, hr, hr2⟩ := Kb v.N
   exact ⟨r, by rw [hr, Option.bind_some], ⟨fun h => absurd h.2 h2, fun h => absurd h.2.1 h2⟩⟩
 ·rw [if_neg h1]
  obtain ⟨r, hr, hr2⟩ := Kb v.Kind
  exact ⟨r, by rw [hr, Option.bind_some], ⟨fun h => absurd (hr2.1 h.1) h1, fun h => absurd h.1 h1⟩⟩
theorem EU (v : GValue) : wV v = some (decide (v.Kind = 0 ∧ v.N = 0 ∧ v.L.length = 0)) := by
 unfold wV YR
 rw [show vsz v + 3 = (vsz v + 1 + 1) + 1 from rfl, wI]
 obtain ⟨r, hr, hr2⟩ := H2 (wI (vsz v + 1 + 1)) (vsz v + 1) v (GValue.mk 0 0 [] [] []) rfl rfl rfl
 rw [hr, Option.bind_some]
 by_cases h : r = 0
 ·rw [if_pos h]; exact congrArg some (decide_eq_decide.2 (by rw [<- hr2]; simp [h]))
 ·rw [if_neg h]; exact congrArg some (decide_eq_false (fun h' => h (hr2.2 h').1)).symm
theorem Bt {v : GValue} (h : jw v = true) : ZY v = true := by
 unfold jw at h
 cases v
 simp only [GValue.Kind, GValue.N, GValue.S, GValue.K, GValue.L, decide_eq_true_eq, List.length_eq_zero_iff] at h
 obtain ⟨rfl, rfl, rfl, rfl, rfl⟩ := h
 exact decide_eq_true ⟨by simp [shV, yO, GValue.Kind, GValue.N, GValue.S, GValue.K, GValue.L], by simp [ptV, wF]⟩
theorem zbk {v : GValue} (h : ZY v = true) : jw v = decide (v.Kind = 0 ∧ v.N = 0 ∧ v.L.length = 0) := by
 unfold jw
 refine decide_eq_decide.2 ⟨fun ⟨a, b, _, _, c⟩ => ⟨a, b, c⟩, fun ⟨a, b, c⟩ => ?_⟩
 have := (of_decide_eq_true h).1
 rw [shV] at this
 have hl := (Bool.and_eq_true _ _ ▸ this).1
 unfold yO at hl
 rw [if_pos (Or.inl a)] at hl
 have := of_decide_eq_true hl
 exact ⟨a, this⟩
theorem Bu {a : List UInt8} (h : ye a = true) : 0 < a.length := by
 rcases a with _ | ⟨x, l⟩
 ·revert h; decide
 ·simp
theorem EV {e : GEvent} (h : xf e <= 2 ^ 20) : ZD e = some (evB e) := by
 unfold xf at h
 unfold ZD evB
 by_cases k2 : e.Kind = 2
 ·rw [if_pos k2, if_pos k2, Zr (by omega), Option.bind_some]
  cases ye e.Addr with
  | false => rfl
  | true =>
   dsimp only
   by_cases ha : e.Act = 0
   ·rw [if_pos ha, zbi (by omega), Option.bind_some, decide_eq_true ha]
    cases km e.Val with
    | false => rfl
    | true =>
     dsimp only
     rw [show xV e.Deps = some (jP e.Deps) from if_pos (by omega)]
     simp
   ·rw [if_neg ha, decide_eq_false ha]; rfl
 ·rw [if_neg k2, if_neg k2, ET, Option.bind_some]
  cases jw e.Val with
  | false => rfl
  | true =>
   dsimp only
   by_cases d : e.Deps.length = 0
   ·rw [if_neg (by omega), decide_eq_true d, Bool.true_and, Bool.true_and]
    by_cases k0 : e.Kind = 0 ∨ e.Kind = 5 ∨ e.Kind = 6
    ·rw [if_pos k0]
     have hh : (if (e.Addr.length : Int) = 0 then some (decide (e.Act = 0)) else some false) = some (decide (e.Addr.length = 0) && decide (e.Act = 0)) := by
      by_cases hl : e.Addr.length = 0
      ·rw [if_pos (by omega), decide_eq_true hl, Bool.true_and]
      ·rw [if_neg (by omega), decide_eq_false hl, Bool.false_and]
     rw [hh]
     by_cases k00 : e.Kind = 0
     ·rw [if_pos k00]
     ·rw [if_neg k00]
      by_cases k05 : e.Kind = 5
      ·rw [if_pos k05]
      ·rw [if_neg k05, if_pos (by omega)]
    ·rw [if_neg k0, if_neg (by omega), if_neg (by omega), if_neg (by omega)]
     by_cases k1 : e.Kind = 1
     ·rw [if_pos k1, if_pos k1, Zr (by omega), Option.bind_some]
      cases ye e.Addr with
      | false => rfl
      | true => dsimp only; rw [W5, Option.bind_some]; rfl
     ·rw [if_neg k1, if_neg k1]
      by_cases k3 : e.Kind = 3
      ·rw [if_pos k3, if_pos (Or.inl k3), Zr (by omega), Option.bind_some]
       cases ye e.Addr <;> rfl
      ·rw [if_neg k3]
       by_cases k4 : e.Kind = 4
       ·rw [if_pos k4, if_pos (Or.inr k4), Zr (by omega), Option.bind_some]
        cases ye e.Addr <;> rfl
       ·rw [if_neg k4, if_neg (by omega)]
   ·rw [if_pos (by omega), decide_eq_false d]; rfl
theorem zvd {v : GValue} (h : vsz v <= 2 ^ 20) (d : Nat) : ((xn v).bind fun r => match r with | true => (wV v).bind fun r => (match r with | true => some (decide (((d : Nat) : Int) = 0)) | false => some false) | false => some false) = some (jw v && decide (d = 0)) := by
 rw [Nf h, Option.bind_some]
 cases hv : ZY v with
 | true =>
  dsimp only
  rw [EU, Option.bind_some, zbk hv]
  cases decide (v.Kind = 0 ∧ v.N = 0 ∧ v.L.length = 0) with
  | true => exact congrArg some (by rw [Bool.true_and]; exact decide_eq_decide.2 (by omega))
  | false => rfl
 | false =>
  dsimp only
  cases hz : jw v with
  | true => rw [Bt hz] at hv; cases hv
  | false => rfl
theorem EW {e : GEvent} (h : xf e <= 2 ^ 20) : ZA e = some (evB e) := by
 unfold xf at h
 unfold ZA evB
 rw [QB (by omega)]
 simp only [Option.bind_some]
 have Z := zvd (v := e.Val) (by omega) e.Deps.length
 have hb := @Bu e.Addr
 by_cases r0 : e.Kind < 0
 ·rw [if_pos r0, if_neg (show ¬ e.Kind = 2 by omega), if_neg (show ¬ (e.Kind = 0 ∨ e.Kind = 5 ∨ e.Kind = 6) by omega), if_neg (show ¬ e.Kind = 1 by omega), if_neg (show ¬ (e.Kind = 3 ∨ e.Kind = 4) by omega), Bool.and_false]
 rw [if_neg r0]
 by_cases r6 : 6 < e.Kind
 ·rw [if_pos r6, if_neg (show ¬ e.Kind = 2 by omega), if_neg (show ¬ (e.Kind = 0 ∨ e.Kind = 5 ∨ e.Kind = 6) by omega), if_neg (show ¬ e.Kind = 1 by omega), if_neg (show ¬ (e.Kind = 3 ∨ e.Kind = 4) by omega), Bool.and_false]
 rw [if_neg r6]
 generalize (jw e.Val && decide (e.Deps.length = 0)) = z at Z ⊢
 by_cases k1 : e.Kind = 1
 ·rw [if_pos k1, if_neg (show ¬ e.Kind = 2 by omega), if_neg (show ¬ (e.Kind = 0 ∨ e.Kind = 5 ∨ e.Kind = 6) by omega), if_pos k1]
  cases hA : ye e.Addr with
  | false =>
   dsimp only
   rw [Bool.false_and, Bool.and_false]
   split <;> rfl
  | true =>
   have := hb hA
   rw [if_pos (show (0 : Int) < (e.Addr.length : Int) by omega)]
   dsimp only
   by_cases a1 : e.Act < 1
   ·rw [if_pos a1, decide_eq_false (by omega)]; simp
   ·rw [if_neg a1]
    by_cases a2 : 4 < e.Act
    ·rw [if_pos a2, decide_eq_false (by omega)]; simp
    ·rw [if_neg a2, decide_eq_true (show 1 <= e.Act ∧ e.Act <= 4 by omega)]; exact Z.trans (by simp)
 rw [if_neg k1]
 by_cases k2 : e.Kind = 2
 ·rw [if_pos k2, if_pos k2]
  cases hA : ye e.Addr with
  | false =>
   dsimp only
   split <;> rfl
  | true =>
   have := hb hA
   rw [if_pos (show (0 : Int) < (e.Addr.length : Int) by omega)]
   dsimp only
   by_cases ha : e.Act = 0
   ·rw [if_pos ha, zbj (by omega), Option.bind_some, decide_eq_true ha]
    cases km e.Val with
    | false => rfl
    | true =>
     dsimp only
     rw [show qj e.Deps = some (jP e.Deps) from if_pos (by omega)]
     simp
   ·rw [if_neg ha, decide_eq_false ha]; rfl
 rw [if_neg k2, if_neg k2]
 by_cases k3 : e.Kind = 3
 ·rw [if_pos k3, if_neg (show ¬ (e.Kind = 0 ∨ e.Kind = 5 ∨ e.Kind = 6) by omega), if_neg k1, if_pos (Or.inl k3)]
  cases hA : ye e.Addr with
  | false => dsimp only; rw [Bool.false_and, Bool.and_false]; split <;> rfl
  | true =>
   have := hb hA
   rw [if_pos (show (0 : Int) < (e.Addr.length : Int) by omega)]
   dsimp only
   by_cases ha : e.Act = 0
   ·rw [if_pos ha, decide_eq_true ha]; exact Z.trans (by simp)
   ·rw [if_neg ha, decide_eq_false ha]; simp
 rw [if_neg k3]
 by_cases k4 : e.Kind = 4
 ·rw [if_pos k4, if_neg (show ¬ (e.Kind = 0 ∨ e.Kind = 5 ∨ e.Kind = 6) by omega), if_neg k1, if_pos (Or.inr k4)]
  cases hA : ye e.Addr with
  | false => dsimp only; rw [Bool.false_and, Bool.and_false]; split <;> rfl
  | true =>
   have := hb hA
   rw [if_pos (show (0 : Int) < (e.Addr.length : Int) by omega)]
   dsimp only
   by_cases ha : e.Act = 0
   ·rw [if_pos ha, decide_eq_true ha]; exact Z.trans (by simp)
   ·rw [if_neg ha, decide_eq_false ha]; simp
 rw [if_neg k4, if_pos (show e.Kind = 0 ∨ e.Kind = 5 ∨ e.Kind = 6 by omega)]
 by_cases hl : e.Addr.length = 0
 ·rw [if_neg (by omega), decide_eq_true hl, Bool.true_and]
  by_cases ha : e.Act = 0
  ·rw [if_pos ha, decide_eq_true ha]; exact Z.trans (by simp)
  ·rw [if_neg ha, decide_eq_false ha]; simp
 ·rw [if_pos (by omega), decide_eq_false hl, Bool.false_and, Bool.and_false]
def MdS (s : GState) : Prop := s.Pending.length <= 2 ^ 63 - 1 ∧ s.Entries.length <= 2 ^ 63 - 1 ∧ W3 s.Entries
theorem zd9 {s : GState} {n : Int} (h : MdS s) (h0 : 0 <= n) (h1 : n <= 2 ^ 20) : Z5 s n = some (yW (ssz s) n) := by
 unfold Z5
 rw [YG h.1 h0 h1, Option.bind_some]
 unfold yW ssz
 by_cases c1 : (s.Pending.length : Int) <= n
 ·rw [if_pos c1, if_neg (by omega)]
  unfold jD
  rw [if_pos ⟨h.2.1, h.2.2, by omega, by omega⟩, Option.bind_some]
  unfold yW
  by_cases c2 : (yb s.Entries : Int) <= n - s.Pending.length
  ·rw [if_pos c2, if_neg (by omega), if_pos (by omega)]; congr 1; omega
  ·rw [if_neg c2, if_pos (by omega), if_neg (by omega)]
 ·rw [if_neg c1, if_pos (by omega), if_neg (by omega)]
theorem zea {s : GState} (h : ssz s <= 2 ^ 20) : Z6 s = some s := by
 unfold ssz at h
 unfold Z6 yv jG
 rw [if_pos (by omega), Option.bind_some, if_pos (by omega), Option.bind_some]
 cases s; rfl
theorem zeb {s : GState} (h : ssz s <= 2 ^ 39) : ZE s s = some true := by
 unfold ssz at h
 unfold ZE yn
 rw [if_pos rfl]
 by_cases ho : s.Open = true
 ·rw [if_pos ho, if_pos ho, if_pos ⟨rfl, by omega⟩, Option.bind_some]; dsimp only; rw [if_pos rfl, RV (by omega), Option.bind_some]
 ·rw [if_neg ho, if_neg ho, if_pos ⟨rfl, by omega⟩, Option.bind_some]; dsimp only; rw [if_pos rfl, RV (by omega), Option.bind_some]
theorem j5 (a : Int) (b : Bool) (c : List UInt8) (d : Int) (e : List GEntry) : (GState.mk a b c d e).Pending = c := rfl
theorem j6 (a : Int) (b : Bool) (c : List UInt8) (d : Int) (e : List GEntry) : (GState.mk a b c d e).Entries = e := rfl
theorem Ng {a : List UInt8} : ∀ (l : List GEntry) (i : Nat), yP l a = true → ∃ k, Yf l a i = ((i + k : Nat) : Int) ∧ ∃ e, l[k]? = some e ∧ e.Addr = a
 | [], i, h => by simp [yP] at h
 | e :: l, i, h => by
  rw [Yf]
  by_cases he : e.Addr = a
  ·exact ⟨0, by rw [if_pos he]; rfl, e, rfl, he⟩
  ·have h' : yP l a = true := by
    unfold yP at h ⊢
    rw [List.any_cons, decide_eq_false he, Bool.false_or] at h
    exact h
   obtain ⟨k, h1, e', h2, h3⟩ := Ng l (i + 1) h'
   exact ⟨k + 1, by rw [if_neg he, h1]; congr 1; omega, e', by simpa using h2, h3⟩
theorem ZG {a : List (List UInt8)} : Asc a ↔ ∀ (i j : Nat) x y, i < j → a[i]? = some x → a[j]? = some y → Op.bytesLess x y = true := by
 constructor
 ·intro h i j x y hij hi hj
  obtain ⟨hi1, hi2⟩ := List.getElem?_eq_some_iff.1 hi
  obtain ⟨hj1, hj2⟩ := List.getElem?_eq_some_iff.1 hj
  have := h i j hj1 hij
  rw [hi2, hj2] at this
  exact this
 ·intro h i j hj hij
  exact h i j _ _ hij (List.getElem?_eq_getElem _) (List.getElem?_eq_getElem _)
theorem ZH {a : List (List UInt8)} {x : List UInt8} {c : Nat} (h : kL a x c) {i : Nat} {y : List UInt8} (hi : a[i]? = some y) : i < c ↔ Op.bytesLess y x = true := by
 obtain ⟨hi1, hi2⟩ := List.getElem?_eq_some_iff.1 hi
 rw [<- hi2]
 exact h.2 i hi1
theorem zbl {a : List (List UInt8)} (ha : Asc a) {x : List UInt8} {c : Nat} (h : kL a x c) {j : Nat} {y : List UInt8} (hj : a[j]? = some y) (hc : c <= j) (hne : c = j → y ≠ x) : Op.bytesLess x y = true := by
 rcases W8 x y with h1 | h1 | h1
 ·exact h1
 ·exfalso
  have hcj : c ≠ j := fun e => hne e h1.symm
  have hjl := (List.getElem?_eq_some_iff.1 hj).1
  have hcl : c < a.length := by omega
  have h2 := ZG.1 ha c j _ _ (by omega) (List.getElem?_eq_getElem hcl) hj
  rw [<- h1] at h2
  have := (ZH h (List.getElem?_eq_getElem hcl)).2 h2
  omega
 ·have := (ZH h hj).2 h1
  omega
theorem Gq {a : List (List UInt8)} (ha : Asc a) {x : List UInt8} {c : Nat} (h : kL a x c) (hne : a[c]? ≠ some x) : Asc (yK a c x) := by
 refine ZG.2 fun i j u v hij hi hj => ?_
 rw [WU a c x h.1] at hi hj
 have A := ZG.1 ha
 by_cases h1 : j < c
 ·rw [if_pos h1] at hj; rw [if_pos (by omega)] at hi
  exact A i j u v hij hi hj
 rw [if_neg h1] at hj
 by_cases h2 : j = c
 ·rw [if_pos h2] at hj; rw [if_pos (by omega)] at hi
  injection hj with hj
  subst hj
  exact (ZH h hi).1 (by omega)
 rw [if_neg h2] at hj
 by_cases h3 : i < c
 ·rw [if_pos h3] at hi
  exact A i (j - 1) u v (by omega) hi hj
 rw [if_neg h3] at hi
 by_cases h4 : i = c
 ·rw [if_pos h4] at hi
  injection hi with hi
  subst hi
  exact zbl ha h hj (by omega) fun e he => hne (by rw [e, hj, he])
 ·rw [if_neg h4] at hi
  exact A (i - 1) (j - 1) u v (by omega) hi hj
theorem zbm {a : List (List UInt8)} (ha : Asc a) {c : Nat} (hc : c < a.length) : Asc (qc a c) := by
 refine ZG.2 fun i j u v hij hi hj => ?_
 rw [MG a c hc] at hi hj
 have A := ZG.1 ha
 by_cases h1 : j < c
 ·rw [if_pos h1] at hj; rw [if_pos (by omega)] at hi
  exact A i j u v hij hi hj
 rw [if_neg h1] at hj
 by_cases h3 : i < c
 ·rw [if_pos h3] at hi
  exact A i (j + 1) u v (by omega) hi hj
 ·rw [if_neg h3] at hi
  exact A (i + 1) (j + 1) u v (by omega) hi hj
theorem VU {e : GEntry} : ∀ {l : List GEntry}, (∀ x ∈ l, Op.bytesLess e.Addr x.Addr = true) → vJ e true l = l
 | [], _ => rfl
 | x :: l, h => by
  rw [vJ, h x List.mem_cons_self, cond_true, cond_true, VU fun y hy => h y (List.mem_cons_of_mem _ hy)]
theorem EX {a b : List UInt8} (h : Op.bytesLess a b = true) : Op.bytesLess b a = false := by
 cases hb : Op.bytesLess b a with
 | false => rfl
 | true => have := vn h hb; rw [Zt] at this; cases this
theorem Oz {e : GEntry} : ∀ {l : List GEntry} {c : Nat}, Asc (l.map GEntry.Addr) → kL (l.map GEntry.Addr) e.Addr c → vJ e false l = if (l.map GEntry.Addr)[c]? = some e.Addr then l.set c e else yK l c e
 | [], c, _, hp => by
  have := hp.1
  simp only [List.map_nil, List.length_nil] at this
  obtain rfl : c = 0 := by omega
  rfl
 | x :: l, c, ha, hp => by
  have hal : Asc (l.map GEntry.Addr) := ZG.2 fun i j u v hij hi hj => ZG.1 ha (i + 1) (j + 1) u v (by omega) (by simpa using hi) (by simpa using hj)
  have hx : ∀ y ∈ l, Op.bytesLess x.Addr y.Addr = true := fun y hy => by
   obtain ⟨j, hj⟩ := List.mem_iff_getElem?.1 hy
   exact ZG.1 ha 0 (j + 1) _ _ (by omega) rfl (by simp [hj])
  have h0 : 0 < c ↔ Op.bytesLess x.Addr e.Addr = true := ZH hp (by rfl)
  cases c with
  | zero =>
   have hn : Op.bytesLess x.Addr e.Addr = false := by
    cases hq : Op.bytesLess x.Addr e.Addr with
    | false => rfl
    | true => have := h0.2 hq; omega
   rw [vJ, hn]
   rcases W8 e.Addr x.Addr with h1 | h1 | h1
   ·rw [h1]
    simp only [cond_true, cond_false]
    rw [VU fun y hy => vn h1 (hx y hy), if_neg]
    ·rfl
    ·simp only [List.map_cons, List.getElem?_cons_zero, Option.some.injEq]
     intro he
     rw [he, Zt] at h1; cases h1
   ·rw [h1, Zt]
    simp only [cond_false]
    rw [VU fun y hy => by rw [h1]; exact hx y hy, if_pos (by simp)]
    rfl
   ·rw [hn] at h1; cases h1
  | succ c =>
   have hl : Op.bytesLess x.Addr e.Addr = true := h0.1 (by omega)
   have hpl : kL (l.map GEntry.Addr) e.Addr c := by
    refine ⟨by have := hp.1; simp only [List.map_cons, List.length_cons] at this; omega, fun k hk => ?_⟩
    have h1 := ZH hp (i := k + 1) (y := (l.map GEntry.Addr)[k]) (by rw [List.map_cons, List.getElem?_cons_succ]; exact List.getElem?_eq_getElem hk)
    rw [<- h1]
    omega
   rw [vJ, EX hl, hl]
   simp only [cond_true, cond_false]
   rw [Oz hal hpl]
   simp only [List.map_cons, List.getElem?_cons_succ]
   split
   ·rfl
   ·rfl
theorem Bv {α : Type} {l : List α} {c : Nat} {x : α} (h : l[c]? = some x) : l.set c x = l := by
 apply List.ext_getElem?
 intro i
 rw [List.getElem?_set]
 split
 ·rename_i hi
  subst hi
  have := (List.getElem?_eq_some_iff.1 h).1
  rw [if_pos this, h]
 ·rfl
theorem Nh {l : List GEntry} {c : Nat} {e : GEntry} (h : (l.map GEntry.Addr)[c]? = some e.Addr) : (l.set c e).map GEntry.Addr = l.map GEntry.Addr := by
 rw [List.map_set]
 exact Bv h
theorem VV {l : List GEntry} {c : Nat} {e : GEntry} : (yK l c e).map GEntry.Addr = yK (l.map GEntry.Addr) c e.Addr := by simp [yK, List.map_take, List.map_drop]
theorem Ni {l : List GEntry} {c : Nat} : (qc l c).map GEntry.Addr = qc (l.map GEntry.Addr) c := by simp [qc, List.map_take, List.map_drop]
theorem Qh : ∀ (a b : List GEntry), yb (a ++ b) = yb a + yb b
 | [], b => by simp [yb]
 | x :: a, b => by simp only [List.cons_append, yb, Qh a b]; omega
theorem TN (l : List GEntry) (c : Nat) : yb l = yb (l.take c) + yb (l.drop c) := by
 rw [<- Qh, List.take_append_drop]
theorem Nj (l : List GEntry) (c : Nat) (e : GEntry) : yb (yK l c e) = yb l + 1 + esz e := by
 unfold yK
 rw [Qh, Qh, TN l c]
 simp only [yb]; omega
theorem Bw (l : List GEntry) (c : Nat) : yb (qc l c) <= yb l := by
 unfold qc
 have h1 := TN l c
 have h2 := TN (l.drop c) 1
 rw [List.drop_drop] at h2
 rw [Qh]
 omega
theorem Nk : ∀ (l : List GEntry) (c : Nat) (e : GEntry), yb (l.set c e) <= yb l + esz e
 | [], c, e => by simp [yb]
 | x :: l, 0, e => by simp only [List.set_cons_zero, yb]; omega
 | x :: l, c + 1, e => by have := Nk l c e; simp only [List.set_cons_succ, yb]; omega
def stI (s : GState) : Prop := 0 <= s.Serial ∧ s.Serial <= 1000000 ∧ Asc (s.Entries.map GEntry.Addr) ∧ (s.Pending ≠ [] → s.Open = true ∧ yP s.Entries s.Pending = decide (s.Act ≠ 1))
theorem AS {s : GState} (h : stB s = true) : stI s := by
 unfold stB at h
 simp only [Bool.and_eq_true, decide_eq_true_eq] at h
 obtain ⟨⟨⟨h1, h2, _⟩, h3⟩, h4⟩ := h
 refine ⟨h1, h2, Nz h3, fun hp => ?_⟩
 unfold LP at h4
 rw [if_neg hp] at h4
 simp only [Bool.and_eq_true, beq_iff_eq] at h4
 exact ⟨h4.1.1.1, h4.2⟩
def Xc (s : GState) (e : GEvent) : Bool :=
 if s.Serial = 1000000 then false
 else if e.Kind = 0 then !s.Open
 else if e.Kind = 1 then s.Open && decide (s.Pending = []) && (yP s.Entries e.Addr == decide (e.Act ≠ 1)) && (yP s.Entries e.Addr || decide (s.Entries.length < 16))
 else if e.Kind = 2 then decide (s.Pending = e.Addr) && decide (s.Act ≠ 4)
 else if e.Kind = 3 then decide (s.Pending = e.Addr) && decide (s.Act = 4)
 else if e.Kind = 4 then decide (s.Pending = e.Addr)
 else if e.Kind = 5 then s.Open && decide (s.Pending = [])
 else s.Open
theorem Pl {e : GEvent} (h : evB e = true) (hk : e.Kind = 1 ∨ e.Kind = 2 ∨ e.Kind = 3 ∨ e.Kind = 4) : e.Addr ≠ [] := by
 intro he
 have ha : ye e.Addr = false := by rw [he]; decide
 unfold evB at h
 rw [ha] at h
 rcases hk with hk | hk | hk | hk <;> simp [hk] at h
theorem X0 {a : List UInt8} : ((a.length : Int) = 0) ↔ a = [] := by
 constructor
 ·intro h; exact List.eq_nil_of_length_eq_zero (by omega)
 ·rintro rfl; rfl
theorem Gr {a : List UInt8} : (0 < (a.length : Int)) ↔ a ≠ [] := by
 constructor
 ·rintro h rfl; simp at h
 ·intro h
  have : a.length ≠ 0 := fun e => h (List.eq_nil_of_length_eq_zero e)
  omega
theorem Bx {s : GState} {e : GEvent} (hI : stI s) (he : evB e = true) (hl : s.Entries.length <= 2 ^ 40) : YS s e = some (Xc s e) := by
 unfold YS Xc wj
 have hs := hI.2.1
 by_cases h0 : s.Serial = 1000000
 ·rw [if_pos (by omega), if_pos h0]
 rw [if_neg (by omega), if_neg h0]
 by_cases k0 : e.Kind = 0
 ·rw [if_pos k0, if_pos k0]
 rw [if_neg k0, if_neg k0]
 by_cases k1 : e.Kind = 1
 ·rw [if_pos k1, if_pos k1, if_pos hl, Option.bind_some]
  have hh := Vw s.Entries e.Addr 0
  have hp := @Gr s.Pending
  cases s.Open with
  | false => rfl
  | true =>
   dsimp only
   by_cases q : s.Pending = []
   ·rw [if_neg (fun h => hp.1 h q), decide_eq_true q]
    by_cases a1 : e.Act = 1
    ·rw [if_pos a1, decide_eq_false (p := e.Act ≠ 1) (by omega)]
     cases hb : yP s.Entries e.Addr with
     | true => rw [if_pos (hh.2 hb)]; rfl
     | false => rw [if_neg (fun h => by rw [hh.1 h] at hb; cases hb)]; simp; omega
    ·rw [if_neg a1, decide_eq_true (p := e.Act ≠ 1) a1]
     cases hb : yP s.Entries e.Addr with
     | true => rw [if_pos (hh.2 hb)]; rfl
     | false => rw [if_neg (fun h => by rw [hh.1 h] at hb; cases hb)]; simp
   ·rw [if_pos (hp.2 q), decide_eq_false q]; rfl
 rw [if_neg k1, if_neg k1]
 have hp := @Gr s.Pending
 by_cases k2 : e.Kind = 2
 ·rw [if_pos k2, if_pos k2]
  have hne := Pl he (.inr (.inl k2))
  by_cases q : s.Pending = []
  ·rw [if_neg (fun h => hp.1 h q), decide_eq_false (fun h => hne (by rw [<- h, q]))]; rfl
  ·rw [if_pos (hp.2 q)]
   by_cases q2 : s.Pending = e.Addr
   ·rw [if_pos q2, decide_eq_true q2]; by_cases a4 : s.Act = 4 <;> simp [a4]
   ·rw [if_neg q2, decide_eq_false q2]; rfl
 rw [if_neg k2, if_neg k2]
 by_cases k3 : e.Kind = 3
 ·rw [if_pos k3, if_pos k3]
  have hne := Pl he (.inr (.inr (.inl k3)))
  by_cases q : s.Pending = []
  ·rw [if_neg (fun h => hp.1 h q), decide_eq_false (fun h => hne (by rw [<- h, q]))]; rfl
  ·rw [if_pos (hp.2 q)]
   by_cases q2 : s.Pending = e.Addr
   ·rw [if_pos q2, decide_eq_true q2]; rfl
   ·rw [if_neg q2, decide_eq_false q2]; rfl
 rw [if_neg k3, if_neg k3]
 by_cases k4 : e.Kind = 4
 ·rw [if_pos k4, if_pos k4]
  have hne := Pl he (.inr (.inr (.inr k4)))
  by_cases q : s.Pending = []
  ·rw [if_neg (fun h => hp.1 h q), decide_eq_false (fun h => hne (by rw [<- h, q]))]
  ·rw [if_pos (hp.2 q)]
 rw [if_neg k4, if_neg k4]
 by_cases k5 : e.Kind = 5
 ·rw [if_pos k5, if_pos k5]
  cases s.Open with
  | false => rfl
  | true =>
   dsimp only
   by_cases q : s.Pending = []
   ·rw [decide_eq_false (fun h => hp.1 h q), decide_eq_true q]; rfl
   ·rw [decide_eq_true (hp.2 q), decide_eq_false q]; rfl
 ·rw [if_neg k5, if_neg k5]
theorem Nl {s : GState} {a : List UInt8} (hl : s.Entries.length <= 2 ^ 40) (hA : Asc (s.Entries.map GEntry.Addr)) : ∃ c : Nat, kL (s.Entries.map GEntry.Addr) a c ∧ yh s a = some ((c : Int), yP s.Entries a) ∧ (yP s.Entries a = true ↔ (s.Entries.map GEntry.Addr)[c]? = some a) := by
 unfold yh
 obtain ⟨c, hp, hc⟩ := EO (a := s.Entries) (x := a) hl hA
 rw [hc]
 exact ⟨c, hp, rfl, Yq.trans (kL.mem hA hp).symm⟩
theorem OV {s : GState} {e : GEvent} (hI : stI s) (hl : s.Entries.length <= 2 ^ 40) : kl s e = some (Xc s e) := by
 unfold kl Xc xt
 obtain ⟨c, hp, hc, _⟩ := Nl (a := e.Addr) hl hI.2.2.1
 rw [hc, Option.bind_some]
 dsimp only
 by_cases h0 : s.Serial = 1000000
 ·rw [if_pos h0, if_pos h0]
 rw [if_neg h0, if_neg h0]
 by_cases k0 : e.Kind = 0
 ·rw [if_pos k0, if_pos k0]
 rw [if_neg k0, if_neg k0]
 have hz := @X0 s.Pending
 by_cases k1 : e.Kind = 1
 ·rw [if_pos k1, if_pos k1]
  cases s.Open with
  | false => rfl
  | true =>
   dsimp only
   by_cases q : s.Pending = []
   ·rw [if_pos (hz.2 q), decide_eq_true q]
    by_cases a1 : e.Act = 1
    ·rw [decide_eq_false (p := e.Act ≠ 1) (by omega)]
     cases hb : yP s.Entries e.Addr with
     | true => rw [if_pos rfl, if_pos a1]; rfl
     | false => rw [if_neg (by decide), if_pos a1]; simp; omega
    ·rw [decide_eq_true (p := e.Act ≠ 1) a1]
     cases hb : yP s.Entries e.Addr with
     | true => rw [if_pos rfl, if_neg a1]; rfl
     | false => rw [if_neg (by decide), if_neg a1]; simp
   ·rw [if_neg (fun h => q (hz.1 h)), decide_eq_false q]; rfl
 rw [if_neg k1, if_neg k1]
 by_cases k2 : e.Kind = 2
 ·rw [if_pos k2, if_pos k2, Option.bind_some]
  by_cases q : s.Pending = e.Addr
  ·rw [decide_eq_true q]; by_cases a4 : s.Act = 4 <;> simp [a4]
  ·rw [decide_eq_false q]; rfl
 rw [if_neg k2, if_neg k2]
 by_cases k3 : e.Kind = 3
 ·rw [if_pos k3, if_pos k3, Option.bind_some]
  by_cases q : s.Pending = e.Addr
  ·rw [decide_eq_true q]; rfl
  ·rw [decide_eq_false q]; rfl
 rw [if_neg k3, if_neg k3]
 by_cases k4 : e.Kind = 4
 ·rw [if_pos k4, if_pos k4]; rfl
 rw [if_neg k4, if_neg k4]
 by_cases k5 : e.Kind = 5
 ·rw [if_pos k5, if_pos k5]
  cases s.Open with
  | false => rfl
  | true =>
   dsimp only
   by_cases q : s.Pending = []
   ·rw [decide_eq_true (hz.2 q), decide_eq_true q]; rfl
   ·rw [decide_eq_false (fun h => q (hz.1 h)), decide_eq_false q]; rfl
 ·rw [if_neg k5, if_neg k5]
theorem EY {l : List GEntry} {c : Nat} {x : GEntry} (h : l[c]? = some x) (A : GEntry) (f : GEntry → GEntry) : (((l.set c A)[c]?).bind fun y => some ((l.set c A).set c (f y))) = some (l.set c (f A)) := by
 have hl := (List.getElem?_eq_some_iff.1 h).1
 rw [List.getElem?_set_self (by simpa using hl), Option.bind_some, List.set_set]
theorem Ro {l : List GEntry} {c : Nat} {a : List UInt8} (h : (l.map GEntry.Addr)[c]? = some a) : ∃ x, l[c]? = some x ∧ x.Addr = a := by
 rw [List.getElem?_map] at h
 obtain ⟨x, h1, h2⟩ := Option.map_eq_some_iff.1 h
 exact ⟨x, h1, h2⟩
theorem O0 {l : List GEntry} {a : List UInt8} {c : Nat} (hA : Asc (l.map GEntry.Addr)) (h : (l.map GEntry.Addr)[c]? = some a) : Yf l a 0 = (c : Int) := by
 have hb : yP l a = true := Yq.2 (List.mem_of_getElem? h)
 obtain ⟨k, h1, e, h2, h3⟩ := Ng l 0 hb
 rw [Nat.zero_add] at h1
 have hk : (l.map GEntry.Addr)[k]? = some a := by rw [List.getElem?_map, h2, Option.map_some, h3]
 have A := ZG.1 hA
 have : k = c := by
  rcases Nat.lt_trichotomy k c with h4 | h4 | h4
  ·have := A k c a a h4 hk h; rw [Zt] at this; cases this
  ·exact h4
  ·have := A c k a a h4 h hk; rw [Zt] at this; cases this
 rw [h1, this]
def tnE (ser : Int) (x : GEntry) : GEntry := .mk x.Addr x.Val x.Deps true ser
def nwE (a : List UInt8) (ser : Int) : GEntry := .mk a (.mk 5 0 [] [] []) [] true ser
theorem zec (a : List UInt8) (ser : Int) : esz (nwE a ser) = a.length := by
 show a.length + vsz (.mk 5 0 [] [] []) + bsz [] = a.length
 rw [show vsz (.mk 5 0 [] [] []) = 0 from rfl, show bsz [] = 0 from rfl]; rfl
theorem Gs {l : List GEntry} {c : Nat} (hc : c <= l.length) (hl : l.length <= 1048576) (x : GEntry) : wD (c : Int) l [x] = some (yK l c x) := by
 show (if 0 <= (c : Int) ∧ (c : Int) <= (l.length : Int) ∧ l.length <= 1048576 then some (yK l (c : Int).toNat x) else none) = _
 rw [if_pos ⟨by omega, by omega, hl⟩, Int.toNat_natCast]
theorem zbn {l : List GEntry} {c : Nat} (hc : c < l.length) (hl : l.length <= 1048576) : wE (c : Int) (((c + 1 : Nat) : Int)) l = some (qc l c) := by
 unfold wE
 rw [if_pos ⟨by omega, by omega, by omega, hl⟩, Int.toNat_natCast]
theorem Gt {l : List GEntry} {c : Nat} (hc : c <= l.length) (x y : GEntry) : (yK l c x).set c y = yK l c y := by
 apply List.ext_getElem?
 intro m
 rw [List.getElem?_set, WU l c x hc, WU l c y hc]
 have hlen : (yK l c x).length = l.length + 1 := by simp [yK]; omega
 by_cases h : c = m
 ·subst h
  rw [if_pos rfl, if_pos (by omega), if_neg (by omega), if_pos rfl]
 ·rw [if_neg h]
  by_cases h1 : m < c
  ·rw [if_pos h1, if_pos h1]
  ·rw [if_neg h1, if_neg h1, if_neg (Ne.symm h), if_neg (Ne.symm h)]
theorem Gu {l : List GEntry} {c : Nat} {x : GEntry} (h : l[c]? = some x) (f : GEntry → GEntry) : l.modify c f = l.set c (f x) := by
 apply List.ext_getElem?
 intro i
 rw [List.getElem?_modify, List.getElem?_set]
 have hl := (List.getElem?_eq_some_iff.1 h).1
 by_cases hi : c = i
 ·subst hi; rw [if_pos rfl, if_pos hl, h]; simp
 ·rw [if_neg hi]; simp [hi]
theorem Nm {b : Bool} {ser : Int} {op : Bool} {act : Int} {a : List UInt8} {l : List GEntry} {c : Nat} (hl : l.length <= 1048576) (hal : a.length <= 2 ^ 38) (hA : Asc (l.map GEntry.Addr)) (hp : kL (l.map GEntry.Addr) a c) :
  qB b ser op act a l = some (.mk ser op a act (if a = [] then l else if yP l a = true then l.modify c (tnE ser) else if b = true then yK l c (nwE a ser) else l)) := by
 unfold qB
 by_cases ha : a = []
 ·rw [if_pos (X0.2 ha), if_pos ha]
 rw [if_neg (fun h => ha (X0.1 h)), if_neg ha]
 obtain ⟨c', hp', hc, hb⟩ := Nl (s := GState.mk ser op a act l) (a := a) (by show l.length <= _; omega) hA
 change kL (l.map GEntry.Addr) a c' at hp'
 change yP l a = true ↔ (l.map GEntry.Addr)[c']? = some a at hb
 change yh (GState.mk ser op a act l) a = some ((c' : Int), yP l a) at hc
 have hcc : c' = c := by
  have h1 := hp.1; have h2 := hp'.1
  rcases Nat.lt_trichotomy c' c with h | h | h
  ·have := (ZH hp' (i := c') (List.getElem?_eq_getElem (by omega))).2 ((ZH hp (i := c') (List.getElem?_eq_getElem (by omega))).1 h); omega
  ·exact h
  ·have := (ZH hp (i := c) (List.getElem?_eq_getElem (by omega))).2 ((ZH hp' (i := c) (List.getElem?_eq_getElem (by omega))).1 h); omega
 subst hcc
 have hcl : c' <= l.length := by have := hp.1; rwa [List.length_map] at this
 rw [hc, Option.bind_some]
 try dsimp only
 cases hh : yP l a with
 | true =>
  obtain ⟨x, hx, hxa⟩ := Ro (hb.1 hh)
  try dsimp only
  rw [zb, Option.bind_some, hx, Option.bind_some, if_pos rfl]
  have := EY hx (GEntry.mk x.Addr x.Val x.Deps true x.Turned) (fun x5 => GEntry.mk x5.Addr x5.Val x5.Deps x5.Taint ser)
  have hl2 := (List.getElem?_eq_some_iff.1 hx).1
  rw [List.getElem?_set_self (by simpa using hl2), Option.bind_some, List.set_set, Gu hx]
  rfl
 | false =>
  rw [if_neg (by decide)]
  try dsimp only
  cases b with
  | false => rfl
  | true =>
   try dsimp only
   unfold zO
   rw [if_pos (xF (by decide) (by omega)), Option.bind_some, Gs hcl hl, Option.bind_some, zb, Option.bind_some]
   have hg : ∀ x, (yK l c' x)[c']? = some x := fun x => by rw [WU l c' x hcl, if_neg (by omega), if_pos rfl]
   rw [hg, Option.bind_some, Gt hcl, hg, Option.bind_some, Gt hcl, if_pos rfl]
   rfl
theorem Nn {l : List GEntry} {c : Nat} {ser : Int} : (l.modify c (tnE ser)).map GEntry.Addr = l.map GEntry.Addr := by
 apply List.ext_getElem?
 intro i
 rw [List.getElem?_map, List.getElem?_map, List.getElem?_modify]
 split <;> cases l[i]? <;> rfl
theorem TO {ser : Int} : ∀ (l : List GEntry) (c : Nat), yb (l.modify c (tnE ser)) = yb l
 | [], c => by simp [yb]
 | x :: l, 0 => by simp only [List.modify_zero_cons, yb]; rfl
 | x :: l, c + 1 => by simp only [List.modify_succ_cons, yb, TO l c]
theorem zbo {s : GState} {e : GEvent} (hI : stI s) (he : evB e = true) (hm : Xc s e = true) (hz : ssz s + xf e <= 2 ^ 36) (hl : s.Entries.length <= 1048576) :
  ∃ s', vH e s = some s' ∧ wL s e = some (s', true) ∧ stI s' ∧ ssz s' <= ssz s + xf e + 1 ∧ s'.Entries.length <= s.Entries.length + 1 := by
 have hI0 := hI
 obtain ⟨i1, i2, i3, i4⟩ := hI
 have hser : s.Serial < 1000000 := by
  rcases Int.lt_or_le s.Serial 1000000 with h | h
  ·exact h
  ·unfold Xc at hm; rw [if_pos (by omega)] at hm; cases hm
 have hw : w64 (s.Serial + 1) = s.Serial + 1 := zV (by omega) (by omega)
 have hcp : yB s = some s := if_pos (by omega)
 have hft := OV (e := e) hI0 (by omega)
 rw [hm] at hft
 unfold ssz xf at *
 have hroom : ∀ n, n <= 1048577 → ym 152 n := fun n hn => j8 (by omega)
 unfold vH wL
 rw [hcp, Option.bind_some, hft, Option.bind_some, hw]
 dsimp only
 obtain ⟨c, hp, hc, hb⟩ := Nl (s := GState.mk (s.Serial + 1) s.Open s.Pending s.Act s.Entries) (a := e.Addr) (by show s.Entries.length <= _; omega) i3
 change kL (s.Entries.map GEntry.Addr) e.Addr c at hp
 change yP s.Entries e.Addr = true ↔ (s.Entries.map GEntry.Addr)[c]? = some e.Addr at hb
 change yh (GState.mk (s.Serial + 1) s.Open s.Pending s.Act s.Entries) e.Addr = some ((c : Int), yP s.Entries e.Addr) at hc
 have hcl : c <= s.Entries.length := by have := hp.1; rwa [List.length_map] at this
 rw [hc, Option.bind_some]
 dsimp only
 unfold wj
 rw [if_pos (by show s.Entries.length <= _; omega), Option.bind_some, show (GState.mk (s.Serial + 1) s.Open s.Pending s.Act s.Entries).Entries = s.Entries from rfl]
 unfold Xc at hm
 rw [if_neg (by omega)] at hm
 have hdone : ∀ (l : List GEntry) (o : Bool), Asc (l.map GEntry.Addr) → stI (GState.mk (s.Serial + 1) o [] 0 l) := fun l o h => ⟨by show (0 : Int) <= s.Serial + 1; omega, by show s.Serial + 1 <= 1000000; omega, h, fun h => absurd rfl h⟩
 by_cases k0 : e.Kind = 0
 ·rw [if_pos k0, if_pos k0]
  refine ⟨_, rfl, rfl, ⟨by show (0 : Int) <= s.Serial + 1; omega, by show s.Serial + 1 <= 1000000; omega, i3, fun h => ⟨rfl, (i4 h).2⟩⟩, by (try simp only [j5, j6]); omega, by (try simp only [j5, j6]); omega⟩
 rw [if_neg k0, if_neg k0]
 rw [if_neg k0] at hm
 by_cases k1 : e.Kind = 1
 ·rw [if_pos k1, if_pos k1]
  rw [if_pos k1] at hm
  simp only [Bool.and_eq_true, decide_eq_true_eq, beq_iff_eq] at hm
  unfold zO
  rw [if_pos (xF (by decide) (by omega)), Option.bind_some]
  refine ⟨_, rfl, rfl, ⟨by show (0 : Int) <= s.Serial + 1; omega, by show s.Serial + 1 <= 1000000; omega, i3, fun h => ⟨hm.1.1.1, hm.1.2⟩⟩, by (try simp only [j5, j6]); omega, by (try simp only [j5, j6]); omega⟩
 rw [if_neg k1, if_neg k1]
 rw [if_neg k1] at hm
 by_cases k2 : e.Kind = 2
 ·rw [if_pos k2, if_pos k2]
  rw [if_pos k2] at hm
  simp only [Bool.and_eq_true, decide_eq_true_eq] at hm
  unfold zO yU yx jn
  rw [if_pos (xF (by decide) (by omega)), Option.bind_some, if_pos (by omega), Option.bind_some, if_pos (by omega), Option.bind_some, if_pos (by omega), Option.bind_some]
  have hpe : vJ (GEntry.mk e.Addr e.Val e.Deps false (s.Serial + 1)) false s.Entries = if (s.Entries.map GEntry.Addr)[c]? = some e.Addr then s.Entries.set c (GEntry.mk e.Addr e.Val e.Deps false (s.Serial + 1)) else yK s.Entries c (GEntry.mk e.Addr e.Val e.Deps false (s.Serial + 1)) := Oz (e := GEntry.mk e.Addr e.Val e.Deps false (s.Serial + 1)) i3 hp
  rw [hpe]
  cases hh : yP s.Entries e.Addr with
  | true =>
   have hk := hb.1 hh
   obtain ⟨x, hx, hxa⟩ := Ro hk
   dsimp only
   rw [zb, Option.bind_some, hx, Option.bind_some, if_pos hk]
   refine ⟨_, rfl, rfl, hdone _ _ (by rw [Nh (by exact hk)]; exact i3), ?_, by (try simp only [j5, j6]); rw [List.length_set]; omega⟩
   have h1 := Nk s.Entries c (GEntry.mk e.Addr e.Val e.Deps false (s.Serial + 1))
   have h2 : esz (GEntry.mk e.Addr e.Val e.Deps false (s.Serial + 1)) = e.Addr.length + vsz e.Val + bsz e.Deps := rfl
   try simp only [j5, j6]
   try simp only [List.length_nil]
   omega
  | false =>
   have hk : ¬ (s.Entries.map GEntry.Addr)[c]? = some e.Addr := fun h => by rw [hb.2 h] at hh; cases hh
   dsimp only
   rw [Gs hcl hl, Option.bind_some, if_neg hk]
   refine ⟨_, rfl, rfl, hdone _ _ (by rw [VV]; exact Gq i3 hp hk), ?_, by (try simp only [j5, j6]); simp [yK]; omega⟩
   have h1 := Nj s.Entries c (GEntry.mk e.Addr e.Val e.Deps false (s.Serial + 1))
   have h2 : esz (GEntry.mk e.Addr e.Val e.Deps false (s.Serial + 1)) = e.Addr.length + vsz e.Val + bsz e.Deps := rfl
   try simp only [j5, j6]
   try simp only [List.length_nil]
   omega
 rw [if_neg k2, if_neg k2]
 rw [if_neg k2] at hm
 by_cases k3 : e.Kind = 3
 ·rw [if_pos k3, if_pos k3]
  rw [if_pos k3] at hm
  simp only [Bool.and_eq_true, decide_eq_true_eq] at hm
  have hne := Pl he (.inr (.inr (.inl k3)))
  have hh : yP s.Entries e.Addr = true := by
   have := (i4 (by rw [hm.1]; exact hne)).2
   rw [<- hm.1, this, decide_eq_true]; omega
  have hk := hb.1 hh
  have hcl2 : c < s.Entries.length := by have := (List.getElem?_eq_some_iff.1 hk).1; rwa [List.length_map] at this
  rw [hm.1, O0 i3 hk, zb, Option.bind_some, zG (by omega), zb]
  unfold xI
  rw [show kW none (some c) s.Entries.length = some (0, c) by unfold kW; simp; omega, Option.map_some, Option.bind_some]
  rw [if_pos (hroom _ (by simp; omega)), Option.bind_some, show kW (some (c + 1)) none s.Entries.length = some (c + 1, s.Entries.length) by unfold kW; simp; omega, Option.map_some, Option.bind_some]
  rw [if_pos (hroom _ (by simp; omega)), zbn hcl2 hl, Option.bind_some]
  refine ⟨_, rfl, ?_, hdone _ _ ?_, ?_, ?_⟩
  ·simp [qc]
  ·have := zbm i3 (c := c) (by rwa [List.length_map])
   rw [<- Ni] at this
   simpa [qc] using this
  ·have := Bw s.Entries c
   have h2 : ∀ L : List GEntry, L = qc s.Entries c → yb L <= yb s.Entries := fun L h => by rw [h]; exact this
   have := h2 (List.drop 0 (List.take c s.Entries) ++ List.drop (c + 1) (List.take s.Entries.length s.Entries)) (by simp [qc])
   try simp only [j5, j6]
   try simp only [List.length_nil]
   omega
  ·(try simp only [j5, j6]); simp; omega
 rw [if_neg k3, if_neg k3]
 rw [if_neg k3] at hm
 obtain ⟨c2, hp2⟩ := kL.of i3 s.Pending
 have hcl2 : c2 <= s.Entries.length := by have := hp2.1; rwa [List.length_map] at this
 have hmem := kL.mem i3 hp2
 have hsp : ∀ (o : Bool) (x : GEntry), s.Entries[c2]? = some x → ((zu (c2 : Int)).bind fun i10 => (s.Entries[i10]?).bind fun x11 => ((s.Entries.set i10 (GEntry.mk x11.Addr x11.Val x11.Deps true x11.Turned))[i10]?).bind fun x12 => some (GState.mk (s.Serial + 1) o [] 0 ((s.Entries.set i10 (GEntry.mk x11.Addr x11.Val x11.Deps true x11.Turned)).set i10 (GEntry.mk x12.Addr x12.Val x12.Deps x12.Taint (s.Serial + 1))))) =
   some (GState.mk (s.Serial + 1) o [] 0 (s.Entries.modify c2 (tnE (s.Serial + 1)))) := fun o x hx => by
  have hl2 := (List.getElem?_eq_some_iff.1 hx).1
  rw [zb, Option.bind_some, hx, Option.bind_some, List.getElem?_set_self (by simpa using hl2), Option.bind_some, List.set_set, Gu hx]
  rfl
 by_cases k4 : e.Kind = 4
 ·rw [if_pos k4, if_pos k4]
  rw [if_pos k4] at hm
  simp only [decide_eq_true_eq] at hm
  have hne := Pl he (.inr (.inr (.inr k4)))
  have hpn : s.Pending ≠ [] := by rw [hm]; exact hne
  rw [Nm hl (by omega) i3 hp2, Option.bind_some, if_neg hpn, if_neg (fun h => hpn (X0.1 h)), (i4 hpn).1]
  cases hh : yP s.Entries s.Pending with
  | true =>
   have hk := hmem.2 (Yq.1 hh)
   obtain ⟨x, hx, _⟩ := Ro hk
   rw [O0 i3 hk, if_pos (by omega), if_pos (hroom _ (by omega)), hsp true x hx]
   refine ⟨_, rfl, rfl, hdone _ _ (by rw [Nn]; exact i3), ?_, by (try simp only [j5, j6]); simp⟩
   try simp only [j5, j6]
   try simp only [List.length_nil]
   rw [TO]
   omega
  | false =>
   rw [JI hh, if_neg (by decide)]
   refine ⟨_, rfl, rfl, hdone _ _ i3, ?_, by (try simp only [j5, j6]); simp⟩
   try simp only [j5, j6]
   try simp only [Bool.false_eq_true, if_false]
   try simp only [List.length_nil]
   omega
 rw [if_neg k4, if_neg k4]
 rw [if_neg k4] at hm
 by_cases k6 : e.Kind = 6
 ·rw [if_pos k6, if_pos k6]
  rw [Nm hl (by omega) i3 hp2, Option.bind_some]
  by_cases hpn : s.Pending = []
  ·rw [if_pos hpn, if_pos (X0.2 hpn)]
   refine ⟨_, rfl, rfl, hdone _ _ i3, ?_, by (try simp only [j5, j6]); omega⟩
   try simp only [j5, j6]
   try simp only [List.length_nil]
   omega
  rw [if_neg hpn, if_neg (fun h => hpn (X0.1 h))]
  cases hh : yP s.Entries s.Pending with
  | true =>
   have hk := hmem.2 (Yq.1 hh)
   obtain ⟨x, hx, _⟩ := Ro hk
   rw [O0 i3 hk, if_pos (by omega), if_pos (hroom _ (by omega)), hsp false x hx]
   refine ⟨_, rfl, rfl, hdone _ _ (by rw [Nn]; exact i3), ?_, by (try simp only [j5, j6]); simp⟩
   try simp only [j5, j6]
   try simp only [List.length_nil]
   rw [TO]
   omega
  | false =>
   have hk : ¬ (s.Entries.map GEntry.Addr)[c2]? = some s.Pending := fun h => by rw [Yq.2 (hmem.1 h)] at hh; cases hh
   unfold jn
   rw [JI hh, if_neg (by decide), if_pos (by omega), Option.bind_some]
   rw [show vJ (GEntry.mk s.Pending (GValue.mk 5 0 [] [] []) [] true (s.Serial + 1)) false s.Entries = yK s.Entries c2 (nwE s.Pending (s.Serial + 1)) by
    have : vJ (nwE s.Pending (s.Serial + 1)) false s.Entries = if (s.Entries.map GEntry.Addr)[c2]? = some s.Pending then s.Entries.set c2 (nwE s.Pending (s.Serial + 1)) else yK s.Entries c2 (nwE s.Pending (s.Serial + 1)) := Oz (e := nwE s.Pending (s.Serial + 1)) i3 hp2
    rw [if_neg hk] at this
    exact this]
   refine ⟨_, rfl, rfl, hdone _ _ (by rw [VV]; exact Gq i3 hp2 hk), ?_, by (try simp only [j5, j6]); simp [yK]; omega⟩
   have h1 := Nj s.Entries c2 (nwE s.Pending (s.Serial + 1))
   rw [zec] at h1
   try simp only [j5, j6]
   try simp only [List.length_nil]
   omega
 rw [if_neg k6, if_neg k6]
 by_cases k5 : e.Kind = 5
 ·rw [if_pos k5, if_pos k5]
  refine ⟨_, rfl, rfl, hdone _ _ i3, ?_, by (try simp only [j5, j6]); omega⟩
  try simp only [j5, j6]
  try simp only [List.length_nil]
  omega
 ·exfalso
  unfold evB at he
  rw [if_neg k2, if_neg (by omega), if_neg k1, if_neg (by omega), Bool.and_false] at he
  cases he
def nxS (e : GEvent) (s : GState) : GState := (vH e s).getD s
def VW : GState → List GEvent → GState × Bool
 | s, [] => (s, true)
 | s, e :: l => bif Xc s e then VW (nxS e s) l else (s, false)
def Np : GState → List GEvent → List GState
 | _, [] => []
 | s, e :: l => nxS e s :: Np (nxS e s) l
def okS : GState → List GEvent → Bool
 | _, [] => true
 | s, e :: l => evB e && (Xc s e && okS (nxS e s) l)
theorem AT {s : GState} {e : GEvent} (hI : stI s) (he : evB e = true) (hm : Xc s e = true) (hz : ssz s + xf e <= 2 ^ 20) : vH e s = some (nxS e s) ∧ wL s e = some (nxS e s, true) ∧ stI (nxS e s) ∧ ssz (nxS e s) <= ssz s + xf e + 1 := by
 have hlen := qw s.Entries
 obtain ⟨s', h1, h2, h3, h4, _⟩ := zbo hI he hm (by omega) (by unfold ssz at hz; omega)
 have : nxS e s = s' := by unfold nxS; rw [h1]; rfl
 rw [this]
 exact ⟨h1, h2, h3, h4⟩
theorem doN {s : GState} {e : GEvent} (hI : stI s) (hm : Xc s e = false) (hz : ssz s <= 2 ^ 20) : wL s e = some (s, false) := by
 have hlen := qw s.Entries
 have hft := OV (e := e) hI (by unfold ssz at hz; omega)
 rw [hm] at hft
 unfold wL
 rw [show yB s = some s from if_pos (by omega), Option.bind_some, hft, Option.bind_some]
theorem Gv : ∀ {l : List GEvent} {s : GState}, (∀ e ∈ l, evB e = true) → okS s l = (VW s l).2
 | [], s, _ => rfl
 | e :: l, s, h => by
  rw [okS, VW, h e List.mem_cons_self, Bool.true_and, Gv fun x hx => h x (List.mem_cons_of_mem _ hx)]
  cases Xc s e <;> rfl
theorem EZ : ∀ {l : List GEvent} {s : GState}, okS s l = true → ∀ e ∈ l, evB e = true
 | [], _, _ => by simp
 | e :: l, s, h => by
  rw [okS, Bool.and_eq_true, Bool.and_eq_true] at h
  intro x hx
  rcases List.mem_cons.1 hx with rfl | hx
  ·exact h.1
  ·exact EZ h.2.2 x hx
theorem zed {m : Nat} (hm : m <= 2 ^ 39) : ym 72 m := xF (by decide) (by omega)
theorem Da {h : GHistory} {k : Int} {v3 : Int} {v4 : Bool} {v5 : Int} {v7 : List UInt8} {v8 : List GEntry} : ∀ (l p r : List GEvent) (s : GState) (m : Nat), h.Events = p ++ l ++ r → k = ((p.length + l.length : Nat) : Int) → l.length < m → (∀ e ∈ l, evB e = true) → stI s → ssz s + zX l <= 2 ^ 20 → p.length + l.length <= 2 ^ 40 →
  ∃ z, qk k h v3 v4 v5 v7 v8 m (p.length : Int) s = some (bif (VW s l).2 then .inr (z, (VW s l).1) else .inl (false, (VW s l).1)) := by
 intro l
 induction l with
 | nil =>
  intro p r s m _ hk hm _ _ _ _
  obtain ⟨m, rfl, _⟩ := zg hm
  exact ⟨_, by rw [qk, hk, if_neg (by simp)]; rfl⟩
 | cons e l ih =>
  intro p r s m he hk hm hev hI hz hp
  obtain ⟨m, rfl, hm'⟩ := zg hm
  simp only [List.length_cons] at hk hm' hp
  simp only [zX] at hz
  have hlen := qw s.Entries
  have hg : h.Events[p.length]? = some e := by rw [he, List.append_assoc]; exact zF p e (l ++ r)
  have hee := hev e List.mem_cons_self
  rw [qk, hk, if_pos (by omega), zb, Option.bind_some, hg, Option.bind_some, Bx hI hee (by unfold ssz at hz; omega), Option.bind_some, VW]
  cases hmy : Xc s e with
  | false => exact ⟨0, rfl⟩
  | true =>
   obtain ⟨h1, _, h3, h4⟩ := AT hI hee hmy (by omega)
   obtain ⟨z, hzz⟩ := ih (p ++ [e]) r (nxS e s) m (by rw [he]; simp) (by rw [hk]; simp; omega) (by omega) (fun x hx => hev x (List.mem_cons_of_mem _ hx)) h3 (by omega) (by simp; omega)
   refine ⟨z, ?_⟩
   dsimp only
   rw [h1, Option.bind_some, y4 p e (by omega), <- hk, hzz]
   rfl
theorem NT {evs : List GEvent} {n : Int} : ∀ (l p : List GEvent) (q : List GState) (s : GState) (m : Nat), evs = p ++ l → n = (evs.length : Int) → l.length < m → q.length = p.length → stI s → ssz s + zX l <= 2 ^ 20 → evs.length <= 2 ^ 30 →
  ∃ z, yM evs n m (p.length : Int) (q ++ [s]) = some (bif okS s l then .inr (z, q ++ [s] ++ Np s l) else .inl (false, [])) := by
 intro l
 induction l with
 | nil =>
  intro p q s m he hn hm _ _ _ _
  obtain ⟨m, rfl, _⟩ := zg hm
  exact ⟨_, by rw [yM, hn, he, if_neg (by simp)]; simp [okS, Np]; rfl⟩
 | cons e l ih =>
  intro p q s m he hn hm hq hI hz hb
  obtain ⟨m, rfl, hm'⟩ := zg hm
  simp only [List.length_cons] at hm'
  simp only [zX] at hz
  have hg : evs[p.length]? = some e := by rw [he]; exact zF p e l
  have hlen : evs.length = p.length + (l.length + 1) := by rw [he]; simp
  have hgs : (q ++ [s])[p.length]? = some s := by rw [<- hq]; exact zF q s []
  rw [yM, hn, if_pos (by omega), zb, Option.bind_some, hg, Option.bind_some, EV (by omega), Option.bind_some, okS]
  cases hev : evB e with
  | false => exact ⟨0, rfl⟩
  | true =>
   dsimp only
   rw [hgs, Option.bind_some]
   cases hmy : Xc s e with
   | false =>
    rw [doN hI hmy (by omega), Option.bind_some]
    exact ⟨0, rfl⟩
   | true =>
    obtain ⟨_, h2, h3, h4⟩ := AT hI hev hmy (by omega)
    obtain ⟨z, hzz⟩ := ih (p ++ [e]) (q ++ [s]) (nxS e s) m (by rw [he]; simp) hn (by omega) (by simp [hq]) h3 (by omega) hb
    rw [h2, Option.bind_some]
    dsimp only
    rw [if_pos (zed (by simp; omega)), y4 p e (by omega), <- hn, hzz]
    refine ⟨z, ?_⟩
    simp only [Bool.true_and, Np]
    cases okS (nxS e s) l <;> simp
theorem By {h : GHistory} (hz : zX h.Events <= 2 ^ 20) : ∀ (l p : List GEvent) (m : Nat), h.Events = p ++ l → l.length < m → ∃ z, ql h m (p.length : Int) = some (bif l.all evB then .inr z else .inl false) := by
 have hl := jQ h.Events
 intro l
 induction l with
 | nil =>
  intro p m he hm
  obtain ⟨m, rfl, _⟩ := zg hm
  exact ⟨_, by rw [ql, he, if_neg (by simp)]; rfl⟩
 | cons e l ih =>
  intro p m he hm
  obtain ⟨m, rfl, hm'⟩ := zg hm
  have hlen : h.Events.length = p.length + (l.length + 1) := by rw [he]; simp
  have hx : 1 + xf e <= zX h.Events := XQ (by rw [he]; simp)
  obtain ⟨z, hzz⟩ := ih (p ++ [e]) m (by rw [he]; simp) (by simp only [List.length_cons] at hm'; omega)
  rw [ql, if_pos (by omega), zb, Option.bind_some, show h.Events[p.length]? = some e by rw [he]; exact zF p e l, Option.bind_some, EW (by omega), Option.bind_some, List.all_cons]
  cases evB e with
  | false => exact ⟨0, rfl⟩
  | true =>
   refine ⟨z, ?_⟩
   dsimp only
   rw [y4 p e (by omega), hzz, Bool.true_and]
def hsz (h : GHistory) : Nat := ssz h.Base + zX h.Events
def hOk (h : GHistory) : Bool := stB h.Base && (decide (h.Events.length <= 300) && (decide (0 <= h.Safe ∧ h.Safe <= h.Events.length) && okS h.Base h.Events))
theorem Bz {h : GHistory} (hz : hsz h <= 2 ^ 20) : vx h = some (hOk h) := by
 unfold hsz at hz
 have hl := jQ h.Events
 unfold vx Yi hOk
 rw [EE (by omega), Option.bind_some]
 cases hs : stB h.Base with
 | false => rfl
 | true =>
  dsimp only
  by_cases c1 : 300 < (h.Events.length : Int)
  ·rw [if_pos c1, decide_eq_false (p := h.Events.length <= 300) (by omega)]; rfl
  rw [if_neg c1, decide_eq_true (p := h.Events.length <= 300) (by omega)]
  by_cases c2 : h.Safe < 0
  ·rw [if_pos c2, decide_eq_false (p := 0 <= h.Safe ∧ h.Safe <= h.Events.length) (by omega)]; rfl
  rw [if_neg c2]
  by_cases c3 : (h.Events.length : Int) < h.Safe
  ·rw [if_pos c3, decide_eq_false (p := 0 <= h.Safe ∧ h.Safe <= h.Events.length) (by omega)]; rfl
  rw [if_neg c3, decide_eq_true (p := 0 <= h.Safe ∧ h.Safe <= h.Events.length) (by omega)]
  obtain ⟨z, hzz⟩ := By (h := h) (by omega) h.Events [] (h.Events.length + 5) rfl (by omega)
  simp only [List.length_nil, Int.natCast_zero] at hzz
  rw [hzz, Option.bind_some]
  cases hall : h.Events.all evB with
  | false =>
   have : okS h.Base h.Events = false := by
    cases hk : okS h.Base h.Events with
    | false => rfl
    | true => rw [List.all_eq_true.2 (EZ hk)] at hall; cases hall
   rw [this]; rfl
  | true =>
   have hev := List.all_eq_true.1 hall
   simp only [cond_true]
   unfold Yh Yg
   obtain ⟨z2, h2⟩ := Da (h := h) (k := (h.Events.length : Int)) (v3 := 0) (v4 := false) (v5 := 0) (v7 := []) (v8 := []) h.Events [] [] h.Base (h.Events.length + 5) (by simp) (by simp) (by omega) hev (AS hs) hz (by simp; omega)
   simp only [List.length_nil, Int.natCast_zero] at h2
   rw [h2, Gv hev, Option.bind_some]
   cases (VW h.Base h.Events).2 <;> rfl
theorem Db {h : GHistory} (hz : hsz h <= 2 ^ 20) : w6 h = some (bif hOk h then (h.Base :: Np h.Base h.Events, true) else ([], false)) := by
 unfold hsz at hz
 have hl := jQ h.Events
 unfold w6 qQ hOk
 rw [EQ (by omega), Option.bind_some]
 cases hs : stB h.Base with
 | false => rfl
 | true =>
  dsimp only
  by_cases c1 : 300 < (h.Events.length : Int)
  ·rw [if_pos c1, decide_eq_false (p := h.Events.length <= 300) (by omega)]; rfl
  rw [if_neg c1, decide_eq_true (p := h.Events.length <= 300) (by omega)]
  have hin : xa h.Safe 0 (h.Events.length : Int) = some (decide (0 <= h.Safe ∧ h.Safe <= h.Events.length)) := by
   unfold xa
   by_cases c2 : 0 <= h.Safe
   ·rw [if_pos c2]; simp [c2]
   ·rw [if_neg c2]; simp [c2]
  rw [hin, Option.bind_some]
  by_cases c2 : 0 <= h.Safe ∧ h.Safe <= h.Events.length
  ·rw [decide_eq_true c2]
   dsimp only
   rw [show yB h.Base = some h.Base from if_pos (by omega), Option.bind_some]
   obtain ⟨z, hzz⟩ := NT (evs := h.Events) (n := (h.Events.length : Int)) h.Events [] [] h.Base (h.Events.length + 5) rfl rfl (by omega) rfl (AS hs) hz (by omega)
   simp only [List.length_nil, Int.natCast_zero, List.nil_append] at hzz
   rw [hzz, Option.bind_some]
   cases okS h.Base h.Events <;> simp
  ·rw [decide_eq_false c2]; rfl
def MdH (h : GHistory) : Prop := MdS h.Base ∧ h.Events.length <= 2 ^ 63 - 1 ∧ W4 h.Events
theorem zee {h : GHistory} {n : Int} (hm : MdH h) (h0 : 0 <= n) (h1 : n <= 2 ^ 20) : kZ h n = some (yW (hsz h) n) := by
 unfold kZ
 rw [zd9 hm.1 h0 h1, Option.bind_some]
 unfold yW hsz
 by_cases c1 : (ssz h.Base : Int) <= n
 ·rw [if_pos c1, if_neg (by omega)]
  unfold jE
  rw [if_pos ⟨hm.2.1, hm.2.2, by omega, by omega⟩, Option.bind_some]
  unfold yW
  by_cases c2 : (zX h.Events : Int) <= n - ssz h.Base
  ·rw [if_pos c2, if_neg (by omega), if_pos (by omega)]; congr 1; omega
  ·rw [if_neg c2, if_pos (by omega), if_neg (by omega)]
 ·rw [if_neg c1, if_pos (by omega), if_neg (by omega)]
theorem zef {h : GHistory} (hz : hsz h <= 2 ^ 20) : va h = some h := by
 unfold hsz at hz
 unfold va jH
 rw [zea (by omega), Option.bind_some, if_pos (by omega), Option.bind_some]
 cases h; rfl
theorem Dc {h : GHistory} (hz : hsz h <= 2 ^ 39) : jr h h = some true := by
 unfold hsz at hz
 unfold jr
 rw [zeb (by omega), Option.bind_some]
 dsimp only
 rw [NS (by omega), Option.bind_some]
 dsimp only
 rw [if_pos rfl]
theorem zeg (b : GState) (e : List GEvent) (z : Int) : hsz (GHistory.mk b e z) = ssz b + zX e := rfl
theorem zeh {h : GHistory} (hk : hOk h = true) : stB h.Base = true ∧ h.Events.length <= 300 ∧ (0 <= h.Safe ∧ h.Safe <= h.Events.length) ∧ okS h.Base h.Events = true := by
 unfold hOk at hk
 simp only [Bool.and_eq_true, decide_eq_true_eq] at hk
 exact ⟨hk.1, hk.2.1, hk.2.2.1, hk.2.2.2⟩
theorem OW : ∀ (a b : List GEvent), zX (a ++ b) = zX a + zX b
 | [], b => by simp [zX]
 | x :: a, b => by simp only [List.cons_append, zX, OW a b]; omega
theorem H3 (l : List GEvent) (n : Nat) : zX (l.take n) <= zX l := by
 have := OW (l.take n) (l.drop n)
 rw [List.take_append_drop] at this
 omega
theorem zei (k : Int) (e : GEntry) : cE (mE k e) = cE e := by
 unfold cE mE
 simp only [GEntry.Addr, GEntry.Val, GEntry.Deps, kM, O3, Qk]
theorem zev (k : Int) (e : GEntry) : esz (mE k e) = esz e := by
 unfold esz mE
 simp only [GEntry.Addr, GEntry.Val, GEntry.Deps, kM, H4, O2]
theorem zbp (k : Int) (e : GEntry) : mE k (mE k e) = mE k e := by
 obtain ⟨a, v, d, t, u⟩ := e
 unfold mE
 simp only [GEntry.Addr, GEntry.Val, GEntry.Deps, kM, O3, Qk, Jw, O4, TP]
 rfl
theorem Nq : ∀ (k : Int) (l : List GEntry), mEs k (mEs k l) = mEs k l
 | _, [] => rfl
 | k, e :: l => by simp only [mEs, zbp, zei, Nq]
theorem AU : ∀ (k : Int) (l : List GEntry), cEs (mEs k l) = cEs l
 | _, [] => rfl
 | k, e :: l => by simp only [mEs, cEs, zei, AU]
theorem Dd : ∀ (k : Int) (l : List GEntry), yb (mEs k l) = yb l
 | _, [] => rfl
 | k, e :: l => by simp only [mEs, yb, zev, Dd]
theorem B0 {h : GHistory} (hz : hsz h <= 2 ^ 30) : ∃ (k : Int) (a : List UInt8) (b : List GEntry) (c : List GEvent), xq h.Base.Serial h.Base.Open h.Base.Act h.Safe 1 h.Base.Pending h.Base.Entries h.Events = some (k, a, b, c) ∧ 0 <= k ∧ k <= 1 + 4 * hsz h := by
 unfold hsz ssz at hz ⊢
 have := N1 h.Base.Entries
 have := O5 h.Events
 unfold xq vl
 rw [qD (by omega) (by omega), Option.bind_some]
 dsimp only
 rw [Ky (by omega) (by omega), Option.bind_some]
 dsimp only
 rw [Option.bind_some]
 dsimp only
 rw [Kz (by omega) (by omega), Option.bind_some]
 exact ⟨_, _, _, _, rfl, by omega, by omega⟩
theorem AV (k : Int) (e : GEvent) : cEv (mEv k e) = cEv e := by
 unfold cEv mEv
 simp only [GEvent.Addr, GEvent.Val, GEvent.Deps, kM, O3, Qk]
theorem zej (k : Int) (e : GEvent) : xf (mEv k e) = xf e := by
 unfold xf mEv
 simp only [GEvent.Addr, GEvent.Val, GEvent.Deps, kM, H4, O2]
theorem B1 (k : Int) (e : GEvent) : mEv k (mEv k e) = mEv k e := by
 obtain ⟨a, b, c, v, d⟩ := e
 unfold mEv
 simp only [GEvent.Addr, GEvent.Val, GEvent.Deps, kM, O3, Qk, Jw, O4, TP]
theorem OX : ∀ (k : Int) (l : List GEvent), vR k (vR k l) = vR k l
 | _, [] => rfl
 | k, e :: l => by simp only [vR, B1, AV, OX]
theorem De : ∀ (k : Int) (l : List GEvent), jZ (vR k l) = jZ l
 | _, [] => rfl
 | k, e :: l => by simp only [vR, jZ, AV, De]
theorem Gw : ∀ (k : Int) (l : List GEvent), zX (vR k l) = zX l
 | _, [] => rfl
 | k, e :: l => by simp only [vR, zX, zej, Gw]
theorem Df {h : GHistory} (hz : hsz h <= 2 ^ 30) : ∃ (k : Int) (a : List UInt8) (b : List GEntry) (c : List GEvent), xq h.Base.Serial h.Base.Open h.Base.Act h.Safe 1 h.Base.Pending h.Base.Entries h.Events = some (k, a, b, c) ∧ 0 <= k ∧ jN (GHistory.mk (GState.mk h.Base.Serial h.Base.Open a h.Base.Act b) c h.Safe) 1 = some k := by
 unfold hsz ssz at hz
 obtain ⟨⟨ser, op, pe, act, en⟩, ev, sf⟩ := h
 simp only [GHistory.Base, GHistory.Events, GHistory.Safe, GState.Serial, GState.Open, GState.Pending, GState.Act, GState.Entries] at hz ⊢
 have := N1 en
 have := O5 ev
 unfold xq vl
 rw [qD (by omega) (by omega), Option.bind_some]
 dsimp only
 rw [Ky (by omega) (by omega), Option.bind_some]
 dsimp only
 rw [Option.bind_some]
 dsimp only
 rw [Kz (by omega) (by omega), Option.bind_some]
 refine ⟨_, _, _, _, rfl, by omega, ?_⟩
 unfold jN Yx
 simp only [GHistory.Base, GHistory.Events, GState.Pending, GState.Entries]
 rw [js (Jw _ _) (by decide) (by rw [kM]; omega), Option.bind_some, kM, if_neg (by omega), L9 (Nq _ _) (by omega) (by rw [Dd]; omega), Option.bind_some, AU, if_neg (by omega), Option.bind_some, if_neg (by omega),
  LA (OX _ _) (by omega) (by rw [Gw]; omega), Option.bind_some, De, if_neg (by omega)]
theorem zek {h : GHistory} (hz : hsz h <= 2 ^ 20) : vh h = some (hOk h) := by
 unfold vh
 rw [Db hz, Option.bind_some]
 cases hOk h <;> rfl
theorem B2 {h : GHistory} {keep : Int} (hz : hsz h <= 2 ^ 20) : ∃ h', vd h keep = some h' ∧ vk h keep = some h' ∧ hsz h' <= 2 ^ 22 := by
 unfold vd vk
 rw [Bz hz, Option.bind_some, zek hz, Option.bind_some]
 cases hk : hOk h with
 | false => exact ⟨_, rfl, rfl, by decide⟩
 | true =>
  dsimp only
  obtain ⟨_, k2, k3, _⟩ := zeh hk
  unfold hsz at hz
  obtain ⟨s, hs⟩ : ∃ s : Nat, h.Safe = (s : Int) := ⟨h.Safe.toNat, by omega⟩
  rw [show wJ h = some h from if_pos (by omega), show qC h = some h from if_pos (by omega), Option.bind_some, Option.bind_some]
  have hcut : ∀ n : Nat, n <= h.Events.length → xI h.Events none (some n) = some (h.Events.take n) := fun n hn => by
   unfold xI kW
   simp [hn]
  have hfin : ∀ n : Nat, n <= h.Events.length → ∃ h' : GHistory, (wJ (GHistory.mk h.Base (h.Events.take n) ((n : Nat) : Int))) = some h' ∧ h' = GHistory.mk h.Base (h.Events.take n) ((n : Nat) : Int) ∧ hsz h' <= 2 ^ 22 := fun n _ => by
   have := H3 h.Events n
   refine ⟨_, if_pos (by show ssz h.Base + zX (h.Events.take n) <= _; omega), rfl, ?_⟩
   rw [zeg]
   omega
  rw [hs, zV (x := (h.Events.length : Int) - (s : Int)) (by omega) (by omega)]
  by_cases c1 : 0 < keep
  ·rw [if_pos c1, if_neg (show ¬ keep < 0 by omega)]
   by_cases c2 : keep < (h.Events.length : Int) - (s : Int)
   ·rw [if_pos c2, if_neg (by omega), show (s : Int) + keep = ((s + keep.toNat : Nat) : Int) by omega, zV (by omega) (by omega), zb, Option.bind_some, Option.bind_some, hcut _ (by omega), Option.bind_some, Option.bind_some]
    obtain ⟨h', e1, rfl, e3⟩ := hfin (s + keep.toNat) (by omega)
    rw [e1]
    exact ⟨_, rfl, rfl, e3⟩
   ·rw [if_neg c2]
    have hn : (s : Int) + (if (h.Events.length : Int) - (s : Int) < keep then (h.Events.length : Int) - (s : Int) else keep) = (h.Events.length : Int) := by
     split <;> omega
    rw [hn, zV (x := (h.Events.length : Int)) (by omega) (by omega), zb, Option.bind_some, Option.bind_some, hcut _ (Nat.le_refl _), Option.bind_some, Option.bind_some]
    obtain ⟨h', e1, rfl, e3⟩ := hfin h.Events.length (Nat.le_refl _)
    rw [e1]
    exact ⟨_, rfl, rfl, e3⟩
  ·rw [if_neg c1]
   have hn : (s : Int) + (if (h.Events.length : Int) - (s : Int) < (if keep < 0 then 0 else keep) then (h.Events.length : Int) - (s : Int) else (if keep < 0 then 0 else keep)) = ((s : Nat) : Int) := by
    have h0 : (if keep < 0 then (0 : Int) else keep) = 0 := by split <;> omega
    rw [h0, if_neg (by omega)]
    omega
   rw [hn, zV (x := ((s : Nat) : Int)) (by omega) (by omega), zb, Option.bind_some, Option.bind_some, hcut _ (by omega), Option.bind_some, Option.bind_some]
   obtain ⟨h', e1, rfl, e3⟩ := hfin s (by omega)
   rw [e1]
   exact ⟨_, rfl, rfl, e3⟩
theorem law_HistCrash {h : GHistory} {k : Int} (hm : MdH h) : j4 h k = some true := by
 unfold j4
 rw [zee hm (by decide) (by decide), Option.bind_some]
 unfold yW
 by_cases c : (hsz h : Int) <= 1048576
 ·have hz : hsz h <= 2 ^ 20 := by omega
  rw [if_pos c, if_neg (by omega), zef hz, Option.bind_some]
  obtain ⟨h', e1, e2, e3⟩ := B2 (keep := k) hz
  obtain ⟨k1, a1, b1, c1, m1, m2, m3⟩ := B0 (h := h) (by omega)
  obtain ⟨k2, a2, b2, c2, n1, n2, n3⟩ := Df (h := h') (by omega)
  rw [e1, e2, Option.bind_some, Option.bind_some, Dc (by omega), Option.bind_some]
  dsimp only
  rw [Dc (by omega), Option.bind_some]
  dsimp only
  rw [m1, Option.bind_some]
  dsimp only
  rw [if_neg (by omega), n1, Option.bind_some]
  dsimp only
  rw [n3, Option.bind_some, if_neg (by omega), if_pos rfl]
 ·rw [if_neg c, if_pos (by omega)]
end
end Go.Am.Try
