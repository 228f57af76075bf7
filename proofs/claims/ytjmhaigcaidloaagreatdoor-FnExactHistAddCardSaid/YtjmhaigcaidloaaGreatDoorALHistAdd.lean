
/- The law of FnExactHistAdd, in plain terms. -/
import Derived.Test.YtjmhaigcaidloaaGreatDoorAG5
set_option linter.unusedVariables false
set_option linter.unusedSimpArgs false
namespace Go.Am.Try
open Go.Am
noncomputable section
theorem Nl {v : GValue} (h : vsz v <= 2 ^ 20) : xq v = some (Yk v) := by
 unfold xq vK
 rw [if_pos ⟨h, by decide, by decide, by decide⟩, oB]
 congr 1
 unfold okV Yk
 rw [show (6 - (1 : Int)).toNat = 5 from rfl]
 by_cases hc : shV 5 v = true ∧ (ptV v : Int) <= 40
 ·rw [if_pos hc, decide_eq_true hc]; exact decide_eq_true (by omega)
 ·rw [if_neg hc, decide_eq_false hc]; rfl
theorem Bx {v : GValue} (h : vsz v <= 2 ^ 20) : jt v = some (Yk v) := by
 unfold jt qU wD Yk
 rw [if_pos ⟨h, by decide, by decide⟩, oB]
 rw [show (5 : Int).toNat = 5 from rfl]
 cases hs : shV 5 v
 ·simp
 ·dsimp only
  rw [if_pos h, oB]
  simp
theorem zeh {v : GValue} {n : Int} (h : MdV v) (h0 : 0 <= n) (h1 : n <= 2 ^ 20) : wy v n = some (y3 (vsz v) n) := if_pos ⟨h, h0, h1⟩
theorem zei {v : GValue} (h : vsz v <= 2 ^ 20) : w9 v = some v := if_pos h
theorem zej {v : GValue} (h : vsz v <= 2 ^ 39) : wJ v v = some true := if_pos ⟨rfl, by omega⟩
def jB (v : GValue) : Bool := decide (v.Kind = 0 ∧ v.N = 0 ∧ v.S.length = 0 ∧ v.K.length = 0 ∧ v.L.length = 0)
def evB (e : GEvent) : Bool :=
  if e.Kind = 2 then ye e.Addr && decide (e.Act = 0) && kz e.Val && jZ e.Deps
  else jB e.Val && decide (e.Deps.length = 0) &&
    (if e.Kind = 0 ∨ e.Kind = 5 ∨ e.Kind = 6 then decide (e.Addr.length = 0) && decide (e.Act = 0)
     else if e.Kind = 1 then ye e.Addr && decide (1 <= e.Act ∧ e.Act <= 4)
     else if e.Kind = 3 ∨ e.Kind = 4 then ye e.Addr && decide (e.Act = 0) else false)
theorem zbk {v : GValue} (h : vsz v <= 2 ^ 20) : xi v = some (kz v) := by
 unfold xi YZ kz
 by_cases h5 : v.Kind = 5
 ·rw [if_pos h5, Bx h, oB, decide_eq_true h5, Bool.true_and]
  cases hv : Yk v with
  | false => rfl
  | true =>
   simp only [Bool.true_and]
   unfold wE
   rw [if_pos (by omega)]; rfl
 ·rw [if_neg h5, decide_eq_false h5]; rfl
theorem zbl {v : GValue} (h : vsz v <= 2 ^ 20) : jz v = some (kz v) := by
 unfold jz kz
 by_cases h5 : v.Kind = 5
 ·rw [if_pos h5, Nl h, oB, decide_eq_true h5, Bool.true_and]
  cases hv : Yk v with
  | false => rfl
  | true =>
   simp only [Bool.true_and]
   unfold jq
   rw [if_pos (by omega)]; rfl
 ·rw [if_neg h5, decide_eq_false h5]; rfl
theorem Db (v : GValue) : Yt v = some (jB v) := by
 unfold Yt jB
 by_cases h1 : v.Kind = 0 <;> by_cases h2 : v.N = 0 <;> by_cases h3 : v.S.length = 0 <;> by_cases h4 : v.K.length = 0 <;> by_cases h5 : v.L.length = 0 <;> simp [h1, h2, h3, h4, h5, List.length_eq_zero_iff.1] <;> simp_all
theorem Ko (a : Int) : ∃ r, kI a 0 = some r ∧ (r = 0 ↔ a = 0) := by
 unfold kI
 by_cases h : a < 0
 ·exact ⟨_, if_pos h, by omega⟩
 ·rw [if_neg h]
  by_cases h' : 0 < a
  ·exact ⟨_, if_pos h', by omega⟩
  ·exact ⟨_, if_neg h', by omega⟩
theorem H9 (G : GValue → GValue → Option Int) (n : Nat) (v z : GValue) (hk : z.Kind = 0) (hn : z.N = 0) (hl : z.L.length = 0) : ∃ r, YW G (n + 1) v z = some r ∧ ((r = 0 ∧ v.N = 0) ↔ (v.Kind = 0 ∧ v.N = 0 ∧ v.L.length = 0)) := by
 unfold YW
 rw [hk]
 by_cases h1 : v.Kind = 0
 ·rw [if_pos h1, if_neg (by omega), hn]
  by_cases h2 : v.N = 0
  ·rw [if_pos h2, jT, hl]
   obtain ⟨r, hr, hr2⟩ := Ko (v.L.length : Int)
   refine ⟨r, ?_, by simp only [h1, h2, true_and, and_true]; omega⟩
   by_cases h3 : (0 : Int) < (v.L.length : Int)
   ·rw [if_pos h3, if_neg (by omega), oB]
    dsimp only
    rw [show ((0 : Nat) : Int) = 0 from rfl, hr, oB]
   ·rw [if_neg h3, oB]
    dsimp only
    rw [show ((0 : Nat) : Int) = 0 from rfl, hr, oB]
  ·rw [if_neg h2]
   obtain ⟨r, hr, hr2⟩ := Ko v.N
   exact ⟨r, by rw [hr, oB], ⟨fun h => absurd h.2 h2, fun h => absurd h.2.1 h2⟩⟩
 ·rw [if_neg h1]
  obtain ⟨r, hr, hr2⟩ := Ko v.Kind
  exact ⟨r, by rw [hr, oB], ⟨fun h => absurd (hr2.1 h.1) h1, fun h => absurd h.1 h1⟩⟩
theorem Dc (v : GValue) : qg v = some (decide (v.Kind = 0 ∧ v.N = 0 ∧ v.L.length = 0)) := by
 unfold qg YX
 rw [show vsz v + 3 = (vsz v + 1 + 1) + 1 from rfl, wS]
 obtain ⟨r, hr, hr2⟩ := H9 (wS (vsz v + 1 + 1)) (vsz v + 1) v (GValue.mk 0 0 [] [] []) rfl rfl rfl
 rw [hr, oB]
 by_cases h : r = 0
 ·rw [if_pos h]; exact congrArg some (decide_eq_decide.2 (by rw [<- hr2]; simp [h]))
 ·rw [if_neg h]; exact congrArg some (decide_eq_false (fun h' => h (hr2.2 h').1)).symm
theorem By {v : GValue} (h : jB v = true) : Yk v = true := by
 unfold jB at h
 cases v
 simp only [GValue.Kind, GValue.N, GValue.S, GValue.K, GValue.L, decide_eq_true_eq, List.length_eq_zero_iff] at h
 obtain ⟨rfl, rfl, rfl, rfl, rfl⟩ := h
 exact decide_eq_true ⟨by simp [shV, yS, GValue.Kind, GValue.N, GValue.S, GValue.K, GValue.L], by simp [ptV, wP]⟩
theorem zbm {v : GValue} (h : Yk v = true) : jB v = decide (v.Kind = 0 ∧ v.N = 0 ∧ v.L.length = 0) := by
 unfold jB
 refine decide_eq_decide.2 ⟨fun ⟨a, b, _, _, c⟩ => ⟨a, b, c⟩, fun ⟨a, b, c⟩ => ?_⟩
 have := (of_decide_eq_true h).1
 rw [shV] at this
 have hl := (Bool.and_eq_true _ _ ▸ this).1
 unfold yS at hl
 rw [if_pos (Or.inl a)] at hl
 have := of_decide_eq_true hl
 exact ⟨a, this⟩
theorem Bz {a : List UInt8} (h : ye a = true) : 0 < a.length := by
 rcases a with _ | ⟨x, l⟩
 ·revert h; decide
 ·simp
theorem Lc {e : GEvent} (h : yy e <= 2 ^ 20) : kO e = some (evB e) := by
 unfold yy at h
 unfold kO evB
 by_cases k2 : e.Kind = 2
 ·rw [if_pos k2, if_pos k2, Zy (by omega), oB]
  cases ye e.Addr with
  | false => rfl
  | true =>
   dsimp only
   by_cases ha : e.Act = 0
   ·rw [if_pos ha, zbk (by omega), oB, decide_eq_true ha]
    cases kz e.Val with
    | false => rfl
    | true =>
     dsimp only
     rw [show xZ e.Deps = some (jZ e.Deps) from if_pos (by omega)]
     simp
   ·rw [if_neg ha, decide_eq_false ha]; rfl
 ·rw [if_neg k2, if_neg k2, Db, oB]
  cases jB e.Val with
  | false => rfl
  | true =>
   dsimp only
   by_cases d : e.Deps.length = 0
   ·rw [if_neg (by omega), decide_eq_true d, Bool.true_and, Bool.true_and]
    by_cases k0 : e.Kind = 0 ∨ e.Kind = 5 ∨ e.Kind = 6
    ·rw [if_pos k0]
     have hh : (if (e.Addr.length : Int) = 0 then some (decide (e.Act = 0)) else some false) = some (decide (e.Addr.length = 0) && decide (e.Act = 0)) := by
      by_cases hl : e.Addr.length = 0
      ·rw [if_pos (by omega), decide_eq_true hl, Bool.true_and]
      ·rw [if_neg (by omega), decide_eq_false hl, Bool.false_and]
     rw [hh]
     by_cases k00 : e.Kind = 0
     ·rw [if_pos k00]
     ·rw [if_neg k00]
      by_cases k05 : e.Kind = 5
      ·rw [if_pos k05]
      ·rw [if_neg k05, if_pos (by omega)]
    ·rw [if_neg k0, if_neg (by omega), if_neg (by omega), if_neg (by omega)]
     by_cases k1 : e.Kind = 1
     ·rw [if_pos k1, if_pos k1, Zy (by omega), oB]
      cases ye e.Addr with
      | false => rfl
      | true => dsimp only; rw [WD, oB]; rfl
     ·rw [if_neg k1, if_neg k1]
      by_cases k3 : e.Kind = 3
      ·rw [if_pos k3, if_pos (Or.inl k3), Zy (by omega), oB]
       cases ye e.Addr <;> rfl
      ·rw [if_neg k3]
       by_cases k4 : e.Kind = 4
       ·rw [if_pos k4, if_pos (Or.inr k4), Zy (by omega), oB]
        cases ye e.Addr <;> rfl
       ·rw [if_neg k4, if_neg (by omega)]
   ·rw [if_pos (by omega), decide_eq_false d]; rfl
theorem zvd {v : GValue} (h : vsz v <= 2 ^ 20) (d : Nat) : ((xq v).bind fun r => match r with | true => (qg v).bind fun r => (match r with | true => some (decide (((d : Nat) : Int) = 0)) | false => some false) | false => some false) = some (jB v && decide (d = 0)) := by
 rw [Nl h, oB]
 cases hv : Yk v with
 | true =>
  dsimp only
  rw [Dc, oB, zbm hv]
  cases decide (v.Kind = 0 ∧ v.N = 0 ∧ v.L.length = 0) with
  | true => exact congrArg some (by rw [Bool.true_and]; exact decide_eq_decide.2 (by omega))
  | false => rfl
 | false =>
  dsimp only
  cases hz : jB v with
  | true => rw [By hz] at hv; cases hv
  | false => rfl
theorem Ld {e : GEvent} (h : yy e <= 2 ^ 20) : kJ e = some (evB e) := by
 unfold yy at h
 unfold kJ evB
 rw [QL (by omega)]
 simp only [oB]
 have Z := zvd (v := e.Val) (by omega) e.Deps.length
 have hb := @Bz e.Addr
 by_cases r0 : e.Kind < 0
 ·rw [if_pos r0, if_neg (show ¬ e.Kind = 2 by omega), if_neg (show ¬ (e.Kind = 0 ∨ e.Kind = 5 ∨ e.Kind = 6) by omega), if_neg (show ¬ e.Kind = 1 by omega), if_neg (show ¬ (e.Kind = 3 ∨ e.Kind = 4) by omega), Bool.and_false]
 rw [if_neg r0]
 by_cases r6 : 6 < e.Kind
 ·rw [if_pos r6, if_neg (show ¬ e.Kind = 2 by omega), if_neg (show ¬ (e.Kind = 0 ∨ e.Kind = 5 ∨ e.Kind = 6) by omega), if_neg (show ¬ e.Kind = 1 by omega), if_neg (show ¬ (e.Kind = 3 ∨ e.Kind = 4) by omega), Bool.and_false]
 rw [if_neg r6]
 generalize (jB e.Val && decide (e.Deps.length = 0)) = z at Z ⊢
 by_cases k1 : e.Kind = 1
 ·rw [if_pos k1, if_neg (show ¬ e.Kind = 2 by omega), if_neg (show ¬ (e.Kind = 0 ∨ e.Kind = 5 ∨ e.Kind = 6) by omega), if_pos k1]
  cases hA : ye e.Addr with
  | false =>
   dsimp only
   rw [Bool.false_and, Bool.and_false]
   split <;> rfl
  | true =>
   have := hb hA
   rw [if_pos (show (0 : Int) < (e.Addr.length : Int) by omega)]
   dsimp only
   by_cases a1 : e.Act < 1
   ·rw [if_pos a1, decide_eq_false (by omega)]; simp
   ·rw [if_neg a1]
    by_cases a2 : 4 < e.Act
    ·rw [if_pos a2, decide_eq_false (by omega)]; simp
    ·rw [if_neg a2, decide_eq_true (show 1 <= e.Act ∧ e.Act <= 4 by omega)]; exact Z.trans (by simp)
 rw [if_neg k1]
 by_cases k2 : e.Kind = 2
 ·rw [if_pos k2, if_pos k2]
  cases hA : ye e.Addr with
  | false =>
   dsimp only
   split <;> rfl
  | true =>
   have := hb hA
   rw [if_pos (show (0 : Int) < (e.Addr.length : Int) by omega)]
   dsimp only
   by_cases ha : e.Act = 0
   ·rw [if_pos ha, zbl (by omega), oB, decide_eq_true ha]
    cases kz e.Val with
    | false => rfl
    | true =>
     dsimp only
     rw [show qv e.Deps = some (jZ e.Deps) from if_pos (by omega)]
     simp
   ·rw [if_neg ha, decide_eq_false ha]; rfl
 rw [if_neg k2, if_neg k2]
 by_cases k3 : e.Kind = 3
 ·rw [if_pos k3, if_neg (show ¬ (e.Kind = 0 ∨ e.Kind = 5 ∨ e.Kind = 6) by omega), if_neg k1, if_pos (Or.inl k3)]
  cases hA : ye e.Addr with
  | false => dsimp only; rw [Bool.false_and, Bool.and_false]; split <;> rfl
  | true =>
   have := hb hA
   rw [if_pos (show (0 : Int) < (e.Addr.length : Int) by omega)]
   dsimp only
   by_cases ha : e.Act = 0
   ·rw [if_pos ha, decide_eq_true ha]; exact Z.trans (by simp)
   ·rw [if_neg ha, decide_eq_false ha]; simp
 rw [if_neg k3]
 by_cases k4 : e.Kind = 4
 ·rw [if_pos k4, if_neg (show ¬ (e.Kind = 0 ∨ e.Kind = 5 ∨ e.Kind = 6) by omega), if_neg k1, if_pos (Or.inr k4)]
  cases hA : ye e.Addr with
  | false => dsimp only; rw [Bool.false_and, Bool.and_false]; split <;> rfl
  | true =>
   have := hb hA
   rw [if_pos (show (0 : Int) < (e.Addr.length : Int) by omega)]
   dsimp only
   by_cases ha : e.Act = 0
   ·rw [if_pos ha, decide_eq_true ha]; exact Z.trans (by simp)
   ·rw [if_neg ha, decide_eq_false ha]; simp
 rw [if_neg k4, if_pos (show e.Kind = 0 ∨ e.Kind = 5 ∨ e.Kind = 6 by omega)]
 by_cases hl : e.Addr.length = 0
 ·rw [if_neg (by omega), decide_eq_true hl, Bool.true_and]
  by_cases ha : e.Act = 0
  ·rw [if_pos ha, decide_eq_true ha]; exact Z.trans (by simp)
  ·rw [if_neg ha, decide_eq_false ha]; simp
 ·rw [if_pos (by omega), decide_eq_false hl, Bool.false_and, Bool.and_false]
def MdS (s : GState) : Prop := s.Pending.length <= 2 ^ 63 - 1 ∧ s.Entries.length <= 2 ^ 63 - 1 ∧ WB s.Entries
theorem zek {s : GState} {n : Int} (h : MdS s) (h0 : 0 <= n) (h1 : n <= 2 ^ 20) : ZG s n = some (y3 (ssz s) n) := by
 unfold ZG
 rw [ZF h.1 h0 h1, oB]
 unfold y3 ssz
 by_cases c1 : (s.Pending.length : Int) <= n
 ·rw [if_pos c1, if_neg (by omega)]
  unfold jO
  rw [if_pos ⟨h.2.1, h.2.2, by omega, by omega⟩, oB]
  unfold y3
  by_cases c2 : (zZ s.Entries : Int) <= n - s.Pending.length
  ·rw [if_pos c2, if_neg (by omega), if_pos (by omega)]; congr 1; omega
  ·rw [if_neg c2, if_pos (by omega), if_neg (by omega)]
 ·rw [if_neg c1, if_pos (by omega), if_neg (by omega)]
theorem zel {s : GState} (h : ssz s <= 2 ^ 20) : ZH s = some s := by
 unfold ssz at h
 unfold ZH yo jR
 rw [if_pos (by omega), oB, if_pos (by omega), oB]
 cases s; rfl
theorem zem {s : GState} (h : ssz s <= 2 ^ 39) : ZP s s = some true := by
 unfold ssz at h
 unfold ZP yh
 rw [if_pos rfl]
 by_cases ho : s.Open = true
 ·rw [if_pos ho, if_pos ho, if_pos ⟨rfl, by omega⟩, oB]; dsimp only; rw [if_pos rfl, Td (by omega), oB]
 ·rw [if_neg ho, if_neg ho, if_pos ⟨rfl, by omega⟩, oB]; dsimp only; rw [if_pos rfl, Td (by omega), oB]
theorem zbn {e : GEvent} {n : Int} (h : Tx e) (h0 : 0 <= n) (h1 : n <= 2 ^ 20) : w4 e n = some (y3 (yy e) n) := by
 unfold w4
 rw [ZF h.1 h0 h1, oB]
 unfold y3 yy
 by_cases c1 : (e.Addr.length : Int) <= n
 ·rw [if_pos c1, if_neg (by omega), zeh h.2.1 (by omega) (by omega), oB]
  unfold y3
  by_cases c2 : (vsz e.Val : Int) <= n - e.Addr.length
  ·rw [if_pos c2, if_neg (by omega), show yU e.Deps (n - e.Addr.length - vsz e.Val) = some (y3 (bsz e.Deps) (n - e.Addr.length - vsz e.Val)) from if_pos ⟨h.2.2, by omega, by omega⟩, oB]
   unfold y3
   by_cases c3 : (bsz e.Deps : Int) <= n - e.Addr.length - vsz e.Val
   ·rw [if_pos c3, if_neg (by omega), if_pos (by omega)]; congr 1; omega
   ·rw [if_neg c3, if_pos (by omega), if_neg (by omega)]
  ·rw [if_neg c2, if_pos (by omega), if_neg (by omega)]
 ·rw [if_neg c1, if_pos (by omega), if_neg (by omega)]
theorem zbo {e : GEvent} (h : yy e <= 2 ^ 20) : wB e = some e := by
 unfold yy at h
 unfold wB yo yV
 rw [if_pos (by omega), oB, zei (by omega), oB, if_pos (by omega), oB]
 cases e; rfl
theorem zbp {e : GEvent} (h : yy e <= 2 ^ 39) : xC e e = some true := by
 unfold yy at h
 unfold xC yh yW
 rw [if_pos rfl, if_pos ⟨rfl, by omega⟩, oB]
 dsimp only
 rw [if_pos rfl, zej (by omega), oB]
 dsimp only
 rw [if_pos ⟨rfl, by omega⟩, oB]
theorem jH (a : Int) (b : Bool) (c : List UInt8) (d : Int) (e : List GEntry) : (GState.mk a b c d e).Pending = c := rfl
theorem jI (a : Int) (b : Bool) (c : List UInt8) (d : Int) (e : List GEntry) : (GState.mk a b c d e).Entries = e := rfl
theorem Nm {a : List UInt8} : ∀ (l : List GEntry) (i : Nat), yT l a = true → ∃ k, Yr l a i = ((i + k : Nat) : Int) ∧ ∃ e, l[k]? = some e ∧ e.Addr = a
 | [], i, h => by simp [yT] at h
 | e :: l, i, h => by
  rw [Yr]
  by_cases he : e.Addr = a
  ·exact ⟨0, by rw [if_pos he]; rfl, e, rfl, he⟩
  ·have h' : yT l a = true := by
    unfold yT at h ⊢
    rw [List.any_cons, decide_eq_false he, Bool.false_or] at h
    exact h
   obtain ⟨k, h1, e', h2, h3⟩ := Nm l (i + 1) h'
   exact ⟨k + 1, by rw [if_neg he, h1]; congr 1; omega, e', by simpa using h2, h3⟩
theorem ZR {a : List (List UInt8)} : Asc a ↔ ∀ (i j : Nat) x y, i < j → a[i]? = some x → a[j]? = some y → Op.bytesLess x y = true := by
 constructor
 ·intro h i j x y hij hi hj
  obtain ⟨hi1, hi2⟩ := oE hi
  obtain ⟨hj1, hj2⟩ := oE hj
  have := h i j hj1 hij
  rw [hi2, hj2] at this
  exact this
 ·intro h i j hj hij
  exact h i j _ _ hij (List.getElem?_eq_getElem _) (List.getElem?_eq_getElem _)
theorem ZS {a : List (List UInt8)} {x : List UInt8} {c : Nat} (h : kS a x c) {i : Nat} {y : List UInt8} (hi : a[i]? = some y) : i < c ↔ Op.bytesLess y x = true := by
 obtain ⟨hi1, hi2⟩ := oE hi
 rw [<- hi2]
 exact h.2 i hi1
theorem zbq {a : List (List UInt8)} (ha : Asc a) {x : List UInt8} {c : Nat} (h : kS a x c) {j : Nat} {y : List UInt8} (hj : a[j]? = some y) (hc : c <= j) (hne : c = j → y ≠ x) : Op.bytesLess x y = true := by
 rcases WG x y with h1 | h1 | h1
 ·exact h1
 ·exfalso
  have hcj : c ≠ j := fun e => hne e h1.symm
  have hjl := (oE hj).1
  have hcl : c < a.length := by omega
  have h2 := ZR.1 ha c j _ _ (by omega) (List.getElem?_eq_getElem hcl) hj
  rw [<- h1] at h2
  have := (ZS h (List.getElem?_eq_getElem hcl)).2 h2
  omega
 ·have := (ZS h hj).2 h1
  omega
theorem Gz {a : List (List UInt8)} (ha : Asc a) {x : List UInt8} {c : Nat} (h : kS a x c) (hne : a[c]? ≠ some x) : Asc (yO a c x) := by
 refine ZR.2 fun i j u v hij hi hj => ?_
 rw [Qc a c x h.1] at hi hj
 have A := ZR.1 ha
 by_cases h1 : j < c
 ·rw [if_pos h1] at hj; rw [if_pos (by omega)] at hi
  exact A i j u v hij hi hj
 rw [if_neg h1] at hj
 by_cases h2 : j = c
 ·rw [if_pos h2] at hj; rw [if_pos (by omega)] at hi
  injection hj with hj
  subst hj
  exact (ZS h hi).1 (by omega)
 rw [if_neg h2] at hj
 by_cases h3 : i < c
 ·rw [if_pos h3] at hi
  exact A i (j - 1) u v (by omega) hi hj
 rw [if_neg h3] at hi
 by_cases h4 : i = c
 ·rw [if_pos h4] at hi
  injection hi with hi
  subst hi
  exact zbq ha h hj (by omega) fun e he => hne (by rw [e, hj, he])
 ·rw [if_neg h4] at hi
  exact A (i - 1) (j - 1) u v (by omega) hi hj
theorem zbr {a : List (List UInt8)} (ha : Asc a) {c : Nat} (hc : c < a.length) : Asc (qn a c) := by
 refine ZR.2 fun i j u v hij hi hj => ?_
 rw [MN a c hc] at hi hj
 have A := ZR.1 ha
 by_cases h1 : j < c
 ·rw [if_pos h1] at hj; rw [if_pos (by omega)] at hi
  exact A i j u v hij hi hj
 rw [if_neg h1] at hj
 by_cases h3 : i < c
 ·rw [if_pos h3] at hi
  exact A i (j + 1) u v (by omega) hi hj
 ·rw [if_neg h3] at hi
  exact A (i + 1) (j + 1) u v (by omega) hi hj
theorem Rf {e : GEntry} : ∀ {l : List GEntry}, (∀ x ∈ l, Op.bytesLess e.Addr x.Addr = true) → vP e true l = l
 | [], _ => rfl
 | x :: l, h => by
  rw [vP, h x List.mem_cons_self, cond_true, cond_true, Rf fun y hy => h y (List.mem_cons_of_mem _ hy)]
theorem Dd {a b : List UInt8} (h : Op.bytesLess a b = true) : Op.bytesLess b a = false := by
 cases hb : Op.bytesLess b a with
 | false => rfl
 | true => have := vx h hb; rw [Z3] at this; cases this
theorem O5 {e : GEntry} : ∀ {l : List GEntry} {c : Nat}, Asc (l.map GEntry.Addr) → kS (l.map GEntry.Addr) e.Addr c → vP e false l = if (l.map GEntry.Addr)[c]? = some e.Addr then l.set c e else yO l c e
 | [], c, _, hp => by
  have := hp.1
  simp only [List.map_nil, List.length_nil] at this
  obtain rfl : c = 0 := by omega
  rfl
 | x :: l, c, ha, hp => by
  have hal : Asc (l.map GEntry.Addr) := ZR.2 fun i j u v hij hi hj => ZR.1 ha (i + 1) (j + 1) u v (by omega) (by simpa using hi) (by simpa using hj)
  have hx : ∀ y ∈ l, Op.bytesLess x.Addr y.Addr = true := fun y hy => by
   obtain ⟨j, hj⟩ := List.mem_iff_getElem?.1 hy
   exact ZR.1 ha 0 (j + 1) _ _ (by omega) rfl (by simp [hj])
  have h0 : 0 < c ↔ Op.bytesLess x.Addr e.Addr = true := ZS hp (by rfl)
  cases c with
  | zero =>
   have hn : Op.bytesLess x.Addr e.Addr = false := by
    cases hq : Op.bytesLess x.Addr e.Addr with
    | false => rfl
    | true => have := h0.2 hq; omega
   rw [vP, hn]
   rcases WG e.Addr x.Addr with h1 | h1 | h1
   ·rw [h1]
    simp only [cond_true, cond_false]
    rw [Rf fun y hy => vx h1 (hx y hy), if_neg]
    ·rfl
    ·simp only [List.map_cons, List.getElem?_cons_zero, oS]
     intro he
     rw [he, Z3] at h1; cases h1
   ·rw [h1, Z3]
    simp only [cond_false]
    rw [Rf fun y hy => by rw [h1]; exact hx y hy, if_pos (by simp)]
    rfl
   ·rw [hn] at h1; cases h1
  | succ c =>
   have hl : Op.bytesLess x.Addr e.Addr = true := h0.1 (by omega)
   have hpl : kS (l.map GEntry.Addr) e.Addr c := by
    refine ⟨by have := hp.1; simp only [List.map_cons, List.length_cons] at this; omega, fun k hk => ?_⟩
    have h1 := ZS hp (i := k + 1) (y := (l.map GEntry.Addr)[k]) (by rw [List.map_cons, List.getElem?_cons_succ]; exact List.getElem?_eq_getElem hk)
    rw [<- h1]
    omega
   rw [vP, Dd hl, hl]
   simp only [cond_true, cond_false]
   rw [O5 hal hpl]
   simp only [List.map_cons, List.getElem?_cons_succ]
   split
   ·rfl
   ·rfl
theorem B0 {α : Type} {l : List α} {c : Nat} {x : α} (h : l[c]? = some x) : l.set c x = l := by
 apply List.ext_getElem?
 intro i
 rw [List.getElem?_set]
 split
 ·rename_i hi
  subst hi
  have := (oE h).1
  rw [if_pos this, h]
 ·rfl
theorem Nn {l : List GEntry} {c : Nat} {e : GEntry} (h : (l.map GEntry.Addr)[c]? = some e.Addr) : (l.set c e).map GEntry.Addr = l.map GEntry.Addr := by
 rw [List.map_set]
 exact B0 h
theorem Rh {l : List GEntry} {c : Nat} {e : GEntry} : (yO l c e).map GEntry.Addr = yO (l.map GEntry.Addr) c e.Addr := by simp [yO, List.map_take, List.map_drop]
theorem Np {l : List GEntry} {c : Nat} : (qn l c).map GEntry.Addr = qn (l.map GEntry.Addr) c := by simp [qn, List.map_take, List.map_drop]
theorem Qp : ∀ (a b : List GEntry), zZ (a ++ b) = zZ a + zZ b
 | [], b => by simp [zZ]
 | x :: a, b => by simp only [List.cons_append, zZ, Qp a b]; omega
theorem TV (l : List GEntry) (c : Nat) : zZ l = zZ (l.take c) + zZ (l.drop c) := by
 rw [<- Qp, List.take_append_drop]
theorem Nq (l : List GEntry) (c : Nat) (e : GEntry) : zZ (yO l c e) = zZ l + 1 + esz e := by
 unfold yO
 rw [Qp, Qp, TV l c]
 simp only [zZ]; omega
theorem B1 (l : List GEntry) (c : Nat) : zZ (qn l c) <= zZ l := by
 unfold qn
 have h1 := TV l c
 have h2 := TV (l.drop c) 1
 rw [List.drop_drop] at h2
 rw [Qp]
 omega
theorem Nr : ∀ (l : List GEntry) (c : Nat) (e : GEntry), zZ (l.set c e) <= zZ l + esz e
 | [], c, e => by simp [zZ]
 | x :: l, 0, e => by simp only [List.set_cons_zero, zZ]; omega
 | x :: l, c + 1, e => by have := Nr l c e; simp only [List.set_cons_succ, zZ]; omega
def stI (s : GState) : Prop := 0 <= s.Serial ∧ s.Serial <= 1000000 ∧ Asc (s.Entries.map GEntry.Addr) ∧ (s.Pending ≠ [] → s.Open = true ∧ yT s.Entries s.Pending = decide (s.Act ≠ 1))
theorem Pr {s : GState} (h : stB s = true) : stI s := by
 unfold stB at h
 simp only [Bool.and_eq_true, decide_eq_true_eq] at h
 obtain ⟨⟨⟨h1, h2, _⟩, h3⟩, h4⟩ := h
 refine ⟨h1, h2, N7 h3, fun hp => ?_⟩
 unfold LW at h4
 rw [if_neg hp] at h4
 simp only [Bool.and_eq_true, beq_iff_eq] at h4
 exact ⟨h4.1.1.1, h4.2⟩
def Y7 (s : GState) (e : GEvent) : Bool :=
 if s.Serial = 1000000 then false
 else if e.Kind = 0 then !s.Open
 else if e.Kind = 1 then s.Open && decide (s.Pending = []) && (yT s.Entries e.Addr == decide (e.Act ≠ 1)) && (yT s.Entries e.Addr || decide (s.Entries.length < 16))
 else if e.Kind = 2 then decide (s.Pending = e.Addr) && decide (s.Act ≠ 4)
 else if e.Kind = 3 then decide (s.Pending = e.Addr) && decide (s.Act = 4)
 else if e.Kind = 4 then decide (s.Pending = e.Addr)
 else if e.Kind = 5 then s.Open && decide (s.Pending = [])
 else s.Open
theorem Ps {e : GEvent} (h : evB e = true) (hk : e.Kind = 1 ∨ e.Kind = 2 ∨ e.Kind = 3 ∨ e.Kind = 4) : e.Addr ≠ [] := by
 intro he
 have ha : ye e.Addr = false := by rw [he]; decide
 unfold evB at h
 rw [ha] at h
 rcases hk with hk | hk | hk | hk <;> simp [hk] at h
theorem X6 {a : List UInt8} : ((a.length : Int) = 0) ↔ a = [] := by
 constructor
 ·intro h; exact List.eq_nil_of_length_eq_zero (by omega)
 ·rintro rfl; rfl
theorem G0 {a : List UInt8} : (0 < (a.length : Int)) ↔ a ≠ [] := by
 constructor
 ·rintro h rfl; simp at h
 ·intro h
  have : a.length ≠ 0 := fun e => h (List.eq_nil_of_length_eq_zero e)
  omega
theorem Ns {s : GState} {e : GEvent} (hI : stI s) (he : evB e = true) (hl : s.Entries.length <= 2 ^ 40) : Zt s e = some (Y7 s e) := by
 unfold Zt Y7 wo
 have hs := hI.2.1
 by_cases h0 : s.Serial = 1000000
 ·rw [if_pos (by omega), if_pos h0]
 rw [if_neg (by omega), if_neg h0]
 by_cases k0 : e.Kind = 0
 ·rw [if_pos k0, if_pos k0]
 rw [if_neg k0, if_neg k0]
 by_cases k1 : e.Kind = 1
 ·rw [if_pos k1, if_pos k1, if_pos hl, oB]
  have hh := V8 s.Entries e.Addr 0
  have hp := @G0 s.Pending
  cases s.Open with
  | false => rfl
  | true =>
   dsimp only
   by_cases q : s.Pending = []
   ·rw [if_neg (fun h => hp.1 h q), decide_eq_true q]
    by_cases a1 : e.Act = 1
    ·rw [if_pos a1, decide_eq_false (p := e.Act ≠ 1) (by omega)]
     cases hb : yT s.Entries e.Addr with
     | true => rw [if_pos (hh.2 hb)]; rfl
     | false => rw [if_neg (fun h => by rw [hh.1 h] at hb; cases hb)]; simp; omega
    ·rw [if_neg a1, decide_eq_true (p := e.Act ≠ 1) a1]
     cases hb : yT s.Entries e.Addr with
     | true => rw [if_pos (hh.2 hb)]; rfl
     | false => rw [if_neg (fun h => by rw [hh.1 h] at hb; cases hb)]; simp
   ·rw [if_pos (hp.2 q), decide_eq_false q]; rfl
 rw [if_neg k1, if_neg k1]
 have hp := @G0 s.Pending
 by_cases k2 : e.Kind = 2
 ·rw [if_pos k2, if_pos k2]
  have hne := Ps he (.inr (.inl k2))
  by_cases q : s.Pending = []
  ·rw [if_neg (fun h => hp.1 h q), decide_eq_false (fun h => hne (by rw [<- h, q]))]; rfl
  ·rw [if_pos (hp.2 q)]
   by_cases q2 : s.Pending = e.Addr
   ·rw [if_pos q2, decide_eq_true q2]; by_cases a4 : s.Act = 4 <;> simp [a4]
   ·rw [if_neg q2, decide_eq_false q2]; rfl
 rw [if_neg k2, if_neg k2]
 by_cases k3 : e.Kind = 3
 ·rw [if_pos k3, if_pos k3]
  have hne := Ps he (.inr (.inr (.inl k3)))
  by_cases q : s.Pending = []
  ·rw [if_neg (fun h => hp.1 h q), decide_eq_false (fun h => hne (by rw [<- h, q]))]; rfl
  ·rw [if_pos (hp.2 q)]
   by_cases q2 : s.Pending = e.Addr
   ·rw [if_pos q2, decide_eq_true q2]; rfl
   ·rw [if_neg q2, decide_eq_false q2]; rfl
 rw [if_neg k3, if_neg k3]
 by_cases k4 : e.Kind = 4
 ·rw [if_pos k4, if_pos k4]
  have hne := Ps he (.inr (.inr (.inr k4)))
  by_cases q : s.Pending = []
  ·rw [if_neg (fun h => hp.1 h q), decide_eq_false (fun h => hne (by rw [<- h, q]))]
  ·rw [if_pos (hp.2 q)]
 rw [if_neg k4, if_neg k4]
 by_cases k5 : e.Kind = 5
 ·rw [if_pos k5, if_pos k5]
  cases s.Open with
  | false => rfl
  | true =>
   dsimp only
   by_cases q : s.Pending = []
   ·rw [decide_eq_false (fun h => hp.1 h q), decide_eq_true q]; rfl
   ·rw [decide_eq_true (hp.2 q), decide_eq_false q]; rfl
 ·rw [if_neg k5, if_neg k5]
theorem Nt {s : GState} {a : List UInt8} (hl : s.Entries.length <= 2 ^ 40) (hA : Asc (s.Entries.map GEntry.Addr)) : ∃ c : Nat, kS (s.Entries.map GEntry.Addr) a c ∧ yk s a = some ((c : Int), yT s.Entries a) ∧ (yT s.Entries a = true ↔ (s.Entries.map GEntry.Addr)[c]? = some a) := by
 unfold yk
 obtain ⟨c, hp, hc⟩ := EW (a := s.Entries) (x := a) hl hA
 rw [hc]
 exact ⟨c, hp, rfl, Yz.trans (kS.mem hA hp).symm⟩
theorem Ri {s : GState} {e : GEvent} (hI : stI s) (hl : s.Entries.length <= 2 ^ 40) : jf s e = some (Y7 s e) := by
 unfold jf Y7 xx
 obtain ⟨c, hp, hc, _⟩ := Nt (a := e.Addr) hl hI.2.2.1
 rw [hc, oB]
 dsimp only
 by_cases h0 : s.Serial = 1000000
 ·rw [if_pos h0, if_pos h0]
 rw [if_neg h0, if_neg h0]
 by_cases k0 : e.Kind = 0
 ·rw [if_pos k0, if_pos k0]
 rw [if_neg k0, if_neg k0]
 have hz := @X6 s.Pending
 by_cases k1 : e.Kind = 1
 ·rw [if_pos k1, if_pos k1]
  cases s.Open with
  | false => rfl
  | true =>
   dsimp only
   by_cases q : s.Pending = []
   ·rw [if_pos (hz.2 q), decide_eq_true q]
    by_cases a1 : e.Act = 1
    ·rw [decide_eq_false (p := e.Act ≠ 1) (by omega)]
     cases hb : yT s.Entries e.Addr with
     | true => rw [if_pos rfl, if_pos a1]; rfl
     | false => rw [if_neg (by decide), if_pos a1]; simp; omega
    ·rw [decide_eq_true (p := e.Act ≠ 1) a1]
     cases hb : yT s.Entries e.Addr with
     | true => rw [if_pos rfl, if_neg a1]; rfl
     | false => rw [if_neg (by decide), if_neg a1]; simp
   ·rw [if_neg (fun h => q (hz.1 h)), decide_eq_false q]; rfl
 rw [if_neg k1, if_neg k1]
 by_cases k2 : e.Kind = 2
 ·rw [if_pos k2, if_pos k2, oB]
  by_cases q : s.Pending = e.Addr
  ·rw [decide_eq_true q]; by_cases a4 : s.Act = 4 <;> simp [a4]
  ·rw [decide_eq_false q]; rfl
 rw [if_neg k2, if_neg k2]
 by_cases k3 : e.Kind = 3
 ·rw [if_pos k3, if_pos k3, oB]
  by_cases q : s.Pending = e.Addr
  ·rw [decide_eq_true q]; rfl
  ·rw [decide_eq_false q]; rfl
 rw [if_neg k3, if_neg k3]
 by_cases k4 : e.Kind = 4
 ·rw [if_pos k4, if_pos k4]; rfl
 rw [if_neg k4, if_neg k4]
 by_cases k5 : e.Kind = 5
 ·rw [if_pos k5, if_pos k5]
  cases s.Open with
  | false => rfl
  | true =>
   dsimp only
   by_cases q : s.Pending = []
   ·rw [decide_eq_true (hz.2 q), decide_eq_true q]; rfl
   ·rw [decide_eq_false (fun h => q (hz.1 h)), decide_eq_false q]; rfl
 ·rw [if_neg k5, if_neg k5]
theorem De {l : List GEntry} {c : Nat} {x : GEntry} (h : l[c]? = some x) (A : GEntry) (f : GEntry → GEntry) : (((l.set c A)[c]?).bind fun y => some ((l.set c A).set c (f y))) = some (l.set c (f A)) := by
 have hl := (oE h).1
 rw [List.getElem?_set_self (by simpa using hl), oB, List.set_set]
theorem Ry {l : List GEntry} {c : Nat} {a : List UInt8} (h : (l.map GEntry.Addr)[c]? = some a) : ∃ x, l[c]? = some x ∧ x.Addr = a := by
 rw [List.getElem?_map] at h
 obtain ⟨x, h1, h2⟩ := oM h
 exact ⟨x, h1, h2⟩
theorem O6 {l : List GEntry} {a : List UInt8} {c : Nat} (hA : Asc (l.map GEntry.Addr)) (h : (l.map GEntry.Addr)[c]? = some a) : Yr l a 0 = (c : Int) := by
 have hb : yT l a = true := Yz.2 (List.mem_of_getElem? h)
 obtain ⟨k, h1, e, h2, h3⟩ := Nm l 0 hb
 rw [Nat.zero_add] at h1
 have hk : (l.map GEntry.Addr)[k]? = some a := by rw [List.getElem?_map, h2, Option.map_some, h3]
 have A := ZR.1 hA
 have : k = c := by
  rcases Nat.lt_trichotomy k c with h4 | h4 | h4
  ·have := A k c a a h4 hk h; rw [Z3] at this; cases this
  ·exact h4
  ·have := A c k a a h4 h hk; rw [Z3] at this; cases this
 rw [h1, this]
def tnE (ser : Int) (x : GEntry) : GEntry := .mk x.Addr x.Val x.Deps true ser
def nwE (a : List UInt8) (ser : Int) : GEntry := .mk a (.mk 5 0 [] [] []) [] true ser
theorem zen (a : List UInt8) (ser : Int) : esz (nwE a ser) = a.length := by
 show a.length + vsz (.mk 5 0 [] [] []) + bsz [] = a.length
 rw [show vsz (.mk 5 0 [] [] []) = 0 from rfl, show bsz [] = 0 from rfl]; rfl
theorem G1 {l : List GEntry} {c : Nat} (hc : c <= l.length) (hl : l.length <= 1048576) (x : GEntry) : wN (c : Int) l [x] = some (yO l c x) := by
 show (if 0 <= (c : Int) ∧ (c : Int) <= (l.length : Int) ∧ l.length <= 1048576 then some (yO l (c : Int).toNat x) else none) = _
 rw [if_pos ⟨by omega, by omega, hl⟩, Int.toNat_natCast]
theorem zbs {l : List GEntry} {c : Nat} (hc : c < l.length) (hl : l.length <= 1048576) : wO (c : Int) (((c + 1 : Nat) : Int)) l = some (qn l c) := by
 unfold wO
 rw [if_pos ⟨by omega, by omega, by omega, hl⟩, Int.toNat_natCast]
theorem G2 {l : List GEntry} {c : Nat} (hc : c <= l.length) (x y : GEntry) : (yO l c x).set c y = yO l c y := by
 apply List.ext_getElem?
 intro m
 rw [List.getElem?_set, Qc l c x hc, Qc l c y hc]
 have hlen : (yO l c x).length = l.length + 1 := by simp [yO]; omega
 by_cases h : c = m
 ·subst h
  rw [if_pos rfl, if_pos (by omega), if_neg (by omega), if_pos rfl]
 ·rw [if_neg h]
  by_cases h1 : m < c
  ·rw [if_pos h1, if_pos h1]
  ·rw [if_neg h1, if_neg h1, if_neg (Ne.symm h), if_neg (Ne.symm h)]
theorem G3 {l : List GEntry} {c : Nat} {x : GEntry} (h : l[c]? = some x) (f : GEntry → GEntry) : l.modify c f = l.set c (f x) := by
 apply List.ext_getElem?
 intro i
 rw [List.getElem?_modify, List.getElem?_set]
 have hl := (oE h).1
 by_cases hi : c = i
 ·subst hi; rw [if_pos rfl, if_pos hl, h]; simp
 ·rw [if_neg hi]; simp [hi]
theorem Nu {b : Bool} {ser : Int} {op : Bool} {act : Int} {a : List UInt8} {l : List GEntry} {c : Nat} (hl : l.length <= 1048576) (hal : a.length <= 2 ^ 38) (hA : Asc (l.map GEntry.Addr)) (hp : kS (l.map GEntry.Addr) a c) :
  qI b ser op act a l = some (.mk ser op a act (if a = [] then l else if yT l a = true then l.modify c (tnE ser) else if b = true then yO l c (nwE a ser) else l)) := by
 unfold qI
 by_cases ha : a = []
 ·rw [if_pos (X6.2 ha), if_pos ha]
 rw [if_neg (fun h => ha (X6.1 h)), if_neg ha]
 obtain ⟨c', hp', hc, hb⟩ := Nt (s := GState.mk ser op a act l) (a := a) (by show l.length <= _; omega) hA
 change kS (l.map GEntry.Addr) a c' at hp'
 change yT l a = true ↔ (l.map GEntry.Addr)[c']? = some a at hb
 change yk (GState.mk ser op a act l) a = some ((c' : Int), yT l a) at hc
 have hcc : c' = c := by
  have h1 := hp.1; have h2 := hp'.1
  rcases Nat.lt_trichotomy c' c with h | h | h
  ·have := (ZS hp' (i := c') (List.getElem?_eq_getElem (by omega))).2 ((ZS hp (i := c') (List.getElem?_eq_getElem (by omega))).1 h); omega
  ·exact h
  ·have := (ZS hp (i := c) (List.getElem?_eq_getElem (by omega))).2 ((ZS hp' (i := c) (List.getElem?_eq_getElem (by omega))).1 h); omega
 subst hcc
 have hcl : c' <= l.length := by have := hp.1; rwa [List.length_map] at this
 rw [hc, oB]
 try dsimp only
 cases hh : yT l a with
 | true =>
  obtain ⟨x, hx, hxa⟩ := Ry (hb.1 hh)
  try dsimp only
  rw [zb, oB, hx, oB, if_pos rfl]
  have := De hx (GEntry.mk x.Addr x.Val x.Deps true x.Turned) (fun x5 => GEntry.mk x5.Addr x5.Val x5.Deps x5.Taint ser)
  have hl2 := (oE hx).1
  rw [List.getElem?_set_self (by simpa using hl2), oB, List.set_set, G3 hx]
  rfl
 | false =>
  rw [if_neg (by decide)]
  try dsimp only
  cases b with
  | false => rfl
  | true =>
   try dsimp only
   unfold zO
   rw [if_pos (xK (by decide) (by omega)), oB, G1 hcl hl, oB, zb, oB]
   have hg : ∀ x, (yO l c' x)[c']? = some x := fun x => by rw [Qc l c' x hcl, if_neg (by omega), if_pos rfl]
   rw [hg, oB, G2 hcl, hg, oB, G2 hcl, if_pos rfl]
   rfl
theorem Nv {l : List GEntry} {c : Nat} {ser : Int} : (l.modify c (tnE ser)).map GEntry.Addr = l.map GEntry.Addr := by
 apply List.ext_getElem?
 intro i
 rw [List.getElem?_map, List.getElem?_map, List.getElem?_modify]
 split <;> cases l[i]? <;> rfl
theorem TW {ser : Int} : ∀ (l : List GEntry) (c : Nat), zZ (l.modify c (tnE ser)) = zZ l
 | [], c => by simp [zZ]
 | x :: l, 0 => by simp only [List.modify_zero_cons, zZ]; rfl
 | x :: l, c + 1 => by simp only [List.modify_succ_cons, zZ, TW l c]
theorem zbt {s : GState} {e : GEvent} (hI : stI s) (he : evB e = true) (hm : Y7 s e = true) (hz : ssz s + yy e <= 2 ^ 36) (hl : s.Entries.length <= 1048576) :
  ∃ s', vL e s = some s' ∧ wU s e = some (s', true) ∧ stI s' ∧ ssz s' <= ssz s + yy e + 1 ∧ s'.Entries.length <= s.Entries.length + 1 := by
 have hI0 := hI
 obtain ⟨i1, i2, i3, i4⟩ := hI
 have hser : s.Serial < 1000000 := by
  rcases Int.lt_or_le s.Serial 1000000 with h | h
  ·exact h
  ·unfold Y7 at hm; rw [if_pos (by omega)] at hm; cases hm
 have hw : w64 (s.Serial + 1) = s.Serial + 1 := yc (by omega) (by omega)
 have hcp : yF s = some s := if_pos (by omega)
 have hft := Ri (e := e) hI0 (by omega)
 rw [hm] at hft
 unfold ssz yy at *
 have hroom : ∀ n, n <= 1048577 → yj 152 n := fun n hn => jr (by omega)
 unfold vL wU
 rw [hcp, oB, hft, oB, hw]
 dsimp only
 obtain ⟨c, hp, hc, hb⟩ := Nt (s := GState.mk (s.Serial + 1) s.Open s.Pending s.Act s.Entries) (a := e.Addr) (by show s.Entries.length <= _; omega) i3
 change kS (s.Entries.map GEntry.Addr) e.Addr c at hp
 change yT s.Entries e.Addr = true ↔ (s.Entries.map GEntry.Addr)[c]? = some e.Addr at hb
 change yk (GState.mk (s.Serial + 1) s.Open s.Pending s.Act s.Entries) e.Addr = some ((c : Int), yT s.Entries e.Addr) at hc
 have hcl : c <= s.Entries.length := by have := hp.1; rwa [List.length_map] at this
 rw [hc, oB]
 dsimp only
 unfold wo
 rw [if_pos (by show s.Entries.length <= _; omega), oB, show (GState.mk (s.Serial + 1) s.Open s.Pending s.Act s.Entries).Entries = s.Entries from rfl]
 unfold Y7 at hm
 rw [if_neg (by omega)] at hm
 have hdone : ∀ (l : List GEntry) (o : Bool), Asc (l.map GEntry.Addr) → stI (GState.mk (s.Serial + 1) o [] 0 l) := fun l o h => ⟨by show (0 : Int) <= s.Serial + 1; omega, by show s.Serial + 1 <= 1000000; omega, h, fun h => absurd rfl h⟩
 by_cases k0 : e.Kind = 0
 ·rw [if_pos k0, if_pos k0]
  refine ⟨_, rfl, rfl, ⟨by show (0 : Int) <= s.Serial + 1; omega, by show s.Serial + 1 <= 1000000; omega, i3, fun h => ⟨rfl, (i4 h).2⟩⟩, by (try simp only [jH, jI]); omega, by (try simp only [jH, jI]); omega⟩
 rw [if_neg k0, if_neg k0]
 rw [if_neg k0] at hm
 by_cases k1 : e.Kind = 1
 ·rw [if_pos k1, if_pos k1]
  rw [if_pos k1] at hm
  simp only [Bool.and_eq_true, decide_eq_true_eq, beq_iff_eq] at hm
  unfold zO
  rw [if_pos (xK (by decide) (by omega)), oB]
  refine ⟨_, rfl, rfl, ⟨by show (0 : Int) <= s.Serial + 1; omega, by show s.Serial + 1 <= 1000000; omega, i3, fun h => ⟨hm.1.1.1, hm.1.2⟩⟩, by (try simp only [jH, jI]); omega, by (try simp only [jH, jI]); omega⟩
 rw [if_neg k1, if_neg k1]
 rw [if_neg k1] at hm
 by_cases k2 : e.Kind = 2
 ·rw [if_pos k2, if_pos k2]
  rw [if_pos k2] at hm
  simp only [Bool.and_eq_true, decide_eq_true_eq] at hm
  unfold zO xb y4 j0
  rw [if_pos (xK (by decide) (by omega)), oB, if_pos (by omega), oB, if_pos (by omega), oB, if_pos (by omega), oB]
  have hpe : vP (GEntry.mk e.Addr e.Val e.Deps false (s.Serial + 1)) false s.Entries = if (s.Entries.map GEntry.Addr)[c]? = some e.Addr then s.Entries.set c (GEntry.mk e.Addr e.Val e.Deps false (s.Serial + 1)) else yO s.Entries c (GEntry.mk e.Addr e.Val e.Deps false (s.Serial + 1)) := O5 (e := GEntry.mk e.Addr e.Val e.Deps false (s.Serial + 1)) i3 hp
  rw [hpe]
  cases hh : yT s.Entries e.Addr with
  | true =>
   have hk := hb.1 hh
   obtain ⟨x, hx, hxa⟩ := Ry hk
   dsimp only
   rw [zb, oB, hx, oB, if_pos hk]
   refine ⟨_, rfl, rfl, hdone _ _ (by rw [Nn (by exact hk)]; exact i3), ?_, by (try simp only [jH, jI]); rw [List.length_set]; omega⟩
   have h1 := Nr s.Entries c (GEntry.mk e.Addr e.Val e.Deps false (s.Serial + 1))
   have h2 : esz (GEntry.mk e.Addr e.Val e.Deps false (s.Serial + 1)) = e.Addr.length + vsz e.Val + bsz e.Deps := rfl
   try simp only [jH, jI]
   try simp only [List.length_nil]
   omega
  | false =>
   have hk : ¬ (s.Entries.map GEntry.Addr)[c]? = some e.Addr := fun h => by rw [hb.2 h] at hh; cases hh
   dsimp only
   rw [G1 hcl hl, oB, if_neg hk]
   refine ⟨_, rfl, rfl, hdone _ _ (by rw [Rh]; exact Gz i3 hp hk), ?_, by (try simp only [jH, jI]); simp [yO]; omega⟩
   have h1 := Nq s.Entries c (GEntry.mk e.Addr e.Val e.Deps false (s.Serial + 1))
   have h2 : esz (GEntry.mk e.Addr e.Val e.Deps false (s.Serial + 1)) = e.Addr.length + vsz e.Val + bsz e.Deps := rfl
   try simp only [jH, jI]
   try simp only [List.length_nil]
   omega
 rw [if_neg k2, if_neg k2]
 rw [if_neg k2] at hm
 by_cases k3 : e.Kind = 3
 ·rw [if_pos k3, if_pos k3]
  rw [if_pos k3] at hm
  simp only [Bool.and_eq_true, decide_eq_true_eq] at hm
  have hne := Ps he (.inr (.inr (.inl k3)))
  have hh : yT s.Entries e.Addr = true := by
   have := (i4 (by rw [hm.1]; exact hne)).2
   rw [<- hm.1, this, decide_eq_true]; omega
  have hk := hb.1 hh
  have hcl2 : c < s.Entries.length := by have := (oE hk).1; rwa [List.length_map] at this
  rw [hm.1, O6 i3 hk, zb, oB, zH (by omega), zb]
  unfold qm
  rw [show vX none (some c) s.Entries.length = some (0, c) by unfold vX; simp; omega, Option.map_some, oB]
  rw [if_pos (hroom _ (by simp; omega)), oB, show vX (some (c + 1)) none s.Entries.length = some (c + 1, s.Entries.length) by unfold vX; simp; omega, Option.map_some, oB]
  rw [if_pos (hroom _ (by simp; omega)), zbs hcl2 hl, oB]
  refine ⟨_, rfl, ?_, hdone _ _ ?_, ?_, ?_⟩
  ·simp [qn]
  ·have := zbr i3 (c := c) (by rwa [List.length_map])
   rw [<- Np] at this
   simpa [qn] using this
  ·have := B1 s.Entries c
   have h2 : ∀ L : List GEntry, L = qn s.Entries c → zZ L <= zZ s.Entries := fun L h => by rw [h]; exact this
   have := h2 (List.drop 0 (List.take c s.Entries) ++ List.drop (c + 1) (List.take s.Entries.length s.Entries)) (by simp [qn])
   try simp only [jH, jI]
   try simp only [List.length_nil]
   omega
  ·(try simp only [jH, jI]); simp; omega
 rw [if_neg k3, if_neg k3]
 rw [if_neg k3] at hm
 obtain ⟨c2, hp2⟩ := kS.of i3 s.Pending
 have hcl2 : c2 <= s.Entries.length := by have := hp2.1; rwa [List.length_map] at this
 have hmem := kS.mem i3 hp2
 have hsp : ∀ (o : Bool) (x : GEntry), s.Entries[c2]? = some x → ((zv (c2 : Int)).bind fun i10 => (s.Entries[i10]?).bind fun x11 => ((s.Entries.set i10 (GEntry.mk x11.Addr x11.Val x11.Deps true x11.Turned))[i10]?).bind fun x12 => some (GState.mk (s.Serial + 1) o [] 0 ((s.Entries.set i10 (GEntry.mk x11.Addr x11.Val x11.Deps true x11.Turned)).set i10 (GEntry.mk x12.Addr x12.Val x12.Deps x12.Taint (s.Serial + 1))))) =
   some (GState.mk (s.Serial + 1) o [] 0 (s.Entries.modify c2 (tnE (s.Serial + 1)))) := fun o x hx => by
  have hl2 := (oE hx).1
  rw [zb, oB, hx, oB, List.getElem?_set_self (by simpa using hl2), oB, List.set_set, G3 hx]
  rfl
 by_cases k4 : e.Kind = 4
 ·rw [if_pos k4, if_pos k4]
  rw [if_pos k4] at hm
  simp only [decide_eq_true_eq] at hm
  have hne := Ps he (.inr (.inr (.inr k4)))
  have hpn : s.Pending ≠ [] := by rw [hm]; exact hne
  rw [Nu hl (by omega) i3 hp2, oB, if_neg hpn, if_neg (fun h => hpn (X6.1 h)), (i4 hpn).1]
  cases hh : yT s.Entries s.Pending with
  | true =>
   have hk := hmem.2 (Yz.1 hh)
   obtain ⟨x, hx, _⟩ := Ry hk
   rw [O6 i3 hk, if_pos (by omega), if_pos (hroom _ (by omega)), hsp true x hx]
   refine ⟨_, rfl, rfl, hdone _ _ (by rw [Nv]; exact i3), ?_, by (try simp only [jH, jI]); simp⟩
   try simp only [jH, jI]
   try simp only [List.length_nil]
   rw [TW]
   omega
  | false =>
   rw [JV hh, if_neg (by decide)]
   refine ⟨_, rfl, rfl, hdone _ _ i3, ?_, by (try simp only [jH, jI]); simp⟩
   try simp only [jH, jI]
   try simp only [Bool.false_eq_true, if_false]
   try simp only [List.length_nil]
   omega
 rw [if_neg k4, if_neg k4]
 rw [if_neg k4] at hm
 by_cases k6 : e.Kind = 6
 ·rw [if_pos k6, if_pos k6]
  rw [Nu hl (by omega) i3 hp2, oB]
  by_cases hpn : s.Pending = []
  ·rw [if_pos hpn, if_pos (X6.2 hpn)]
   refine ⟨_, rfl, rfl, hdone _ _ i3, ?_, by (try simp only [jH, jI]); omega⟩
   try simp only [jH, jI]
   try simp only [List.length_nil]
   omega
  rw [if_neg hpn, if_neg (fun h => hpn (X6.1 h))]
  cases hh : yT s.Entries s.Pending with
  | true =>
   have hk := hmem.2 (Yz.1 hh)
   obtain ⟨x, hx, _⟩ := Ry hk
   rw [O6 i3 hk, if_pos (by omega), if_pos (hroom _ (by omega)), hsp false x hx]
   refine ⟨_, rfl, rfl, hdone _ _ (by rw [Nv]; exact i3), ?_, by (try simp only [jH, jI]); simp⟩
   try simp only [jH, jI]
   try simp only [List.length_nil]
   rw [TW]
   omega
  | false =>
   have hk : ¬ (s.Entries.map GEntry.Addr)[c2]? = some s.Pending := fun h => by rw [Yz.2 (hmem.1 h)] at hh; cases hh
   unfold j0
   rw [JV hh, if_neg (by decide), if_pos (by omega), oB]
   rw [show vP (GEntry.mk s.Pending (GValue.mk 5 0 [] [] []) [] true (s.Serial + 1)) false s.Entries = yO s.Entries c2 (nwE s.Pending (s.Serial + 1)) by
    have : vP (nwE s.Pending (s.Serial + 1)) false s.Entries = if (s.Entries.map GEntry.Addr)[c2]? = some s.Pending then s.Entries.set c2 (nwE s.Pending (s.Serial + 1)) else yO s.Entries c2 (nwE s.Pending (s.Serial + 1)) := O5 (e := nwE s.Pending (s.Serial + 1)) i3 hp2
    rw [if_neg hk] at this
    exact this]
   refine ⟨_, rfl, rfl, hdone _ _ (by rw [Rh]; exact Gz i3 hp2 hk), ?_, by (try simp only [jH, jI]); simp [yO]; omega⟩
   have h1 := Nq s.Entries c2 (nwE s.Pending (s.Serial + 1))
   rw [zen] at h1
   try simp only [jH, jI]
   try simp only [List.length_nil]
   omega
 rw [if_neg k6, if_neg k6]
 by_cases k5 : e.Kind = 5
 ·rw [if_pos k5, if_pos k5]
  refine ⟨_, rfl, rfl, hdone _ _ i3, ?_, by (try simp only [jH, jI]); omega⟩
  try simp only [jH, jI]
  try simp only [List.length_nil]
  omega
 ·exfalso
  unfold evB at he
  rw [if_neg k2, if_neg (by omega), if_neg k1, if_neg (by omega), Bool.and_false] at he
  cases he
def nxS (e : GEvent) (s : GState) : GState := (vL e s).getD s
def vu : GState → List GEvent → GState × Bool
 | s, [] => (s, true)
 | s, e :: l => bif Y7 s e then vu (nxS e s) l else (s, false)
def Jf : GState → List GEvent → List GState
 | _, [] => []
 | s, e :: l => nxS e s :: Jf (nxS e s) l
def okS : GState → List GEvent → Bool
 | _, [] => true
 | s, e :: l => evB e && (Y7 s e && okS (nxS e s) l)
theorem HA {s : GState} {e : GEvent} (hI : stI s) (he : evB e = true) (hm : Y7 s e = true) (hz : ssz s + yy e <= 2 ^ 20) : vL e s = some (nxS e s) ∧ wU s e = some (nxS e s, true) ∧ stI (nxS e s) ∧ ssz (nxS e s) <= ssz s + yy e + 1 := by
 have hlen := wW s.Entries
 obtain ⟨s', h1, h2, h3, h4, _⟩ := zbt hI he hm (by omega) (by unfold ssz at hz; omega)
 have : nxS e s = s' := by unfold nxS; rw [h1]; rfl
 rw [this]
 exact ⟨h1, h2, h3, h4⟩
theorem doN {s : GState} {e : GEvent} (hI : stI s) (hm : Y7 s e = false) (hz : ssz s <= 2 ^ 20) : wU s e = some (s, false) := by
 have hlen := wW s.Entries
 have hft := Ri (e := e) hI (by unfold ssz at hz; omega)
 rw [hm] at hft
 unfold wU
 rw [show yF s = some s from if_pos (by omega), oB, hft, oB]
theorem G4 : ∀ {l : List GEvent} {s : GState}, (∀ e ∈ l, evB e = true) → okS s l = (vu s l).2
 | [], s, _ => rfl
 | e :: l, s, h => by
  rw [okS, vu, h e List.mem_cons_self, Bool.true_and, G4 fun x hx => h x (List.mem_cons_of_mem _ hx)]
  cases Y7 s e <;> rfl
theorem Nw : ∀ {l : List GEvent} {s : GState}, okS s l = true → ∀ e ∈ l, evB e = true
 | [], _, _ => by simp
 | e :: l, s, h => by
  rw [okS, Bool.and_eq_true, Bool.and_eq_true] at h
  intro x hx
  rcases List.mem_cons.1 hx with rfl | hx
  ·exact h.1
  ·exact Nw h.2.2 x hx
theorem zeo {m : Nat} (hm : m <= 2 ^ 39) : yj 72 m := xK (by decide) (by omega)
theorem Lf {h : GHistory} {k : Int} {v3 : Int} {v4 : Bool} {v5 : Int} {v7 : List UInt8} {v8 : List GEntry} : ∀ (l p r : List GEvent) (s : GState) (m : Nat), h.Events = p ++ l ++ r → k = ((p.length + l.length : Nat) : Int) → l.length < m → (∀ e ∈ l, evB e = true) → stI s → ssz s + zT l <= 2 ^ 20 → p.length + l.length <= 2 ^ 40 →
  ∃ z, qw k h v3 v4 v5 v7 v8 m (p.length : Int) s = some (bif (vu s l).2 then .inr (z, (vu s l).1) else .inl (false, (vu s l).1)) := by
 intro l
 induction l with
 | nil =>
  intro p r s m _ hk hm _ _ _ _
  obtain ⟨m, rfl, _⟩ := zg hm
  exact ⟨_, by rw [qw, hk, if_neg (by simp)]; rfl⟩
 | cons e l ih =>
  intro p r s m he hk hm hev hI hz hp
  obtain ⟨m, rfl, hm'⟩ := zg hm
  simp only [List.length_cons] at hk hm' hp
  simp only [zT] at hz
  have hlen := wW s.Entries
  have hg : h.Events[p.length]? = some e := by rw [he, List.append_assoc]; exact zG p e (l ++ r)
  have hee := hev e List.mem_cons_self
  rw [qw, hk, if_pos (by omega), zb, oB, hg, oB, Ns hI hee (by unfold ssz at hz; omega), oB, vu]
  cases hmy : Y7 s e with
  | false => exact ⟨0, rfl⟩
  | true =>
   obtain ⟨h1, _, h3, h4⟩ := HA hI hee hmy (by omega)
   obtain ⟨z, hzz⟩ := ih (p ++ [e]) r (nxS e s) m (by rw [he]; simp) (by rw [hk]; simp; omega) (by omega) (fun x hx => hev x (List.mem_cons_of_mem _ hx)) h3 (by omega) (by simp; omega)
   refine ⟨z, ?_⟩
   dsimp only
   rw [h1, oB, y8 p e (by omega), <- hk, hzz]
   rfl
theorem Gb {evs : List GEvent} {n : Int} : ∀ (l p : List GEvent) (q : List GState) (s : GState) (m : Nat), evs = p ++ l → n = (evs.length : Int) → l.length < m → q.length = p.length → stI s → ssz s + zT l <= 2 ^ 20 → evs.length <= 2 ^ 30 →
  ∃ z, yQ evs n m (p.length : Int) (q ++ [s]) = some (bif okS s l then .inr (z, q ++ [s] ++ Jf s l) else .inl (false, [])) := by
 intro l
 induction l with
 | nil =>
  intro p q s m he hn hm _ _ _ _
  obtain ⟨m, rfl, _⟩ := zg hm
  exact ⟨_, by rw [yQ, hn, he, if_neg (by simp)]; simp [okS, Jf]; rfl⟩
 | cons e l ih =>
  intro p q s m he hn hm hq hI hz hb
  obtain ⟨m, rfl, hm'⟩ := zg hm
  simp only [List.length_cons] at hm'
  simp only [zT] at hz
  have hg : evs[p.length]? = some e := by rw [he]; exact zG p e l
  have hlen : evs.length = p.length + (l.length + 1) := by rw [he]; simp
  have hgs : (q ++ [s])[p.length]? = some s := by rw [<- hq]; exact zG q s []
  rw [yQ, hn, if_pos (by omega), zb, oB, hg, oB, Lc (by omega), oB, okS]
  cases hev : evB e with
  | false => exact ⟨0, rfl⟩
  | true =>
   dsimp only
   rw [hgs, oB]
   cases hmy : Y7 s e with
   | false =>
    rw [doN hI hmy (by omega), oB]
    exact ⟨0, rfl⟩
   | true =>
    obtain ⟨_, h2, h3, h4⟩ := HA hI hev hmy (by omega)
    obtain ⟨z, hzz⟩ := ih (p ++ [e]) (q ++ [s]) (nxS e s) m (by rw [he]; simp) hn (by omega) (by simp [hq]) h3 (by omega) hb
    rw [h2, oB]
    dsimp only
    rw [if_pos (zeo (by simp; omega)), y8 p e (by omega), <- hn, hzz]
    refine ⟨z, ?_⟩
    simp only [Bool.true_and, Jf]
    cases okS (nxS e s) l <;> simp
theorem B2 {h : GHistory} (hz : zT h.Events <= 2 ^ 20) : ∀ (l p : List GEvent) (m : Nat), h.Events = p ++ l → l.length < m → ∃ z, qx h m (p.length : Int) = some (bif l.all evB then .inr z else .inl false) := by
 have hl := jn h.Events
 intro l
 induction l with
 | nil =>
  intro p m he hm
  obtain ⟨m, rfl, _⟩ := zg hm
  exact ⟨_, by rw [qx, he, if_neg (by simp)]; rfl⟩
 | cons e l ih =>
  intro p m he hm
  obtain ⟨m, rfl, hm'⟩ := zg hm
  have hlen : h.Events.length = p.length + (l.length + 1) := by rw [he]; simp
  have hx : 1 + yy e <= zT h.Events := XW (by rw [he]; simp)
  obtain ⟨z, hzz⟩ := ih (p ++ [e]) m (by rw [he]; simp) (by simp only [List.length_cons] at hm'; omega)
  rw [qx, if_pos (by omega), zb, oB, show h.Events[p.length]? = some e by rw [he]; exact zG p e l, oB, Ld (by omega), oB, List.all_cons]
  cases evB e with
  | false => exact ⟨0, rfl⟩
  | true =>
   refine ⟨z, ?_⟩
   dsimp only
   rw [y8 p e (by omega), hzz, Bool.true_and]
def hsz (h : GHistory) : Nat := ssz h.Base + zT h.Events
def hOk (h : GHistory) : Bool := stB h.Base && (decide (h.Events.length <= 300) && (decide (0 <= h.Safe ∧ h.Safe <= h.Events.length) && okS h.Base h.Events))
theorem B3 {h : GHistory} (hz : hsz h <= 2 ^ 20) : vD h = some (hOk h) := by
 unfold hsz at hz
 have hl := jn h.Events
 unfold vD Ys hOk
 rw [EM (by omega), oB]
 cases hs : stB h.Base with
 | false => rfl
 | true =>
  dsimp only
  by_cases c1 : 300 < (h.Events.length : Int)
  ·rw [if_pos c1, decide_eq_false (p := h.Events.length <= 300) (by omega)]; rfl
  rw [if_neg c1, decide_eq_true (p := h.Events.length <= 300) (by omega)]
  by_cases c2 : h.Safe < 0
  ·rw [if_pos c2, decide_eq_false (p := 0 <= h.Safe ∧ h.Safe <= h.Events.length) (by omega)]; rfl
  rw [if_neg c2]
  by_cases c3 : (h.Events.length : Int) < h.Safe
  ·rw [if_pos c3, decide_eq_false (p := 0 <= h.Safe ∧ h.Safe <= h.Events.length) (by omega)]; rfl
  rw [if_neg c3, decide_eq_true (p := 0 <= h.Safe ∧ h.Safe <= h.Events.length) (by omega)]
  obtain ⟨z, hzz⟩ := B2 (h := h) (by omega) h.Events [] (h.Events.length + 5) rfl (by omega)
  simp only [List.length_nil, Int.natCast_zero] at hzz
  rw [hzz, oB]
  cases hall : h.Events.all evB with
  | false =>
   have : okS h.Base h.Events = false := by
    cases hk : okS h.Base h.Events with
    | false => rfl
    | true => rw [List.all_eq_true.2 (Nw hk)] at hall; cases hall
   rw [this]; rfl
  | true =>
   have hev := List.all_eq_true.1 hall
   simp only [cond_true]
   unfold ja vC
   obtain ⟨z2, h2⟩ := Lf (h := h) (k := (h.Events.length : Int)) (v3 := 0) (v4 := false) (v5 := 0) (v7 := []) (v8 := []) h.Events [] [] h.Base (h.Events.length + 5) (by simp) (by simp) (by omega) hev (Pr hs) hz (by simp; omega)
   simp only [List.length_nil, Int.natCast_zero] at h2
   rw [h2, G4 hev, oB]
   cases (vu h.Base h.Events).2 <;> rfl
theorem Df {h : GHistory} (hz : hsz h <= 2 ^ 20) : wF h = some (bif hOk h then (h.Base :: Jf h.Base h.Events, true) else ([], false)) := by
 unfold hsz at hz
 have hl := jn h.Events
 unfold wF qW hOk
 rw [EY (by omega), oB]
 cases hs : stB h.Base with
 | false => rfl
 | true =>
  dsimp only
  by_cases c1 : 300 < (h.Events.length : Int)
  ·rw [if_pos c1, decide_eq_false (p := h.Events.length <= 300) (by omega)]; rfl
  rw [if_neg c1, decide_eq_true (p := h.Events.length <= 300) (by omega)]
  have hin : xg h.Safe 0 (h.Events.length : Int) = some (decide (0 <= h.Safe ∧ h.Safe <= h.Events.length)) := by
   unfold xg
   by_cases c2 : 0 <= h.Safe
   ·rw [if_pos c2]; simp [c2]
   ·rw [if_neg c2]; simp [c2]
  rw [hin, oB]
  by_cases c2 : 0 <= h.Safe ∧ h.Safe <= h.Events.length
  ·rw [decide_eq_true c2]
   dsimp only
   rw [show yF h.Base = some h.Base from if_pos (by omega), oB]
   obtain ⟨z, hzz⟩ := Gb (evs := h.Events) (n := (h.Events.length : Int)) h.Events [] [] h.Base (h.Events.length + 5) rfl rfl (by omega) rfl (Pr hs) hz (by omega)
   simp only [List.length_nil, Int.natCast_zero, List.nil_append] at hzz
   rw [hzz, oB]
   cases okS h.Base h.Events <;> simp
  ·rw [decide_eq_false c2]; rfl
def MdH (h : GHistory) : Prop := MdS h.Base ∧ h.Events.length <= 2 ^ 63 - 1 ∧ WC h.Events
theorem zep {h : GHistory} {n : Int} (hm : MdH h) (h0 : 0 <= n) (h1 : n <= 2 ^ 20) : vh h n = some (y3 (hsz h) n) := by
 unfold vh
 rw [zek hm.1 h0 h1, oB]
 unfold y3 hsz
 by_cases c1 : (ssz h.Base : Int) <= n
 ·rw [if_pos c1, if_neg (by omega)]
  unfold jP
  rw [if_pos ⟨hm.2.1, hm.2.2, by omega, by omega⟩, oB]
  unfold y3
  by_cases c2 : (zT h.Events : Int) <= n - ssz h.Base
  ·rw [if_pos c2, if_neg (by omega), if_pos (by omega)]; congr 1; omega
  ·rw [if_neg c2, if_pos (by omega), if_neg (by omega)]
 ·rw [if_neg c1, if_pos (by omega), if_neg (by omega)]
theorem zeq {h : GHistory} (hz : hsz h <= 2 ^ 20) : vj h = some h := by
 unfold hsz at hz
 unfold vj jS
 rw [zel (by omega), oB, if_pos (by omega), oB]
 cases h; rfl
theorem Dg {h : GHistory} (hz : hsz h <= 2 ^ 39) : q6 h h = some true := by
 unfold hsz at hz
 unfold q6
 rw [zem (by omega), oB]
 dsimp only
 rw [Ga (by omega), oB]
 dsimp only
 rw [if_pos rfl]
theorem zer (b : GState) (e : List GEvent) (z : Int) : hsz (GHistory.mk b e z) = ssz b + zT e := rfl
theorem Dh {h : GHistory} (hk : hOk h = true) : stB h.Base = true ∧ h.Events.length <= 300 ∧ (0 <= h.Safe ∧ h.Safe <= h.Events.length) ∧ okS h.Base h.Events = true := by
 unfold hOk at hk
 simp only [Bool.and_eq_true, decide_eq_true_eq] at hk
 exact ⟨hk.1, hk.2.1, hk.2.2.1, hk.2.2.2⟩
theorem Nx : ∀ {l : List GEvent} {s : GState}, stI s → ssz s + zT l <= 2 ^ 20 → okS s l = true → stI (vu s l).1 ∧ ssz (vu s l).1 <= ssz s + zT l ∧ (vu s l).2 = true ∧ (s :: Jf s l)[l.length]? = some (vu s l).1
 | [], s, hI, hz, _ => ⟨hI, by simp [vu, zT], rfl, rfl⟩
 | e :: l, s, hI, hz, hk => by
  rw [okS, Bool.and_eq_true, Bool.and_eq_true] at hk
  simp only [zT] at hz ⊢
  obtain ⟨_, _, h3, h4⟩ := HA hI hk.1 hk.2.1 (by omega)
  obtain ⟨g1, g2, g3, g4⟩ := Nx (l := l) (s := nxS e s) h3 (by omega) hk.2.2
  rw [vu, hk.2.1]
  exact ⟨g1, by simp only [cond_true]; omega, g3, by simp only [Jf, List.length_cons, List.getElem?_cons_succ, cond_true]; exact g4⟩
theorem Lg : ∀ (a b : List GEvent), zT (a ++ b) = zT a + zT b
 | [], b => by simp [zT]
 | x :: a, b => by simp only [List.cons_append, zT, Lg a b]; omega
theorem zbu {h : GHistory} (hz : hsz h <= 2 ^ 20) (hk : hOk h = true) : ja h (h.Events.length : Int) = some ((vu h.Base h.Events).1, true) := by
 unfold hsz at hz
 have hl := jn h.Events
 obtain ⟨k1, _, _, k4⟩ := Dh hk
 unfold ja vC
 obtain ⟨z2, h2⟩ := Lf (h := h) (k := (h.Events.length : Int)) (v3 := 0) (v4 := false) (v5 := 0) (v7 := []) (v8 := []) h.Events [] [] h.Base (h.Events.length + 5) (by simp) (by simp) (by omega) (Nw k4) (Pr k1) hz (by simp; omega)
 simp only [List.length_nil, Int.natCast_zero] at h2
 rw [h2, (Nx (Pr k1) hz k4).2.2.1]
 rfl
theorem B4 {v : GValue} {i : Int} (h : vsz v <= 2 ^ 30) (h0 : 0 <= i) (h1 : i <= 2 ^ 40) : ∃ k a b c, vt v.Kind v.N i v.S v.K v.L = some (k, a, b, c) ∧ 0 <= k ∧ k <= i + 2 * vsz v := by
 have he := xw v
 have hb := qM v.K
 have hc := Xk v.L
 unfold vt
 rw [wl (by omega) (by omega), oB]
 dsimp only
 rw [jb (by omega) (by omega), oB]
 dsimp only
 rw [Wo (by omega) (by omega), oB]
 exact ⟨_, _, _, _, rfl, by omega, by omega⟩
theorem HB {e : GEvent} {i : Int} (h : yy e <= 2 ^ 30) (h0 : 0 <= i) (h1 : i <= 2 ^ 38) : ∃ (k : Int) (x1 x2 : List UInt8) (x3 : List (List UInt8)) (x4 : List GValue) (x5 : List (List UInt8)), j7 e.Kind e.Act e.Val.Kind e.Val.N i e.Addr e.Val.S e.Val.K e.Val.L e.Deps = some (k, x1, x2, x3, x4, x5) ∧ 0 <= k ∧ k <= i + 4 * yy e := by
 unfold yy at h ⊢
 have hd := qM e.Deps
 obtain ⟨k, a, b, c, hm, h2, h3⟩ := B4 (v := e.Val) (i := i + (e.Addr.length : Int)) (by omega) (by omega) (by omega)
 unfold j7
 rw [wl (by omega) (by omega), oB]
 dsimp only
 rw [hm, oB]
 dsimp only
 rw [jb (by omega) (by omega), oB]
 exact ⟨_, _, _, _, _, _, rfl, by omega, by omega⟩
theorem zes (k : Int) (e : GEntry) : cE (mE k e) = cE e := by
 unfold cE mE
 simp only [GEntry.Addr, GEntry.Val, GEntry.Deps, kU, O9, Qs]
theorem ze4 (k : Int) (e : GEntry) : esz (mE k e) = esz e := by
 unfold esz mE
 simp only [GEntry.Addr, GEntry.Val, GEntry.Deps, kU, HC, O8]
theorem zbv (k : Int) (e : GEntry) : mE k (mE k e) = mE k e := by
 obtain ⟨a, v, d, t, u⟩ := e
 unfold mE
 simp only [GEntry.Addr, GEntry.Val, GEntry.Deps, kU, O9, Qs, JA, OA, TX]
 rfl
theorem Ny : ∀ (k : Int) (l : List GEntry), mEs k (mEs k l) = mEs k l
 | _, [] => rfl
 | k, e :: l => by simp only [mEs, zbv, zes, Ny]
theorem AW : ∀ (k : Int) (l : List GEntry), cEs (mEs k l) = cEs l
 | _, [] => rfl
 | k, e :: l => by simp only [mEs, cEs, zes, AW]
theorem Di : ∀ (k : Int) (l : List GEntry), zZ (mEs k l) = zZ l
 | _, [] => rfl
 | k, e :: l => by simp only [mEs, zZ, ze4, Di]
theorem B5 {h : GHistory} (hz : hsz h <= 2 ^ 30) : ∃ (k : Int) (a : List UInt8) (b : List GEntry) (c : List GEvent), yE h.Base.Serial h.Base.Open h.Base.Act h.Safe 1 h.Base.Pending h.Base.Entries h.Events = some (k, a, b, c) ∧ 0 <= k ∧ k <= 1 + 4 * hsz h := by
 unfold hsz ssz at hz ⊢
 have := N9 h.Base.Entries
 have := OB h.Events
 unfold yE vn
 rw [wl (by omega) (by omega), oB]
 dsimp only
 rw [KC (by omega) (by omega), oB]
 dsimp only
 rw [oB]
 dsimp only
 rw [KD (by omega) (by omega), oB]
 exact ⟨_, _, _, _, rfl, by omega, by omega⟩
theorem AX (k : Int) (e : GEvent) : cEv (mEv k e) = cEv e := by
 unfold cEv mEv
 simp only [GEvent.Addr, GEvent.Val, GEvent.Deps, kU, O9, Qs]
theorem zet (k : Int) (e : GEvent) : yy (mEv k e) = yy e := by
 unfold yy mEv
 simp only [GEvent.Addr, GEvent.Val, GEvent.Deps, kU, HC, O8]
theorem B6 (k : Int) (e : GEvent) : mEv k (mEv k e) = mEv k e := by
 obtain ⟨a, b, c, v, d⟩ := e
 unfold mEv
 simp only [GEvent.Addr, GEvent.Val, GEvent.Deps, kU, O9, Qs, JA, OA, TX]
theorem Lh : ∀ (k : Int) (l : List GEvent), vV k (vV k l) = vV k l
 | _, [] => rfl
 | k, e :: l => by simp only [vV, B6, AX, Lh]
theorem Dj : ∀ (k : Int) (l : List GEvent), kl (vV k l) = kl l
 | _, [] => rfl
 | k, e :: l => by simp only [vV, kl, AX, Dj]
theorem G5 : ∀ (k : Int) (l : List GEvent), zT (vV k l) = zT l
 | _, [] => rfl
 | k, e :: l => by simp only [vV, zT, zet, G5]
theorem Dk {h : GHistory} (hz : hsz h <= 2 ^ 30) : ∃ (k : Int) (a : List UInt8) (b : List GEntry) (c : List GEvent), yE h.Base.Serial h.Base.Open h.Base.Act h.Safe 1 h.Base.Pending h.Base.Entries h.Events = some (k, a, b, c) ∧ 0 <= k ∧ qL (GHistory.mk (GState.mk h.Base.Serial h.Base.Open a h.Base.Act b) c h.Safe) 1 = some k := by
 unfold hsz ssz at hz
 obtain ⟨⟨ser, op, pe, act, en⟩, ev, sf⟩ := h
 simp only [GHistory.Base, GHistory.Events, GHistory.Safe, GState.Serial, GState.Open, GState.Pending, GState.Act, GState.Entries] at hz ⊢
 have := N9 en
 have := OB ev
 unfold yE vn
 rw [wl (by omega) (by omega), oB]
 dsimp only
 rw [KC (by omega) (by omega), oB]
 dsimp only
 rw [oB]
 dsimp only
 rw [KD (by omega) (by omega), oB]
 refine ⟨_, _, _, _, rfl, by omega, ?_⟩
 unfold qL Y6
 simp only [GHistory.Base, GHistory.Events, GState.Pending, GState.Entries]
 rw [j8 (JA _ _) (by decide) (by rw [kU]; omega), oB, kU, if_neg (by omega), LI (Ny _ _) (by omega) (by rw [Di]; omega), oB, AW, if_neg (by omega), oB, if_neg (by omega),
  LJ (Lh _ _) (by omega) (by rw [G5]; omega), oB, Dj, if_neg (by omega)]
theorem zbw {h : GHistory} {e : GEvent} (hz : hsz h + yy e <= 2 ^ 20) : ∃ h' b, ZL h e = some (h', b) ∧ ZO h e = some (h', b) ∧ hsz h' <= 2 ^ 22 := by
 unfold ZL ZO
 rw [B3 (by omega), oB, Df (by omega), oB]
 cases hk : hOk h with
 | false => exact ⟨_, _, rfl, rfl, by decide⟩
 | true =>
  simp only [cond_true]
  rw [Ld (by omega), oB, Lc (by omega), oB]
  cases he : evB e with
  | false => exact ⟨_, _, rfl, rfl, by decide⟩
  | true =>
   dsimp only
   obtain ⟨k1, k2, k3, k4⟩ := Dh hk
   have hz2 := hz
   unfold hsz at hz2
   obtain ⟨r1, r2, r3, r4⟩ := Nx (Pr k1) (by omega) k4
   rw [show Zv h = some h from if_pos (by omega), show qJ h = some h from if_pos (by omega), oB, oB, zbu (by omega) hk, oB]
   dsimp only
   by_cases c : h.Events.length = 300
   ·rw [if_pos (by omega), if_pos (by omega)]
    exact ⟨_, _, rfl, rfl, by omega⟩
   ·have hent := wW (vu h.Base h.Events).1.Entries
    have r2' : (vu h.Base h.Events).1.Pending.length + zZ (vu h.Base h.Events).1.Entries <= ssz h.Base + zT h.Events := r2
    have hlen : ((h.Base :: Jf h.Base h.Events).length : Int) = ((h.Events.length + 1 : Nat) : Int) := by
     have : ∀ (l : List GEvent) (s : GState), (Jf s l).length = l.length := by
      intro l
      induction l with
      | nil => intro s; rfl
      | cons x l ih => intro s; simp only [Jf, List.length_cons, ih]
     rw [List.length_cons, this]
    rw [if_neg (by omega), if_neg (by omega), hlen, yc (by omega) (by omega), show ((h.Events.length + 1 : Nat) : Int) - 1 = (h.Events.length : Int) by omega, zb, oB, r4, oB,
     Ns r1 he (by omega), oB, Ri r1 (by omega), oB]
    cases Y7 (vu h.Base h.Events).1 e with
    | false => exact ⟨_, _, rfl, rfl, by omega⟩
    | true =>
     dsimp only
     rw [UR (by omega), oB, UZ (by omega), oB, if_pos (jr (by simp only [List.length_cons, List.length_nil]; omega))]
     refine ⟨_, _, rfl, rfl, ?_⟩
     rw [zer, Lg]
     simp only [zT]
     omega
theorem law_HistAdd {h : GHistory} {e : GEvent} (hm : MdH h) (he : Tx e) : kR h e = some true := by
 unfold kR
 rw [zep hm (by decide) (by decide), oB]
 unfold y3
 by_cases c : (hsz h : Int) <= 1048576
 ·rw [if_pos c, if_neg (by omega), zbn he (by omega) (by omega), oB]
  unfold y3
  by_cases c2 : (yy e : Int) <= 1048576 - hsz h
  ·have hz : hsz h + yy e <= 2 ^ 20 := by omega
   rw [if_pos c2, if_neg (by omega), zeq (by omega), oB, zbo (by omega), oB]
   obtain ⟨h', b, e1, e2, e3⟩ := zbw hz
   rw [e1, e2, oB]
   dsimp only
   rw [oB]
   dsimp only
   rw [Dg (by omega), oB]
   dsimp only
   obtain ⟨k1, a1, b1, c1, m1, m2, m3⟩ := B5 (h := h) (by omega)
   obtain ⟨k2, x1, x2, x3, x4, x5, m4, m5, m6⟩ := HB (e := e) (i := k1) (by omega) m2 (by omega)
   obtain ⟨k3, a2, b2, c2, n1, n2, n3⟩ := Dk (h := h') (by omega)
   cases b <;> (first | rw [if_pos rfl, if_pos rfl] | rw [if_neg (by decide), if_neg (by decide)])
   all_goals
    rw [Dg (by omega), oB]
    dsimp only
    rw [zbp (by omega), oB]
    dsimp only
    rw [m1, oB]
    dsimp only
    rw [m4, oB]
    dsimp only
    rw [if_neg (by omega), n1, oB]
    dsimp only
    rw [n3, oB, if_neg (by omega), if_pos rfl]
  ·rw [if_neg c2, if_pos (by omega)]
 ·rw [if_neg c, if_pos (by omega)]
end
end Go.Am.Try
