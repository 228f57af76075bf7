/- The law of FnExactConfigText, in plain terms. -/
import Derived.Test.YtfbfbebalpnkbaaDoorEG4
set_option linter.unusedVariables false
set_option linter.unusedSimpArgs false
namespace Go.Am.Try
open Go.Am
noncomputable section
theorem A5 {s : List UInt8} (h : s.length <= 2 ^ 20) : yO s = some s := if_pos h
theorem DG {s : List UInt8} (h : s.length <= 2 ^ 39) : yC s s = some true := if_pos ⟨rfl, by omega⟩
theorem Eb {l : List GExpr} {v : GExpr} (h : v ∈ l) : ptX v <= zU l := by
 induction l with
 | nil => cases h
 | cons e l ih =>
  simp only [zU]
  rcases List.mem_cons.1 h with rfl | h
  ·omega
  ·have := ih h; omega
/-! #### items -/
theorem Nd {x : GItem} (hs : bsz x.Names <= 2 ^ 20) : ∀ (d i m : Nat), i + d = x.Names.length → d < m → ∃ z, yZ x.Names (x.Names.length : Int) x m (i : Int) = some (if xm x.Names i d = true then .inr z else .inl false) := by
 have hl := jg x.Names
 intro d
 induction d with
 | zero =>
  intro i m hi hm
  obtain ⟨m, rfl, _⟩ := zi hm
  exact ⟨_, by rw [yZ, if_neg (by omega)]; rfl⟩
 | succ d ih =>
  intro i m hi hm
  obtain ⟨m, rfl, hm'⟩ := zi hm
  have hil : i < x.Names.length := by omega
  have hx := YC (List.getElem_mem hil)
  rw [yZ, if_pos (by omega), zg, Option.bind_some, zu hil, Option.bind_some, X5 (by omega), Option.bind_some, yi (by omega), jk]
  obtain ⟨z, hz⟩ := ih (i + 1) m (by omega) (by omega)
  cases hnm : yV x.Names[i] with
  | false =>
   refine ⟨0, ?_⟩
   have : kOk x.Names i = false := by
    by_cases h0 : i = 0
    ·subst h0; rw [kA hil, hnm]
    ·rw [jh hil (by omega), hnm]; rfl
   rw [this]; rfl
  | true =>
   dsimp only
   by_cases h0 : 0 < i
   ·rw [if_pos (by omega), YO (by omega) h0, zg, Option.bind_some, zu (show i - 1 < x.Names.length by omega), Option.bind_some, OC, Option.bind_some]
    by_cases hb : Op.bytesLess (x.Names[i - 1]'(by omega)) x.Names[i] = true
    ·rw [if_neg (by rw [Xf]; exact fun h => h hb), jh hil h0, hnm, hb]
     exact ⟨z, hz⟩
    ·rw [if_pos (by rw [Xf]; exact hb), jh hil h0, hnm, show Op.bytesLess (x.Names[i - 1]'(by omega)) x.Names[i] = false by simpa using hb]
     exact ⟨0, rfl⟩
   ·have : i = 0 := by omega
    subst this
    rw [if_neg (by omega), kA hil, hnm]
    exact ⟨z, hz⟩
def vo : Int ⊕ (Int × Int) → Int
 | .inl z => z
 | .inr p => p.1
theorem Nf {v : GExpr} {r : Int} (h : xsz v <= 2 ^ 20) (h0 : 0 <= r) (h1 : r <= 150) : xc v 1 r = some (okX 10 r v) := by
 unfold xc
 rw [if_pos ⟨h, ⟨by decide, by decide⟩, h0, h1⟩]
 rfl
theorem Ng {x : GItem} (hs : zx x.Exprs <= 2 ^ 20) (hn : bsz x.Names <= 2 ^ 20) (hk : ¬ x.Kind = 1 ∨ (x.Kind = 1 ∧ x.Names.length = x.Exprs.length)) : ∀ (d i m : Nat) (r : Int), i + d = x.Exprs.length → d < m → r <= 150 →
  ∃ o, yj x m r (i : Int) = some o ∧ (0 <= vo o ↔ 0 <= r ∧ (x.Kind = 1 → xm x.Names i d = true) ∧ (x.Exprs.drop i).all (frX 10) = true ∧ (zU (x.Exprs.drop i) : Int) <= r) ∧ (0 <= vo o → vo o = r - zU (x.Exprs.drop i)) := by
 have hl := yd x.Exprs
 intro d
 induction d with
 | zero =>
  intro i m r hi hm h1
  obtain ⟨m, rfl, _⟩ := zi hm
  refine ⟨_, by rw [yj, if_neg (by omega)], ?_⟩
  rw [List.drop_eq_nil_of_le (by omega)]
  refine ⟨?_, fun _ => by show r = r - _; simp [zU]⟩
  show 0 <= r ↔ _
  constructor
  ·intro h; exact ⟨h, fun _ => rfl, rfl, by simp [zU]; exact h⟩
  ·exact fun h => h.1
 | succ d ih =>
  intro i m r hi hm h1
  obtain ⟨m, rfl, hm'⟩ := zi hm
  have hil : i < x.Exprs.length := by omega
  have hx := yz (List.getElem_mem hil)
  rw [yj, if_pos (by omega)]
  by_cases h0 : 0 <= r
  ·rw [if_pos h0]
   have hp : zU (x.Exprs.drop i) = ptX x.Exprs[i] + zU (x.Exprs.drop (i + 1)) := by rw [yP hil]; simp only [zU]
   have ha : (x.Exprs.drop i).all (frX 10) = (frX 10 x.Exprs[i] && (x.Exprs.drop (i + 1)).all (frX 10)) := by rw [yP hil, List.all_cons]
   have tail : (x.Kind = 1 → kOk x.Names i = true) → ∃ o, ((xc x.Exprs[i] 1 r).bind fun r12 => yj x m r12 (w64 ((i : Int) + 1))) = some o ∧
     (0 <= vo o ↔ 0 <= r ∧ (x.Kind = 1 → xm x.Names i (d + 1) = true) ∧ (x.Exprs.drop i).all (frX 10) = true ∧ (zU (x.Exprs.drop i) : Int) <= r) ∧ (0 <= vo o → vo o = r - zU (x.Exprs.drop i)) := by
    intro hki
    have hox : okX 10 r x.Exprs[i] <= 150 := by unfold okX; split <;> omega
    obtain ⟨o, h2, h3, h4⟩ := ih (i + 1) m (okX 10 r x.Exprs[i]) (by omega) (by omega) hox
    have hv : 0 <= vo o → vo o = r - zU (x.Exprs.drop i) := fun h => by
     have h5 := h4 h
     have h6 := (h3.1 h).1
     rw [hp]
     unfold okX at h5 h6
     split at h6
     ·rename_i hc
      rw [if_pos hc] at h5; omega
     ·omega
    refine ⟨o, by rw [Nf (by omega) h0 h1, Option.bind_some, yi (by omega), h2], h3.trans ?_, hv⟩
    rw [ha, hp]
    have hka : (x.Kind = 1 → xm x.Names (i + 1) d = true) ↔ (x.Kind = 1 → xm x.Names i (d + 1) = true) := by
     constructor
     ·intro h hk; rw [jk, hki hk, h hk]; rfl
     ·intro h hk; have := h hk; rw [jk, hki hk, Bool.true_and] at this; exact this
    rw [hka]
    unfold okX
    by_cases hc : frX 10 x.Exprs[i] = true ∧ (ptX x.Exprs[i] : Int) <= r
    ·rw [if_pos hc, hc.1, Bool.true_and]
     constructor
     ·rintro ⟨q1, q2, q3, q4⟩; exact ⟨h0, q2, q3, by omega⟩
     ·rintro ⟨q1, q2, q3, q4⟩; exact ⟨by omega, q2, q3, by omega⟩
    ·rw [if_neg hc]
     constructor
     ·rintro ⟨q1, _⟩; omega
     ·rintro ⟨_, _, q3, q4⟩
      rw [Bool.and_eq_true] at q3
      exact absurd ⟨q3.1, by omega⟩ hc
   have bad : x.Kind = 1 → kOk x.Names i = false → ∃ o, (some (.inl (-1)) : Option (Int ⊕ (Int × Int))) = some o ∧ (0 <= vo o ↔ 0 <= r ∧ (x.Kind = 1 → xm x.Names i (d + 1) = true) ∧ (x.Exprs.drop i).all (frX 10) = true ∧ (zU (x.Exprs.drop i) : Int) <= r) ∧ (0 <= vo o → vo o = r - zU (x.Exprs.drop i)) := by
    intro hk hki
    refine ⟨_, rfl, ?_, fun h => absurd h (by decide)⟩
    constructor
    ·intro h; exact absurd h (by decide)
    ·rintro ⟨_, q, _⟩
     have := q hk
     rw [jk, hki] at this
     cases this
   rcases hk with hk | ⟨hk, hkl⟩
   ·rw [if_neg hk, zg, Option.bind_some, zu hil, Option.bind_some]
    exact tail fun h => (hk h).elim
   ·have hin : i < x.Names.length := by omega
    have hxn := YC (List.getElem_mem hin)
    rw [if_pos hk, zg, Option.bind_some, zu hin, Option.bind_some, X0 (by omega), Option.bind_some]
    cases hnm : yV x.Names[i] with
    | false =>
     refine bad hk ?_
     by_cases h0 : i = 0
     ·subst h0; rw [kA hin, hnm]
     ·rw [jh hin (by omega), hnm]; rfl
    | true =>
     dsimp only
     by_cases i0 : 0 < i
     ·rw [if_pos (by omega), YO (by omega) i0, zg, Option.bind_some, zu (show i - 1 < x.Names.length by omega), Option.bind_some]
      by_cases hb : Op.bytesLess (x.Names[i - 1]'(by omega)) x.Names[i] = true
      ·rw [if_pos hb, zu hil, Option.bind_some]
       exact tail fun _ => by rw [jh hin i0, hnm, hb]; rfl
      ·rw [if_neg hb]
       exact bad hk (by rw [jh hin i0, hnm, show Op.bytesLess (x.Names[i - 1]'(by omega)) x.Names[i] = false by simpa using hb]; rfl)
     ·have : i = 0 := by omega
      subst this
      rw [if_neg (by omega), zu hil, Option.bind_some]
      exact tail fun _ => by rw [kA hin, hnm]
  ·rw [if_neg h0]
   refine ⟨_, rfl, ?_, fun h => absurd h h0⟩
   constructor
   ·intro h; exact absurd h h0
   ·rintro ⟨q, _⟩; exact absurd q h0
def q7 (v : GExpr) : Bool := decide (v.Kind = 0 ∧ v.N = 0 ∧ v.S.length = 0 ∧ v.K.length = 0 ∧ v.Kids.length = 0)
theorem VT (v : GExpr) : (if v.Kind = 0 then if v.N = 0 then if (v.S.length : Int) = 0 then if (v.K.length : Int) = 0 then some (decide ((v.Kids.length : Int) = 0)) else some false else some false else some false else some false) = some (q7 v) := by
 unfold q7
 by_cases a : v.Kind = 0
 ·by_cases b : v.N = 0
  ·by_cases c : v.S.length = 0
   ·by_cases d : v.K.length = 0
    ·by_cases e : v.Kids.length = 0 <;> simp [a, b, c, d, e]
    ·simp [a, b, c, d]
   ·simp [a, b, c]
  ·simp [a, b]
 ·simp [a]
theorem TK (v : GExpr) : vx v = some (q7 v) := VT v
theorem Nh (v : GExpr) : vd v = some (q7 v) := VT v
structure ItR (x : GItem) : Prop where
 k : 0 <= x.Kind ∧ x.Kind <= 2
 nm : (yV x.Name && !vG x.Name) = true
 le : x.Exprs.length <= 6
 many : x.Kind = 1 → 0 <= x.Many ∧ x.Many <= 2 ∧ x.Names.length = x.Exprs.length
 one : x.Kind ≠ 1 → x.Many = 0 ∧ x.Names.length = 0 ∧ x.Exprs.length = 1
 zr : x.Many = 0 → q7 x.By = true
 keys : x.Kind = 1 → xm x.Names 0 x.Exprs.length = true
 ex : x.Exprs.all (frX 10) = true
 bf : x.Many ≠ 0 → frX 10 x.By = true
def ptI (x : GItem) : Nat := (if x.Many = 0 then 0 else ptX x.By) + zU x.Exprs
def Zv : List GItem → Nat
 | [] => 0
 | x :: l => ptI x + Zv l
theorem ZC {P : Prop} {s : Int} (h : ¬ P) : ∃ r : Int, some (-1) = some r ∧ (0 <= r ↔ P) ∧ (0 <= r → r = s) := ⟨-1, rfl, ⟨fun h' => absurd h' (by decide), fun p => absurd p h⟩, fun h' => absurd h' (by decide)⟩
theorem Bc {x : GItem} {u : Int} (hu0 : 0 <= u) (hu : u <= 150) (hz : itz x <= 2 ^ 20) : ∃ r, jA x u = some r ∧ (0 <= r ↔ ItR x ∧ (ptI x : Int) <= u) ∧ (0 <= r → r = u - ptI x) := by
 unfold itz at hz
 have run : ∀ r : Int, r <= 150 → (¬ x.Kind = 1 ∨ (x.Kind = 1 ∧ x.Names.length = x.Exprs.length)) → ∃ o, yj x (x.Exprs.length + 5) r 0 = some o ∧ (0 <= vo o ↔ 0 <= r ∧ (x.Kind = 1 → xm x.Names 0 x.Exprs.length = true) ∧ x.Exprs.all (frX 10) = true ∧ (zU x.Exprs : Int) <= r) ∧ (0 <= vo o → vo o = r - zU x.Exprs) := fun r hr hk => by
  have := Ng (x := x) (by omega) (by omega) hk x.Exprs.length 0 (x.Exprs.length + 5) r (by omega) (by omega) hr
  simp only [List.drop_zero] at this
  exact this
 have fin : ∀ {o : Int ⊕ (Int × Int)} {P Q : Prop} {s : Int}, (0 <= vo o ↔ P) → (P ↔ Q) → (0 <= vo o → vo o = s) → ∃ r, (match o with | .inl z => some z | .inr (⟨a, b⟩) => some a : Option Int) = some r ∧ (0 <= r ↔ Q) ∧ (0 <= r → r = s) := fun {o P Q s} h1 h2 h3 => ⟨vo o, by cases o with | inl z => rfl | inr p => cases p; rfl, h1.trans h2, h3⟩
 unfold jA vy
 by_cases k0 : x.Kind < 0
 ·rw [if_pos k0]; exact ZC fun h => by have := h.1.k; omega
 rw [if_neg k0]
 by_cases k2 : 2 < x.Kind
 ·rw [if_pos k2]; exact ZC fun h => by have := h.1.k; omega
 rw [if_neg k2, TF (by omega), Option.bind_some]
 cases hw : (yV x.Name && !vG x.Name) with
 | false => exact ZC fun h => by have := h.1.nm; rw [hw] at this; cases this
 | true =>
  dsimp only
  by_cases l6 : 6 < (x.Exprs.length : Int)
  ·rw [if_pos l6]; exact ZC fun h => by have := h.1.le; omega
  rw [if_neg l6]
  by_cases k1 : x.Kind = 1
  ·rw [if_pos k1]
   by_cases m0 : x.Many < 0
   ·rw [if_pos m0]; exact ZC fun h => by have := h.1.many k1; omega
   rw [if_neg m0]
   by_cases m2 : 2 < x.Many
   ·rw [if_pos m2]; exact ZC fun h => by have := h.1.many k1; omega
   rw [if_neg m2]
   by_cases mz : x.Many = 0
   ·have hpt : ptI x = zU x.Exprs := by unfold ptI; rw [if_pos mz]; omega
    rw [hpt, if_pos mz, TK, Option.bind_some]
    cases hz0 : q7 x.By with
    | false => exact ZC fun h => by have := h.1.zr mz; rw [hz0] at this; cases this
    | true =>
     dsimp only
     by_cases nl : (x.Names.length : Int) = (x.Exprs.length : Int)
     ·rw [if_pos nl]
      obtain ⟨o, h1, h2, h3⟩ := run u hu (.inr ⟨k1, by omega⟩)
      rw [h1, Option.bind_some]
      exact fin h2 ⟨fun ⟨_, q2, q3, q4⟩ => ⟨⟨by omega, hw, by omega, fun _ => ⟨by omega, by omega, by omega⟩, fun h => absurd k1 h, fun _ => hz0, q2, q3, fun h => absurd mz h⟩, q4⟩, fun ⟨h, h'⟩ => ⟨hu0, h.keys, h.ex, h'⟩⟩ h3
     ·rw [if_neg nl]; exact ZC fun h => by have := h.1.many k1; omega
   ·have hpt : ptI x = ptX x.By + zU x.Exprs := by unfold ptI; rw [if_neg mz]
    rw [hpt, if_neg mz]
    by_cases nl : (x.Names.length : Int) = (x.Exprs.length : Int)
    ·rw [if_pos nl, Nf (by omega) hu0 hu, Option.bind_some]
     have hox : okX 10 u x.By <= 150 := by unfold okX; split <;> omega
     obtain ⟨o, h1, h2, h3⟩ := run (okX 10 u x.By) hox (.inr ⟨k1, by omega⟩)
     rw [h1, Option.bind_some]
     by_cases hc : frX 10 x.By = true ∧ (ptX x.By : Int) <= u
     ·have e : okX 10 u x.By = u - ptX x.By := if_pos hc
      rw [e] at h2 h3
      exact fin h2 ⟨fun ⟨_, q2, q3, q4⟩ => ⟨⟨by omega, hw, by omega, fun _ => ⟨by omega, by omega, by omega⟩, fun h => absurd k1 h, fun h => absurd h mz, q2, q3, fun _ => hc.1⟩, by omega⟩, fun ⟨h, h'⟩ => ⟨by omega, h.keys, h.ex, by omega⟩⟩ (fun h => by have := h3 h; omega)
     ·have e : okX 10 u x.By = -1 := if_neg hc
      rw [e] at h2 h3
      exact fin h2 ⟨fun ⟨q, _⟩ => absurd q (by decide), fun ⟨h, h'⟩ => absurd ⟨h.bf mz, by omega⟩ hc⟩ (fun h => absurd (h2.1 h).1 (by decide))
    ·rw [if_neg nl]; exact ZC fun h => by have := h.1.many k1; omega
  ·rw [if_neg k1]
   by_cases mz : x.Many = 0
   ·have hpt : ptI x = zU x.Exprs := by unfold ptI; rw [if_pos mz]; omega
    rw [hpt, if_pos mz, TK, Option.bind_some]
    cases hz0 : q7 x.By with
    | false => exact ZC fun h => by have := h.1.zr mz; rw [hz0] at this; cases this
    | true =>
     dsimp only
     by_cases nl : 0 < (x.Names.length : Int)
     ·rw [if_pos nl]; exact ZC fun h => by have := h.1.one k1; omega
     ·rw [if_neg nl]
      by_cases el : (x.Exprs.length : Int) = 1
      ·rw [if_pos el]
       obtain ⟨o, h1, h2, h3⟩ := run u hu (.inl k1)
       rw [h1, Option.bind_some]
       exact fin h2 ⟨fun ⟨_, q2, q3, q4⟩ => ⟨⟨by omega, hw, by omega, fun h => absurd h k1, fun _ => ⟨mz, by omega, by omega⟩, fun _ => hz0, q2, q3, fun h => absurd mz h⟩, q4⟩, fun ⟨h, h'⟩ => ⟨hu0, h.keys, h.ex, h'⟩⟩ h3
      ·rw [if_neg el]; exact ZC fun h => by have := h.1.one k1; omega
   ·rw [if_neg mz]; exact ZC fun h => by have := h.1.one k1; omega
def exB (v : GExpr) : Bool := decide (frX 10 v = true ∧ (ptX v : Int) <= 150)
theorem KX {v : GExpr} (h : xsz v <= 2 ^ 20) : qy v = some (exB v) := by
 unfold qy qE y7 exB
 rw [if_pos ⟨h, by decide, by decide⟩, Option.bind_some]
 rw [show (10 : Int).toNat = 10 from rfl]
 cases hs : frX 10 v
 ·simp
 ·dsimp only
  rw [if_pos h, Option.bind_some]
  simp
theorem Wb {v : GExpr} : exB v = true ↔ frX 10 v = true ∧ (ptX v : Int) <= 150 := by unfold exB; simp
theorem JA {v : GExpr} (h : q7 v = true) : exB v = true := by
 have h := of_decide_eq_true h
 obtain ⟨h1, h2, h3, h4, h5⟩ := h
 cases v with
 | mk k n s kk l =>
  have e3 : s = [] := List.eq_nil_of_length_eq_zero h3
  have e4 : kk = [] := List.eq_nil_of_length_eq_zero h4
  have e5 : l = [] := List.eq_nil_of_length_eq_zero h5
  have e1 : k = 0 := h1
  have e2 : n = 0 := h2
  subst e1 e2 e3 e4 e5
  refine Wb.2 ⟨?_, by decide⟩
  rw [YU, X1 (by unfold vh ZE; simp [arI, GExpr.Kind, GExpr.N, GExpr.S, GExpr.K, GExpr.Kids]) (by decide) (fun h => absurd h (by decide))]
  rfl
theorem Ni {a : List GExpr} (ha : zx a <= 2 ^ 20) : ∀ (l p : List GExpr) (m : Nat), a = p ++ l → l.length < m → ∃ o, zO a (a.length : Int) m (p.length : Int) = some o ∧ (match o with | .inl z => 0 <= z ∧ l.all exB = false | .inr _ => l.all exB = true) := by
 have hl := yd a
 intro l
 induction l with
 | nil =>
  intro p m he hm
  obtain ⟨m, rfl, _⟩ := zi hm
  exact ⟨_, by rw [zO, he, List.append_nil, if_neg (by omega)], rfl⟩
 | cons x l ih =>
  intro p m he hm
  obtain ⟨m, rfl, hm'⟩ := zi hm
  have hlen : a.length = p.length + (l.length + 1) := by rw [he]; simp
  have hx := yz (l := a) (v := x) (by rw [he]; simp)
  obtain ⟨o, h1, h2⟩ := ih (p ++ [x]) m (by rw [he]; simp) (by simp only [List.length_cons] at hm'; omega)
  rw [zO, if_pos (by omega), zg, Option.bind_some, show a[p.length]? = some x by rw [he]; exact zN p x l, Option.bind_some]
  unfold Zr
  rw [KX (by omega), Option.bind_some, Option.bind_some, zZ p x (by omega), List.all_cons]
  cases exB x with
  | true => exact ⟨o, h1, by simpa using h2⟩
  | false => exact ⟨_, rfl, by omega, rfl⟩
theorem Ec {a : List GExpr} (ha : zx a <= 2 ^ 20) : y3 a = some (!a.all exB) := by
 unfold y3 yI yH
 obtain ⟨o, h1, h2⟩ := Ni ha a [] (a.length + 5) rfl (by omega)
 simp only [List.length_nil, Int.natCast_zero] at h1
 rw [h1, Option.bind_some]
 cases o with
 | inl z => dsimp only at h2 ⊢; rw [Option.bind_some, h2.2, decide_eq_true h2.1]; rfl
 | inr z => dsimp only at h2 ⊢; rw [Option.bind_some, h2]; rfl
theorem P8 (a b c : Int) : xI a b c = some (decide (b <= a ∧ a <= c)) := by
 unfold xI
 by_cases h : b <= a
 ·rw [if_pos h]; simp [h]
 ·rw [if_neg h]; simp [h]
structure ImB (x : GItem) : Prop where
 k : 0 <= x.Kind ∧ x.Kind <= 2
 nm : (yV x.Name && !vG x.Name) = true
 le : x.Exprs.length <= 6
 many : x.Kind = 1 → 0 <= x.Many ∧ x.Many <= 2 ∧ x.Names.length = x.Exprs.length
 one : x.Kind ≠ 1 → x.Many = 0 ∧ x.Names.length = 0 ∧ x.Exprs.length = 1
 zr : x.Many = 0 → q7 x.By = true
 keys : x.Kind = 1 → xm x.Names 0 x.Names.length = true
 ex : x.Exprs.all exB = true
 bf : exB x.By = true
theorem noB {P : Prop} (h : ¬ P) : ∃ r : Bool, some false = some r ∧ (r = true ↔ P) := ⟨false, rfl, ⟨fun h' => absurd h' (by decide), fun p => absurd p h⟩⟩
theorem Bd {x : GItem} (hz : itz x <= 2 ^ 20) : ∃ r, jD x = some r ∧ (r = true ↔ ImB x) := by
 unfold itz at hz
 obtain ⟨z, hkey⟩ := Nd (x := x) (by omega) x.Names.length 0 (x.Names.length + 5) (by omega) (by omega)
 rw [show ((0 : Nat) : Int) = 0 from rfl] at hkey
 unfold jD vF
 rw [P8, Option.bind_some]
 by_cases kk : 0 <= x.Kind ∧ x.Kind <= 2
 ·rw [decide_eq_true kk]
  dsimp only
  rw [TG (by omega), Option.bind_some]
  cases hw : (yV x.Name && !vG x.Name) with
  | false => exact noB fun h => by have := h.nm; rw [hw] at this; cases this
  | true =>
   dsimp only
   by_cases l6 : 6 < (x.Exprs.length : Int)
   ·rw [if_pos l6]; exact noB fun h => by have := h.le; omega
   rw [if_neg l6, Ec (by omega), Option.bind_some]
   cases hx : x.Exprs.all exB with
   | false => exact noB fun h => by have := h.ex; rw [hx] at this; cases this
   | true =>
    try dsimp only [Bool.not_true]
    by_cases mz : x.Many = 0
    ·rw [if_pos mz, Nh, Option.bind_some]
     cases hz0 : q7 x.By with
     | false => exact noB fun h => by have := h.zr mz; rw [hz0] at this; cases this
     | true =>
      try dsimp only
      rw [KX (by omega), Option.bind_some, JA hz0]
      try dsimp only
      by_cases k1 : x.Kind = 1
      ·rw [if_pos k1, hkey, Option.bind_some]
       cases ha : xm x.Names 0 x.Names.length with
       | false => exact noB fun h => by have := h.keys k1; rw [ha] at this; cases this
       | true =>
        rw [if_pos rfl]
        try dsimp only
        rw [P8, Option.bind_some, decide_eq_true (p := 0 <= x.Many ∧ x.Many <= 2) (by omega)]
        refine ⟨_, rfl, ?_⟩
        rw [decide_eq_true_eq]
        exact ⟨fun h => ⟨kk, hw, by omega, fun _ => ⟨by omega, by omega, by omega⟩, fun h => absurd k1 h, fun _ => hz0, fun _ => ha, hx, JA hz0⟩, fun h => by have := h.many k1; omega⟩
      ·rw [if_neg k1]
       by_cases el : (x.Exprs.length : Int) = 1
       ·rw [if_pos el]
        by_cases nl : (x.Names.length : Int) = 0
        ·rw [if_pos nl]
         exact ⟨true, rfl, fun _ => ⟨kk, hw, by omega, fun h => absurd h k1, fun _ => ⟨mz, by omega, by omega⟩, fun _ => hz0, fun h => absurd h k1, hx, JA hz0⟩, fun _ => rfl⟩
        ·rw [if_neg nl]; exact noB fun h => by have := h.one k1; omega
       ·rw [if_neg el]; exact noB fun h => by have := h.one k1; omega
    ·rw [if_neg mz, KX (by omega), Option.bind_some]
     cases hb : exB x.By with
     | false => exact noB fun h => by have := h.bf; rw [hb] at this; cases this
     | true =>
      try dsimp only
      by_cases k1 : x.Kind = 1
      ·rw [if_pos k1, hkey, Option.bind_some]
       cases ha : xm x.Names 0 x.Names.length with
       | false => exact noB fun h => by have := h.keys k1; rw [ha] at this; cases this
       | true =>
        rw [if_pos rfl]
        try dsimp only
        rw [P8, Option.bind_some]
        by_cases mm : 0 <= x.Many ∧ x.Many <= 2
        ·rw [decide_eq_true mm]
         refine ⟨_, rfl, ?_⟩
         rw [decide_eq_true_eq]
         exact ⟨fun h => ⟨kk, hw, by omega, fun _ => ⟨mm.1, mm.2, by omega⟩, fun h => absurd k1 h, fun h => absurd h mz, fun _ => ha, hx, hb⟩, fun h => by have := h.many k1; omega⟩
        ·rw [decide_eq_false mm]; exact noB fun h => mm ⟨(h.many k1).1, (h.many k1).2.1⟩
      ·rw [if_neg k1]
       by_cases el : (x.Exprs.length : Int) = 1
       ·rw [if_pos el]
        by_cases nl : (x.Names.length : Int) = 0
        ·rw [if_pos nl]; exact noB fun h => mz (h.one k1).1
        ·rw [if_neg nl]; exact noB fun h => mz (h.one k1).1
       ·rw [if_neg el]; exact noB fun h => mz (h.one k1).1
 ·rw [decide_eq_false kk]; exact noB fun h => kk h.k
theorem Be {x : GItem} (h : ItR x) (hp : ptI x <= 150) : ImB x := by
 unfold ptI at hp
 refine ⟨h.k, h.nm, h.le, h.many, h.one, h.zr, fun hk => by rw [(h.many hk).2.2]; exact h.keys hk, List.all_eq_true.2 fun e he => Wb.2 ⟨List.all_eq_true.1 h.ex e he, ?_⟩, ?_⟩
 ·have := Eb he; omega
 ·by_cases mz : x.Many = 0
  ·exact JA (h.zr mz)
  ·rw [if_neg mz] at hp; exact Wb.2 ⟨h.bf mz, by omega⟩
theorem Bf {x : GItem} (h : ImB x) : ItR x :=
 ⟨h.k, h.nm, h.le, h.many, h.one, h.zr, fun hk => by have := h.keys hk; rwa [(h.many hk).2.2] at this, List.all_eq_true.2 fun e he => (Wb.1 (List.all_eq_true.1 h.ex e he)).1, fun _ => (Wb.1 h.bf).1⟩
theorem Bg {x : GItem} (h : ItR x) : ItTx x := ⟨h.k, h.ex, fun hk => (h.many hk).2.2, fun hk => (h.one hk).2.2, fun _ hm => h.bf hm⟩
def ch (P : GItem → Prop) : List GItem → List GItem → Prop
 | _, [] => True
 | pre, x :: l => P x ∧ (∀ y ∈ pre, ¬ (y.Kind = x.Kind ∧ y.Name = x.Name)) ∧ ch P (pre ++ [x]) l
theorem OG {P Q : GItem → Prop} (h : ∀ x, P x → Q x) : ∀ {l pre : List GItem}, ch P pre l → ch Q pre l
 | [], _, _ => trivial
 | _ :: _, _, ⟨h1, h2, h3⟩ => ⟨h _ h1, h2, OG h h3⟩
theorem Nj {P : GItem → Prop} : ∀ {l pre : List GItem}, ch P pre l → ∀ x ∈ l, P x
 | [], _, _, x, hx => by cases hx
 | y :: l, _, ⟨h1, _, h3⟩, x, hx => by
  rcases List.mem_cons.1 hx with rfl | hx
  ·exact h1
  ·exact Nj h3 x hx
theorem Hn : ∀ {l pre : List GItem}, ch ItR pre l → Zv l <= 150 → ch ImB pre l
 | [], _, _, _ => trivial
 | x :: l, _, ⟨h1, h2, h3⟩, hp => by
  simp only [Zv] at hp
  exact ⟨Be h1 (by omega), h2, Hn h3 (by omega)⟩
/-! #### the reference's zz over a configuration -/
theorem G6 {l : List GItem} {x : GItem} {v1 : Int} {k : Nat} (hg : l[k]? = some x) (hl : l.length <= 2 ^ 30) : ∀ (d i m : Nat), i + d = k → d < m → ∃ o, yX l v1 ((k : Nat) : Int) m ((i : Nat) : Int) = some o ∧ ((∃ z, o = .inr z ∧ ∀ y ∈ (l.take k).drop i, ¬ (y.Kind = x.Kind ∧ y.Name = x.Name)) ∨ (o = .inl false ∧ ¬ ∀ y ∈ (l.take k).drop i, ¬ (y.Kind = x.Kind ∧ y.Name = x.Name))) := by
 have hkl := (List.getElem?_eq_some_iff.1 hg).1
 intro d
 induction d with
 | zero =>
  intro i m hi hm
  obtain ⟨m, rfl, _⟩ := zi hm
  refine ⟨_, by rw [yX, if_neg (by omega)], .inl ⟨_, rfl, fun y hy => ?_⟩⟩
  rw [List.drop_eq_nil_of_le (by simp; omega)] at hy
  cases hy
 | succ d ih =>
  intro i m hi hm
  obtain ⟨m, rfl, hm'⟩ := zi hm
  have hil : i < l.length := by omega
  have hd : (l.take k).drop i = l[i] :: (l.take k).drop (i + 1) := by
   have : i < (l.take k).length := by simp; omega
   rw [yP this]; simp
  obtain ⟨o, hz, ho⟩ := ih (i + 1) m (by omega) (by omega)
  rw [yX, if_pos (by omega), zg, Option.bind_some, zu hil, Option.bind_some, zg, Option.bind_some, hg, Option.bind_some, yi (by omega), hd]
  have next : ¬ (l[i].Kind = x.Kind ∧ l[i].Name = x.Name) → ((∃ z, o = .inr z ∧ ∀ y ∈ l[i] :: (l.take k).drop (i + 1), ¬ (y.Kind = x.Kind ∧ y.Name = x.Name)) ∨ (o = .inl false ∧ ¬ ∀ y ∈ l[i] :: (l.take k).drop (i + 1), ¬ (y.Kind = x.Kind ∧ y.Name = x.Name))) := fun c => by
   rcases ho with ⟨z, h1, h2⟩ | ⟨h1, h2⟩
   ·refine .inl ⟨z, h1, fun y hy => ?_⟩
    rcases List.mem_cons.1 hy with rfl | hy
    ·exact c
    ·exact h2 y hy
   ·exact .inr ⟨h1, fun h => h2 fun y hy => h y (List.mem_cons_of_mem _ hy)⟩
  by_cases c1 : l[i].Kind = x.Kind
  ·rw [if_pos c1]
   by_cases c2 : l[i].Name = x.Name
   ·rw [if_pos c2]
    exact ⟨_, rfl, .inr ⟨rfl, fun h => h _ List.mem_cons_self ⟨c1, c2⟩⟩⟩
   ·rw [if_neg c2]
    exact ⟨o, hz, next fun e => c2 e.2⟩
  ·rw [if_neg c1]
   exact ⟨o, hz, next fun e => c1 e.1⟩
theorem OH {P : GItem → Prop} {p q : List GItem} {x : GItem} : ch P p (x :: q) ↔ (P x ∧ (∀ y ∈ p, ¬ (y.Kind = x.Kind ∧ y.Name = x.Name)) ∧ ch P (p ++ [x]) q) := Iff.rfl
theorem G7 {l : List GItem} {n : Nat} (hz : yE l <= 2 ^ 20) (hn : l.length < n) : ∀ (q p : List GItem) (u : Int) (m : Nat), l = p ++ q → q.length < m → 0 <= u → u <= 150 → ∃ o, xH n l m u (p.length : Int) = some o ∧ ((∃ z, o = .inr z ∧ ch ItR p q ∧ (Zv q : Int) <= u) ∨ (o = .inl false ∧ ¬ (ch ItR p q ∧ (Zv q : Int) <= u))) := by
 have hll := ql l
 intro q
 induction q with
 | nil =>
  intro p u m he hm h0 _
  obtain ⟨m, rfl, _⟩ := zi hm
  exact ⟨_, by rw [xH, he, List.append_nil, if_neg (by omega)], .inl ⟨_, rfl, trivial, by simp only [Zv]; omega⟩⟩
 | cons x q ih =>
  intro p u m he hm h0 h1
  obtain ⟨m, rfl, hm'⟩ := zi hm
  have hlen : l.length = p.length + (q.length + 1) := by rw [he]; simp
  have hg : l[p.length]? = some x := by rw [he]; exact zN p x q
  have hmx := ZJ (l := l) (v := x) (by rw [he]; simp)
  have htk : (l.take p.length).drop 0 = p := by rw [he]; simp
  obtain ⟨r, r1, r2, r3⟩ := Bc h0 h1 (x := x) (by omega)
  rw [xH, if_pos (by omega), zg, Option.bind_some, hg, Option.bind_some, r1, Option.bind_some, OH]
  simp only [Zv]
  by_cases c : r < 0
  ·rw [if_pos c]
   exact ⟨_, rfl, .inr ⟨rfl, fun h => by have := r2.2 ⟨h.1.1, by omega⟩; omega⟩⟩
  ·rw [if_neg c]
   have hr := r2.1 (by omega)
   have hv := r3 (by omega)
   obtain ⟨o, hdz, ho⟩ := G6 (v1 := r) hg (by omega) p.length 0 n (by omega) (by omega)
   rw [htk] at ho
   rw [show ((0 : Nat) : Int) = 0 from rfl] at hdz
   rw [hdz, Option.bind_some]
   rcases ho with ⟨z, rfl, cd⟩ | ⟨rfl, cd⟩
   ·dsimp only
    obtain ⟨o2, hz2, ho2⟩ := ih (p ++ [x]) r m (by rw [he]; simp) (by simp only [List.length_cons] at hm'; omega) (by omega) (by omega)
    rw [zZ p x (by omega)]
    refine ⟨o2, hz2, ?_⟩
    rcases ho2 with ⟨z2, e1, e2, e3⟩ | ⟨e1, e2⟩
    ·exact .inl ⟨z2, e1, ⟨hr.1, cd, e2⟩, by omega⟩
    ·exact .inr ⟨e1, fun h => e2 ⟨h.1.2.2, by omega⟩⟩
   ·exact ⟨_, rfl, .inr ⟨rfl, fun h => cd h.1.2.1⟩⟩
/-! #### the program's zz over a configuration -/
theorem G8 {x : GItem} {l : List GItem} (hl : l.length <= 2 ^ 30) : ∀ (q p : List GItem) (m : Nat), l = p ++ q → q.length < m → ∃ o, zL l (l.length : Int) x m (p.length : Int) = some o ∧ (match o with | .inl z => 0 <= z ∧ ¬ (∀ y ∈ q, ¬ (y.Kind = x.Kind ∧ y.Name = x.Name)) | .inr _ => ∀ y ∈ q, ¬ (y.Kind = x.Kind ∧ y.Name = x.Name)) := by
 intro q
 induction q with
 | nil =>
  intro p m he hm
  obtain ⟨m, rfl, _⟩ := zi hm
  exact ⟨_, by rw [zL, he, List.append_nil, if_neg (by omega)], fun y hy => by cases hy⟩
 | cons y q ih =>
  intro p m he hm
  obtain ⟨m, rfl, hm'⟩ := zi hm
  have hlen : l.length = p.length + (q.length + 1) := by rw [he]; simp
  obtain ⟨o, h1, h2⟩ := ih (p ++ [y]) m (by rw [he]; simp) (by simp only [List.length_cons] at hm'; omega)
  rw [zL, if_pos (by omega), zg, Option.bind_some, show l[p.length]? = some y by rw [he]; exact zN p y q, Option.bind_some, zZ p y (by omega)]
  unfold ve Ym
  by_cases c1 : y.Kind = x.Kind
  ·rw [if_pos c1, Option.bind_some, Option.bind_some]
   by_cases c2 : y.Name = x.Name
   ·rw [decide_eq_true c2]
    exact ⟨_, rfl, by omega, fun h => h y List.mem_cons_self ⟨c1, c2⟩⟩
   ·rw [decide_eq_false c2]
    refine ⟨o, h1, ?_⟩
    cases o with
    | inl z => exact ⟨h2.1, fun h => h2.2 fun w hw => h w (List.mem_cons_of_mem _ hw)⟩
    | inr z => intro w hw; rcases List.mem_cons.1 hw with rfl | hw; exact fun e => c2 e.2; exact h2 w hw
  ·rw [if_neg c1, Option.bind_some]
   refine ⟨o, h1, ?_⟩
   cases o with
   | inl z => exact ⟨h2.1, fun h => h2.2 fun w hw => h w (List.mem_cons_of_mem _ hw)⟩
   | inr z => intro w hw; rcases List.mem_cons.1 hw with rfl | hw; exact fun e => c1 e.1; exact h2 w hw
theorem Ed {x : GItem} {l : List GItem} (hl : l.length <= 2 ^ 30) : ∃ b, yr l x = some b ∧ (b = false ↔ ∀ y ∈ l, ¬ (y.Kind = x.Kind ∧ y.Name = x.Name)) := by
 unfold yr y9 y8
 obtain ⟨o, h1, h2⟩ := G8 (x := x) hl l [] (l.length + 5) rfl (by omega)
 simp only [List.length_nil, Int.natCast_zero] at h1
 rw [h1, Option.bind_some]
 cases o with
 | inl z =>
  dsimp only at h2 ⊢
  rw [Option.bind_some, decide_eq_true h2.1]
  exact ⟨_, rfl, fun h => (by cases h), fun h => absurd h h2.2⟩
 | inr z => exact ⟨_, rfl, fun _ => h2, fun _ => rfl⟩
theorem G9 {a : List GItem} {v2 v3 : Int} {x : GItem} (hs : zx x.Exprs <= 2 ^ 20) : ∀ (l p : List GExpr) (acc : Int) (m : Nat), x.Exprs = p ++ l → l.length < m → 0 <= acc → acc + zU l <= 2 ^ 40 →
  xK a v2 v3 x.Exprs (x.Exprs.length : Int) x m acc (p.length : Int) = some (acc + zU l, (x.Exprs.length : Int)) := by
 have hl := yd x.Exprs
 intro l
 induction l with
 | nil =>
  intro p acc m he hm _ _
  obtain ⟨m, rfl, _⟩ := zi hm
  rw [xK, he, List.append_nil, if_neg (by omega)]
  simp [zU]
 | cons e l ih =>
  intro p acc m he hm h0 h1
  obtain ⟨m, rfl, hm'⟩ := zi hm
  have hlen : x.Exprs.length = p.length + (l.length + 1) := by rw [he]; simp
  have hx := yz (l := x.Exprs) (v := e) (by rw [he]; simp)
  simp only [zU] at h1 ⊢
  rw [xK, if_pos (by omega), zg, Option.bind_some, show x.Exprs[p.length]? = some e by rw [he]; exact zN p e l, Option.bind_some, show y7 e = some (((ptX e) : Nat) : Int) from if_pos (by omega), Option.bind_some, zZ p e (by omega), yF (x := acc + ((ptX e : Nat) : Int)) (by omega) (by omega), ih (p ++ [e]) _ m (by rw [he]; simp) (by simp only [List.length_cons] at hm'; omega) (by omega) (by omega)]
  congr 2
  omega
theorem GA {l : List GItem} {n : Nat} (hz : yE l <= 2 ^ 20) (hn : ∀ x ∈ l, x.Exprs.length < n) : ∀ (q p : List GItem) (u : Int) (m : Nat), l = p ++ q → q.length < m → 0 <= u → u + 4 * yE q <= 2 ^ 40 → ∃ o, yG n l (l.length : Int) m u (p.length : Int) = some o ∧ ((∃ z, o = .inr (u + Zv q, z) ∧ ch ImB p q) ∨ (o = .inl false ∧ ¬ ch ImB p q)) := by
 have hll := ql l
 intro q
 induction q with
 | nil =>
  intro p u m he hm h0 _
  obtain ⟨m, rfl, _⟩ := zi hm
  exact ⟨_, by rw [yG, he, List.append_nil, if_neg (by omega)], .inl ⟨_, by simp only [Zv, Int.natCast_zero, Int.add_zero]; rfl, trivial⟩⟩
 | cons x q ih =>
  intro p u m he hm h0 h1
  obtain ⟨m, rfl, hm'⟩ := zi hm
  have hlen : l.length = p.length + (q.length + 1) := by rw [he]; simp
  have hg : l[p.length]? = some x := by rw [he]; exact zN p x q
  have hmx := ZJ (l := l) (v := x) (by rw [he]; simp)
  have htk : l.take p.length = p := by rw [he]; simp
  have hme : itz x = x.Name.length + xsz x.By + bsz x.Names + zx x.Exprs := rfl
  have hxe := yd x.Exprs
  have hp1 := JB x.Exprs
  have hp2 := Nk x.By
  obtain ⟨b, b1, b2⟩ := Bd (x := x) (by omega)
  simp only [yE] at h1
  rw [yG, if_pos (by omega), zg, Option.bind_some, hg, Option.bind_some, b1, Option.bind_some, OH]
  simp only [Zv]
  cases b with
  | false => exact ⟨_, rfl, .inr ⟨rfl, fun h => absurd (b2.2 h.1) (by decide)⟩⟩
  | true =>
   have hI := b2.1 rfl
   obtain ⟨bd, d1, d2⟩ := Ed (x := x) (l := p) (by omega)
   dsimp only
   rw [DP (by omega), Option.bind_some, htk, d1, Option.bind_some]
   cases bd with
   | true => exact ⟨_, rfl, .inr ⟨rfl, fun h => absurd (d2.2 h.2.1) (by decide)⟩⟩
   | false =>
    have cd := d2.1 rfl
    dsimp only
    have hsum := G9 (a := l) (v2 := (l.length : Int)) (v3 := (p.length : Int)) (x := x) (by omega) x.Exprs [] u n rfl (hn x (by rw [he]; simp)) h0 (by omega)
    simp only [List.length_nil, Int.natCast_zero] at hsum
    rw [hsum, Option.bind_some]
    dsimp only
    have next : ∀ w : Int, w = u + ((ptI x : Nat) : Int) → ∃ o, yG n l (l.length : Int) m w (w64 ((p.length : Int) + 1)) = some o ∧ ((∃ z, o = .inr (u + ((ptI x + Zv q : Nat) : Int), z) ∧ ImB x ∧ (∀ y ∈ p, ¬ (y.Kind = x.Kind ∧ y.Name = x.Name)) ∧ ch ImB (p ++ [x]) q) ∨ (o = .inl false ∧ ¬ (ImB x ∧ (∀ y ∈ p, ¬ (y.Kind = x.Kind ∧ y.Name = x.Name)) ∧ ch ImB (p ++ [x]) q))) := fun w hw => by
     have hpi : ptI x <= 2 + 2 * itz x := by unfold ptI; split <;> omega
     obtain ⟨o, hz, ho⟩ := ih (p ++ [x]) w m (by rw [he]; simp) (by simp only [List.length_cons] at hm'; omega) (by omega) (by omega)
     rw [zZ p x (by omega)]
     refine ⟨o, hz, ?_⟩
     rcases ho with ⟨z, e1, e2⟩ | ⟨e1, e2⟩
     ·exact .inl ⟨z, by rw [e1, hw, show u + ((ptI x : Nat) : Int) + ((Zv q : Nat) : Int) = u + ((ptI x + Zv q : Nat) : Int) by omega], hI, cd, e2⟩
     ·exact .inr ⟨e1, fun h => e2 h.2.2⟩
    by_cases mz : x.Many = 0
    ·rw [if_pos mz]
     have hpt : ptI x = 0 + zU x.Exprs := by unfold ptI; rw [if_pos mz]
     exact next _ (by omega)
    ·rw [if_neg mz, show y7 x.By = some (((ptX x.By) : Nat) : Int) from if_pos (by omega), Option.bind_some, yF (by omega) (by omega)]
     have hpt : ptI x = ptX x.By + zU x.Exprs := by unfold ptI; rw [if_neg mz]
     exact next _ (by omega)
def CfB (l : List GItem) : Prop := l.length <= 12 ∧ ch ItR [] l ∧ Zv l <= 150
theorem Bh {l : List GItem} (hz : yE l <= 2 ^ 20) : ∃ b, qA l = some b ∧ (b = true ↔ CfB l) := by
 have hll := ql l
 unfold qA jQ CfB
 by_cases c : l.length <= 12
 ·obtain ⟨o, h, ho⟩ := G7 (n := l.length + 5) hz (by omega) l [] 150 (l.length + 5) rfl (by omega) (by decide) (by decide)
  simp only [List.length_nil, Int.natCast_zero] at h
  rw [if_neg (by omega), h, Option.bind_some]
  rcases ho with ⟨z, rfl, d1, d2⟩ | ⟨rfl, d⟩
  ·exact ⟨_, rfl, fun _ => ⟨c, d1, by omega⟩, fun _ => rfl⟩
  ·exact ⟨_, rfl, fun h => (by cases h), fun h => absurd ⟨h.2.1, by omega⟩ d⟩
 ·rw [if_pos (by omega)]
  exact ⟨_, rfl, fun h => (by cases h), fun h => absurd h.1 c⟩
theorem DH {l : List GItem} {x : GItem} (h : x ∈ l) : x.Exprs.length <= (l.map fun x => x.Exprs.length).sum := by
 induction l with
 | nil => cases h
 | cons y l ih =>
  simp only [List.map_cons, List.sum_cons]
  rcases List.mem_cons.1 h with rfl | h
  ·omega
  ·have := ih h; omega
theorem Bi {l : List GItem} (hz : yE l <= 2 ^ 20) : ∃ b, qF l = some b ∧ (b = true ↔ CfB l) := by
 have hll := ql l
 unfold qF jU CfB
 by_cases c : l.length <= 12
 ·obtain ⟨o, h, ho⟩ := GA (n := l.length + (l.map fun x => x.Exprs.length).sum + 5) hz (fun x hx => by have := DH hx; omega) l [] 0 (l.length + (l.map fun x => x.Exprs.length).sum + 5) rfl (by omega) (by decide) (by omega)
  simp only [List.length_nil, Int.natCast_zero] at h
  rw [if_neg (by omega), h, Option.bind_some]
  rcases ho with ⟨z, rfl, d⟩ | ⟨rfl, d⟩
  ·refine ⟨_, rfl, fun h => ⟨c, OG (fun x => Bf) d, ?_⟩, fun h => decide_eq_true ?_⟩
   ·have := of_decide_eq_true h; omega
   ·have := h.2.2; omega
  ·exact ⟨_, rfl, fun h => (by cases h), fun h => absurd (Hn h.2.1 h.2.2) d⟩
 ·rw [if_pos (by omega)]
  exact ⟨_, rfl, fun h => (by cases h), fun h => absurd h.1 c⟩
theorem P9 {l : List GItem} (hl : yE l <= 2 ^ 20) (hx : ∀ x ∈ l, ItTx x) : ∀ (q p : List GItem) (acc : List UInt8) (m : Nat), l = p ++ q → q.length < m → acc.length + 80 * yE q <= 2 ^ 35 → ∃ z, xi l (l.length : Int) m (p.length : Int) acc = some (z, acc ++ Xg q) := by
 have hll := ql l
 intro q
 induction q with
 | nil =>
  intro p acc m he hm _
  obtain ⟨m, rfl, _⟩ := zi hm
  exact ⟨_, by rw [xi, he, List.append_nil, if_neg (by omega), Xg, List.append_nil]⟩
 | cons x q ih =>
  intro p acc m he hm hb
  obtain ⟨m, rfl, hm'⟩ := zi hm
  have hlen : l.length = p.length + (q.length + 1) := by rw [he]; simp
  have hg : l[p.length]? = some x := by rw [he]; exact zN p x q
  have hmx := ZJ (l := l) (v := x) (by rw [he]; simp)
  have hxx := hx x (by rw [he]; simp)
  have hil := Wh hxx
  simp only [yE, List.length_cons] at hb hm'
  obtain ⟨z, hz⟩ := ih (p ++ [x]) (acc ++ itT x ++ [10]) m (by rw [he]; simp) (by omega) (by simp only [List.length_append, List.length_cons, List.length_nil]; omega)
  exact ⟨z, by rw [xi, if_pos (by omega), zg, Option.bind_some, hg, Option.bind_some, Nb (by omega) (by omega) hxx, Option.bind_some, if_pos (zc (by decide) (by simp only [List.length_append, List.length_cons, List.length_nil]; omega)), zZ p x (by omega), hz, Xg]; simp⟩
theorem Or {l : List GItem} (hz : yE l <= 2 ^ 20) : ∃ r, qQ l = some r ∧ wO l = some r ∧ r.length <= 2 ^ 30 := by
 have hll := ql l
 unfold qQ wO qU
 obtain ⟨b, b1, b2⟩ := Bh hz
 obtain ⟨b', b3, b4⟩ := Bi hz
 have hbb : b' = b := by
  cases b <;> cases b' <;> simp_all
 subst hbb
 rw [b1, b3, Option.bind_some, Option.bind_some]
 cases b' with
 | true =>
  have c := b2.1 rfl
  have htx : ∀ x ∈ l, ItTx x := fun x hx => Bg (Nj c.2.1 x hx)
  have hlen := PP htx
  obtain ⟨z, hzz⟩ := P9 hz htx l [] [] (l.length + 5) rfl (by omega) (by simp only [List.length_nil]; omega)
  simp only [List.length_nil, Int.natCast_zero, List.nil_append] at hzz
  dsimp only
  rw [G3 hz htx, hzz]
  exact ⟨_, rfl, rfl, by omega⟩
 | false => exact ⟨[], rfl, rfl, by decide⟩
theorem law_ConfigText {l : List GItem} (hm : l.length <= 2 ^ 63 - 1 ∧ Y3 l) : qk l = some true := by
 unfold qk
 rw [show qY l 1048576 = some (wI (yE l) 1048576) from if_pos ⟨hm.1, hm.2, by decide, by decide⟩, Option.bind_some]
 unfold wI
 by_cases c : (yE l : Int) <= 1048576
 ·have hz : yE l <= 2 ^ 20 := by omega
  have hcl := OP l
  rw [if_pos c, if_neg (by omega), show ja l = some l from if_pos hz, Option.bind_some]
  obtain ⟨r, e1, e2, e3⟩ := Or hz
  rw [e1, e2, Option.bind_some, Option.bind_some, DG (by omega), Option.bind_some]
  dsimp only
  rw [show wV l l = some true from if_pos ⟨rfl, by omega⟩, Option.bind_some]
  dsimp only
  rw [P6 (by decide) (by omega), Option.bind_some]
  dsimp only
  rw [if_neg (by omega), kw (by decide) (by omega), Option.bind_some]
  dsimp only
  rw [P7 (JD _ _) (by decide) (by rw [vt]; omega), Option.bind_some, vt, if_neg (by omega), if_pos rfl]
 ·rw [if_neg c, if_pos (by decide)]
end
end Go.Am.Try
