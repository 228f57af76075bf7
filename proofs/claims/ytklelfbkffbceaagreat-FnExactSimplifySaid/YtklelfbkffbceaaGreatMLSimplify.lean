/- The law of FnExactSimplify, in plain terms. -/
import Derived.Test.YtklelfbkffbceaaGreatMG5
set_option linter.unusedVariables false
set_option linter.unusedSimpArgs false
namespace Go.Am.Try
open Go.Am
noncomputable section
theorem zfx {v : GExpr} {n : Int} (h : MdX v) (h0 : 0 <= n) (h1 : n <= 2 ^ 20) : vL v n = some (YM (xsz v) n) := if_pos ⟨h, h0, h1⟩
theorem zfy {v : GExpr} (h : xsz v <= 2 ^ 20) : vQ v = some v := if_pos h
theorem D4 {v : GExpr} (h : xsz v <= 2 ^ 39) : jr v v = some true := if_pos ⟨rfl, by omega⟩
theorem Aa {v : GValue} (h : vsz v <= 2 ^ 20) : kQ v = some (zp v) := by
 unfold kQ Zd
 rw [if_pos ⟨h, by decide, by decide, by decide⟩, Option.bind_some]
 congr 1
 unfold okV zp
 rw [show (6 - (1 : Int)).toNat = 5 from rfl]
 by_cases hc : shV 5 v = true ∧ (ptV v : Int) <= 40
 ·rw [if_pos hc, decide_eq_true hc]; exact decide_eq_true (by omega)
 ·rw [if_neg hc, decide_eq_false hc]; rfl
theorem KI {v : GValue} (h : vsz v <= 2 ^ 20) : wd v = some (zp v) := by
 unfold wd jh wP zp
 rw [if_pos ⟨h, by decide, by decide⟩, Option.bind_some]
 rw [show (5 : Int).toNat = 5 from rfl]
 cases hs : shV 5 v
 ·simp
 ·dsimp only
  rw [if_pos h, Option.bind_some]
  simp
open Classical in
def exB (v : GExpr) : Bool := decide (frX 10 v = true ∧ (ptX v : Int) <= 150)
theorem Ab {v : GExpr} (h : xsz v <= 2 ^ 20) : YC v = some (exB v) := by
 unfold YC vT
 rw [if_pos ⟨h, by decide, by decide, by decide⟩, Option.bind_some]
 congr 1
 unfold exB
 rw [show (11 - (1 : Int)).toNat = 10 from rfl]
 by_cases hc : frX 10 v = true ∧ (ptX v : Int) <= 150
 ·rw [show okX 10 150 v = 150 - ptX v from if_pos hc, decide_eq_true hc]; exact decide_eq_true (by omega)
 ·rw [show okX 10 150 v = -1 from if_neg hc, decide_eq_false hc]; rfl
theorem Ac {v : GExpr} (h : xsz v <= 2 ^ 20) : YJ v = some (exB v) := by
 unfold YJ kf jw exB
 rw [if_pos ⟨h, by decide, by decide⟩, Option.bind_some]
 rw [show (10 : Int).toNat = 10 from rfl]
 cases hs : frX 10 v
 ·simp
 ·dsimp only
  rw [if_pos h, Option.bind_some]
  simp
theorem D5 {v : GExpr} {i : Int} (h : xsz v <= 2 ^ 30) (h0 : 0 <= i) (h1 : i <= 2 ^ 40) : ∃ k a b c, xQ v.Kind v.N i v.S v.K v.Kids = some (k, a, b, c) ∧ 0 <= k ∧ k <= i + 2 * xsz v := by
 have he := xv v
 have hb := W1 v.K
 have hc := JY v.Kids
 unfold xQ
 rw [XA (by omega) (by omega), Option.bind_some]
 dsimp only
 rw [WO (by omega) (by omega), Option.bind_some]
 dsimp only
 rw [Rq (by omega) (by omega), Option.bind_some]
 exact ⟨_, _, _, _, rfl, by omega, by omega⟩
theorem Ad {g : GExpr} (h : xsz g <= 2 ^ 30) : ∃ k a b c, xQ g.Kind g.N 1 g.S g.K g.Kids = some (k, a, b, c) ∧ 0 <= k ∧ ku (GExpr.mk g.Kind g.N a b c) 1 = some k := by
 have he := xv g
 have hb := W1 g.K
 have hc := JY g.Kids
 unfold xQ
 rw [XA (by decide) (by omega), Option.bind_some]
 dsimp only
 rw [WO (by omega) (by omega), Option.bind_some]
 dsimp only
 rw [Rq (by omega) (by omega), Option.bind_some]
 refine ⟨_, _, _, _, rfl, by omega, ?_⟩
 unfold ku
 rw [Q8 (s := (GExpr.mk g.Kind g.N _ _ _).S) (RM _ _) (by decide) (by rw [show (GExpr.mk g.Kind g.N (mB 1 g.S) (mBB (1 + g.S.length) g.K) (mXs (1 + g.S.length + cB g.K) g.Kids)).S = mB 1 g.S from rfl, Y9]; omega), Option.bind_some]
 rw [show (GExpr.mk g.Kind g.N (mB 1 g.S) (mBB (1 + g.S.length) g.K) (mXs (1 + g.S.length + cB g.K) g.Kids)).S = mB 1 g.S from rfl, show (GExpr.mk g.Kind g.N (mB 1 g.S) (mBB (1 + g.S.length) g.K) (mXs (1 + g.S.length + cB g.K) g.Kids)).K = mBB (1 + g.S.length) g.K from rfl, show (GExpr.mk g.Kind g.N (mB 1 g.S) (mBB (1 + g.S.length) g.K) (mXs (1 + g.S.length + cB g.K) g.Kids)).Kids = mXs (1 + g.S.length + cB g.K) g.Kids from rfl, Y9]
 rw [if_neg (by omega), Vd (U4 _ _) (by omega) (by rw [Ld]; omega), Option.bind_some, JX, if_neg (by omega), NM (U5 _ _) (by omega) (by rw [Gl]; omega), Option.bind_some, En, if_neg (by omega)]
def Rs (a b : Int) : Int := if a < b then -1 else if b < a then 1 else 0
theorem RE (a b : Int) : ql a b = some (Rs a b) := by
 unfold ql Zw Rs
 rw [Option.bind_some, Option.bind_some]
 dsimp only
 split
 ·rfl
 ·split <;> rfl
theorem Uz (a b : Int) : kS a b = some (Rs a b) := by
 unfold kS Rs
 split
 ·rfl
 ·split <;> rfl
theorem Rt (a : Int) : Rs a a = 0 := by unfold Rs; rw [if_neg (by omega), if_neg (by omega)]
theorem RF {a b : Int} (h : a ≠ b) : Rs a b ≠ 0 := by
 unfold Rs
 split
 ·decide
 ·rw [if_pos (by omega)]; decide
theorem D6 : ∀ (a b : List UInt8), yR a b = some (Lib.compareBytes a b) := by
 intro a
 induction a with
 | nil => intro b; cases b <;> simp [yR, Op.bytesLess, Lib.compareBytes]
 | cons x a ih =>
  intro b
  cases b with
  | nil => simp [yR, Op.bytesLess, Lib.compareBytes]
  | cons y b =>
   have := ih b
   unfold yR at this ⊢
   simp only [Op.bytesLess, Lib.compareBytes]
   by_cases h1 : x < y
   ·simp [h1]
   ·by_cases h2 : y < x
    ·have h3 : ¬ x = y := fun e => by subst e; exact h1 h2
     have h4 : ¬ y = x := fun e => h3 e.symm
     simp [h1, h2, h3, h4]
    ·have h3 : x = y := UInt8.le_antisymm (UInt8.not_lt.1 h2) (UInt8.not_lt.1 h1)
     subst h3
     simpa [h1] using this
theorem Hf (a b : List UInt8) : yS a b = some (Lib.compareBytes a b) := rfl
theorem Ae : Lib.compareBytes [] [] = 0 := rfl
theorem or3 (a b c : Int) : kZ [a, b, c] = some (if a = 0 then (if b = 0 then (if c = 0 then 0 else c) else b) else a) := by
 unfold kZ
 rw [if_pos (by simp)]
 rfl
theorem NN {v : GValue} (h : zO v = true) : (v.Kind = 3 ∨ v.S.length = 0) ∧ (v.Kind = 5 → v.K.length = v.L.length ∧ Asc v.K) ∧ v.L.length <= 40 ∧ (v.Kind = 3 → v.N = 0 ∧ v.L.length = 0) ∧ (v.Kind ≠ 5 → v.K.length = 0) ∧ v.K.length <= 40 := by
 unfold zO at h
 by_cases k0 : v.Kind = 0 ∨ v.Kind = 6
 ·rw [if_pos k0] at h
  have h := of_decide_eq_true h
  exact ⟨.inr h.2.1, fun e => by omega, by omega, fun e => by omega, fun _ => h.2.2.1, by omega⟩
 rw [if_neg k0] at h
 by_cases k1 : v.Kind = 1
 ·rw [if_pos k1] at h
  have h := of_decide_eq_true h
  exact ⟨.inr h.2.1, fun e => by omega, by omega, fun e => by omega, fun _ => h.2.2.1, by omega⟩
 rw [if_neg k1] at h
 by_cases k2 : v.Kind = 2
 ·rw [if_pos k2] at h
  have h := of_decide_eq_true h
  exact ⟨.inr h.2.1, fun e => by omega, by omega, fun e => by omega, fun _ => h.2.2.1, by omega⟩
 rw [if_neg k2] at h
 by_cases k3 : v.Kind = 3
 ·rw [if_pos k3, Bool.and_eq_true] at h
  have h := of_decide_eq_true h.2
  exact ⟨.inl k3, fun e => by omega, by omega, fun _ => ⟨h.1, h.2.2⟩, fun _ => h.2.1, by omega⟩
 rw [if_neg k3] at h
 by_cases k4 : v.Kind = 4
 ·rw [if_pos k4] at h
  have h := of_decide_eq_true h
  exact ⟨.inr h.2.1, fun e => by omega, by omega, fun e => by omega, fun _ => h.2.2.1, by omega⟩
 rw [if_neg k4] at h
 by_cases k5 : v.Kind = 5
 ·rw [if_pos k5, Bool.and_eq_true] at h
  have h1 := of_decide_eq_true h.1
  exact ⟨.inr h1.2.2.1, fun _ => ⟨h1.1, Gf h.2⟩, by omega, fun e => by omega, fun e => absurd k5 e, by omega⟩
 ·rw [if_neg k5] at h; cases h
theorem Hg {d : Nat} {v : GValue} (h : shV (d + 1) v = true) : zO v = true ∧ ∀ x ∈ v.L, shV d x = true := by
 rw [shV, Bool.and_eq_true] at h
 exact ⟨h.1, fun x hx => List.all_eq_true.1 h.2 x hx⟩
theorem NO : ∀ (d : Nat) (a b : GValue) (f g : Nat), shV d a = true → shV d b = true → vsz a + 3 <= f → vsz a + 3 <= g → ∃ c, xE f a b = some c ∧ ya g a b = some c
 | 0, a, b, f, g, h, _, _, _ => by cases h
 | d + 1, a, b, f, g, ha, hb, hf, hg => by
  obtain ⟨f, rfl, hf'⟩ : ∃ n, f = n + 1 ∧ vsz a + 2 <= n := ⟨f - 1, by omega, by omega⟩
  obtain ⟨g, rfl, hg'⟩ : ∃ n, g = n + 1 ∧ vsz a + 2 <= n := ⟨g - 1, by omega, by omega⟩
  obtain ⟨la, ca⟩ := Hg ha
  obtain ⟨lb, cb⟩ := Hg hb
  obtain ⟨a1, a2, a3, a4, a5, a6⟩ := NN la
  obtain ⟨b1, b2, b3, b4, b5, b6⟩ := NN lb
  have hva := jz a
  have hLa := qK a.L
  rw [show xE (f + 1) a b = X1 (xE f) f a b from rfl, show ya (g + 1) a b = j0 (ya g) g a b from rfl]
  unfold X1 j0
  rw [RE, Option.bind_some, RE, Option.bind_some, Hf, Option.bind_some, or3, Option.bind_some]
  by_cases hk : a.Kind = b.Kind
  ·rw [if_pos hk, hk, Rt, if_pos rfl]
   by_cases k3 : a.Kind = 3
   ·have k3b : b.Kind = 3 := by omega
    rw [if_pos k3b, (a4 k3).1, (b4 k3b).1, Rt, if_pos rfl, D6, Option.bind_some]
    refine ⟨_, rfl, ?_⟩
    by_cases hc : Lib.compareBytes a.S b.S = 0
    ·rw [if_pos hc, if_pos rfl, hc, (a4 k3).2, (b4 k3b).2]
     obtain ⟨g, rfl, _⟩ : ∃ n, g = n + 1 ∧ 0 <= n := ⟨g - 1, by omega, by omega⟩
     rw [yo, if_neg (by decide), Option.bind_some]
     dsimp only
     rw [RE]; rfl
    ·rw [if_neg hc, if_neg hc]
   ·have k3b : ¬ b.Kind = 3 := by omega
    have s1 : a.S = [] := List.eq_nil_of_length_eq_zero (a1.resolve_left k3)
    have s2 : b.S = [] := List.eq_nil_of_length_eq_zero (b1.resolve_left k3b)
    rw [if_neg k3b, s1, s2, Ae, if_pos rfl]
    by_cases hn : a.N = b.N
    ·rw [if_pos hn, hn, Rt, if_pos rfl, if_pos rfl]
     have loop : ∀ (j i m m' : Nat), i + j = min a.L.length b.L.length → j < m → j < m' → (∃ z z', wo (xE f) a b m (i : Int) = some (.inr z) ∧ yo (ya g) (if (b.L.length : Int) < (a.L.length : Int) then (b.L.length : Int) else (a.L.length : Int)) a b m' (i : Int) = some (.inr z')) ∨
       ∃ c, wo (xE f) a b m (i : Int) = some (.inl c) ∧ yo (ya g) (if (b.L.length : Int) < (a.L.length : Int) then (b.L.length : Int) else (a.L.length : Int)) a b m' (i : Int) = some (.inl c) := by
      have hmin : (if (b.L.length : Int) < (a.L.length : Int) then (b.L.length : Int) else (a.L.length : Int)) = ((min a.L.length b.L.length : Nat) : Int) := by split <;> omega
      rw [hmin]
      intro j
      induction j with
      | zero =>
       intro i m m' hi hm hm'
       obtain ⟨m, rfl, _⟩ := zg hm
       obtain ⟨m', rfl, _⟩ := zg hm'
       refine .inl ⟨(i : Int), (i : Int), ?_, by rw [yo, if_neg (by omega)]⟩
       rw [wo]
       by_cases h1 : ((i : Nat) : Int) < (a.L.length : Int)
       ·rw [if_pos h1, if_neg (by omega)]
       ·rw [if_neg h1]
      | succ j ih =>
       intro i m m' hi hm hm'
       obtain ⟨m, rfl, hm2⟩ := zg hm
       obtain ⟨m', rfl, hm2'⟩ := zg hm'
       have i1 : i < a.L.length := by omega
       have i2 : i < b.L.length := by omega
       have next := ih (i + 1) m m' (by omega) (by omega) (by omega)
       have hin : 1 + vsz a.L[i] <= qe a.L := ZJ (List.getElem_mem i1)
       obtain ⟨c, c1, c2⟩ := NO d a.L[i] b.L[i] f g (ca _ (List.getElem_mem i1)) (cb _ (List.getElem_mem i2)) (by omega) (by omega)
       rw [wo, yo, if_pos (by omega), if_pos (by omega)]
       rw [if_pos (show ((i : Nat) : Int) < ((min a.L.length b.L.length : Nat) : Int) by omega)]
       by_cases k5 : a.Kind = 5
       ·have e1 := (a2 k5).1
        have e2 := (b2 (by omega)).1
        rw [if_pos k5, if_pos k5, zl, Option.bind_some, Option.bind_some, zr (show i < a.K.length by omega), Option.bind_some, Option.bind_some, zr (show i < b.K.length by omega), Option.bind_some, Option.bind_some, D6, Option.bind_some, Hf, Option.bind_some]
        by_cases hc : Lib.compareBytes (a.K[i]'(by omega)) (b.K[i]'(by omega)) = 0
        ·rw [if_pos hc, if_pos hc, zr i1, Option.bind_some, Option.bind_some, zr i2, Option.bind_some, Option.bind_some, c1, Option.bind_some, c2, Option.bind_some, yt (by omega)]
         by_cases h0 : c = 0
         ·rw [if_pos h0, if_pos h0]; exact next
         ·rw [if_neg h0, if_neg h0]; exact .inr ⟨c, rfl, rfl⟩
        ·rw [if_neg hc, if_neg hc]; exact .inr ⟨_, rfl, rfl⟩
       ·rw [if_neg k5, if_neg k5, zl, Option.bind_some, Option.bind_some, zr i1, Option.bind_some, Option.bind_some, zr i2, Option.bind_some, Option.bind_some, c1, Option.bind_some, c2, Option.bind_some, yt (by omega)]
        by_cases h0 : c = 0
        ·rw [if_pos h0, if_pos h0]; exact next
        ·rw [if_neg h0, if_neg h0]; exact .inr ⟨c, rfl, rfl⟩
     have := loop (min a.L.length b.L.length) 0 f g (by omega) (by omega) (by omega)
     rw [show ((0 : Nat) : Int) = 0 from rfl] at this
     rcases this with ⟨z, z', e1, e2⟩ | ⟨c, e1, e2⟩
     ·rw [e1, e2, Option.bind_some, Option.bind_some]
      dsimp only
      rw [Uz, RE]
      exact ⟨_, rfl, rfl⟩
     ·rw [e1, e2]
      exact ⟨c, rfl, rfl⟩
    ·rw [if_neg hn, if_neg (RF hn), if_neg (RF hn), Uz]
     exact ⟨_, rfl, rfl⟩
  ·rw [if_neg hk, if_neg (RF hk), if_neg (RF hk), Uz]
   exact ⟨_, rfl, rfl⟩
theorem Pd {a b : GValue} (ha : shV 5 a = true) (hb : shV 5 b = true) : ∃ c, kU a b = some c ∧ we a b = some c := NO 5 a b _ _ ha hb (Nat.le_refl _) (Nat.le_refl _)
def uV : GValue := .mk 6 0 [] [] []
def flV (b : Bool) : GValue := .mk 1 (if b = true then 1 else 0) [] [] []
def iV (n : Int) : GValue := .mk 2 n [] [] []
def kd (l : List GExpr) (i : Nat) : GExpr := (l[i]?).getD (.mk 0 0 [] [] [])
def ag (l : List GValue) (i : Nat) : GValue := (l[i]?).getD zV
def XW (a : GValue) (k : List UInt8) : GValue × Int :=
 if a.Kind = 6 then (uV, 0) else if a.Kind = 5 then (if k ∈ a.K then (ag a.L (ixB a.K k 0).toNat, 0) else (zV, 3)) else (zV, 2)
def XB (a b : GValue) : GValue × Int :=
 if ¬ (a.Kind = 4 ∨ a.Kind = 5 ∨ a.Kind = 6) ∨ ¬ (b.Kind = 2 ∨ b.Kind = 3 ∨ b.Kind = 6) then (zV, 2)
 else if a.Kind = 6 ∨ b.Kind = 6 then (uV, 0)
 else if a.Kind = 5 ∧ b.Kind = 3 then XW a b.S
 else if a.Kind = 4 ∧ b.Kind = 2 then (if 0 <= b.N ∧ b.N < a.L.length then (ag a.L b.N.toNat, 0) else (zV, 3))
 else (zV, 2)
def OW (a : GValue) : GValue × Int := if a.Kind = 6 then (uV, 0) else if a.Kind = 1 then (flV (decide (a.N = 0)), 0) else (zV, 2)
def OX (a : GValue) : GValue × Int := if a.Kind = 6 then (uV, 0) else if a.Kind = 2 then (iV (-a.N), 0) else (zV, 2)
def XC (v : GValue) : GValue × Int := if zp v = true then (v, 0) else (zV, 4)
def J3 (n : Int) : GValue × Int := if -1000000000000 <= n ∧ n <= 1000000000000 then (iV n, 0) else (zV, 4)
def xc (n : Int) : Int := if n < 0 then -n else n
def Wk (k a b : Int) : GValue × Int :=
 if k = 16 then J3 (a + b) else if k = 17 then J3 (a - b)
 else if a ≠ 0 ∧ xc b > (1000000000000 : Int).tdiv (xc a) then (zV, 4) else J3 (a * b)
def XX (cz : GValue → GValue → Bool) (k : Int) (a b : GValue) : GValue × Int :=
 if k = 18 then (if knV a = true ∧ knV b = true then (flV (cz a b), 0) else (uV, 0))
 else if ¬ (a.Kind = 2 ∨ a.Kind = 6) ∨ ¬ (b.Kind = 2 ∨ b.Kind = 6) then (zV, 2)
 else if a.Kind = 6 ∨ b.Kind = 6 then (uV, 0)
 else if k = 19 then (flV (decide (a.N < b.N)), 0) else Wk k a.N b.N
def opR (w : Bool) (cz : GValue → GValue → Bool) (e : GExpr) (l : List GValue) : GValue × Int :=
 if e.Kind = 4 then XC (.mk 4 0 [] [] l) else if e.Kind = 5 then XC (.mk 5 0 [] e.K l)
 else if e.Kind = 8 then XW (ag l 0) e.S else if e.Kind = 9 then XB (ag l 0) (ag l 1)
 else if e.Kind = 13 then OW (ag l 0) else if e.Kind = 14 then OX (ag l 0)
 else if e.Kind = 23 then (if w = true then Wl e.S l else Yq e.S l)
 else XX cz e.Kind (ag l 0) (ag l 1)
def ZG (stops : Int) (a : GValue) (s : GValue × Int) : GValue × Int :=
 if ¬ (a.Kind = 1 ∨ a.Kind = 6) then (zV, 2)
 else if a.Kind = 1 ∧ a.N = stops then (a, 0)
 else if s.2 ≠ 0 then (zV, s.2)
 else if ¬ (s.1.Kind = 1 ∨ s.1.Kind = 6) then (zV, 2)
 else if a.Kind = 6 ∧ (s.1.Kind = 6 ∨ s.1.N ≠ stops) then (uV, 0) else (s.1, 0)
def ifR (a : GValue) (s t : GValue × Int) : GValue × Int :=
 if a.Kind = 6 then (uV, 0) else if a.Kind ≠ 1 then (zV, 2) else if a.N = 1 then s else t
def kK (r : GValue × Int) (f : GValue → GValue × Int) : GValue × Int := if r.2 = 0 then f r.1 else (zV, r.2)
def evL (g : GExpr → GValue × Int) : List GExpr → List GValue × Int
 | [] => ([], 0)
 | x :: l => if (g x).2 = 0 then (if (evL g l).2 = 0 then ((g x).1 :: (evL g l).1, 0) else ([], (evL g l).2)) else ([], (g x).2)
def evR (w : Bool) (cz : GValue → GValue → Bool) (v : GEnv) : Nat → GExpr → GValue × Int
 | 0, _ => (zV, 0)
 | d + 1, e =>
  if e.Kind <= 3 then (.mk e.Kind e.N e.S [] [], 0)
  else if e.Kind = 6 then XW v.Locals e.S else if e.Kind = 7 then XW v.Res e.S
  else if e.Kind = 10 then (v.Index, 0) else if e.Kind = 11 then (v.Key, 0) else if e.Kind = 12 then (v.Val, 0)
  else if e.Kind = 20 ∨ e.Kind = 21 then
   kK (evR w cz v d (kd e.Kids 0)) fun a => ZG (if e.Kind = 21 then 1 else 0) a (evR w cz v d (kd e.Kids 1))
  else if e.Kind = 22 then
   kK (evR w cz v d (kd e.Kids 0)) fun a => ifR a (evR w cz v d (kd e.Kids 1)) (evR w cz v d (kd e.Kids 2))
  else if (evL (evR w cz v d) e.Kids).2 = 0 then opR w cz e (evL (evR w cz v d) e.Kids).1 else (zV, (evL (evR w cz v d) e.Kids).2)
/-! what is made is a value -/
theorem zfz : ∀ (d : Nat) (v : GValue), shV d v = true → shV (d + 1) v = true := by
 intro d
 induction d with
 | zero => intro v h; simp [shV] at h
 | succ d ih =>
  intro v h
  rw [shV, Bool.and_eq_true] at h ⊢
  exact ⟨h.1, List.all_eq_true.2 fun x hx => ih x (List.all_eq_true.1 h.2 x hx)⟩
theorem Af {l : List GValue} {x : GValue} (h : x ∈ l) : ptV x <= yW l := by
 induction l with
 | nil => cases h
 | cons y l ih =>
  simp only [yW]
  rcases List.mem_cons.1 h with rfl | h
  ·omega
  ·have := ih h; omega
theorem xN (v : GValue) : zp v = true ↔ shV 5 v = true ∧ ptV v <= 40 := by
 unfold zp
 rw [decide_eq_true_eq]
 constructor
 ·exact fun h => ⟨h.1, by omega⟩
 ·exact fun h => ⟨h.1, by omega⟩
theorem LA {a x : GValue} (h : zp a = true) (hx : x ∈ a.L) : zp x = true := by
 rw [xN] at h ⊢
 have := Af hx
 have := Wy a
 have h1 := h.1
 rw [shV, Bool.and_eq_true] at h1
 exact ⟨zfz 4 x (List.all_eq_true.1 h1.2 x hx), by omega⟩
theorem yG : zp zV = true := by
 rw [xN]
 simp [zV, shV, zO, ptV, yW, GValue.Kind, GValue.N, GValue.S, GValue.K, GValue.L]
theorem Xi : zp uV = true := by
 rw [xN]
 simp [uV, shV, zO, ptV, yW, GValue.Kind, GValue.N, GValue.S, GValue.K, GValue.L]
theorem U0 (b : Bool) : zp (flV b) = true := by
 rw [xN]
 cases b <;> simp [flV, shV, zO, ptV, yW, GValue.Kind, GValue.N, GValue.S, GValue.K, GValue.L]
theorem XY (n : Int) : zp (iV n) = decide (-1000000000000 <= n ∧ n <= 1000000000000) := by
 rw [Bool.eq_iff_iff, xN, decide_eq_true_eq]
 simp [iV, shV, zO, ptV, yW, GValue.Kind, GValue.N, GValue.S, GValue.K, GValue.L]
theorem Ag {v : GValue} (h : zp v = true) (hk : v.Kind = 6) : v = uV := by
 have := (kG h).1
 unfold zO at this
 rw [if_pos (by omega)] at this
 have := of_decide_eq_true this
 obtain ⟨k, n, s, kk, l⟩ := v
 simp only [GValue.Kind, GValue.S, GValue.K, GValue.L, GValue.N] at *
 obtain ⟨h0, h1, h2, h3⟩ := this
 subst hk h0
 rw [List.length_eq_zero_iff.1 h1, List.length_eq_zero_iff.1 h2, List.length_eq_zero_iff.1 h3]; rfl
theorem Ah {v : GValue} (h : zp v = true) (hk : v.Kind = 1) : v = .mk 1 v.N [] [] [] ∧ 0 <= v.N ∧ v.N <= 1 := by
 have := (kG h).1
 unfold zO at this
 rw [if_neg (by omega), if_pos hk] at this
 have := of_decide_eq_true this
 obtain ⟨k, n, s, kk, l⟩ := v
 simp only [GValue.Kind, GValue.S, GValue.K, GValue.L, GValue.N] at *
 obtain ⟨h0, h1, h2, h3⟩ := this
 subst hk
 exact ⟨by rw [List.length_eq_zero_iff.1 h1, List.length_eq_zero_iff.1 h2, List.length_eq_zero_iff.1 h3], h0⟩
theorem Qe {v : GValue} (h : zp v = true) (hk : v.Kind = 2) : -1000000000000 <= v.N ∧ v.N <= 1000000000000 := by
 have := (kG h).1
 unfold zO at this
 rw [if_neg (by omega), if_neg (by omega), if_pos hk] at this
 exact (of_decide_eq_true this).1
theorem M5 {v : GValue} (h : zp v = true) (hk : v.Kind = 5) : v.K.length = v.L.length ∧ v.N = 0 ∧ v.S = [] := by
 have := (kG h).1
 unfold zO at this
 rw [if_neg (by omega), if_neg (by omega), if_neg (by omega), if_neg (by omega), if_neg (by omega), if_pos hk, Bool.and_eq_true] at this
 have := of_decide_eq_true this.1
 exact ⟨this.1, this.2.1, List.length_eq_zero_iff.1 this.2.2.1⟩
theorem zi2 {v : GValue} (h : zp v = true) (hk : v.Kind = 4) : v.K = [] ∧ v.N = 0 ∧ v.S = [] := by
 have := (kG h).1
 unfold zO at this
 rw [if_neg (by omega), if_neg (by omega), if_neg (by omega), if_neg (by omega), if_pos hk] at this
 have := of_decide_eq_true this
 exact ⟨List.length_eq_zero_iff.1 this.2.2.1, this.1, List.length_eq_zero_iff.1 this.2.1⟩
theorem P3 : ∀ (l : List (List UInt8)) (x : List UInt8) (i : Nat), x ∈ l → (i : Int) <= ixB l x i ∧ ixB l x i < ((i + l.length : Nat) : Int) ∧ l[(ixB l x i).toNat - i]? = some x
 | [], x, i, h => by cases h
 | y :: l, x, i, h => by
  rw [ixB]
  by_cases hy : y = x
  ·rw [if_pos hy]
   simp only [List.length_cons]
   exact ⟨by omega, by omega, by simp [hy]⟩
  ·rw [if_neg hy]
   have := P3 l x (i + 1) ((List.mem_cons.1 h).resolve_left fun e => hy e.symm)
   simp only [List.length_cons]
   refine ⟨by omega, by omega, ?_⟩
   rw [show (ixB l x (i + 1)).toNat - i = ((ixB l x (i + 1)).toNat - (i + 1)) + 1 by omega, List.getElem?_cons_succ]
   exact this.2.2
theorem Wx {l : List GValue} {i : Nat} (h : i < l.length) : ag l i ∈ l ∧ l[i]? = some (ag l i) := by
 unfold ag
 rw [List.getElem?_eq_getElem h]
 exact ⟨List.getElem_mem h, rfl⟩
theorem RG {a : GValue} {k : List UInt8} (h : zp a = true) : zp (XW a k).1 = true := by
 unfold XW
 split
 ·exact Xi
 split
 ·rename_i hk
  split
  ·rename_i hm
   have := P3 a.K k 0 hm
   have hl := (M5 h hk).1
   exact LA h (Wx (by omega)).1
  ·exact yG
 ·exact yG
theorem Ai {a b : GValue} (h : zp a = true) : zp (XB a b).1 = true := by
 unfold XB
 split
 ·exact yG
 split
 ·exact Xi
 split
 ·exact RG h
 split
 ·split
  ·exact LA h (Wx (by omega)).1
  ·exact yG
 ·exact yG
theorem zcx (a : GValue) : zp (OW a).1 = true := by
 unfold OW
 split
 ·exact Xi
 split
 ·exact U0 _
 ·exact yG
theorem zcy {a : GValue} (h : zp a = true) : zp (OX a).1 = true := by
 unfold OX
 split
 ·exact Xi
 split
 ·rename_i hk
  have := Qe h hk
  rw [XY, decide_eq_true_eq]; omega
 ·exact yG
theorem NP (v : GValue) : zp (XC v).1 = true := by
 unfold XC
 split
 ·assumption
 ·exact yG
theorem zcz (n : Int) : zp (J3 n).1 = true := by
 unfold J3
 split
 ·rw [XY, decide_eq_true_eq]; assumption
 ·exact yG
theorem Aj (k a b : Int) : zp (Wk k a b).1 = true := by
 unfold Wk
 repeat' split
 all_goals first | exact zcz _ | exact yG
theorem zc0 (cz : GValue → GValue → Bool) (k : Int) (a b : GValue) : zp (XX cz k a b).1 = true := by
 unfold XX
 repeat' split
 all_goals first | exact Aj _ _ _ | exact yG | exact Xi | exact U0 _
theorem Ej {s : List UInt8} (h : xR s = true) : xo s = true := by
 unfold xR at h
 unfold xo
 rw [Bool.and_eq_true, decide_eq_true_eq] at h
 rw [Bool.and_eq_true, decide_eq_true_eq]
 refine ⟨by omega, List.all_eq_true.2 fun x hx => ?_⟩
 have := List.all_eq_true.1 h.2 x hx
 unfold inB at this ⊢
 simp only [decide_eq_true_eq, Bool.and_eq_true] at this ⊢
 omega
theorem zgu {v : GValue} (h : zp v = true) (hk : v.Kind = 5) {s : List UInt8} (hs : s ∈ v.K) : xR s = true := by
 have := (kG h).1
 unfold zO at this
 rw [if_neg (by omega), if_neg (by omega), if_neg (by omega), if_neg (by omega), if_neg (by omega), if_pos hk, Bool.and_eq_true] at this
 obtain ⟨j, hj, rfl⟩ := List.mem_iff_getElem.1 hs
 have := RL this.2 hj
 unfold kOk at this
 rw [zr hj] at this
 simp only [Bool.and_eq_true] at this
 exact this.1
theorem Ek (k : List (List UInt8)) : yW (k.map fun k => GValue.mk 3 0 k [] []) = k.length := by
 induction k with
 | nil => rfl
 | cons x k ih => simp only [List.map_cons, yW, ptV, ih, List.length_cons]; omega
theorem zf0 (l : List GValue) : zO (.mk 4 0 [] [] l) = decide (l.length <= 40) := by
 simp [zO, GValue.Kind, GValue.N, GValue.S, GValue.K, GValue.L]
theorem zc1 {a : List UInt8} {x y : GValue} (hx : zp x = true) (hy : zp y = true) (h3 : a = [99, 97, 116] → x.Kind = 3 ∧ y.Kind = 3) (h5 : a = [107, 101, 121, 115] ∨ a = [118, 97, 108, 115] → x.Kind = 5) (h2 : a ≠ [108, 101, 110] → a ≠ [99, 97, 116] → a ≠ [107, 101, 121, 115] → a ≠ [118, 97, 108, 115] → a ≠ [104, 97, 115] → x.Kind = 2 ∧ y.Kind = 2) : zp (wH a x y).1 = true := by
 unfold wH
 by_cases n1 : a = [108, 101, 110]
 ·rw [if_pos n1]
  have hp := Wy x
  have hl := KP x.L
  have h40 := ((xN x).1 hx).2
  dsimp only
  split
  ·rename_i hk
   have := TX hx hk
   unfold xo at this
   rw [Bool.and_eq_true, decide_eq_true_eq] at this
   show zp (iV _) = true
   rw [XY, decide_eq_true_eq]; omega
  ·show zp (iV _) = true
   rw [XY, decide_eq_true_eq]; omega
 rw [if_neg n1]
 by_cases n2 : a = [99, 97, 116]
 ·rw [if_pos n2]
  split
  ·exact yG
  ·rw [L7, N9 (TX hx (h3 n2).1) (TX hy (h3 n2).2), decide_eq_true_eq]; omega
 rw [if_neg n2]
 by_cases n3 : a = [107, 101, 121, 115]
 ·rw [if_pos n3]
  have hk := h5 (.inl n3)
  have h40 := ((xN x).1 hx).2
  have hp := Wy x
  have hl := KP x.L
  have h5 := (M5 hx hk).1
  rw [xN]
  refine ⟨?_, by rw [ptV, Ek]; omega⟩
  rw [shV, Bool.and_eq_true]
  refine ⟨?_, List.all_eq_true.2 fun z hz => ?_⟩
  ·rw [zf0, decide_eq_true_eq, List.length_map]; omega
  ·obtain ⟨s, hs, rfl⟩ := List.mem_map.1 hz
   have ht := Ej (zgu hx hk hs)
   simp [shV, zO, GValue.Kind, GValue.N, GValue.S, GValue.K, GValue.L, ht]
 rw [if_neg n3]
 by_cases n4 : a = [118, 97, 108, 115]
 ·rw [if_pos n4]
  have h40 := ((xN x).1 hx)
  have hp := Wy x
  have hl := KP x.L
  rw [xN]
  refine ⟨?_, by rw [ptV]; omega⟩
  have h1 := h40.1
  rw [shV, Bool.and_eq_true] at h1 ⊢
  exact ⟨by rw [zf0, decide_eq_true_eq]; omega, h1.2⟩
 rw [if_neg n4]
 by_cases n5 : a = [104, 97, 115]
 ·rw [if_pos n5]
  have := U0 (decide (y.S ∈ x.K))
  unfold flV at this
  simp only [decide_eq_true_eq] at this
  exact this
 rw [if_neg n5]
 have hk := h2 n1 n2 n3 n4 n5
 have hxn := Qe hx hk.1
 have hyn := Qe hy hk.2
 by_cases n6 : a = [109, 105, 110]
 ·rw [if_pos n6]
  show zp (iV _) = true
  rw [XY, decide_eq_true_eq]; split <;> omega
 ·rw [if_neg n6]
  show zp (iV _) = true
  rw [XY, decide_eq_true_eq]; split <;> omega
theorem QA : ∀ (cs : List UInt8) (l : List GValue), xB cs l = true → xn l = true → ∀ (i : Nat) (c : UInt8) (v : GValue), cs[i]? = some c → l[i]? = some v → Wb v c = true := by
 intro cs
 induction cs with
 | nil => intro l _ _ i c v h; simp at h
 | cons x cs ih =>
  intro l h hk i c v h1 h2
  cases l with
  | nil => simp at h2
  | cons y l =>
  rw [xB, Bool.and_eq_true, Bool.or_eq_true, decide_eq_true_eq] at h
  unfold xn at hk ih
  rw [List.all_cons, Bool.and_eq_true, decide_eq_true_eq] at hk
  cases i with
  | zero =>
   simp only [List.getElem?_cons_zero, Option.some.injEq] at h1 h2
   subst h1 h2
   exact h.1.resolve_left hk.1
  | succ i =>
   simp only [List.getElem?_cons_succ] at h1 h2
   exact ih l h.2 hk.2 i c v h1 h2
theorem NQ {a : List UInt8} {l : List GValue} (h : ∀ v ∈ l, zp v = true) : zp (Yq a l).1 = true := by
 unfold Yq
 split
 ·exact yG
 rename_i h0
 split
 case isFalse => exact yG
 rename_i he
 split
 case isFalse => exact yG
 rename_i hA
 split
 case isFalse => exact Xi
 rename_i hK
 have hv : ∀ i : Nat, zp ((l[i]?).getD zV) = true := fun i => by
  cases hi : l[i]? with
  | none => exact yG
  | some v => exact h v (List.mem_of_getElem? hi)
 refine zc1 (hv 0) (hv 1) (fun n => ?_) (fun n => ?_) (fun n1 n2 n3 n4 n5 => ?_)
 ·subst n
  obtain ⟨x, y, rfl⟩ := kb (show 2 = l.length from he)
  have g0 := QA _ _ hA hK 0 116 x rfl rfl
  have g1 := QA _ _ hA hK 1 116 y rfl rfl
  rw [kw, decide_eq_true_eq] at g0 g1
  exact ⟨g0, g1⟩
 ·rcases n with n | n
  all_goals
   subst n
   obtain ⟨x, rfl⟩ := Y3 (show 1 = l.length from he)
   have g0 := QA _ _ hA hK 0 109 x rfl rfl
   rw [jN, decide_eq_true_eq] at g0
   exact g0
 ·by_cases n6 : a = [109, 105, 110] ∨ a = [109, 97, 120]
  ·rcases n6 with n | n
   all_goals
    subst n
    obtain ⟨x, y, rfl⟩ := kb (show 2 = l.length from he)
    have g0 := QA _ _ hA hK 0 105 x rfl rfl
    have g1 := QA _ _ hA hK 1 105 y rfl rfl
    rw [kz, decide_eq_true_eq] at g0 g1
    exact ⟨g0, g1⟩
  ·rw [not_or] at n6
   exact absurd (by unfold zK; simp [*]) h0
theorem D7 {a : List UInt8} {l : List GValue} (h : 40 < l.length) : (Yq a l).2 = 5 := by
 have hw : (zK a).length <= 2 := by
  unfold zK
  repeat' split
  all_goals simp
 unfold Yq
 split
 ·rfl
 ·rw [if_neg (by omega)]
theorem D8 {a : List UInt8} {l : List GValue} (h : ∀ v ∈ l, zp v = true) : ((Wl a l).2 = 0 ↔ (Yq a l).2 = 0) ∧ ((Wl a l).2 = 0 → (Wl a l).1 = (Yq a l).1) := by
 unfold Wl
 by_cases h40 : 40 < l.length
 ·rw [if_pos h40, D7 h40]; simp
 ·rw [if_neg h40, if_pos (List.all_eq_true.2 h)]; simp
theorem zf1 {w : Bool} {cz : GValue → GValue → Bool} {e : GExpr} {l : List GValue} (h : ∀ v ∈ l, zp v = true) : zp (opR w cz e l).1 = true := by
 have hv : ∀ i : Nat, zp (ag l i) = true := fun i => by
  unfold ag
  cases hi : l[i]? with
  | none => exact yG
  | some v => exact h v (List.mem_of_getElem? hi)
 unfold opR
 split
 ·exact NP _
 split
 ·exact NP _
 split
 ·exact RG (hv 0)
 split
 ·exact Ai (hv 0)
 split
 ·exact zcx _
 split
 ·exact zcy (hv 0)
 split
 ·split
  ·unfold Wl
   split
   ·exact yG
   split
   ·exact NQ h
   ·exact yG
  ·exact NQ h
 ·exact zc0 _ _ _ _
theorem zc2 {k : Int} {a : GValue} {s : GValue × Int} (h : zp a = true) (hs : zp s.1 = true) : zp (ZG k a s).1 = true := by
 unfold ZG
 repeat' split
 all_goals first | exact yG | exact Xi | assumption
theorem zf2 {a : GValue} {s t : GValue × Int} (hs : zp s.1 = true) (ht : zp t.1 = true) : zp (ifR a s t).1 = true := by
 unfold ifR
 repeat' split
 all_goals first | exact yG | exact Xi | assumption
theorem P4 {g : GExpr → GValue × Int} : ∀ {l : List GExpr}, (∀ x ∈ l, zp (g x).1 = true) → ∀ v ∈ (evL g l).1, zp v = true := by
 intro l
 induction l with
 | nil => intro _ v hv; cases hv
 | cons x l ih =>
  intro h v hv
  rw [evL] at hv
  split at hv
  ·split at hv
   ·rcases List.mem_cons.1 hv with rfl | hv
    ·exact h x (by simp)
    ·exact ih (fun y hy => h y (by simp [hy])) v hv
   ·cases hv
  ·cases hv
theorem Hh {g : GExpr → GValue × Int} : ∀ {l : List GExpr}, (evL g l).2 = 0 → (evL g l).1.length = l.length := by
 intro l
 induction l with
 | nil => intro _; rfl
 | cons x l ih =>
  intro h
  rw [evL] at h ⊢
  by_cases h1 : (g x).2 = 0
  ·rw [if_pos h1] at h ⊢
   by_cases h2 : (evL g l).2 = 0
   ·rw [if_pos h2] at h ⊢; simp [ih h2]
   ·rw [if_neg h2] at h; exact absurd h h2
  ·rw [if_neg h1] at h; exact absurd h h1
def NR (v : GEnv) : Prop := zp v.Locals = true ∧ zp v.Res = true ∧ zp v.Index = true ∧ zp v.Key = true ∧ zp v.Val = true
open Classical in
theorem Xj {d : Nat} {e : GExpr} (h : frX (d + 1) e = true) : jI e ∧ e.Kids.length <= 150 ∧ (e.Kind = 5 → xq e.K 0 e.K.length = true) ∧ ∀ x ∈ e.Kids, frX d x = true := by
 rw [frX, Bool.and_eq_true] at h
 obtain ⟨h1, h2⟩ := h
 unfold Zm at h1
 rw [Bool.and_eq_true, Bool.or_eq_true] at h1
 have h3 := of_decide_eq_true h1.1
 exact ⟨h3.1, h3.2, fun h5 => h1.2.resolve_left fun h => (of_decide_eq_true h) h5, fun x hx => List.all_eq_true.1 h2 x hx⟩
theorem zc3 {e : GExpr} (h : jI e) (hk : e.Kind <= 3) : zp (.mk e.Kind e.N e.S [] []) = true := by
 unfold jI Xb at h
 obtain ⟨h0, h1, h2, h3, h4, h5, h6, h7, h8, h9, h10⟩ := h
 have hs : e.Kind ≠ 3 → e.S.length = 0 := fun h => by
  have := h10 h (by omega) (by omega) (by omega) (by omega); omega
 have ht : e.Kind = 3 → xo e.S = true := fun h => by
  have := h7 h
  cases hb : xo e.S with
  | true => rfl
  | false => rw [hb] at this; simp [bi] at this
 rw [xN]
 refine ⟨?_, by simp [ptV, yW]⟩
 rw [shV, Bool.and_eq_true]
 refine ⟨?_, rfl⟩
 clear h7 h8 h9 h10 h1 h2 h3
 generalize e.S = s at hs ht ⊢
 generalize e.Kind = k at *
 generalize e.N = n at *
 by_cases k0 : k = 0
 ·subst k0
  have := hs (by omega)
  have := h6 (by omega) (by omega)
  simp [zO, GValue.Kind, GValue.N, GValue.S, GValue.K, GValue.L, *]
 by_cases k1 : k = 1
 ·subst k1
  have := hs (by omega)
  simp [zO, GValue.Kind, GValue.N, GValue.S, GValue.K, GValue.L]
  exact ⟨h4 rfl, List.length_eq_zero_iff.1 (by omega)⟩
 by_cases k2 : k = 2
 ·subst k2
  have := hs (by omega)
  have := h5 rfl
  simp [zO, GValue.Kind, GValue.N, GValue.S, GValue.K, GValue.L]
  exact ⟨by omega, List.length_eq_zero_iff.1 (by omega)⟩
 have k3 : k = 3 := by omega
 subst k3
 have := h6 (by omega) (by omega)
 simp [zO, GValue.Kind, GValue.N, GValue.S, GValue.K, GValue.L, ht rfl, this]
theorem jy {l : List GExpr} {i : Nat} (h : i < l.length) : kd l i ∈ l ∧ l[i]? = some (kd l i) := by
 unfold kd
 rw [List.getElem?_eq_getElem h]
 exact ⟨List.getElem_mem h, rfl⟩
theorem NS {r : GValue × Int} {f : GValue → GValue × Int} (h : zp (f r.1).1 = true) : zp (kK r f).1 = true := by
 unfold kK
 split
 ·exact h
 ·exact yG
theorem M6 {e : GExpr} (h : jI e) : (e.Kind = 8 ∨ e.Kind = 13 ∨ e.Kind = 14 → e.Kids.length = 1) ∧ (e.Kind = 9 ∨ (15 <= e.Kind ∧ e.Kind <= 21) → e.Kids.length = 2) ∧ (e.Kind = 22 → e.Kids.length = 3) := by
 unfold jI Xb at h
 have ha := JW e.Kind
 have h1 := h.2.1
 refine ⟨fun h => ?_, fun h => ?_, fun h => ?_⟩
 ·have := ha.2.1 h; omega
 ·have := ha.2.2.1 h; omega
 ·have := ha.2.2.2.1 h; omega
theorem w7 {w : Bool} {cz : GValue → GValue → Bool} {v : GEnv} (hv : NR v) : ∀ (d : Nat) (e : GExpr), frX d e = true → zp (evR w cz v d e).1 = true := by
 intro d
 induction d with
 | zero => intro e h; simp [frX] at h
 | succ d ih =>
  intro e h
  obtain ⟨hl, _, _, hk⟩ := Xj h
  have ha := M6 hl
  obtain ⟨e1, e2, e3, e4, e5⟩ := hv
  have hkd : ∀ i, i < e.Kids.length → zp (evR w cz v d (kd e.Kids i)).1 = true := fun i hi => ih _ (hk _ (jy hi).1)
  rw [evR]
  split
  ·exact zc3 hl (by assumption)
  split
  ·exact RG e1
  split
  ·exact RG e2
  split
  ·exact e3
  split
  ·exact e4
  split
  ·exact e5
  split
  ·have := ha.2.1 (by omega)
   exact NS (zc2 (hkd 0 (by omega)) (hkd 1 (by omega)))
  split
  ·have := ha.2.2 (by omega)
   exact NS (zf2 (hkd 1 (by omega)) (hkd 2 (by omega)))
  split
  ·exact zf1 (P4 fun x hx => ih x (hk x hx))
  ·exact yG
def Rel (r s : GValue × Int) : Prop := (r.2 = 0 ↔ s.2 = 0) ∧ (r.2 = 0 → r.1 = s.1)
theorem Rel.refl (r : GValue × Int) : Rel r r := ⟨Iff.rfl, fun _ => rfl⟩
theorem Rel.cases {r s : GValue × Int} (h : Rel r s) : (r.2 = 0 ∧ r = s) ∨ (r.2 ≠ 0 ∧ s.2 ≠ 0) := by
 by_cases h0 : r.2 = 0
 ·exact .inl ⟨h0, Prod.ext (h.2 h0) (by rw [h0, h.1.1 h0])⟩
 ·exact .inr ⟨h0, fun e => h0 (h.1.2 e)⟩
theorem Rel.bad {r s : GValue × Int} (h1 : r.2 ≠ 0) (h2 : s.2 ≠ 0) : Rel r s := ⟨by simp [h1, h2], fun h => absurd h h1⟩
theorem LB {r s : GValue × Int} {f g : GValue → GValue × Int} (h : Rel r s) (hf : r = s → Rel (f r.1) (g r.1)) : Rel (kK r f) (kK s g) := by
 rcases h.cases with ⟨h0, he⟩ | ⟨h1, h2⟩
 ·unfold kK
  rw [if_pos h0, <- he, if_pos h0]; exact hf he
 ·unfold kK
  rw [if_neg h1, if_neg h2]; exact .bad h1 h2
theorem zc4 {g g' : GExpr → GValue × Int} : ∀ {l : List GExpr}, (∀ x ∈ l, Rel (g x) (g' x)) → ((evL g l).2 = 0 ↔ (evL g' l).2 = 0) ∧ ((evL g l).2 = 0 → (evL g l).1 = (evL g' l).1) := by
 intro l
 induction l with
 | nil => intro _; exact ⟨Iff.rfl, fun _ => rfl⟩
 | cons x l ih =>
  intro h
  have hl := ih fun y hy => h y (by simp [hy])
  rw [evL, evL]
  rcases (h x (by simp)).cases with ⟨h0, he⟩ | ⟨h1, h2⟩
  ·rw [<- he, if_pos h0]
   by_cases h3 : (evL g l).2 = 0
   ·rw [if_pos h3, if_pos h0, if_pos (hl.1.1 h3), hl.2 h3]; simp
   ·rw [if_neg h3, if_pos h0, if_neg (fun e => h3 (hl.1.2 e))]
    exact ⟨⟨fun h => absurd h h3, fun h => absurd (hl.1.2 h) h3⟩, fun h => absurd h h3⟩
  ·rw [if_neg h1, if_neg h2]
   exact ⟨by simp only [h1, h2], fun h => absurd h h1⟩
theorem Ak {k : Int} {a : GValue} {s t : GValue × Int} (h : Rel s t) : Rel (ZG k a s) (ZG k a t) := by
 unfold ZG
 split
 ·exact .refl _
 split
 ·exact .refl _
 rcases h.cases with ⟨h0, he⟩ | ⟨h1, h2⟩
 ·rw [he]; exact .refl _
 ·rw [if_pos h1, if_pos h2]; exact .bad h1 h2
theorem zc5 {a : GValue} {s t s' t' : GValue × Int} (h : Rel s s') (h' : Rel t t') : Rel (ifR a s t) (ifR a s' t') := by
 unfold ifR
 split
 ·exact .refl _
 split
 ·exact .refl _
 split
 ·exact h
 ·exact h'
theorem zc6 {cz cz' : GValue → GValue → Bool} {e : GExpr} {l : List GValue} (h : ∀ v ∈ l, zp v = true) (hc : ∀ a b, zp a = true → zp b = true → cz a b = cz' a b) : Rel (opR true cz e l) (opR false cz' e l) := by
 have hv : ∀ i : Nat, zp (ag l i) = true := fun i => by
  unfold ag
  cases hi : l[i]? with
  | none => exact yG
  | some v => exact h v (List.mem_of_getElem? hi)
 unfold opR
 repeat' split
 all_goals first | exact .refl _ | skip
 ·exact D8 h
 ·rename_i hn _; exact absurd rfl hn
 ·unfold XX
  rw [hc _ _ (hv 0) (hv 1)]; exact .refl _
theorem zf3 {cz cz' : GValue → GValue → Bool} {v : GEnv} (hv : NR v) (hc : ∀ a b, zp a = true → zp b = true → cz a b = cz' a b) : ∀ (d : Nat) (e : GExpr), frX d e = true → Rel (evR true cz v d e) (evR false cz' v d e) := by
 intro d
 induction d with
 | zero => intro e h; simp [frX] at h
 | succ d ih =>
  intro e h
  obtain ⟨hl, _, _, hk⟩ := Xj h
  have ha := M6 hl
  have hkd : ∀ i, i < e.Kids.length → Rel (evR true cz v d (kd e.Kids i)) (evR false cz' v d (kd e.Kids i)) := fun i hi => ih _ (hk _ (jy hi).1)
  rw [evR, evR]
  split
  ·exact .refl _
  split
  ·exact .refl _
  split
  ·exact .refl _
  split
  ·exact .refl _
  split
  ·exact .refl _
  split
  ·exact .refl _
  split
  ·have := ha.2.1 (by omega)
   exact LB (hkd 0 (by omega)) fun _ => Ak (hkd 1 (by omega))
  split
  ·have := ha.2.2 (by omega)
   exact LB (hkd 0 (by omega)) fun _ => zc5 (hkd 1 (by omega)) (hkd 2 (by omega))
  have hL := zc4 (g := evR true cz v d) (g' := evR false cz' v d) (l := e.Kids) fun x hx => ih x (hk x hx)
  by_cases h0 : (evL (evR true cz v d) e.Kids).2 = 0
  ·rw [if_pos h0, if_pos (hL.1.1 h0), <- hL.2 h0]
   exact zc6 (P4 fun x hx => w7 hv d x (hk x hx)) hc
  ·rw [if_neg h0, if_neg (fun e => h0 (hL.1.2 e))]
   exact .bad h0 (fun e => h0 (hL.1.2 e))
theorem zc7 {l : List GValue} (h : ∀ x ∈ l, vsz x + 10 <= 30 * ptV x) : qe l + 9 * l.length <= 30 * yW l := by
 induction l with
 | nil => simp [qe, yW]
 | cons x l ih =>
  have := ih fun y hy => h y (by simp [hy])
  have := h x (by simp)
  simp only [qe, yW, List.length_cons]; omega
theorem zgv : ∀ (d : Nat) (v : GValue), shV d v = true → vsz v + 10 <= 30 * ptV v := by
 intro d
 induction d with
 | zero => intro v h; simp [shV] at h
 | succ d ih =>
  intro v h
  rw [shV, Bool.and_eq_true] at h
  have hs := zc7 fun x hx => ih x (List.all_eq_true.1 h.2 x hx)
  have hz := jz v
  have hp := Wy v
  have hl := h.1
  unfold zO at hl
  have hb0 : v.K.length = 0 → bsz v.K = 0 := fun h => by rw [List.length_eq_zero_iff.1 h]; rfl
  split at hl
  ·have := of_decide_eq_true hl
   have := hb0 this.2.2.1; omega
  split at hl
  ·have := of_decide_eq_true hl
   have := hb0 this.2.2.1; omega
  split at hl
  ·have := of_decide_eq_true hl
   have := hb0 this.2.2.1; omega
  split at hl
  ·rw [Bool.and_eq_true, decide_eq_true_eq] at hl
   have := hb0 hl.2.2.1
   have ht := hl.1
   unfold xo at ht
   rw [Bool.and_eq_true, decide_eq_true_eq] at ht
   omega
  split at hl
  ·have := of_decide_eq_true hl
   have := hb0 this.2.2.1; omega
  split at hl
  ·rw [Bool.and_eq_true, decide_eq_true_eq] at hl
   have hk : ∀ s ∈ v.K, s.length <= 8 := fun s hs => by
    obtain ⟨j, hj, rfl⟩ := List.mem_iff_getElem.1 hs
    have := RL hl.2 hj
    unfold kOk at this
    rw [zr hj] at this
    simp only [Bool.and_eq_true] at this
    have := this.1
    unfold xR at this
    rw [Bool.and_eq_true, decide_eq_true_eq] at this
    omega
   have : bsz v.K <= 9 * v.K.length := by
    have : ∀ k : List (List UInt8), (∀ s ∈ k, s.length <= 8) → bsz k <= 9 * k.length := by
     intro k
     induction k with
     | nil => intro _; simp [bsz]
     | cons x k ih =>
      intro h
      have := ih fun y hy => h y (by simp [hy])
      have := h x (by simp)
      rw [Xa, List.length_cons]; omega
    exact this _ hk
   omega
  ·cases hl
theorem vc {v : GValue} (h : zp v = true) : vsz v <= 1200 := by
 have h := (xN v).1 h
 have := zgv 5 v h.1
 omega
mutual
def nkX (t : Int) : GExpr → List (List UInt8)
 | .mk kd _ s _ l => (if kd = t then [s] else []) ++ J4 t l
def J4 (t : Int) : List GExpr → List (List UInt8)
 | [] => []
 | v :: l => nkX t v ++ J4 t l
end
theorem zf4 (t : Int) (v : GExpr) : nkX t v = (if v.Kind = t then [v.S] else []) ++ J4 t v.Kids := by
 cases v
 simp only [nkX, GExpr.Kind, GExpr.S, GExpr.Kids]
 congr
mutual
theorem Hi (t : Int) : ∀ v : GExpr, (nkX t v).length <= 1 + xsz v
 | .mk kd _ s k l => by
  have := NT t l
  simp only [nkX, xsz, List.length_append]
  split <;> simp only [List.length_cons, List.length_nil] <;> omega
theorem NT (t : Int) : ∀ l : List GExpr, (J4 t l).length <= z8 l
 | [] => Nat.le_refl _
 | v :: l => by
  have := Hi t v
  have := NT t l
  simp only [J4, z8, List.length_append]
  omega
end
mutual
def frK (ks : List Int) : GExpr → Bool
 | .mk kd _ _ _ l => decide (kd ∉ ks) && Zl ks l
def Zl (ks : List Int) : List GExpr → Bool
 | [] => true
 | v :: l => frK ks v && Zl ks l
end
theorem D9 (ks : List Int) (v : GExpr) : frK ks v = (decide (v.Kind ∉ ks) && Zl ks v.Kids) := by
 cases v
 rw [frK]; rfl
theorem Al (ks : List Int) : ∀ l : List GExpr, Zl ks l = true ↔ ∀ x ∈ l, frK ks x = true
 | [] => by simp [Zl]
 | v :: l => by
  rw [Zl, Bool.and_eq_true, Al ks l]
  simp
mutual
theorem LC : ∀ v : GExpr, frK [6, 7, 10, 11, 12] v = true ↔ frK [7, 10, 11, 12] v = true ∧ nkX 6 v = []
 | .mk kd _ s _ l => by
  have := P5 l
  rw [frK, frK, nkX, Bool.and_eq_true, Bool.and_eq_true, this, List.append_eq_nil_iff, decide_eq_true_eq, decide_eq_true_eq]
  by_cases h : kd = 6
  ·subst h; simp
  ·rw [if_neg h]
   simp only [List.mem_cons, h, false_or, true_and, and_assoc]
theorem P5 : ∀ l : List GExpr, Zl [6, 7, 10, 11, 12] l = true ↔ Zl [7, 10, 11, 12] l = true ∧ J4 6 l = []
 | [] => by simp [Zl, J4]
 | v :: l => by
  have h1 := LC v
  have h2 := P5 l
  rw [Zl, Zl, J4, Bool.and_eq_true, Bool.and_eq_true, h1, h2, List.append_eq_nil_iff]
  constructor
  ·rintro ⟨⟨a, b⟩, c, d⟩; exact ⟨⟨a, c⟩, b, d⟩
  ·rintro ⟨⟨a, c⟩, b, d⟩; exact ⟨⟨a, b⟩, c, d⟩
end
def mV5 : GValue := .mk 5 0 [] [] []
theorem NU : zp mV5 = true := by
 rw [xN]
 simp [mV5, shV, zO, ptV, yW, GValue.Kind, GValue.N, GValue.S, GValue.K, GValue.L, xq]
def XZ : GEnv := .mk mV5 mV5 zV zV zV
theorem Qk : NR XZ := ⟨NU, NU, yG, yG, yG⟩
def Ru (w : Bool) (cz : GValue → GValue → Bool) (d : Nat) (e : GExpr) : Prop :=
 frK [6, 7, 10, 11, 12] e = true ∧ (evR w cz XZ d e).2 = 0 ∧ (evR w cz XZ d e).1.Kind ≠ 4 ∧ (evR w cz XZ d e).1.Kind ≠ 5 ∧ (evR w cz XZ d e).1.Kind ≠ 6
open Classical in
def smR (w : Bool) (cz : GValue → GValue → Bool) : Nat → GExpr → GExpr
 | 0, e => e
 | d + 1, e => if Ru w cz (d + 1) e then xOf (evR w cz XZ (d + 1) e).1 else .mk e.Kind e.N e.S e.K (e.Kids.map (smR w cz d))
theorem zf5 {α β : Type} {f g : α → β} {l : List α} (h : ∀ x ∈ l, f x = g x) : l.map f = l.map g := List.map_congr_left h
theorem Ao {cz cz' : GValue → GValue → Bool} (hc : ∀ a b, zp a = true → zp b = true → cz a b = cz' a b) {d : Nat} {e : GExpr} (h : frX d e = true) : (Ru true cz d e ↔ Ru false cz' d e) ∧ (Ru true cz d e → evR true cz XZ d e = evR false cz' XZ d e) := by
 unfold Ru
 rcases (zf3 Qk hc d e h).cases with ⟨h0, he⟩ | ⟨h1, h2⟩
 ·rw [<- he]; exact ⟨Iff.rfl, fun _ => rfl⟩
 ·exact ⟨⟨fun h => absurd h.2.1 h1, fun h => absurd h.2.1 h2⟩, fun h => absurd h.2.1 h1⟩
theorem zf6 {cz cz' : GValue → GValue → Bool} (hc : ∀ a b, zp a = true → zp b = true → cz a b = cz' a b) : ∀ (d : Nat) (e : GExpr), frX d e = true → smR true cz d e = smR false cz' d e := by
 intro d
 induction d with
 | zero => intro e h; rfl
 | succ d ih =>
  intro e h
  have hr := Ao hc h
  rw [smR, smR]
  by_cases c : Ru true cz (d + 1) e
  ·rw [if_pos c, if_pos (hr.1.1 c), hr.2 c]
  ·rw [if_neg c, if_neg (fun e => c (hr.1.2 e)), zf5 fun x hx => ih x ((Xj h).2.2.2 x hx)]
theorem Ap {f : GExpr → GExpr} {k : Nat} : ∀ {l : List GExpr}, (∀ x ∈ l, xsz (f x) <= xsz x + k * ptX x) → z8 (l.map f) <= z8 l + k * wG l := by
 intro l
 induction l with
 | nil => intro _; simp [z8]
 | cons x l ih =>
  intro h
  have h1 := ih fun y hy => h y (by simp [hy])
  have h2 := h x (by simp)
  simp only [List.map_cons, z8, wG, Nat.mul_add]
  omega
theorem zgw {w : Bool} {cz : GValue → GValue → Bool} : ∀ (d : Nat) (e : GExpr), frX d e = true → xsz (smR w cz d e) <= xsz e + 2500 * ptX e := by
 intro d
 induction d with
 | zero => intro e h; rw [smR]; omega
 | succ d ih =>
  intro e h
  have hp := PG e
  rw [smR]
  split
  ·have := Hn (evR w cz XZ (d + 1) e).1
   have := vc (w7 (w := w) (cz := cz) Qk (d + 1) e h)
   omega
  ·have := Ap (k := 2500) fun x hx => ih x ((Xj h).2.2.2 x hx)
   have he := xv e
   simp only [xsz]
   omega
theorem P6 {z : Int} (h : 0 <= z) : zH z = some z.toNat := by unfold zH; rw [if_pos h]
theorem NV (b : Bool) : jo b = some (flV b) := by cases b <;> rfl
theorem NW (b : Bool) : kC b = some (flV b) := by cases b <;> rfl
theorem zf7 : z6 = some uV := rfl
theorem zf8 : yf = some uV := rfl
theorem zi3 : GValue.mk 0 0 [] [] [] = zV := rfl
theorem KJ {v : GValue} (h : zp v = true) : v.S.length <= 1200 ∧ v.K.length <= 1200 ∧ v.L.length <= 1200 := by
 have := vc h
 have := jz v
 have := qJ v.K
 have := qK v.L
 exact ⟨by omega, by omega, by omega⟩
theorem RH {a : GValue} {k : List UInt8} (h : zp a = true) : j9 a k = some (XW a k) := by
 have hl := KJ h
 unfold j9 XW
 by_cases h6 : a.Kind = 6
 ·rw [if_pos h6, if_pos h6]; rfl
 rw [if_neg h6, if_neg h6]
 by_cases h5 : a.Kind = 5
 ·rw [if_pos h5, if_pos h5]
  unfold jn
  rw [if_pos (by omega), Option.bind_some]
  by_cases hm : k ∈ a.K
  ·have hx := P3 a.K k 0 hm
   have h5L := (M5 h h5).1
   rw [if_neg (by omega), P6 (by omega), Option.bind_some, if_pos hm, (Wx (l := a.L) (i := (ixB a.K k 0).toNat) (by omega)).2]; rfl
  ·rw [OA _ _ _ hm, if_neg hm]; rfl
 ·rw [if_neg h5, if_neg h5]; rfl
theorem zc8 {K : List (List UInt8)} (h : Asc K) {i j : Nat} {x : List UInt8} (hi : K[i]? = some x) (hj : K[j]? = some x) : i = j := by
 obtain ⟨hi', ei⟩ := List.getElem?_eq_some_iff.1 hi
 obtain ⟨hj', ej⟩ := List.getElem?_eq_some_iff.1 hj
 rcases Nat.lt_trichotomy i j with hlt | he | hlt
 ·have := h i j hj' hlt
  rw [ei, ej, QC] at this; cases this
 ·exact he
 ·have := h j i hi' hlt
  rw [ei, ej, QC] at this; cases this
theorem RI {a : GValue} {k : List UInt8} (h : zp a = true) : jD a k = some (XW a k) := by
 have hl := KJ h
 unfold jD XW
 by_cases h6 : a.Kind = 6
 ·rw [if_pos h6, if_pos h6]; rfl
 rw [if_neg h6, if_neg h6]
 by_cases h5 : a.Kind = 5
 ·rw [if_pos h5, if_pos h5]
  unfold qX
  have hasc := (NA h h5).1
  obtain ⟨c, hp, hb⟩ := Ps (a := a.K) (x := k) (by omega) hasc
  rw [hb, Option.bind_some]
  dsimp only
  rw [Option.bind_some]
  by_cases hm : k ∈ a.K
  ·have hx := P3 a.K k 0 hm
   have h5L := (M5 h h5).1
   have hc := (QD.mem hasc hp).2 hm
   have he := zc8 hasc hc hx.2.2
   rw [Nat.sub_zero] at he
   subst he
   rw [if_pos hm, decide_eq_true hm]
   dsimp only
   rw [zl, Option.bind_some, (Wx (l := a.L) (i := (ixB a.K k 0).toNat) (by omega)).2]; rfl
  ·rw [if_neg hm, decide_eq_false hm]; rfl
 ·rw [if_neg h5, if_neg h5]; rfl
theorem zhv (r : GValue × Int) : ((some r : Option (GValue × Int)).bind fun x => some (x.1, x.2)) = some r := rfl
theorem Aq {a b : GValue} (a4 : a.Kind = 4) (b2 : b.Kind = 2) : XB a b = if 0 <= b.N ∧ b.N < a.L.length then (ag a.L b.N.toNat, 0) else (zV, 3) := by
 unfold XB
 rw [if_neg (by omega), if_neg (by omega), if_neg (by omega), if_pos ⟨a4, b2⟩]
theorem Ar {a b : GValue} (h : zp a = true) (hb : zp b = true) : YE a b = some (XB a b) := by
 have hl := KJ h
 unfold YE
 by_cases a4 : a.Kind = 4
 ·rw [if_pos a4]
  by_cases b2 : b.Kind = 2
  ·rw [if_pos b2, Aq a4 b2]
   by_cases h0 : b.N < 0
   ·rw [if_pos h0, if_neg (by omega)]; rfl
   rw [if_neg h0]
   by_cases h1 : (a.L.length : Int) <= b.N
   ·rw [if_pos h1, if_neg (by omega)]; rfl
   ·rw [if_neg h1, P6 (by omega), Option.bind_some, if_pos (by omega), (Wx (l := a.L) (i := b.N.toNat) (by omega)).2]; rfl
  ·unfold XB
   rw [if_neg b2]
   by_cases b3 : b.Kind = 3
   ·rw [if_pos b3, if_neg (by omega), if_neg (by omega), if_neg (by omega), if_neg (by omega)]; rfl
   rw [if_neg b3]
   by_cases b6 : b.Kind = 6
   ·rw [if_pos b6, if_neg (by omega), if_pos (by omega)]; rfl
   ·rw [if_neg b6, if_pos (by omega)]; rfl
 unfold XB
 rw [if_neg a4]
 by_cases a5 : a.Kind = 5
 ·rw [if_pos a5]
  by_cases b2 : b.Kind = 2
  ·rw [if_pos b2, if_neg (by omega), if_neg (by omega), if_neg (by omega), if_neg (by omega)]; rfl
  rw [if_neg b2]
  by_cases b3 : b.Kind = 3
  ·rw [if_pos b3, if_neg (by omega), if_neg (by omega), if_pos ⟨a5, b3⟩, RH h]; rfl
  rw [if_neg b3]
  by_cases b6 : b.Kind = 6
  ·rw [if_pos b6, if_neg (by omega), if_pos (by omega)]; rfl
  ·rw [if_neg b6, if_pos (by omega)]; rfl
 rw [if_neg a5]
 by_cases a6 : a.Kind = 6
 ·rw [if_pos a6]
  by_cases b2 : b.Kind = 2
  ·rw [if_pos b2, if_neg (by omega), if_pos (by omega)]; rfl
  rw [if_neg b2]
  by_cases b3 : b.Kind = 3
  ·rw [if_pos b3, if_neg (by omega), if_pos (by omega)]; rfl
  rw [if_neg b3]
  by_cases b6 : b.Kind = 6
  ·rw [if_pos b6, if_neg (by omega), if_pos (by omega)]; rfl
  ·rw [if_neg b6, if_pos (by omega)]; rfl
 ·rw [if_neg a6, if_pos (by omega)]; rfl
theorem DA (n a b : Int) : xH n a b = some (decide (a <= n ∧ n <= b)) := by
 unfold xH
 by_cases h : a <= n
 ·rw [if_pos h]; simp [h]
 ·rw [if_neg h]; simp [h]
theorem As {a b : GValue} (h : zp a = true) (hb : zp b = true) : Wh a b = some (XB a b) := by
 have hl := KJ h
 unfold Wh XB
 by_cases a4 : a.Kind = 4
 ·rw [if_pos a4]
  by_cases b2 : b.Kind = 2
  ·rw [if_pos b2, if_neg (by omega), if_neg (by omega), if_neg (by omega), if_pos ⟨a4, b2⟩, DA, Option.bind_some, yu (by omega) (by omega)]
   by_cases h0 : 0 <= b.N ∧ b.N < a.L.length
   ·rw [if_pos h0, decide_eq_true (by omega)]
    dsimp only
    rw [P6 (by omega), Option.bind_some, (Wx (l := a.L) (i := b.N.toNat) (by omega)).2]; rfl
   ·rw [if_neg h0, decide_eq_false (by omega)]; rfl
  ·rw [if_neg b2]
   by_cases b3 : b.Kind = 3
   ·rw [if_pos b3, if_neg (by omega), if_neg (by omega), if_neg (by omega), if_neg (by omega)]; rfl
   rw [if_neg b3]
   by_cases b6 : b.Kind = 6
   ·rw [if_pos b6, if_neg (by omega), if_pos (by omega)]; rfl
   ·rw [if_neg b6, if_pos (by omega)]; rfl
 rw [if_neg a4]
 by_cases a5 : a.Kind = 5
 ·rw [if_pos a5]
  by_cases b2 : b.Kind = 2
  ·rw [if_pos b2, if_neg (by omega), if_neg (by omega), if_neg (by omega), if_neg (by omega)]; rfl
  rw [if_neg b2]
  by_cases b3 : b.Kind = 3
  ·rw [if_pos b3, if_neg (by omega), if_neg (by omega), if_pos ⟨a5, b3⟩, RI h]; rfl
  rw [if_neg b3]
  by_cases b6 : b.Kind = 6
  ·rw [if_pos b6, if_neg (by omega), if_pos (by omega)]; rfl
  ·rw [if_neg b6, if_pos (by omega)]; rfl
 rw [if_neg a5]
 by_cases a6 : a.Kind = 6
 ·rw [if_pos a6]
  by_cases b2 : b.Kind = 2
  ·rw [if_pos b2, if_neg (by omega), if_pos (by omega)]; rfl
  rw [if_neg b2]
  by_cases b3 : b.Kind = 3
  ·rw [if_pos b3, if_neg (by omega), if_pos (by omega)]; rfl
  rw [if_neg b3]
  by_cases b6 : b.Kind = 6
  ·rw [if_pos b6, if_neg (by omega), if_pos (by omega)]; rfl
  ·rw [if_neg b6, if_pos (by omega)]; rfl
 ·rw [if_neg a6, if_pos (by omega)]; rfl
theorem U1 {v : GValue} (h : vsz v <= 2 ^ 20) : xg v = some (XC v) := by
 unfold xg XC
 rw [Aa h, Option.bind_some]
 cases zp v <;> rfl
theorem RJ (n : Int) : xg (.mk 2 n [] [] []) = some (J3 n) := by
 rw [U1 (by simp [vsz, qe, bsz])]
 unfold XC J3
 rw [show GValue.mk 2 n [] [] [] = iV n from rfl, XY]
 by_cases h : -1000000000000 <= n ∧ n <= 1000000000000
 ·rw [if_pos h, decide_eq_true h, if_pos rfl]
 ·rw [if_neg h, decide_eq_false h]; rfl
theorem zhw {n : Int} (h : -1000000000000 <= n ∧ n <= 1000000000000) : w64 n = n := yu (by omega) (by omega)
theorem RK (n : Int) : ((xH n (-1000000000000) 1000000000000).bind fun r => match r with
  | true => some (GValue.mk 2 n [] [] [], (0 : Int))
  | false => some (GValue.mk 0 0 [] [] [], 4)) = some (J3 n) := by
 rw [DA, Option.bind_some]
 unfold J3
 by_cases h : -1000000000000 <= n ∧ n <= 1000000000000
 ·rw [if_pos h, decide_eq_true h]; rfl
 ·rw [if_neg h, decide_eq_false h]; rfl
theorem P7 (a : Int) : -1000000000000 <= (1000000000000 : Int).tdiv a ∧ (1000000000000 : Int).tdiv a <= 1000000000000 := by
 have h3 : ((1000000000000 : Int).tdiv a).natAbs <= 1000000000000 := by
  rw [Int.natAbs_tdiv]; exact Nat.div_le_self _ _
 generalize (1000000000000 : Int).tdiv a = r at h3 ⊢
 rcases Int.natAbs_eq r with e | e <;> omega
theorem DB {n : Int} (h : -1000000000000 <= n ∧ n <= 1000000000000) : (if n < w64 (0 - n) then w64 (0 - n) else n) = xc n := by
 unfold xc
 rw [yu (by omega) (by omega)]
 split <;> split <;> omega
theorem zc9 {n : Int} (h : -1000000000000 <= n ∧ n <= 1000000000000) : 0 <= xc n ∧ xc n <= 1000000000000 := by
 unfold xc
 split <;> omega
theorem Hj {n : Int} (h : n ≠ 0) : xc n ≠ 0 := by
 unfold xc
 split <;> omega
theorem zda {a b : Int} (ha : -1000000000000 <= a ∧ a <= 1000000000000) (hb : -1000000000000 <= b ∧ b <= 1000000000000) (h0 : a ≠ 0) : X0 a b = some (decide (xc b > (1000000000000 : Int).tdiv (xc a))) := by
 unfold X0
 have ht := P7 (xc a)
 rw [yu (x := 0 - a) (by omega) (by omega), yu (x := 0 - b) (by omega) (by omega)]
 unfold xc at ht ⊢
 by_cases h1 : a < 0
 ·rw [if_pos h1] at ht
  rw [if_pos h1, if_pos h1]
  rw [show (0 : Int) - a = -a by omega, yu (by omega) (by omega)]
  by_cases h2 : b < 0
  ·rw [if_pos h2, if_pos h2, if_pos (by omega), show (0 : Int) - b = -b by omega]
  ·rw [if_neg h2, if_neg h2, if_pos (by omega)]
 ·rw [if_neg h1] at ht
  rw [if_neg h1, if_neg h1, yu (x := (1000000000000 : Int).tdiv a) (by omega) (by omega)]
  by_cases h2 : b < 0
  ·rw [if_pos h2, if_pos h2, if_pos h0, show (0 : Int) - b = -b by omega]
  ·rw [if_neg h2, if_neg h2, if_pos h0]
theorem Jn {a b : Int} (ha : -1000000000000 <= a ∧ a <= 1000000000000) (h : ¬ (a ≠ 0 ∧ xc b > (1000000000000 : Int).tdiv (xc a))) : w64 (a * b) = a * b := by
 by_cases h0 : a = 0
 ·subst h0; rw [Int.zero_mul]; rfl
 have h1 : xc b <= (1000000000000 : Int).tdiv (xc a) := by
  by_cases hb : xc b <= (1000000000000 : Int).tdiv (xc a)
  ·exact hb
  ·exact absurd ⟨h0, by omega⟩ h
 have hp : 0 < xc a := by have := zc9 ha; have := Hj h0; omega
 have h2 : xc b * xc a <= 1000000000000 := by
  have h3 : (1000000000000 : Int).tdiv (xc a) = 1000000000000 / xc a := Int.tdiv_eq_ediv_of_nonneg (by decide)
  rw [h3] at h1
  calc xc b * xc a <= (1000000000000 / xc a) * xc a := Int.mul_le_mul_of_nonneg_right h1 (by omega)
   _ <= 1000000000000 := Int.ediv_mul_le _ (by omega)
 have h4 : (a * b).natAbs = (xc b * xc a).natAbs := by
  rw [Int.natAbs_mul, Int.natAbs_mul, Nat.mul_comm]
  congr 1
  ·unfold xc; split <;> omega
  ·unfold xc; split <;> omega
 have h5 : 0 <= xc b * xc a := Int.mul_nonneg (by unfold xc; split <;> omega) (by omega)
 exact yu (by omega) (by omega)
theorem LD {k : Int} (hk : k ≠ 16 ∧ k ≠ 17) (a b : Int) : Wk k a b = if a ≠ 0 ∧ xc b > (1000000000000 : Int).tdiv (xc a) then (zV, 4) else J3 (a * b) := by
 unfold Wk
 rw [if_neg hk.1, if_neg hk.2]
theorem U2 {k a b : Int} (ha : -1000000000000 <= a ∧ a <= 1000000000000) (hb : -1000000000000 <= b ∧ b <= 1000000000000) (hk : k = 15 ∨ k = 16 ∨ k = 17) : jR k a b = some (Wk k a b) := by
 unfold jR
 by_cases k15 : k = 15
 ·rw [if_pos k15, LD (by omega)]
  by_cases h0 : a = 0
  ·rw [if_pos h0, if_neg (fun h => h.1 h0), Jn ha (fun h => h.1 h0), RJ]; rfl
  ·rw [if_neg h0, if_neg (show ¬ (1000000000000 : Int) < b by omega), if_neg (show ¬ b < -1000000000000 by omega), if_neg (show ¬ (1000000000000 : Int) < a by omega), zda ha hb h0, Option.bind_some]
   by_cases hg : xc b > (1000000000000 : Int).tdiv (xc a)
   ·rw [decide_eq_true hg, if_pos ⟨h0, hg⟩]; rfl
   ·rw [decide_eq_false hg, if_neg (fun h => hg h.2)]
    dsimp only
    rw [Jn ha (fun h => hg h.2), RJ]; rfl
 unfold Wk
 rw [if_neg k15]
 by_cases k16 : k = 16
 ·rw [if_pos k16, if_pos k16, yu (by omega) (by omega), RJ]; rfl
 ·rw [if_neg k16, if_neg k16, if_pos (by omega), yu (by omega) (by omega), RJ]; rfl
theorem At (a b : GValue) : jp a b 2 = some (if ¬ (a.Kind = 2 ∨ a.Kind = 6) ∨ ¬ (b.Kind = 2 ∨ b.Kind = 6) then (false, 2) else if a.Kind = 6 ∨ b.Kind = 6 then (false, 0) else (true, 0)) := by
 unfold jp
 by_cases a2 : a.Kind = 2
 ·rw [if_pos a2]
  by_cases b2 : b.Kind = 2
  ·rw [if_pos b2, if_neg (by omega), if_neg (by omega)]
  rw [if_neg b2]
  by_cases b6 : b.Kind = 6
  ·rw [if_pos b6, if_neg (by omega), if_pos (by omega)]
  ·rw [if_neg b6, if_pos (by omega)]
 rw [if_neg a2]
 by_cases a6 : a.Kind = 6
 ·rw [if_pos a6]
  by_cases b2 : b.Kind = 2
  ·rw [if_pos b2, if_neg (by omega), if_pos (by omega)]
  rw [if_neg b2]
  by_cases b6 : b.Kind = 6
  ·rw [if_pos b6, if_neg (by omega), if_pos (by omega)]
  ·rw [if_neg b6, if_pos (by omega)]
 ·rw [if_neg a6, if_pos (by omega)]
def czS (a b : GValue) : Bool := decide (kU a b = some 0)
def czI (a b : GValue) : Bool := decide (we a b = some 0)
theorem zgx (a b : GValue) (ha : zp a = true) (hb : zp b = true) : czI a b = czS a b := by
 obtain ⟨c, h1, h2⟩ := Pd ((xN a).1 ha).1 ((xN b).1 hb).1
 unfold czI czS
 rw [h1, h2]
theorem Xc {a b : GValue} (ha : zp a = true) (hb : zp b = true) : ∃ c, kU a b = some c ∧ we a b = some c ∧ czS a b = decide (c = 0) ∧ czI a b = decide (c = 0) := by
 obtain ⟨c, h1, h2⟩ := Pd ((xN a).1 ha).1 ((xN b).1 hb).1
 refine ⟨c, h1, h2, ?_, ?_⟩
 ·unfold czS; rw [h1]; simp
 ·unfold czI; rw [h2]; simp
theorem zdb {k : Int} {a b : GValue} (ha : zp a = true) (hb : zp b = true) (hk : 15 <= k ∧ k <= 19) : X2 k a b = some (XX czS k a b) := by
 have sa := vc ha
 have sb := vc hb
 unfold X2
 rw [At, Option.bind_some]
 unfold XX
 by_cases k18 : k = 18
 ·rw [if_neg (by omega), if_neg (by omega), if_neg (by omega), if_neg (by omega), if_pos k18]
  unfold j3
  rw [if_pos (by omega), if_pos (by omega), Option.bind_some]
  obtain ⟨c, h1, _, h3, _⟩ := Xc ha hb
  cases h4 : knV a with
  | false => rw [if_neg (by simp)]; rfl
  | true =>
   dsimp only
   rw [Option.bind_some]
   cases h5 : knV b with
   | false => rw [if_neg (by simp)]; rfl
   | true =>
    dsimp only
    rw [h1, Option.bind_some, NV, Option.bind_some, if_pos ⟨rfl, rfl⟩, h3]
 rw [if_neg k18]
 by_cases hc : ¬ (a.Kind = 2 ∨ a.Kind = 6) ∨ ¬ (b.Kind = 2 ∨ b.Kind = 6)
 ·rw [if_pos hc, if_pos hc]
  dsimp only
  by_cases k15 : k = 15
  ·rw [if_pos k15]; rfl
  by_cases k16 : k = 16
  ·rw [if_neg k15, if_pos k16]; rfl
  by_cases k17 : k = 17
  ·rw [if_neg k15, if_neg k16, if_pos k17]; rfl
  ·rw [if_neg k15, if_neg k16, if_neg k17, if_pos (by omega)]; rfl
 rw [if_neg hc, if_neg hc]
 by_cases h6 : a.Kind = 6 ∨ b.Kind = 6
 ·rw [if_pos h6, if_pos h6]
  dsimp only
  by_cases k15 : k = 15
  ·rw [if_pos k15]; rfl
  by_cases k16 : k = 16
  ·rw [if_neg k15, if_pos k16]; rfl
  by_cases k17 : k = 17
  ·rw [if_neg k15, if_neg k16, if_pos k17]; rfl
  ·rw [if_neg k15, if_neg k16, if_neg k17, if_pos (by omega)]; rfl
 rw [if_neg h6, if_neg h6]
 dsimp only
 have na := Qe ha (by omega)
 have nb := Qe hb (by omega)
 by_cases k15 : k = 15
 ·rw [if_pos k15, if_pos rfl, U2 na nb (by omega), if_neg (by omega)]; rfl
 by_cases k16 : k = 16
 ·rw [if_neg k15, if_pos k16, if_pos rfl, U2 na nb (by omega), if_neg (by omega)]; rfl
 by_cases k17 : k = 17
 ·rw [if_neg k15, if_neg k16, if_pos k17, if_pos rfl, U2 na nb (by omega), if_neg (by omega)]; rfl
 ·rw [if_neg k15, if_neg k16, if_neg k17, if_pos (by omega), Option.bind_some]
  dsimp only
  rw [if_pos rfl, NV, if_pos (by omega)]; rfl
theorem zdc {k : Int} {a b : GValue} {cz : GValue → GValue → Bool} (a2 : a.Kind = 2) (b2 : b.Kind = 2) (k18 : k ≠ 18) : XX cz k a b = if k = 19 then (flV (decide (a.N < b.N)), 0) else Wk k a.N b.N := by
 unfold XX
 rw [if_neg k18, if_neg (by omega), if_neg (by omega)]
theorem zdd {k : Int} {a b : GValue} (ha : zp a = true) (hb : zp b = true) (hk : 15 <= k ∧ k <= 19) (k18 : k ≠ 18) (cz : GValue → GValue → Bool) : YL k a b = some (XX cz k a b) := by
 unfold YL
 by_cases a2 : a.Kind = 2
 ·rw [if_pos a2]
  by_cases b2 : b.Kind = 2
  ·rw [if_pos b2, zdc a2 b2 k18]
   have na := Qe ha a2
   have nb := Qe hb b2
   by_cases k19 : k = 19
   ·rw [if_pos k19, if_pos k19, NW]; rfl
   rw [if_neg k19, if_neg k19]
   by_cases k16 : k = 16
   ·unfold Wk
    rw [if_pos k16, if_pos k16, yu (by omega) (by omega)]; exact RK _
   rw [if_neg k16]
   by_cases k17 : k = 17
   ·unfold Wk
    rw [if_pos k17, if_neg k16, if_pos k17, yu (by omega) (by omega)]; exact RK _
   rw [if_neg k17, LD ⟨k16, k17⟩, DB na, DB nb]
   have ht := P7 (xc a.N)
   by_cases h0 : a.N = 0
   ·rw [if_pos h0, Jn na (fun h => h.1 h0), if_neg (fun h => h.1 h0)]; exact RK _
   ·rw [if_neg h0, if_pos (Hj h0), yu (x := (1000000000000 : Int).tdiv _) (by omega) (by omega)]
    by_cases hg : xc b.N > (1000000000000 : Int).tdiv (xc a.N)
    ·rw [if_pos hg, if_pos ⟨h0, hg⟩]; rfl
    ·rw [if_neg hg, if_neg (fun h => hg h.2), Jn na (fun h => hg h.2)]; exact RK _
  unfold XX
  rw [if_neg k18, if_neg b2]
  by_cases b6 : b.Kind = 6
  ·rw [if_pos b6, if_neg (by omega), if_pos (by omega)]; rfl
  ·rw [if_neg b6, if_pos (by omega)]; rfl
 unfold XX
 rw [if_neg k18, if_neg a2]
 by_cases a6 : a.Kind = 6
 ·rw [if_pos a6]
  by_cases b2 : b.Kind = 2
  ·rw [if_pos b2, if_neg (by omega), if_pos (by omega)]; rfl
  rw [if_neg b2]
  by_cases b6 : b.Kind = 6
  ·rw [if_pos b6, if_neg (by omega), if_pos (by omega)]; rfl
  ·rw [if_neg b6, if_pos (by omega)]; rfl
 ·rw [if_neg a6, if_pos (by omega)]; rfl
theorem NX {k : List (List UInt8)} (h : xq k 0 k.length = true) : bsz k <= 9 * k.length := by
 have hk : ∀ s ∈ k, s.length <= 8 := fun s hs => by
  obtain ⟨j, hj, rfl⟩ := List.mem_iff_getElem.1 hs
  have := RL h hj
  unfold kOk at this
  rw [zr hj] at this
  simp only [Bool.and_eq_true] at this
  have := this.1
  unfold xR at this
  rw [Bool.and_eq_true, decide_eq_true_eq] at this
  omega
 clear h
 induction k with
 | nil => simp [bsz]
 | cons x k ih =>
  have := ih fun y hy => hk y (by simp [hy])
  have := hk x (by simp)
  rw [Xa, List.length_cons]; omega
theorem NY {l : List GValue} (h : ∀ v ∈ l, zp v = true) : qe l <= 1201 * l.length := by
 induction l with
 | nil => simp [qe]
 | cons x l ih =>
  have := ih fun y hy => h y (by simp [hy])
  have := vc (h x (by simp))
  simp only [qe, List.length_cons]; omega
section
variable {w : Bool} {cz : GValue → GValue → Bool} {v : GEnv} {d : Nat} {e : GExpr}
theorem ZH (h : e.Kind <= 3) : evR w cz v (d + 1) e = (.mk e.Kind e.N e.S [] [], 0) := by rw [evR, if_pos h]
theorem zbh (h : e.Kind = 6) : evR w cz v (d + 1) e = XW v.Locals e.S := by rw [evR, if_neg (by omega), if_pos h]
theorem zbi (h : e.Kind = 7) : evR w cz v (d + 1) e = XW v.Res e.S := by rw [evR, if_neg (by omega), if_neg (by omega), if_pos h]
theorem DC (h : e.Kind = 10) : evR w cz v (d + 1) e = (v.Index, 0) := by rw [evR, if_neg (by omega), if_neg (by omega), if_neg (by omega), if_pos h]
theorem DD (h : e.Kind = 11) : evR w cz v (d + 1) e = (v.Key, 0) := by rw [evR, if_neg (by omega), if_neg (by omega), if_neg (by omega), if_neg (by omega), if_pos h]
theorem DE (h : e.Kind = 12) : evR w cz v (d + 1) e = (v.Val, 0) := by rw [evR, if_neg (by omega), if_neg (by omega), if_neg (by omega), if_neg (by omega), if_neg (by omega), if_pos h]
theorem Hk (h : e.Kind = 20 ∨ e.Kind = 21) : evR w cz v (d + 1) e = kK (evR w cz v d (kd e.Kids 0)) fun a => ZG (if e.Kind = 21 then 1 else 0) a (evR w cz v d (kd e.Kids 1)) := by
 rw [evR, if_neg (by omega), if_neg (by omega), if_neg (by omega), if_neg (by omega), if_neg (by omega), if_neg (by omega), if_pos h]
theorem DF (h : e.Kind = 22) : evR w cz v (d + 1) e = kK (evR w cz v d (kd e.Kids 0)) fun a => ifR a (evR w cz v d (kd e.Kids 1)) (evR w cz v d (kd e.Kids 2)) := by
 rw [evR, if_neg (by omega), if_neg (by omega), if_neg (by omega), if_neg (by omega), if_neg (by omega), if_neg (by omega), if_neg (by omega), if_pos h]
theorem DG (h : e.Kind = 4 ∨ e.Kind = 5 ∨ e.Kind = 8 ∨ e.Kind = 9 ∨ (13 <= e.Kind ∧ e.Kind <= 19) ∨ e.Kind = 23) : evR w cz v (d + 1) e = if (evL (evR w cz v d) e.Kids).2 = 0 then opR w cz e (evL (evR w cz v d) e.Kids).1 else (zV, (evL (evR w cz v d) e.Kids).2) := by
 rw [evR, if_neg (by omega), if_neg (by omega), if_neg (by omega), if_neg (by omega), if_neg (by omega), if_neg (by omega), if_neg (by omega), if_neg (by omega)]
theorem zbj {l : List GValue} (h : e.Kind = 4) : opR w cz e l = XC (.mk 4 0 [] [] l) := by unfold opR; rw [if_pos h]
theorem zbk {l : List GValue} (h : e.Kind = 5) : opR w cz e l = XC (.mk 5 0 [] e.K l) := by unfold opR; rw [if_neg (by omega), if_pos h]
theorem zbl {l : List GValue} (h : e.Kind = 8) : opR w cz e l = XW (ag l 0) e.S := by unfold opR; rw [if_neg (by omega), if_neg (by omega), if_pos h]
theorem zbm {l : List GValue} (h : e.Kind = 9) : opR w cz e l = XB (ag l 0) (ag l 1) := by unfold opR; rw [if_neg (by omega), if_neg (by omega), if_neg (by omega), if_pos h]
theorem DH {l : List GValue} (h : e.Kind = 13) : opR w cz e l = OW (ag l 0) := by unfold opR; rw [if_neg (by omega), if_neg (by omega), if_neg (by omega), if_neg (by omega), if_pos h]
theorem DI {l : List GValue} (h : e.Kind = 14) : opR w cz e l = OX (ag l 0) := by unfold opR; rw [if_neg (by omega), if_neg (by omega), if_neg (by omega), if_neg (by omega), if_neg (by omega), if_pos h]
theorem DJ {l : List GValue} (h : e.Kind = 23) : opR w cz e l = if w = true then Wl e.S l else Yq e.S l := by unfold opR; rw [if_neg (by omega), if_neg (by omega), if_neg (by omega), if_neg (by omega), if_neg (by omega), if_neg (by omega), if_pos h]
theorem OY {l : List GValue} (h : 15 <= e.Kind ∧ e.Kind <= 19) : opR w cz e l = XX cz e.Kind (ag l 0) (ag l 1) := by unfold opR; rw [if_neg (by omega), if_neg (by omega), if_neg (by omega), if_neg (by omega), if_neg (by omega), if_neg (by omega), if_neg (by omega)]
end
theorem P8 {e : GExpr} (h : jI e) : (e.Kind = 0 → e.N = 0 ∧ e.S = []) ∧ (e.Kind = 1 → e.S = []) ∧ (e.Kind = 2 → e.S = []) ∧ (e.Kind = 3 → e.N = 0) := by
 unfold jI Xb at h
 obtain ⟨h0, h1, h2, h3, h4, h5, h6, h7, h8, h9, h10⟩ := h
 refine ⟨fun k => ⟨h6 (by omega) (by omega), ?_⟩, fun k => ?_, fun k => ?_, fun k => h6 (by omega) (by omega)⟩
 all_goals exact List.length_eq_zero_iff.1 (by have := h10 (by omega) (by omega) (by omega) (by omega) (by omega); omega)
theorem NZ {e : GExpr} (h : jI e) : 0 <= e.Kind ∧ e.Kind <= 23 := h.1
theorem KK {k : Int} {a : GValue} {s : GValue × Int} (h : ¬ (a.Kind = 1 ∨ a.Kind = 6)) : ZG k a s = (zV, 2) := by unfold ZG; rw [if_pos h]
theorem Jo {k : Int} {a : GValue} {s : GValue × Int} (h : a.Kind = 1) (hn : a.N = k) : ZG k a s = (a, 0) := by unfold ZG; rw [if_neg (by omega), if_pos ⟨h, hn⟩]
theorem KM {k : Int} {a : GValue} {s : GValue × Int} (h : a.Kind = 1) (hn : a.N ≠ k) : ZG k a s = if s.2 = 0 then (if s.1.Kind = 1 then (s.1, 0) else if s.1.Kind = 6 then (s.1, 0) else (zV, 2)) else (zV, s.2) := by
 unfold ZG
 rw [if_neg (by omega), if_neg (fun h => hn h.2)]
 by_cases hs : s.2 = 0
 ·rw [if_neg (fun h => h hs), if_pos hs]
  by_cases b1 : s.1.Kind = 1
  ·rw [if_neg (by omega), if_neg (by omega), if_pos b1]
  by_cases b6 : s.1.Kind = 6
  ·rw [if_neg (by omega), if_neg (by omega), if_neg b1, if_pos b6]
  ·rw [if_pos (by omega), if_neg b1, if_neg b6]
 ·rw [if_pos hs, if_neg hs]
theorem KN {k : Int} {a : GValue} {s : GValue × Int} (h : a.Kind = 6) : ZG k a s = if s.2 = 0 then (if s.1.Kind = 1 then (if s.1.N = k then (s.1, 0) else (uV, 0)) else if s.1.Kind = 6 then (uV, 0) else (zV, 2)) else (zV, s.2) := by
 unfold ZG
 rw [if_neg (by omega), if_neg (by omega)]
 by_cases hs : s.2 = 0
 ·rw [if_neg (fun h => h hs), if_pos hs]
  by_cases b1 : s.1.Kind = 1
  ·rw [if_neg (by omega), if_pos b1]
   by_cases n : s.1.N = k
   ·rw [if_neg (by omega), if_pos n]
   ·rw [if_pos (by omega), if_neg n]
  by_cases b6 : s.1.Kind = 6
  ·rw [if_neg (by omega), if_pos (by omega), if_neg b1, if_pos b6]
  ·rw [if_pos (by omega), if_neg b1, if_neg b6]
 ·rw [if_pos hs, if_neg hs]
theorem zde {G : GExpr → GEnv → Option (GValue × Int)} {e : GExpr} {v : GEnv} {r s : GValue × Int} (hk : e.Kids.length = 2) (h0 : G (kd e.Kids 0) v = some r) (h1 : G (kd e.Kids 1) v = some s) :
  Yi G e v = some (kK r fun a => ZG (if e.Kind = 21 then 1 else 0) a s) := by
 obtain ⟨a, c⟩ := r
 obtain ⟨b, c'⟩ := s
 have g0 := (jy (l := e.Kids) (i := 0) (by omega)).2
 have g1 := (jy (l := e.Kids) (i := 1) (by omega)).2
 unfold Yi kK
 simp only [g0, g1, h0, h1, Option.bind_some, zf7]
 by_cases k : e.Kind = 21
 ·rw [if_pos k, if_pos k]
  by_cases hc : c = 0
  ·rw [if_pos hc, if_pos hc]
   by_cases a1 : a.Kind = 1
   ·rw [if_pos a1]
    by_cases n1 : a.N = 1
    ·rw [if_pos n1, Jo a1 n1]
    rw [if_neg n1, KM a1 n1]
    by_cases hc' : c' = 0
    ·rw [if_pos hc', if_pos hc']
     by_cases b1 : b.Kind = 1
     ·rw [if_pos b1, if_pos b1]
     rw [if_neg b1, if_neg b1]
     by_cases b6 : b.Kind = 6
     ·rw [if_pos b6, if_pos b6]
     ·rw [if_neg b6, if_neg b6]; rfl
    ·rw [if_neg hc', if_neg hc']; rfl
   rw [if_neg a1]
   by_cases a6 : a.Kind = 6
   ·rw [if_pos a6, KN a6]
    by_cases hc' : c' = 0
    ·rw [if_pos hc', if_pos hc']
     by_cases b1 : b.Kind = 1
     ·rw [if_pos b1, if_pos b1]
      by_cases n1 : b.N = 1
      ·rw [if_pos n1, if_pos n1]
      ·rw [if_neg n1, if_neg n1]
     rw [if_neg b1, if_neg b1]
     by_cases b6 : b.Kind = 6
     ·rw [if_pos b6, if_pos b6]
     ·rw [if_neg b6, if_neg b6]; rfl
    ·rw [if_neg hc', if_neg hc']; rfl
   ·rw [if_neg a6, KK (by omega)]; rfl
  ·rw [if_neg hc, if_neg hc]; rfl
 ·rw [if_neg k, if_neg k]
  by_cases hc : c = 0
  ·rw [if_pos hc, if_pos hc]
   by_cases a1 : a.Kind = 1
   ·rw [if_pos a1]
    by_cases n1 : a.N = 0
    ·rw [if_pos n1, Jo a1 n1]
    rw [if_neg n1, KM a1 n1]
    by_cases hc' : c' = 0
    ·rw [if_pos hc', if_pos hc']
     by_cases b1 : b.Kind = 1
     ·rw [if_pos b1, if_pos b1]
     rw [if_neg b1, if_neg b1]
     by_cases b6 : b.Kind = 6
     ·rw [if_pos b6, if_pos b6]
     ·rw [if_neg b6, if_neg b6]; rfl
    ·rw [if_neg hc', if_neg hc']; rfl
   rw [if_neg a1]
   by_cases a6 : a.Kind = 6
   ·rw [if_pos a6, KN a6]
    by_cases hc' : c' = 0
    ·rw [if_pos hc', if_pos hc']
     by_cases b1 : b.Kind = 1
     ·rw [if_pos b1, if_pos b1]
      by_cases n1 : b.N = 0
      ·rw [if_pos n1, if_pos n1]
      ·rw [if_neg n1, if_neg n1]
     rw [if_neg b1, if_neg b1]
     by_cases b6 : b.Kind = 6
     ·rw [if_pos b6, if_pos b6]
     ·rw [if_neg b6, if_neg b6]; rfl
    ·rw [if_neg hc', if_neg hc']; rfl
   ·rw [if_neg a6, KK (by omega)]; rfl
  ·rw [if_neg hc, if_neg hc]; rfl
theorem zdf {G : GEnv → GExpr → Option (GValue × Int)} {e : GExpr} {v : GEnv} {r s : GValue × Int} {t : Bool} (hk : e.Kids.length = 2) (h0 : G v (kd e.Kids 0) = some r) (h1 : G v (kd e.Kids 1) = some s) (hr : zp r.1 = true) (hs : zp s.1 = true) (ht : t = decide (e.Kind = 21)) :
  Zx G v e t = some (kK r fun a => ZG (if e.Kind = 21 then 1 else 0) a s) := by
 obtain ⟨a, c⟩ := r
 obtain ⟨b, c'⟩ := s
 have g0 := (jy (l := e.Kids) (i := 0) (by omega)).2
 have g1 := (jy (l := e.Kids) (i := 1) (by omega)).2
 unfold Zx kK
 simp only [g0, g1, h0, h1, Option.bind_some, zf8]
 have sj : (if e.Kind = 21 then (1 : Int) else 0) = if t = true then 1 else 0 := by
  rw [ht]
  by_cases k : e.Kind = 21
  ·rw [if_pos k, decide_eq_true k]; rfl
  ·rw [if_neg k, decide_eq_false k]; rfl
 rw [sj]
 have va := fun h => (Ah hr h).2
 have vb := fun h => (Ah hs h).2
 clear sj h0 h1 g0 g1 ht hk
 dsimp only at va vb
 cases t with
 | true =>
  rw [show (if true = true then (1 : Int) else 0) = 1 from rfl]
  by_cases hc : c = 0
  ·rw [if_pos hc, if_pos hc]
   by_cases a1 : a.Kind = 1
   ·have va := va a1
    rw [if_pos a1]
    by_cases n1 : a.N = 1
    ·rw [if_pos n1]
     rw [if_pos rfl, Jo a1 n1]
    ·rw [if_neg n1, if_pos rfl, KM a1 n1]
     by_cases hc' : c' = 0
     ·rw [if_pos hc', if_pos hc']
      by_cases b1 : b.Kind = 1
      ·rw [if_pos b1, if_pos b1]
      rw [if_neg b1, if_neg b1]
      by_cases b6 : b.Kind = 6
      ·rw [if_pos b6, if_pos b6]
      ·rw [if_neg b6, if_neg b6]; rfl
     ·rw [if_neg hc', if_neg hc']; rfl
   rw [if_neg a1]
   by_cases a6 : a.Kind = 6
   ·rw [if_pos a6, KN a6]
    by_cases hc' : c' = 0
    ·rw [if_pos hc', if_pos hc']
     by_cases b1 : b.Kind = 1
     ·have vb := vb b1
      rw [if_pos b1, if_pos b1]
      by_cases n1 : b.N = 1
      ·rw [if_pos n1]
       rw [if_pos rfl, if_pos n1]
      ·rw [if_neg n1]
       rw [if_pos rfl, if_neg n1]
     rw [if_neg b1, if_neg b1]
     by_cases b6 : b.Kind = 6
     ·rw [if_pos b6, if_pos b6]
     ·rw [if_neg b6, if_neg b6]; rfl
    ·rw [if_neg hc', if_neg hc']; rfl
   ·rw [if_neg a6, KK (by omega)]; rfl
  ·rw [if_neg hc, if_neg hc]; rfl
 | false =>
  rw [show (if false = true then (1 : Int) else 0) = 0 from rfl]
  by_cases hc : c = 0
  ·rw [if_pos hc, if_pos hc]
   by_cases a1 : a.Kind = 1
   ·have va := va a1
    rw [if_pos a1]
    by_cases n1 : a.N = 1
    ·rw [if_pos n1]
     rw [if_neg (by decide), KM a1 (show a.N ≠ 0 by omega)]
     by_cases hc' : c' = 0
     ·rw [if_pos hc', if_pos hc']
      by_cases b1 : b.Kind = 1
      ·rw [if_pos b1, if_pos b1]
      rw [if_neg b1, if_neg b1]
      by_cases b6 : b.Kind = 6
      ·rw [if_pos b6, if_pos b6]
      ·rw [if_neg b6, if_neg b6]; rfl
     ·rw [if_neg hc', if_neg hc']; rfl
    ·rw [if_neg n1, if_neg (by decide), Jo a1 (show a.N = 0 by omega)]
   rw [if_neg a1]
   by_cases a6 : a.Kind = 6
   ·rw [if_pos a6, KN a6]
    by_cases hc' : c' = 0
    ·rw [if_pos hc', if_pos hc']
     by_cases b1 : b.Kind = 1
     ·have vb := vb b1
      rw [if_pos b1, if_pos b1]
      by_cases n1 : b.N = 1
      ·rw [if_pos n1]
       rw [if_neg (by decide), if_neg (show ¬ b.N = 0 by omega)]
      ·rw [if_neg n1]
       rw [if_neg (by decide), if_pos (show b.N = 0 by omega)]
     rw [if_neg b1, if_neg b1]
     by_cases b6 : b.Kind = 6
     ·rw [if_pos b6, if_pos b6]
     ·rw [if_neg b6, if_neg b6]; rfl
    ·rw [if_neg hc', if_neg hc']; rfl
   ·rw [if_neg a6, KK (by omega)]; rfl
  ·rw [if_neg hc, if_neg hc]; rfl
theorem DK {G : GExpr → GEnv → Option (GValue × Int)} {g : GExpr → GValue × Int} {a0 : List GExpr} {v : GEnv} (ha : a0.length <= 2 ^ 39) : ∀ (l p : List GExpr) (acc : List GValue) (m : Nat), a0 = p ++ l → acc.length = p.length → (∀ x ∈ l, G x v = some (g x)) → l.length < m →
  ∃ z, je G a0 v m (p.length : Int) acc = some (if (evL g l).2 = 0 then .inr (z, acc ++ (evL g l).1) else .inl ((evL g l).2, [])) := by
 intro l
 induction l with
 | nil =>
  intro p acc m he hq _ hm
  obtain ⟨m, rfl, _⟩ := zg hm
  exact ⟨_, by rw [je, he, if_neg (yD p), evL, if_pos rfl, List.append_nil]⟩
 | cons x l ih =>
  intro p acc m he hq hG hm
  obtain ⟨m, rfl, hm'⟩ := zg hm
  have hlen : a0.length = p.length + (l.length + 1) := by rw [he]; simp
  rw [je, if_pos (by omega), zl, Option.bind_some, show a0[p.length]? = some x by rw [he]; exact yg p x l, Option.bind_some, hG x (by simp), Option.bind_some, evL]
  generalize g x = r
  obtain ⟨y, c⟩ := r
  dsimp only
  by_cases hc : c = 0
  ·obtain ⟨z, hz⟩ := ih (p ++ [x]) (acc ++ [y]) m (by rw [he]; simp) (by simp [hq]) (fun y hy => hG y (by simp [hy])) (by simp only [List.length_cons] at hm'; omega)
   refine ⟨z, ?_⟩
   rw [if_pos hc, if_pos hc, if_pos (xb (by decide) (by simp only [List.length_cons, List.length_nil]; omega)), y8 p x (by omega), hz]
   by_cases h2 : (evL g l).2 = 0
   ·rw [if_pos h2, if_pos h2]; simp
   ·rw [if_neg h2, if_neg h2]; simp [h2]
  ·exact ⟨0, by rw [if_neg hc, if_neg hc, if_neg hc]⟩
theorem DL {G : GEnv → GExpr → Option (GValue × Int)} {B : GEnv → GExpr → Bool → Option (GValue × Int)} {g : GExpr → GValue × Int} {a0 : List GExpr} {e : GExpr} {v : GEnv} {v5 v6 : Int} {v8 : List UInt8} {v9 : List (List UInt8)} {v10 : List GValue} (ha : a0.length <= 2 ^ 39) : ∀ (l p : List GExpr) (acc : List GValue) (m : Nat), a0 = p ++ l → acc.length = p.length → (∀ x ∈ l, G v x = some (g x)) → l.length < m →
  ∃ z, wQ B G a0 (a0.length : Int) v e v5 v6 v8 v9 v10 m (p.length : Int) acc = some (if (evL g l).2 = 0 then .inr (z, acc ++ (evL g l).1) else .inl ((evL g l).2, 0, [], [], [])) := by
 intro l
 induction l with
 | nil =>
  intro p acc m he hq _ hm
  obtain ⟨m, rfl, _⟩ := zg hm
  exact ⟨_, by rw [wQ, he, if_neg (yD p), evL, if_pos rfl, List.append_nil]⟩
 | cons x l ih =>
  intro p acc m he hq hG hm
  obtain ⟨m, rfl, hm'⟩ := zg hm
  have hlen : a0.length = p.length + (l.length + 1) := by rw [he]; simp
  rw [wQ, if_pos (by omega), zl, Option.bind_some, show a0[p.length]? = some x by rw [he]; exact yg p x l, Option.bind_some, hG x (by simp), Option.bind_some, evL]
  generalize g x = r
  obtain ⟨y, c⟩ := r
  dsimp only
  by_cases hc : c = 0
  ·obtain ⟨z, hz⟩ := ih (p ++ [x]) (acc ++ [y]) m (by rw [he]; simp) (by simp [hq]) (fun y hy => hG y (by simp [hy])) (by simp only [List.length_cons] at hm'; omega)
   refine ⟨z, ?_⟩
   rw [if_pos hc, if_pos hc, if_pos (xb (by decide) (by simp only [List.length_cons, List.length_nil]; omega)), y8 p x (by omega), hz]
   by_cases h2 : (evL g l).2 = 0
   ·rw [if_pos h2, if_pos h2]; simp
   ·rw [if_neg h2, if_neg h2]; simp [h2]
  ·exact ⟨0, by rw [if_neg hc, if_neg hc, if_neg hc]⟩
theorem zgy {v : GEnv} (hv : NR v) : ∀ (d : Nat) (e : GExpr), frX d e = true → xsz e <= 2 ^ 38 → ∀ f : Nat, 3 * xsz e + 9 <= f → yh f e v = some (evR false czS v d e) := by
 intro d
 induction d with
 | zero => intro e h; simp [frX] at h
 | succ d ih =>
  intro e h hs f hf
  obtain ⟨hl, h150, h5, hk⟩ := Xj h
  have ha := M6 hl
  have hr := NZ hl
  obtain ⟨p0, p1, p2, p3⟩ := P8 hl
  obtain ⟨e1, e2, e3, e4, e5⟩ := id hv
  have he := xv e
  have hkl := yF e.Kids
  obtain ⟨f, rfl, _⟩ := zg (show 0 < f by omega)
  obtain ⟨f, rfl, _⟩ := zg (show 0 < f by omega)
  have hsub : ∀ x ∈ e.Kids, ∀ n, f <= n → yh n x v = some (evR false czS v d x) := fun x hx n hn => by
   have := xA hx
   exact ih x (hk x hx) (by omega) n (by omega)
  have hkd : ∀ i, i < e.Kids.length → ∀ n, f <= n → yh n (kd e.Kids i) v = some (evR false czS v d (kd e.Kids i)) ∧ zp (evR false czS v d (kd e.Kids i)).1 = true := fun i hi n hn => ⟨hsub _ (jy hi).1 n hn, w7 hv d _ (hk _ (jy hi).1)⟩
  rw [show yh (f + 1 + 1) e v = YH (wM (f + 1)) (yh (f + 1)) (wX (f + 1)) e v from rfl]
  unfold YH
  by_cases k0 : e.Kind = 0
  ·rw [if_pos k0, ZH (by omega), (p0 k0).1, (p0 k0).2, k0]
  rw [if_neg k0]
  by_cases k1 : e.Kind = 1
  ·rw [if_pos k1, ZH (by omega), p1 k1, k1]
  rw [if_neg k1]
  by_cases k2 : e.Kind = 2
  ·rw [if_pos k2, ZH (by omega), p2 k2, k2]
  rw [if_neg k2]
  by_cases k3 : e.Kind = 3
  ·rw [if_pos k3, ZH (by omega), p3 k3, k3]
  rw [if_neg k3]
  by_cases k6 : e.Kind = 6
  ·rw [if_pos k6, zbh k6, RH e1]; rfl
  rw [if_neg k6]
  by_cases k7 : e.Kind = 7
  ·rw [if_pos k7, zbi k7, RH e2]; rfl
  rw [if_neg k7]
  by_cases k10 : e.Kind = 10
  ·rw [if_pos k10, DC k10]
  rw [if_neg k10]
  by_cases k11 : e.Kind = 11
  ·rw [if_pos k11, DD k11]
  rw [if_neg k11]
  by_cases k12 : e.Kind = 12
  ·rw [if_pos k12, DE k12]
  rw [if_neg k12]
  have hlog : e.Kind = 20 ∨ e.Kind = 21 → wM (f + 1) e v = some (evR false czS v (d + 1) e) := fun hh => by
   have h2 := ha.2.1 (by omega)
   rw [Hk hh]
   exact zde h2 (hkd 0 (by omega) f (Nat.le_refl _)).1 (hkd 1 (by omega) f (Nat.le_refl _)).1
  by_cases k20 : e.Kind = 20
  ·rw [if_pos k20, hlog (.inl k20)]; rfl
  rw [if_neg k20]
  by_cases k21 : e.Kind = 21
  ·rw [if_pos k21, hlog (.inr k21)]; rfl
  rw [if_neg k21]
  clear hlog
  by_cases k22 : e.Kind = 22
  ·have h3 := ha.2.2 k22
   rw [if_pos k22, DF k22, (jy (l := e.Kids) (i := 0) (by omega)).2, Option.bind_some, (hkd 0 (by omega) (f + 1) (by omega)).1, Option.bind_some, (jy (l := e.Kids) (i := 1) (by omega)).2, Option.bind_some, (hkd 1 (by omega) (f + 1) (by omega)).1, (jy (l := e.Kids) (i := 2) (by omega)).2, Option.bind_some (a := kd e.Kids 2), (hkd 2 (by omega) (f + 1) (by omega)).1]
   have hr := (hkd 0 (by omega) (f + 1) (by omega)).2
   generalize evR false czS v d (kd e.Kids 0) = r at hr ⊢
   obtain ⟨a, c⟩ := r
   unfold kK ifR
   dsimp only at hr ⊢
   by_cases hc : c = 0
   ·rw [if_pos hc, if_pos hc]
    by_cases a6 : a.Kind = 6
    ·rw [if_pos a6, if_pos a6]; rfl
    rw [if_neg a6, if_neg a6]
    by_cases a1 : a.Kind = 1
    ·rw [if_pos a1, if_neg (show ¬ a.Kind ≠ 1 from fun h => h a1)]
     by_cases n1 : a.N = 1
     ·rw [if_pos n1, if_pos n1]; rfl
     ·rw [if_neg n1, if_neg n1]; rfl
    ·rw [if_neg a1, if_pos a1]; rfl
   ·rw [if_neg hc, if_neg hc]; rfl
  rw [if_neg k22, DG (by omega)]
  have hall : wX (f + 1) e.Kids v = some (if (evL (evR false czS v d) e.Kids).2 = 0 then ((evL (evR false czS v d) e.Kids).1, 0) else ([], (evL (evR false czS v d) e.Kids).2)) := by
   obtain ⟨z, hz⟩ := DK (G := yh f) (g := evR false czS v d) (a0 := e.Kids) (v := v) (by omega) e.Kids [] [] f rfl rfl (fun x hx => hsub x hx f (Nat.le_refl _)) (by omega)
   simp only [List.length_nil, Int.natCast_zero, List.nil_append] at hz
   rw [show wX (f + 1) e.Kids v = X4 (yh f) f e.Kids v from rfl]
   unfold X4
   rw [hz, Option.bind_some]
   by_cases hc : (evL (evR false czS v d) e.Kids).2 = 0
   ·rw [if_pos hc, if_pos hc]
   ·rw [if_neg hc, if_neg hc]
  rw [hall, Option.bind_some]
  have hvs := P4 (g := evR false czS v d) (l := e.Kids) fun x hx => w7 hv d x (hk x hx)
  by_cases hc : (evL (evR false czS v d) e.Kids).2 = 0
  ·have hlen := Hh hc
   rw [if_pos hc, if_pos hc]
   dsimp only
   rw [if_pos rfl]
   generalize (evL (evR false czS v d) e.Kids).1 = l at hvs hlen
   have hz := NY hvs
   have hg : ∀ i, i < e.Kids.length → l[i]? = some (ag l i) ∧ zp (ag l i) = true := fun i hi => by
    have := Wx (l := l) (i := i) (by omega)
    exact ⟨this.2, hvs _ this.1⟩
   by_cases k4 : e.Kind = 4
   ·rw [if_pos k4, zbj k4, U1 (by simp only [vsz, List.length_nil]; simp [bsz]; omega)]; rfl
   rw [if_neg k4]
   by_cases k5 : e.Kind = 5
   ·have hb := NX (h5 k5)
    have hkk : e.K.length = e.Kids.length := by
     have := hl.2.2.1 k5; omega
    rw [if_pos k5, zbk k5, U1 (by simp only [vsz, List.length_nil]; omega)]; rfl
   rw [if_neg k5]
   by_cases k8 : e.Kind = 8
   ·have h1 := ha.1 (by omega)
    rw [if_pos k8, zbl k8, (hg 0 (by omega)).1, Option.bind_some, RH (hg 0 (by omega)).2]; rfl
   rw [if_neg k8]
   by_cases k9 : e.Kind = 9
   ·have h1 := ha.2.1 (by omega)
    rw [if_pos k9, zbm k9, (hg 0 (by omega)).1, Option.bind_some, (hg 1 (by omega)).1, Option.bind_some, Ar (hg 0 (by omega)).2 (hg 1 (by omega)).2]; rfl
   rw [if_neg k9]
   by_cases k13 : e.Kind = 13
   ·have h1 := ha.1 (by omega)
    rw [if_pos k13, DH k13, (hg 0 (by omega)).1, Option.bind_some]
    unfold OW
    by_cases a6 : (ag l 0).Kind = 6
    ·rw [if_pos a6, if_pos a6]; rfl
    rw [if_neg a6, if_neg a6]
    by_cases a1 : (ag l 0).Kind = 1
    ·rw [if_pos a1, if_pos a1, NV]; rfl
    ·rw [if_neg a1, if_neg a1]; rfl
   rw [if_neg k13]
   by_cases k14 : e.Kind = 14
   ·have h1 := ha.1 (by omega)
    rw [if_pos k14, DI k14, (hg 0 (by omega)).1, Option.bind_some]
    unfold OX
    by_cases a6 : (ag l 0).Kind = 6
    ·rw [if_pos a6, if_pos a6]; rfl
    rw [if_neg a6, if_neg a6]
    by_cases a2 : (ag l 0).Kind = 2
    ·have := Qe (hg 0 (by omega)).2 a2
     rw [if_pos a2, if_pos a2, yu (by omega) (by omega), Int.zero_sub]; rfl
    ·rw [if_neg a2, if_neg a2]; rfl
   rw [if_neg k14]
   by_cases k23 : e.Kind = 23
   ·rw [if_pos k23, DJ k23, if_neg (by decide)]
    unfold vU
    rw [if_pos ⟨fun x hx => ⟨by have := vc (hvs x hx); omega, hvs x hx⟩, by omega⟩]; rfl
   ·have h1 := ha.2.1 (by omega)
    rw [if_neg k23, OY (by omega), (hg 0 (by omega)).1, Option.bind_some, (hg 1 (by omega)).1, Option.bind_some, zdb (hg 0 (by omega)).2 (hg 1 (by omega)).2 (by omega)]; rfl
  ·rw [if_neg hc, if_neg hc]
   dsimp only
   rw [if_neg hc]; rfl
theorem zgz {v : GEnv} (hv : NR v) : ∀ (d : Nat) (e : GExpr), frX d e = true → xsz e <= 2 ^ 38 → ∀ f : Nat, 3 * xsz e + 9 <= f → yj f v e = some (evR true czI v d e) := by
 intro d
 induction d with
 | zero => intro e h; simp [frX] at h
 | succ d ih =>
  intro e h hs f hf
  obtain ⟨hl, h150, h5, hk⟩ := Xj h
  have ha := M6 hl
  have hr := NZ hl
  obtain ⟨p0, p1, p2, p3⟩ := P8 hl
  obtain ⟨e1, e2, e3, e4, e5⟩ := id hv
  have he := xv e
  have hkl := yF e.Kids
  obtain ⟨f, rfl, _⟩ := zg (show 0 < f by omega)
  obtain ⟨f, rfl, _⟩ := zg (show 0 < f by omega)
  have hsub : ∀ x ∈ e.Kids, ∀ n, f <= n → yj n v x = some (evR true czI v d x) := fun x hx n hn => by
   have := xA hx
   exact ih x (hk x hx) (by omega) n (by omega)
  have hkd : ∀ i, i < e.Kids.length → ∀ n, f <= n → yj n v (kd e.Kids i) = some (evR true czI v d (kd e.Kids i)) ∧ zp (evR true czI v d (kd e.Kids i)).1 = true := fun i hi n hn => ⟨hsub _ (jy hi).1 n hn, w7 hv d _ (hk _ (jy hi).1)⟩
  rw [show yj (f + 1 + 1) v e = Zy (xP (f + 1)) (yj (f + 1)) (f + 1) v e from rfl]
  unfold Zy
  by_cases k0 : e.Kind = 0
  ·rw [if_pos k0, ZH (by omega)]
  rw [if_neg k0]
  by_cases k1 : e.Kind = 1
  ·rw [if_pos k1, ZH (by omega)]
  rw [if_neg k1]
  by_cases k2 : e.Kind = 2
  ·rw [if_pos k2, ZH (by omega)]
  rw [if_neg k2]
  by_cases k3 : e.Kind = 3
  ·rw [if_pos k3, ZH (by omega)]
  rw [if_neg k3]
  by_cases k10 : e.Kind = 10
  ·rw [if_pos k10, DC k10]
  rw [if_neg k10]
  by_cases k11 : e.Kind = 11
  ·rw [if_pos k11, DD k11]
  rw [if_neg k11]
  by_cases k12 : e.Kind = 12
  ·rw [if_pos k12, DE k12]
  rw [if_neg k12]
  by_cases k6 : e.Kind = 6
  ·rw [if_pos k6, zbh k6, RI e1]; rfl
  rw [if_neg k6]
  by_cases k7 : e.Kind = 7
  ·rw [if_pos k7, zbi k7, RI e2]; rfl
  rw [if_neg k7]
  have hlog : ∀ t : Bool, t = decide (e.Kind = 21) → e.Kind = 20 ∨ e.Kind = 21 → xP (f + 1) v e t = some (evR true czI v (d + 1) e) := fun t ht hh => by
   have h2 := ha.2.1 (by omega)
   rw [Hk hh]
   exact zdf h2 (hkd 0 (by omega) f (Nat.le_refl _)).1 (hkd 1 (by omega) f (Nat.le_refl _)).1 (hkd 0 (by omega) f (Nat.le_refl _)).2 (hkd 1 (by omega) f (Nat.le_refl _)).2 ht
  by_cases k20 : e.Kind = 20
  ·rw [if_pos k20, hlog false (by rw [decide_eq_false (by omega)]) (.inl k20)]; rfl
  rw [if_neg k20]
  by_cases k21 : e.Kind = 21
  ·rw [if_pos k21, hlog true (by rw [decide_eq_true k21]) (.inr k21)]; rfl
  rw [if_neg k21]
  clear hlog
  by_cases k22 : e.Kind = 22
  ·have h3 := ha.2.2 k22
   rw [if_pos k22, DF k22, (jy (l := e.Kids) (i := 0) (by omega)).2, Option.bind_some, (hkd 0 (by omega) (f + 1) (by omega)).1, Option.bind_some]
   have hr := (hkd 0 (by omega) (f + 1) (by omega)).2
   generalize evR true czI v d (kd e.Kids 0) = r at hr ⊢
   obtain ⟨a, c⟩ := r
   unfold kK ifR
   dsimp only at hr ⊢
   by_cases hc : c = 0
   ·rw [if_pos hc, if_pos hc]
    by_cases a6 : a.Kind = 6
    ·rw [if_pos a6, if_pos a6, Ag hr a6]
    rw [if_neg a6, if_neg a6]
    by_cases a1 : a.Kind = 1
    ·have hn := (Ah hr a1).2
     rw [if_pos a1, if_neg (show ¬ a.Kind ≠ 1 from fun h => h a1), yu (by omega) (by omega), P6 (by omega), Option.bind_some]
     by_cases n1 : a.N = 1
     ·rw [n1, if_pos rfl, show (2 - (1 : Int)).toNat = 1 from rfl, (jy (l := e.Kids) (i := 1) (by omega)).2, Option.bind_some, (hkd 1 (by omega) (f + 1) (by omega)).1]; rfl
     ·rw [show a.N = 0 by omega, if_neg (by decide), show (2 - (0 : Int)).toNat = 2 from rfl, (jy (l := e.Kids) (i := 2) (by omega)).2, Option.bind_some, (hkd 2 (by omega) (f + 1) (by omega)).1]; rfl
    ·rw [if_neg a1, if_pos a1]; rfl
   ·rw [if_neg hc, if_neg hc]; rfl
  rw [if_neg k22, DG (by omega)]
  obtain ⟨z, hz⟩ := DL (G := yj (f + 1)) (B := xP (f + 1)) (g := evR true czI v d) (a0 := e.Kids) (e := e) (v := v) (v5 := 0) (v6 := 0) (v8 := []) (v9 := []) (v10 := []) (by omega) e.Kids [] [] (f + 1) rfl rfl (fun x hx => hsub x hx (f + 1) (by omega)) (by omega)
  simp only [List.length_nil, Int.natCast_zero, List.nil_append] at hz
  rw [hz, Option.bind_some]
  clear hz
  have hvs := P4 (g := evR true czI v d) (l := e.Kids) fun x hx => w7 hv d x (hk x hx)
  by_cases hc : (evL (evR true czI v d) e.Kids).2 = 0
  ·have hlen := Hh hc
   rw [if_pos hc, if_pos hc]
   dsimp only
   generalize (evL (evR true czI v d) e.Kids).1 = l at hvs hlen
   have hz := NY hvs
   have hg : ∀ i, i < e.Kids.length → l[i]? = some (ag l i) ∧ zp (ag l i) = true := fun i hi => by
    have := Wx (l := l) (i := i) (by omega)
    exact ⟨this.2, hvs _ this.1⟩
   by_cases k8 : e.Kind = 8
   ·have h1 := ha.1 (by omega)
    rw [if_pos k8, zbl k8, (hg 0 (by omega)).1, Option.bind_some, RI (hg 0 (by omega)).2]; rfl
   rw [if_neg k8]
   by_cases k9 : e.Kind = 9
   ·have h1 := ha.2.1 (by omega)
    rw [if_pos k9, zbm k9, (hg 0 (by omega)).1, Option.bind_some, (hg 1 (by omega)).1, Option.bind_some, As (hg 0 (by omega)).2 (hg 1 (by omega)).2]; rfl
   rw [if_neg k9]
   by_cases k13 : e.Kind = 13
   ·have h1 := ha.1 (by omega)
    rw [if_pos k13, DH k13, (hg 0 (by omega)).1, Option.bind_some]
    unfold vX OW
    by_cases a6 : (ag l 0).Kind = 6
    ·rw [if_pos a6, if_pos a6, Ag (hg 0 (by omega)).2 a6]; rfl
    rw [if_neg a6, if_neg a6]
    by_cases a1 : (ag l 0).Kind = 1
    ·rw [if_pos a1, if_pos a1, if_pos rfl, NW]; rfl
    ·rw [if_neg a1, if_neg a1]; rfl
   rw [if_neg k13]
   by_cases k14 : e.Kind = 14
   ·have h1 := ha.1 (by omega)
    rw [if_pos k14, DI k14, (hg 0 (by omega)).1, Option.bind_some]
    unfold vX OX
    by_cases a6 : (ag l 0).Kind = 6
    ·rw [if_pos a6, if_pos a6, Ag (hg 0 (by omega)).2 a6]; rfl
    rw [if_neg a6, if_neg a6]
    by_cases a2 : (ag l 0).Kind = 2
    ·have := Qe (hg 0 (by omega)).2 a2
     rw [if_pos a2, if_pos a2, if_neg (by decide), yu (by omega) (by omega), Int.zero_sub]; rfl
    ·rw [if_neg a2, if_neg a2]; rfl
   rw [if_neg k14]
   by_cases k18 : e.Kind = 18
   ·have h1 := ha.2.1 (by omega)
    have s0 := vc (hg 0 (by omega)).2
    have s1 := vc (hg 1 (by omega)).2
    rw [if_pos k18, OY (by omega), (hg 0 (by omega)).1, Option.bind_some]
    unfold Yk qZ XX
    rw [if_pos k18, KI (by omega), Option.bind_some, (hg 0 (by omega)).2]
    dsimp only
    rw [if_pos (by omega), Option.bind_some, Option.bind_some]
    cases h4 : knV (ag l 0) with
    | false => rw [if_neg (by simp)]; rfl
    | true =>
     dsimp only
     rw [(hg 1 (by omega)).1, Option.bind_some, KI (by omega), Option.bind_some, (hg 1 (by omega)).2]
     dsimp only
     rw [if_pos (by omega), Option.bind_some, Option.bind_some]
     cases h5 : knV (ag l 1) with
     | false => rw [if_neg (by simp)]; rfl
     | true =>
      obtain ⟨c, _, g2, _, g4⟩ := Xc (hg 0 (by omega)).2 (hg 1 (by omega)).2
      dsimp only
      rw [g2, Option.bind_some, NW, Option.bind_some, if_pos ⟨rfl, rfl⟩, g4]
   rw [if_neg k18]
   by_cases k23 : e.Kind = 23
   ·rw [if_pos k23, DJ k23, if_pos rfl]
    unfold Y6
    rw [if_pos ⟨fun x hx => by have := vc (hvs x hx); omega, by omega⟩]; rfl
   rw [if_neg k23]
   by_cases k4 : e.Kind = 4
   ·rw [if_pos k4, zbj k4, KI (by simp only [vsz, List.length_nil]; simp [bsz]; omega), Option.bind_some]
    unfold XC
    cases zp (.mk 4 0 [] [] l) <;> rfl
   rw [if_neg k4]
   by_cases k5 : e.Kind = 5
   ·have hb := NX (h5 k5)
    have hkk : e.K.length = e.Kids.length := by
     have := hl.2.2.1 k5; omega
    rw [if_pos k5, zbk k5, KI (by simp only [vsz, List.length_nil]; omega), Option.bind_some]
    unfold XC
    cases zp (.mk 5 0 [] e.K l) <;> rfl
   ·have h1 := ha.2.1 (by omega)
    rw [if_neg k5, OY (by omega), (hg 0 (by omega)).1, Option.bind_some, (hg 1 (by omega)).1, Option.bind_some, zdd (hg 0 (by omega)).2 (hg 1 (by omega)).2 (by omega) k18 czI]; rfl
  ·rw [if_neg hc, if_neg hc]; rfl
theorem zdg : ∀ (N : Nat) (e : GExpr), xsz e < N → xsz e <= 2 ^ 38 → ∀ f : Nat, xsz e + 2 <= f → xh f e = some (frK [7, 10, 11, 12] e) := by
 intro N
 induction N with
 | zero => intro e h; omega
 | succ N ih =>
  intro e hN hs f hf
  obtain ⟨f, rfl, hf'⟩ : ∃ n, f = n + 1 ∧ xsz e + 1 <= n := ⟨f - 1, by omega, by omega⟩
  have he := xv e
  have hkl := yF e.Kids
  have loop : ∀ (l p : List GExpr) (m : Nat), e.Kids = p ++ l → l.length < m → ∃ z, qj (xh f) e m (p.length : Int) = some (if Zl [7, 10, 11, 12] l = true then .inr z else .inl false) := by
   intro l
   induction l with
   | nil =>
    intro p m hp hm
    obtain ⟨m, rfl, _⟩ := zg hm
    exact ⟨_, by rw [qj, hp, if_neg (yD p)]; rfl⟩
   | cons x l ihl =>
    intro p m hp hm
    obtain ⟨m, rfl, hm'⟩ := zg hm
    have hlen : e.Kids.length = p.length + (l.length + 1) := by rw [hp]; simp
    have hx := xA (l := e.Kids) (v := x) (by rw [hp]; simp)
    obtain ⟨z, hz⟩ := ihl (p ++ [x]) m (by rw [hp]; simp) (by simp only [List.length_cons] at hm'; omega)
    refine ⟨z, ?_⟩
    rw [qj, if_pos (by omega), zl, Option.bind_some, show e.Kids[p.length]? = some x by rw [hp]; exact yg p x l, Option.bind_some, ih x (by omega) (by omega) f (by omega), Option.bind_some, y8 p x (by omega), Zl]
    cases hc : frK [7, 10, 11, 12] x with
    | true =>
     dsimp only
     rw [hz, Bool.true_and]
    | false => rfl
  rw [show xh (f + 1) e = Ya (xh f) f e from rfl, D9]
  unfold Ya
  by_cases k7 : e.Kind = 7
  ·rw [if_pos k7, k7]; rfl
  by_cases k10 : e.Kind = 10
  ·rw [if_neg k7, if_pos k10, k10]; rfl
  by_cases k11 : e.Kind = 11
  ·rw [if_neg k7, if_neg k10, if_pos k11, k11]; rfl
  by_cases k12 : e.Kind = 12
  ·rw [if_neg k7, if_neg k10, if_neg k11, if_pos k12, k12]; rfl
  obtain ⟨z, hz⟩ := loop e.Kids [] f rfl (by omega)
  simp only [List.length_nil, Int.natCast_zero] at hz
  rw [if_neg k7, if_neg k10, if_neg k11, if_neg k12, hz, Option.bind_some, decide_eq_true (by simp [*]), Bool.true_and]
  cases Zl [7, 10, 11, 12] e.Kids <;> rfl
theorem zdh {ks : List Int} {G : GExpr → List Int → Option Bool} {a : List GExpr} {f : Nat} (ha : a.length <= 2 ^ 40) (hf : a.length < f) (hG : ∀ x ∈ a, G x ks = some (!frK ks x)) : ∃ r : Int, yO G f a ks = some r ∧ decide (0 <= r) = !(Zl ks a) := by
 have loop : ∀ (l p : List GExpr) (m : Nat), a = p ++ l → l.length < m → ∃ (q : Nat) (z : Int), zR G a (a.length : Int) ks m (p.length : Int) = some (if Zl ks l = true then .inr z else .inl (q : Int)) := by
  intro l
  induction l with
  | nil =>
   intro p m he hm
   subst he
   obtain ⟨m, rfl, _⟩ := zg hm
   exact ⟨0, _, by rw [zR, if_neg (yD p)]; rfl⟩
  | cons x l ih =>
   intro p m he hm
   obtain ⟨m, rfl, hm'⟩ := zg hm
   have hlen : a.length = p.length + (l.length + 1) := by rw [he]; simp
   rw [zR, if_pos (by omega), zl, Option.bind_some, show a[p.length]? = some x by rw [he]; exact yg p x l, Option.bind_some, hG x (by rw [he]; simp), Option.bind_some, y8 p x (by omega), Zl]
   by_cases hp : frK ks x = true
   ·obtain ⟨q, z, hz⟩ := ih (p ++ [x]) m (by rw [he]; simp) (by simp only [List.length_cons] at hm'; omega)
    exact ⟨q, z, by rw [hp, Bool.true_and]; exact hz⟩
   ·rw [Bool.eq_false_iff.2 hp]
    exact ⟨p.length, 0, rfl⟩
 obtain ⟨q, z, hz⟩ := loop a [] f rfl (by omega)
 simp only [List.length_nil, Int.natCast_zero] at hz
 unfold yO
 rw [hz, Option.bind_some]
 cases hp : Zl ks a with
 | true => exact ⟨-1, rfl, rfl⟩
 | false => exact ⟨(q : Int), rfl, by simp⟩
theorem zf9 {ks : List Int} (hks : ks.length <= 2 ^ 40) : ∀ (N : Nat) (v : GExpr), xsz v < N → xsz v <= 2 ^ 38 → ∀ f : Nat, 4 * xsz v + 5 <= f → yU f v ks = some (frK ks v) := by
 intro N
 induction N with
 | zero => intro v hv; omega
 | succ N ih =>
  intro v hv hs f hf
  have he := xv v
  have hl := yF v.Kids
  obtain ⟨f, rfl, _⟩ := zg (show 0 < f by omega)
  obtain ⟨f, rfl, _⟩ := zg (show 0 < f by omega)
  obtain ⟨f, rfl, _⟩ := zg (show 0 < f by omega)
  obtain ⟨f, rfl, _⟩ := zg (show 0 < f by omega)
  obtain ⟨r, hr, hd⟩ := zdh (ks := ks) (G := yT (f + 1)) (a := v.Kids) (f := f + 1) (by omega) (by omega) (fun x hx => by
   have := xA hx
   rw [yT]
   unfold vD
   rw [ih x (by omega) (by omega) f (by omega), Option.bind_some])
  rw [yU]
  unfold ZD
  rw [zF]
  unfold xx
  rw [zM, hr, Option.bind_some, Option.bind_some, hd, D9, T0 _ hks, Option.bind_some]
  by_cases h6 : v.Kind ∈ ks
  ·rw [decide_eq_true h6, decide_eq_false (fun h => h h6)]; rfl
  ·rw [decide_eq_false h6, decide_eq_true h6]; simp
theorem zg0 {acc : List (List UInt8)} {x : List UInt8} (h : acc.length <= 2 ^ 38) : ka acc x = some (jm x false acc) := if_pos h
theorem Hl (x : List UInt8) : ∀ (l : List (List UInt8)), jm x false l ≠ []
 | [] => by simp [jm]
 | y :: l => by
  rw [jm]
  split <;> simp
theorem KO {x : List UInt8} : ∀ (l : List (List UInt8)) (b : Bool), (jm x b l).length <= l.length + flU b
 | [], true => Nat.le_refl _
 | [], false => Nat.le_refl _
 | y :: r, true => by
  have := KO (x := x) r true
  rw [jm]
  simp only [flU] at this ⊢
  split <;> simp only [List.length_cons] <;> omega
 | y :: r, false => by
  have h1 := KO (x := x) r true
  have h2 := KO (x := x) r false
  rw [jm]
  simp only [flU] at h1 h2 ⊢
  split
  ·split <;> simp only [List.length_cons] <;> omega
  ·simp only [List.length_cons]; omega
theorem LE (x : List UInt8) (l : List (List UInt8)) (b : Bool) : (jm x b l).length <= l.length + 1 := by
 have := KO (x := x) l b
 cases b <;> simp only [flU] at this <;> omega
def Y7 (acc ts : List (List UInt8)) : List (List UInt8) := ts.foldl (fun acc x => jm x false acc) acc
theorem P9 : ∀ (ts acc : List (List UInt8)), (Y7 acc ts).length <= acc.length + ts.length
 | [], _ => Nat.le_refl _
 | t :: ts, acc => by
  have h1 := P9 ts (jm t false acc)
  have h2 := LE t acc false
  show (Y7 (jm t false acc) ts).length <= _
  simp only [List.length_cons]
  omega
theorem El (a b acc : List (List UInt8)) : Y7 acc (a ++ b) = Y7 (Y7 acc a) b := by unfold Y7; rw [List.foldl_append]
theorem LF : ∀ (ts acc : List (List UInt8)), acc ≠ [] → Y7 acc ts ≠ []
 | [], _, h => h
 | t :: ts, acc, h => LF ts _ (Hl t acc)
theorem PA (ts : List (List UInt8)) : Y7 [] ts = [] ↔ ts = [] := by
 cases ts with
 | nil => exact ⟨fun _ => rfl, fun _ => rfl⟩
 | cons t ts => exact ⟨fun h => absurd h (LF ts _ (Hl t [])), fun h => by cases h⟩
theorem DM (t : Int) : ∀ (N : Nat) (v : GExpr), xsz v < N → xsz v <= 2 ^ 20 → ∀ (f : Nat) (acc : List (List UInt8)), xsz v + 2 <= f → acc.length + xsz v + 1 <= 2 ^ 38 → xi f v t acc = some (Y7 acc (nkX t v)) := by
 intro N
 induction N with
 | zero => intro v hv; omega
 | succ N ih =>
  intro v hv hs f acc hf hb
  obtain ⟨f, rfl, hf'⟩ : ∃ n, f = n + 1 ∧ xsz v + 1 <= n := ⟨f - 1, by omega, by omega⟩
  have he := xv v
  have hk := yF v.Kids
  have loop : ∀ (l p : List GExpr) (acc : List (List UInt8)) (m : Nat), v.Kids = p ++ l → l.length < m → acc.length + z8 l <= 2 ^ 38 → wk (xi f) t v m acc (p.length : Int) = some (Y7 acc (J4 t l)) := by
   intro l
   induction l with
   | nil =>
    intro p acc m hp hm _
    obtain ⟨m, rfl, _⟩ := zg hm
    rw [wk, hp, List.append_nil, if_neg (by omega)]; rfl
   | cons x l ihl =>
    intro p acc m hp hm hb
    obtain ⟨m, rfl, hm'⟩ := zg hm
    have hlen : v.Kids.length = p.length + (l.length + 1) := by rw [hp]; simp
    have hx := xA (l := v.Kids) (v := x) (by rw [hp]; simp)
    simp only [z8] at hb
    have hl2 := P9 (nkX t x) acc
    have hl3 := Hi t x
    rw [wk, if_pos (by omega), zl, Option.bind_some, show v.Kids[p.length]? = some x by rw [hp]; exact yg p x l, Option.bind_some, ih x (by omega) (by omega) f acc (by omega) (by omega), Option.bind_some, y8 p x (by omega), ihl (p ++ [x]) _ m (by rw [hp]; simp) (by simp only [List.length_cons] at hm'; omega) (by omega), J4, El]
  rw [show xi (f + 1) v t acc = Yc (xi f) f v t acc from rfl]
  unfold Yc
  rw [zf4]
  by_cases k7 : v.Kind = t
  ·have hl := LE v.S acc false
   have := loop v.Kids [] (jm v.S false acc) f rfl (by omega) (by omega)
   simp only [List.length_nil, Int.natCast_zero] at this
   rw [if_pos k7, if_pos k7, zg0 (by omega), Option.bind_some, this, Option.bind_some]; rfl
  ·have := loop v.Kids [] acc f rfl (by omega) (by omega)
   simp only [List.length_nil, Int.natCast_zero] at this
   rw [if_neg k7, if_neg k7, this, Option.bind_some, List.nil_append]
theorem Hm {v : GValue} (h : zp v = true) (h4 : v.Kind ≠ 4) (h5 : v.Kind ≠ 5) : knV v = decide (v.Kind ≠ 6) := by
 have hl := (kG h).1
 have : v.L = [] := by
  unfold zO at hl
  refine List.length_eq_zero_iff.1 ?_
  split at hl
  ·exact (of_decide_eq_true hl).2.2.2
  split at hl
  ·exact (of_decide_eq_true hl).2.2.2
  split at hl
  ·exact (of_decide_eq_true hl).2.2.2
  split at hl
  ·rw [Bool.and_eq_true] at hl
   exact (of_decide_eq_true hl.2).2.2
  first | cases hl | (rw [if_neg h4, if_neg h5] at hl; cases hl)
 rw [PJ, this]; simp [qx]
theorem Au {G : GExpr → Option GExpr} {g : GExpr → GExpr} {a : GExpr} {v2 v3 v4 v5 : Int} {v6 : List UInt8} {v7 : List (List UInt8)} {v8 : List UInt8} {v9 : List (List UInt8)} {v10 : List GExpr} (ha : a.Kids.length <= 2 ^ 39) : ∀ (l p : List GExpr) (m : Nat), a.Kids = p ++ l → (∀ x ∈ l, G x = some (g x)) → l.length < m → ∃ z, yl G a v2 v3 v4 v5 v6 v7 v8 v9 v10 m (p.length : Int) (p.map g) = some (z, a.Kids.map g) := by
 intro l
 induction l with
 | nil =>
  intro p m he _ hm
  obtain ⟨m, rfl, _⟩ := zg hm
  exact ⟨_, by rw [yl, he, if_neg (yD p), List.append_nil]⟩
 | cons x l ih =>
  intro p m he hG hm
  obtain ⟨m, rfl, hm'⟩ := zg hm
  have hlen : a.Kids.length = p.length + (l.length + 1) := by rw [he]; simp
  obtain ⟨z, hz⟩ := ih (p ++ [x]) m (by rw [he]; simp) (fun y hy => hG y (List.mem_cons_of_mem _ hy)) (by simp only [List.length_cons] at hm'; omega)
  refine ⟨z, ?_⟩
  rw [yl, if_pos (by omega), zl, Option.bind_some, show a.Kids[p.length]? = some x by rw [he]; exact yg p x l, Option.bind_some, hG x List.mem_cons_self, Option.bind_some, if_pos (xb (by decide) (by simp only [List.length_map, List.length_cons, List.length_nil]; omega)), y8 p x (by omega)]
  rw [List.map_append] at hz
  exact hz
theorem Av {G : GExpr → Option GExpr} {g : GExpr → GExpr} {a : List GExpr} {v3 v4 v5 v6 : Int} {v7 : List UInt8} {v8 : List (List UInt8)} {v9 : List GExpr} {v10 : List UInt8} {v11 : List (List UInt8)} (ha : a.length <= 2 ^ 39) : ∀ (l p : List GExpr) (m : Nat), a = p ++ l → (∀ x ∈ l, G x = some (g x)) → l.length < m → ∃ z, yn G a (a.length : Int) v3 v4 v5 v6 v7 v8 v9 v10 v11 m (p.length : Int) (p.map g) = some (z, a.map g) := by
 intro l
 induction l with
 | nil =>
  intro p m he _ hm
  obtain ⟨m, rfl, _⟩ := zg hm
  exact ⟨_, by rw [yn, he, if_neg (yD p), List.append_nil]⟩
 | cons x l ih =>
  intro p m he hG hm
  obtain ⟨m, rfl, hm'⟩ := zg hm
  have hlen : a.length = p.length + (l.length + 1) := by rw [he]; simp
  obtain ⟨z, hz⟩ := ih (p ++ [x]) m (by rw [he]; simp) (fun y hy => hG y (List.mem_cons_of_mem _ hy)) (by simp only [List.length_cons] at hm'; omega)
  refine ⟨z, ?_⟩
  rw [yn, if_pos (by omega), zl, Option.bind_some, show a[p.length]? = some x by rw [he]; exact yg p x l, Option.bind_some, hG x List.mem_cons_self, Option.bind_some, if_pos (xb (by decide) (by simp only [List.length_map, List.length_cons, List.length_nil]; omega)), y8 p x (by omega)]
  rw [List.map_append] at hz
  exact hz
theorem zg1 : ∀ (d : Nat) (e : GExpr), frX d e = true → xsz e <= 2 ^ 20 → ∀ f : Nat, xsz e + 2 <= f → yH f e = some (smR false czS d e) := by
 intro d
 induction d with
 | zero => intro e h; simp [frX] at h
 | succ d ih =>
  intro e h hs f hf
  obtain ⟨f, rfl, hf'⟩ : ∃ n, f = n + 1 ∧ xsz e + 1 <= n := ⟨f - 1, by omega, by omega⟩
  have he := xv e
  have hkl := yF e.Kids
  have hk := (Xj h).2.2.2
  have hl : ∀ (v2 v3 v4 v5 : Int) (v6 : List UInt8) (v7 : List (List UInt8)) (v8 : List UInt8) (v9 : List (List UInt8)) (v10 : List GExpr), ∃ z, yl (yH f) e v2 v3 v4 v5 v6 v7 v8 v9 v10 f 0 [] = some (z, e.Kids.map (smR false czS d)) := fun v2 v3 v4 v5 v6 v7 v8 v9 v10 => by
   obtain ⟨z, hz⟩ := Au (G := yH f) (g := smR false czS d) (a := e) (v2 := v2) (v3 := v3) (v4 := v4) (v5 := v5) (v6 := v6) (v7 := v7) (v8 := v8) (v9 := v9) (v10 := v10) (by omega) e.Kids [] f rfl (fun x hx => by
    have := xA hx
    exact ih x (hk x hx) (by omega) f (by omega)) (by omega)
   exact ⟨z, hz⟩
  obtain ⟨z, hz⟩ := hl 0 0 e.Kind e.N e.S e.K [] [] []
  rw [show yH (f + 1) e = Zq (yH f) f e from rfl, smR]
  unfold Zq Yb Yd YI
  rw [zdg _ e (Nat.lt_succ_self _) (by omega) _ (by omega), Option.bind_some]
  have hfr := LC e
  unfold Ru
  cases hp : frK [7, 10, 11, 12] e with
  | false =>
   rw [if_neg (fun hc => by have := (hfr.1 hc.1).1; rw [hp] at this; cases this)]
   dsimp only
   rw [hz]; rfl
  | true =>
   dsimp only
   rw [DM 6 _ e (Nat.lt_succ_self _) hs _ [] (by omega) (by simp only [List.length_nil]; omega), Option.bind_some]
   by_cases hn : nkX 6 e = []
   ·rw [if_pos (by rw [(PA _).2 hn]; rfl)]
    rw [show GEnv.mk (GValue.mk 5 0 [] [] []) (GValue.mk 5 0 [] [] []) (GValue.mk 0 0 [] [] []) (GValue.mk 0 0 [] [] []) (GValue.mk 0 0 [] [] []) = XZ from rfl, zgy Qk (d + 1) e h (by omega) _ (by omega), Option.bind_some]
    have hv := w7 (w := false) (cz := czS) Qk (d + 1) e h
    have hvs := vc hv
    have hf1 : frK [6, 7, 10, 11, 12] e = true := hfr.2 ⟨hp, hn⟩
    generalize evR false czS XZ (d + 1) e = r at hv hvs ⊢
    obtain ⟨v, c⟩ := r
    dsimp only at hv hvs ⊢
    by_cases hc : c = 0
    ·rw [if_pos hc]
     by_cases h4 : v.Kind = 4
     ·rw [if_pos h4, if_neg (fun g => g.2.2.1 h4), hz]; rfl
     rw [if_neg h4]
     by_cases h5 : v.Kind = 5
     ·rw [if_pos h5, if_neg (fun g => g.2.2.2.1 h5), hz]; rfl
     rw [if_neg h5]
     unfold Y4
     rw [if_pos ⟨by omega, ((xN v).1 hv).1⟩, Option.bind_some]
     unfold ofR
     by_cases h6 : v.Kind = 6
     ·rw [if_neg (show ¬ knV v = true by rw [Hm hv h4 h5]; simp [h6]), if_neg (fun g => g.2.2.2.2 h6)]
      dsimp only
      rw [hz]; rfl
     ·rw [if_pos (show knV v = true by rw [Hm hv h4 h5]; simp [h6]), if_pos ⟨hf1, hc, h4, h5, h6⟩]
    ·rw [if_neg hc, if_neg (fun g => hc g.2.1), hz]; rfl
   ·rw [if_neg (fun h => hn ((PA _).1 (List.length_eq_zero_iff.1 (by omega)))), if_neg (fun hc => hn (hfr.1 hc.1).2), hz]; rfl
theorem zg2 : ∀ (d : Nat) (e : GExpr), frX d e = true → xsz e <= 2 ^ 20 → ∀ f : Nat, xsz e + 2 <= f → y0 f e = some (smR true czI d e) := by
 intro d
 induction d with
 | zero => intro e h; simp [frX] at h
 | succ d ih =>
  intro e h hs f hf
  obtain ⟨f, rfl, hf'⟩ : ∃ n, f = n + 1 ∧ xsz e + 1 <= n := ⟨f - 1, by omega, by omega⟩
  have he := xv e
  have hkl := yF e.Kids
  have hk := (Xj h).2.2.2
  obtain ⟨z, hz⟩ := Av (G := y0 f) (g := smR true czI d) (a := e.Kids) (v3 := 0) (v4 := 0) (v5 := e.Kind) (v6 := e.N) (v7 := []) (v8 := []) (v9 := []) (v10 := e.S) (v11 := e.K) (by omega) e.Kids [] f rfl (fun x hx => by
    have := xA hx
    exact ih x (hk x hx) (by omega) f (by omega)) (by omega)
  simp only [List.length_nil, Int.natCast_zero, List.map_nil] at hz
  rw [show y0 (f + 1) e = ko (y0 f) f e from rfl, smR]
  unfold ko kh Zz
  rw [zf9 (by decide) _ e (Nat.lt_succ_self _) (by omega) _ (by omega), Option.bind_some]
  simp only [Q4 (show e.S.length <= 2 ^ 39 by omega), Rk (show bsz e.K <= 2 ^ 39 by omega), Option.bind_some, hz]
  unfold Ru
  cases hp : frK [6, 7, 10, 11, 12] e with
  | false => rw [if_neg (fun hc => by cases hc.1)]
  | true =>
   dsimp only
   rw [show GEnv.mk (GValue.mk 5 0 [] [] []) (GValue.mk 5 0 [] [] []) (GValue.mk 0 0 [] [] []) (GValue.mk 0 0 [] [] []) (GValue.mk 0 0 [] [] []) = XZ from rfl, zgz Qk (d + 1) e h (by omega) _ (by omega), Option.bind_some]
   have hv := w7 (w := true) (cz := czI) Qk (d + 1) e h
   have hvs := vc hv
   generalize evR true czI XZ (d + 1) e = r at hv hvs ⊢
   obtain ⟨v, c⟩ := r
   dsimp only at hv hvs ⊢
   by_cases hc : c = 0
   ·rw [if_pos hc]
    by_cases h4 : v.Kind = 4
    ·rw [if_pos h4, if_neg (fun g => g.2.2.1 h4)]
    rw [if_neg h4]
    by_cases h5 : v.Kind = 5
    ·rw [if_pos h5, if_neg (fun g => g.2.2.2.1 h5)]
    rw [if_neg h5]
    by_cases h6 : v.Kind = 6
    ·rw [if_pos h6, if_neg (fun g => g.2.2.2.2 h6)]
    rw [if_neg h6]
    unfold Za
    rw [if_pos (by omega), Option.bind_some, if_pos ⟨rfl, hc, h4, h5, h6⟩]
   ·rw [if_neg hc, if_neg (fun g => hc g.2.1)]
def Rv (e : GExpr) : GExpr := if exB e = true then smR false czS 10 e else .mk 0 0 [] [] []
theorem PB {e : GExpr} (h : exB e = true) : frX 10 e = true ∧ ptX e <= 150 := by
 unfold exB at h
 have h := of_decide_eq_true h
 exact ⟨h.1, by omega⟩
theorem DN {e : GExpr} (h : xsz e <= 2 ^ 20) : xsz (Rv e) <= 2 ^ 21 := by
 unfold Rv
 split
 ·rename_i hb
  obtain ⟨h1, h2⟩ := PB hb
  have := zgw (w := false) (cz := czS) 10 e h1
  omega
 ·simp [xsz, z8, bsz]
theorem Aw {e : GExpr} (h : xsz e <= 2 ^ 20) : Zs e = some (Rv e, exB e) := by
 have hz := DN h
 unfold Zs
 unfold Rv at hz ⊢
 rw [Ab h, Option.bind_some]
 cases hb : exB e with
 | false => rfl
 | true =>
  rw [hb, if_pos rfl] at hz
  dsimp only
  unfold Zr jB
  rw [zg1 10 e (PB hb).1 h _ (by omega), Option.bind_some, if_pos (by omega)]; rfl
theorem Ax {e : GExpr} (h : xsz e <= 2 ^ 20) : Z0 e = some (Rv e, exB e) := by
 unfold Z0 Rv
 rw [Ac h, Option.bind_some]
 cases hb : exB e with
 | false => rfl
 | true =>
  dsimp only
  unfold kq
  rw [zg2 10 e (PB hb).1 h _ (by omega), Option.bind_some, zf6 zgx 10 e (PB hb).1]; rfl
theorem law_Simplify {v : GExpr} (h : MdX v) : kE v = some true := by
 unfold kE
 rw [zfx h (by decide) (by decide), Option.bind_some]
 unfold YM
 by_cases c : (xsz v : Int) <= 1048576
 ·have h : xsz v <= 2 ^ 20 := by omega
  have hz := DN h
  obtain ⟨k, x, y, z, hm, hk, hk2⟩ := D5 (v := v) (i := 1) (by omega) (by decide) (by decide)
  obtain ⟨k', x', y', z', hm', hk', hh⟩ := Ad (g := Rv v) (by omega)
  rw [if_pos c, if_neg (by omega), zfy h, Option.bind_some, Aw h, Option.bind_some, Ax h]
  dsimp only
  rw [Option.bind_some]
  dsimp only
  rw [D4 (v := Rv v) (by omega), Option.bind_some]
  dsimp only
  rw [D4 (v := v) (by omega), hm, hm']
  cases exB v with
  | true => simp [hh]; omega
  | false => simp [hh]; omega
 ·rw [if_neg c, if_pos (by omega)]
end
end Go.Am.Try
