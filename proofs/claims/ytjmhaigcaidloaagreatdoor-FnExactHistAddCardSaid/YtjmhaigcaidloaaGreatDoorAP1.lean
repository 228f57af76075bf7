
/- The functions of the program in plain Lean, and that the machine answers as they do; conditions at each theorem. -/
import Derived.Test.YtjmhaigcaidloaaGreatDoorAS2
import Derived.Test.YtjmhaigcaidloaaGreatDoorAAmD
set_option linter.unusedVariables false
set_option linter.unusedSimpArgs false
namespace Go.Am.Try
open Go.Am Go.Proofs
set_option linter.unusedVariables false
noncomputable section
theorem WO {α : Type} {f : α → List C} : ([] : List (List C)) = eL f [] := rfl
theorem X7 {α : Type} {f : α → List C} {x : α} {c : List C} {xs : List α} {cs : List (List C)} (h : f x = c) (t : cs = eL f xs) : c :: cs = eL f (x :: xs) := by subst h; subst t; rfl
inductive GValue where
 | mk (Kind : Int) (N : Int) (S : (List UInt8)) (K : (List (List UInt8))) (L : (List GValue))
def GValue.Kind : GValue → Int
 | .mk x _ _ _ _ => x
def GValue.N : GValue → Int
 | .mk _ x _ _ _ => x
def GValue.S : GValue → (List UInt8)
 | .mk _ _ x _ _ => x
def GValue.K : GValue → (List (List UInt8))
 | .mk _ _ _ x _ => x
def GValue.L : GValue → (List GValue)
 | .mk _ _ _ _ x => x
theorem GValue.eta (x : GValue) : GValue.mk x.Kind x.N x.S x.K x.L = x := by cases x; rfl
mutual
def zh : GValue → List C
 | .mk Kind N S K L => [.int .i64 Kind, .int .i64 N, .seq (eL za S), .seq (eL (zu za) K), .seq (YD L)]
def YD : List GValue → List (List C)
 | [] => []
 | v :: l => zh v :: YD l
end
theorem Nz (l : List GValue) : YD l = eL zh l := by
 induction l with
 | nil => rfl
 | cons v l ih => simp only [YD, ih]; rfl
def zD (x : GValue) : List C := [.int .i64 x.Kind, .int .i64 x.N, .seq (eL za x.S), .seq (eL (zu za) x.K), .seq (eL zh x.L)]
theorem yz (x : GValue) : zh x = zD x := by
 cases x; simp only [zh, zD, Nz, GValue.Kind, GValue.N, GValue.S, GValue.K, GValue.L]
mutual
def zq : GValue → List C
 | .mk Kind N S K L => [.int .i64 Kind, .int .i64 N, .own 1 (eL za S), .own 1 (eL (yv 1 za) K), .own 5 (va L)]
def va : List GValue → List (List C)
 | [] => []
 | v :: l => zq v :: va l
end
theorem N0 (l : List GValue) : va l = eL zq l := by
 induction l with
 | nil => rfl
 | cons v l ih => simp only [va, ih]; rfl
def xv (x : GValue) : List C := [.int .i64 x.Kind, .int .i64 x.N, .own 1 (eL za x.S), .own 1 (eL (yv 1 za) x.K), .own 5 (eL zq x.L)]
theorem yp (x : GValue) : zq x = xv x := by
 cases x; simp only [zq, xv, N0, GValue.Kind, GValue.N, GValue.S, GValue.K, GValue.L]
mutual
theorem Li : ∀ x : GValue, yr (zq x) = zh x
 | .mk Kind N S K L => by have h := Pt L; simp only [zq, zh, yr, Z4, h, kc xm, kc (qZ 1 xm)]
theorem Pt : ∀ l : List GValue, wm (va l) = YD l
 | [] => rfl
 | v :: l => by have h := Li v; have g := Pt l; simp only [va, YD, wm, h, g]
end
mutual
theorem Lj : ∀ x : GValue, Zh (zq x) = true
 | .mk Kind N S K L => by have h := Pu L; simp only [zq, Zh, k7, h, kf xm, kf (qZ 1 xm), Bool.and_self]
theorem Pu : ∀ l : List GValue, vy (va l) = true
 | [] => rfl
 | v :: l => by have h := Lj v; have g := Pu l; simp only [va, vy, h, g, Bool.and_self]
end
theorem wV : OEnc 5 zq zh := ⟨fun x => by rw [yp]; rfl, Li, Lj⟩
inductive GEntry where
 | mk (Addr : (List UInt8)) (Val : GValue) (Deps : (List (List UInt8))) (Taint : Bool) (Turned : Int)
def GEntry.Addr : GEntry → (List UInt8)
 | .mk x _ _ _ _ => x
def GEntry.Val : GEntry → GValue
 | .mk _ x _ _ _ => x
def GEntry.Deps : GEntry → (List (List UInt8))
 | .mk _ _ x _ _ => x
def GEntry.Taint : GEntry → Bool
 | .mk _ _ _ x _ => x
def GEntry.Turned : GEntry → Int
 | .mk _ _ _ _ x => x
theorem GEntry.eta (x : GEntry) : GEntry.mk x.Addr x.Val x.Deps x.Taint x.Turned = x := by cases x; rfl
def zj (x : GEntry) : List C := [.seq (eL za x.Addr), .int .i64 x.Val.Kind, .int .i64 x.Val.N, .seq (eL za x.Val.S), .seq (eL (zu za) x.Val.K), .seq (eL zh x.Val.L), .seq (eL (zu za) x.Deps), .bool x.Taint, .int .i64 x.Turned]
def j9 (x : GEntry) : List C := [.seq (eL za x.Addr), .int .i64 x.Val.Kind, .int .i64 x.Val.N, .seq (eL za x.Val.S), .seq (eL (zu za) x.Val.K), .seq (eL zh x.Val.L), .seq (eL (zu za) x.Deps), .bool x.Taint, .int .i64 x.Turned]
theorem zV (x : GEntry) : zj x = j9 x := rfl
def zt (x : GEntry) : List C := [.own 1 (eL za x.Addr), .int .i64 x.Val.Kind, .int .i64 x.Val.N, .own 1 (eL za x.Val.S), .own 1 (eL (yv 1 za) x.Val.K), .own 5 (eL zq x.Val.L), .own 1 (eL (yv 1 za) x.Deps), .bool x.Taint, .int .i64 x.Turned]
def Kp (x : GEntry) : List C := [.own 1 (eL za x.Addr), .int .i64 x.Val.Kind, .int .i64 x.Val.N, .own 1 (eL za x.Val.S), .own 1 (eL (yv 1 za) x.Val.K), .own 5 (eL zq x.Val.L), .own 1 (eL (yv 1 za) x.Deps), .bool x.Taint, .int .i64 x.Turned]
theorem zA (x : GEntry) : zt x = Kp x := rfl
theorem zR : OEnc 9 zt zj := ⟨fun x => rfl, fun x => by simp only [zt, zj, yr, Z4, kc xm, kc (qZ 1 xm), kc wV], fun x => by simp only [zt, Zh, k7, kf xm, kf (qZ 1 xm), kf wV, Bool.and_self]⟩
theorem yG : Enc 9 zj := ⟨fun x => by rw [zV]; rfl, fun x => by rw [zV]; rfl, fun x => by rw [zV]; rfl⟩
inductive GState where
 | mk (Serial : Int) (Open : Bool) (Pending : (List UInt8)) (Act : Int) (Entries : (List GEntry))
def GState.Serial : GState → Int
 | .mk x _ _ _ _ => x
def GState.Open : GState → Bool
 | .mk _ x _ _ _ => x
def GState.Pending : GState → (List UInt8)
 | .mk _ _ x _ _ => x
def GState.Act : GState → Int
 | .mk _ _ _ x _ => x
def GState.Entries : GState → (List GEntry)
 | .mk _ _ _ _ x => x
theorem GState.eta (x : GState) : GState.mk x.Serial x.Open x.Pending x.Act x.Entries = x := by cases x; rfl
def Z1 (x : GState) : List C := [.int .i64 x.Serial, .bool x.Open, .seq (eL za x.Pending), .int .i64 x.Act, .seq (eL zj x.Entries)]
def zX (x : GState) : List C := [.int .i64 x.Serial, .bool x.Open, .seq (eL za x.Pending), .int .i64 x.Act, .seq (eL zj x.Entries)]
theorem Z2 (x : GState) : Z1 x = zX x := rfl
def Qq (x : GState) : List C := [.int .i64 x.Serial, .bool x.Open, .own 1 (eL za x.Pending), .int .i64 x.Act, .own 9 (eL zt x.Entries)]
theorem Y8 : Enc 5 Z1 := ⟨fun x => by rw [Z2]; rfl, fun x => by rw [Z2]; rfl, fun x => by rw [Z2]; rfl⟩
inductive GEvent where
 | mk (Kind : Int) (Addr : (List UInt8)) (Act : Int) (Val : GValue) (Deps : (List (List UInt8)))
def GEvent.Kind : GEvent → Int
 | .mk x _ _ _ _ => x
def GEvent.Addr : GEvent → (List UInt8)
 | .mk _ x _ _ _ => x
def GEvent.Act : GEvent → Int
 | .mk _ _ x _ _ => x
def GEvent.Val : GEvent → GValue
 | .mk _ _ _ x _ => x
def GEvent.Deps : GEvent → (List (List UInt8))
 | .mk _ _ _ _ x => x
theorem GEvent.eta (x : GEvent) : GEvent.mk x.Kind x.Addr x.Act x.Val x.Deps = x := by cases x; rfl
def zw (x : GEvent) : List C := [.int .i64 x.Kind, .seq (eL za x.Addr), .int .i64 x.Act, .int .i64 x.Val.Kind, .int .i64 x.Val.N, .seq (eL za x.Val.S), .seq (eL (zu za) x.Val.K), .seq (eL zh x.Val.L), .seq (eL (zu za) x.Deps)]
def xS (x : GEvent) : List C := [.int .i64 x.Kind, .seq (eL za x.Addr), .int .i64 x.Act, .int .i64 x.Val.Kind, .int .i64 x.Val.N, .seq (eL za x.Val.S), .seq (eL (zu za) x.Val.K), .seq (eL zh x.Val.L), .seq (eL (zu za) x.Deps)]
theorem eq_GEvent (x : GEvent) : zw x = xS x := rfl
def yx (x : GEvent) : List C := [.int .i64 x.Kind, .own 1 (eL za x.Addr), .int .i64 x.Act, .int .i64 x.Val.Kind, .int .i64 x.Val.N, .own 1 (eL za x.Val.S), .own 1 (eL (yv 1 za) x.Val.K), .own 5 (eL zq x.Val.L), .own 1 (eL (yv 1 za) x.Deps)]
def Kq (x : GEvent) : List C := [.int .i64 x.Kind, .own 1 (eL za x.Addr), .int .i64 x.Act, .int .i64 x.Val.Kind, .int .i64 x.Val.N, .own 1 (eL za x.Val.S), .own 1 (eL (yv 1 za) x.Val.K), .own 5 (eL zq x.Val.L), .own 1 (eL (yv 1 za) x.Deps)]
theorem yl (x : GEvent) : yx x = Kq x := rfl
theorem zW : OEnc 9 yx zw := ⟨fun x => rfl, fun x => by simp only [yx, zw, yr, Z4, kc xm, kc (qZ 1 xm), kc wV], fun x => by simp only [yx, Zh, k7, kf xm, kf (qZ 1 xm), kf wV, Bool.and_self]⟩
inductive GHistory where
 | mk (Base : GState) (Events : (List GEvent)) (Safe : Int)
def GHistory.Base : GHistory → GState
 | .mk x _ _ => x
def GHistory.Events : GHistory → (List GEvent)
 | .mk _ x _ => x
def GHistory.Safe : GHistory → Int
 | .mk _ _ x => x
theorem GHistory.eta (x : GHistory) : GHistory.mk x.Base x.Events x.Safe = x := by cases x; rfl
def Pv (x : GHistory) : List C := [.int .i64 x.Base.Serial, .bool x.Base.Open, .seq (eL za x.Base.Pending), .int .i64 x.Base.Act, .seq (eL zj x.Base.Entries), .seq (eL zw x.Events), .int .i64 x.Safe]
def yq (x : GHistory) : List C := [.int .i64 x.Base.Serial, .bool x.Base.Open, .seq (eL za x.Base.Pending), .int .i64 x.Base.Act, .seq (eL zj x.Base.Entries), .seq (eL zw x.Events), .int .i64 x.Safe]
theorem eq_GHistory (x : GHistory) : Pv x = yq x := rfl
def Xi (x : GHistory) : List C := [.int .i64 x.Base.Serial, .bool x.Base.Open, .own 1 (eL za x.Base.Pending), .int .i64 x.Base.Act, .own 9 (eL zt x.Base.Entries), .own 9 (eL yx x.Events), .int .i64 x.Safe]
def bsz (k : List (List UInt8)) : Nat := k.length + (k.map List.length).sum
mutual
def vsz : GValue → Nat
 | .mk _ _ s k l => s.length + bsz k + yA l
def yA : List GValue → Nat
 | [] => 0
 | v :: l => 1 + vsz v + yA l
end
theorem ZT {k : List (List UInt8)} {b : List UInt8} (h : b ∈ k) : 1 + b.length <= bsz k := by
 unfold bsz
 induction k with
 | nil => cases h
 | cons x k ih =>
  simp only [List.length_cons, List.map_cons, List.sum_cons]
  rcases List.mem_cons.1 h with rfl | h
  ·omega
  ·have := ih h; omega
theorem q7 (k : List (List UInt8)) : k.length <= bsz k := by unfold bsz; omega
theorem N1 (b : List UInt8) (k : List (List UInt8)) : bsz (b :: k) = 1 + b.length + bsz k := by unfold bsz; simp; omega
theorem wr {l : List GValue} {v : GValue} (h : v ∈ l) : 1 + vsz v <= yA l := by
 induction l with
 | nil => cases h
 | cons x l ih =>
  simp only [yA]
  rcases List.mem_cons.1 h with rfl | h
  ·omega
  ·have := ih h; omega
theorem yR (l : List GValue) : l.length <= yA l := by
 induction l with
 | nil => simp
 | cons x l ih => simp only [yA, List.length_cons]; omega
theorem xw (v : GValue) : vsz v = v.S.length + bsz v.K + yA v.L := by cases v; simp only [vsz, GValue.S, GValue.K, GValue.L]
mutual
def ptV : GValue → Nat
 | .mk _ _ _ _ l => 1 + wP l
def wP : List GValue → Nat
 | [] => 0
 | v :: l => ptV v + wP l
end
theorem N2 (v : GValue) : ptV v = 1 + wP v.L := by cases v; simp only [ptV, GValue.L]
theorem B7 (l : List GValue) : l.length <= wP l := by
 induction l with
 | nil => simp
 | cons v l ih => have := N2 v; simp only [wP, List.length_cons]; omega
mutual
theorem zeu : ∀ v : GValue, ptV v <= 1 + vsz v
 | .mk _ _ _ _ l => by have := O7 l; simp only [ptV, vsz]; omega
theorem O7 : ∀ l : List GValue, wP l <= yA l
 | [] => by simp [wP, yA]
 | v :: l => by have := zeu v; have := O7 l; simp only [wP, yA]; omega
end
def Xj (a : List UInt8) : Bool := decide (a.length <= 20) && a.all (inB 32 126)
def jY (a : List UInt8) : Bool := decide (1 <= a.length ∧ a.length <= 8) && a.all (inB 97 122)
def kOk (k : List (List UInt8)) (j : Nat) : Bool := match k[j]? with
 | some b => jY b && (decide (j = 0) || match k[j - 1]? with | some a => Op.bytesLess a b | none => false)
 | none => false
def vv (k : List (List UInt8)) (i d : Nat) : Bool := (List.range' i d).all (kOk k)
theorem QU (k : List (List UInt8)) (i d : Nat) : vv k i (d + 1) = (kOk k i && vv k (i + 1) d) := by
 unfold vv; rw [List.range'_succ, List.all_cons]
theorem J9 {k : List (List UInt8)} {i : Nat} (h : i < k.length) (h0 : 0 < i) : kOk k i = (jY k[i] && Op.bytesLess (k[i - 1]'(by omega)) k[i]) := by
 unfold kOk
 rw [zl h]
 simp only
 rw [zl (show i - 1 < k.length by omega)]
 simp [show i ≠ 0 by omega]
theorem Kr {k : List (List UInt8)} (h : 0 < k.length) : kOk k 0 = jY k[0] := by
 unfold kOk
 rw [zl h]
 simp
theorem X8 (a b : List UInt8) : (0 <= Lib.compareBytes a b) = ¬ (Op.bytesLess a b = true) := by
 induction a generalizing b with
 | nil => cases b <;> simp [Lib.compareBytes, Op.bytesLess]
 | cons x a ih =>
  cases b with
  | nil => simp [Lib.compareBytes, Op.bytesLess]
  | cons y b =>
   simp only [Lib.compareBytes, Op.bytesLess]
   by_cases h1 : x < y
   ·simp [h1]
   ·by_cases h2 : y < x
    ·have h3 : ¬ x = y := fun e => by subst e; exact h1 h2
     simp [h1, h2, h3]
    ·have h3 : x = y := UInt8.le_antisymm (UInt8.not_lt.1 h2) (UInt8.not_lt.1 h1)
     subst h3
     simp [h1, ih]
def yS (v : GValue) : Bool :=
 if v.Kind = 0 ∨ v.Kind = 6 then decide (v.N = 0 ∧ v.S.length = 0 ∧ v.K.length = 0 ∧ v.L.length = 0)
 else if v.Kind = 1 then decide ((0 <= v.N ∧ v.N <= 1) ∧ v.S.length = 0 ∧ v.K.length = 0 ∧ v.L.length = 0)
 else if v.Kind = 2 then decide ((-1000000000000 <= v.N ∧ v.N <= 1000000000000) ∧ v.S.length = 0 ∧ v.K.length = 0 ∧ v.L.length = 0)
 else if v.Kind = 3 then Xj v.S && decide (v.N = 0 ∧ v.K.length = 0 ∧ v.L.length = 0)
 else if v.Kind = 4 then decide (v.N = 0 ∧ v.S.length = 0 ∧ v.K.length = 0 ∧ v.L.length <= 40)
 else if v.Kind = 5 then decide (v.K.length = v.L.length ∧ v.N = 0 ∧ v.S.length = 0 ∧ v.L.length <= 40) && vv v.K 0 v.K.length
 else false
def shV : Nat → GValue → Bool
 | 0, _ => false
 | d + 1, v => yS v && v.L.all (shV d)
def y3 (s : Nat) (n : Int) : Int := if (s : Int) <= n then n - s else -1
/- calls -/
theorem Z3 (a : List UInt8) : Op.bytesLess a a = false := by
 induction a with
 | nil => rfl
 | cons x a ih => simp [Op.bytesLess, ih]
theorem vx : ∀ {a b c : List UInt8}, Op.bytesLess a b = true → Op.bytesLess b c = true → Op.bytesLess a c = true
 | [], [], _, h, _ => by simp [Op.bytesLess] at h
 | [], _ :: _, [], _, h => by simp [Op.bytesLess] at h
 | [], _ :: _, _ :: _, _, _ => rfl
 | _ :: _, [], _, h, _ => by simp [Op.bytesLess] at h
 | _ :: _, _ :: _, [], _, h => by simp [Op.bytesLess] at h
 | x :: a, y :: b, z :: c, h, g => by
  simp only [Op.bytesLess, Bool.or_eq_true, decide_eq_true_eq, Bool.and_eq_true, beq_iff_eq] at h g ⊢
  rcases h with h | ⟨rfl, h⟩
  ·rcases g with g | ⟨rfl, g⟩
   ·exact .inl (UInt8.lt_trans h g)
   ·exact .inl h
  ·rcases g with g | ⟨rfl, g⟩
   ·exact .inl g
   ·exact .inr ⟨rfl, vx h g⟩
theorem N3 : ∀ (a b : List UInt8), Lib.compareBytes a b = 0 ↔ a = b
 | [], [] => by simp [Lib.compareBytes]
 | [], _ :: _ => by simp [Lib.compareBytes]
 | _ :: _, [] => by simp [Lib.compareBytes]
 | x :: a, y :: b => by
  have ih := N3 a b
  simp only [Lib.compareBytes]
  by_cases h1 : x < y
  ·rw [if_pos h1]
   have : x ≠ y := fun e => by subst e; exact absurd h1 (UInt8.lt_irrefl x)
   simp [this]
  ·rw [if_neg h1]
   by_cases h2 : y < x
   ·rw [if_pos h2]
    have : x ≠ y := fun e => by subst e; exact absurd h2 (UInt8.lt_irrefl x)
    simp [this]
   ·have h3 : x = y := UInt8.le_antisymm (UInt8.not_lt.1 h2) (UInt8.not_lt.1 h1)
    subst h3
    rw [if_neg h2, ih]; simp
theorem G6 (a b : List UInt8) : (Lib.compareBytes a b < 0) = (Op.bytesLess a b = true) := by
 have := X8 a b
 apply propext
 constructor
 ·intro h
  refine Classical.byContradiction fun hn => ?_
  rw [<- this] at hn
  omega
 ·intro h
  refine Classical.byContradiction fun hn => ?_
  have h0 : 0 <= Lib.compareBytes a b := by omega
  rw [this] at h0
  exact h0 h
def kS (a : List (List UInt8)) (x : List UInt8) (c : Nat) : Prop := c <= a.length ∧ ∀ k (h : k < a.length), k < c ↔ Op.bytesLess a[k] x = true
def Asc (a : List (List UInt8)) : Prop := ∀ i j (hj : j < a.length) (hij : i < j), Op.bytesLess (a[i]'(by omega)) a[j] = true
theorem kS.of {a : List (List UInt8)} (ha : Asc a) (x : List UInt8) : ∃ c, kS a x c := by
 have : ∀ n, n <= a.length → ∃ c, c <= n ∧ ∀ k (h : k < a.length), k < n → (k < c ↔ Op.bytesLess a[k] x = true) := by
  intro n
  induction n with
  | zero => exact fun _ => ⟨0, Nat.le_refl _, fun k h hk => by omega⟩
  | succ n ih =>
   intro hn
   obtain ⟨c, hc, h⟩ := ih (by omega)
   by_cases hl : Op.bytesLess (a[n]'(by omega)) x = true
   ·have hcn : c = n := by
     refine Classical.byContradiction fun hne => ?_
     have h1 := h c (by omega) (by omega)
     have h2 := ha c n (by omega) (by omega)
     have := h1.2 (vx h2 hl)
     omega
    refine ⟨n + 1, Nat.le_refl _, fun k hk hkn => ?_⟩
    rcases Nat.lt_or_ge k n with hlt | hge
    ·exact ⟨fun _ => (h k hk hlt).1 (by omega), fun _ => by omega⟩
    ·obtain rfl : k = n := by omega
     exact ⟨fun _ => hl, fun _ => by omega⟩
   ·refine ⟨c, by omega, fun k hk hkn => ?_⟩
    rcases Nat.lt_or_ge k n with hlt | hge
    ·exact h k hk hlt
    ·obtain rfl : k = n := by omega
     exact ⟨fun _ => by omega, fun h => (hl h).elim⟩
 obtain ⟨c, hc, h⟩ := this a.length (Nat.le_refl _)
 exact ⟨c, hc, fun k hk => h k hk hk⟩
theorem kS.mem {a : List (List UInt8)} (ha : Asc a) {x : List UInt8} {c : Nat} (h : kS a x c) : a[c]? = some x ↔ x ∈ a := by
 constructor
 ·exact List.mem_of_getElem?
 ·intro hx
  obtain ⟨k, hk, rfl⟩ := List.mem_iff_getElem.1 hx
  have h1 : ¬ k < c := fun hlt => by
   have := (h.2 k hk).1 hlt
   rw [Z3] at this
   cases this
  have h2 : k = c := by
   refine Classical.byContradiction fun hne => ?_
   have hlt : c < k := by omega
   have := (h.2 c (by omega)).2 (ha c k hk hlt)
   omega
  subst h2
  exact zl hk
theorem Dl {i j : Nat} (h : i + j < 2 ^ 62) : w64 (WS .shr .u64 (IntKind.u64.wrap (w64 ((i : Int) + (j : Int)))) 1) = (((i + j) / 2 : Nat) : Int) := by
 rw [yc (x := (i : Int) + (j : Int)) (by omega) (by omega)]
 have h1 : IntKind.u64.wrap ((i : Int) + (j : Int)) = (i : Int) + (j : Int) := by unfold IntKind.wrap; simp [IntKind.bits, IntKind.signed]; omega
 rw [h1]
 have h2 : WS .shr .u64 ((i : Int) + (j : Int)) 1 = (((i + j) / 2 : Nat) : Int) := by
  show Int.fdiv _ (2 ^ (min (1 : Int).toNat IntKind.u64.bits)) = _
  rw [show min (1 : Int).toNat IntKind.u64.bits = 1 from rfl, Int.fdiv_eq_ediv_of_nonneg _ (by decide)]
  omega
 rw [h2, yc (by omega) (by omega)]
def Yk (v : GValue) : Bool := decide (shV 5 v = true ∧ (ptV v : Int) <= 40)
/- sorting -/
def Le (x y : List UInt8) : Prop := Op.bytesLess y x = false
theorem WG : ∀ a b : List UInt8, Op.bytesLess a b = true ∨ a = b ∨ Op.bytesLess b a = true
 | [], [] => .inr (.inl rfl)
 | [], _ :: _ => .inl rfl
 | _ :: _, [] => .inr (.inr rfl)
 | x :: a, y :: b => by
  simp only [Op.bytesLess, Bool.or_eq_true, decide_eq_true_eq, Bool.and_eq_true, beq_iff_eq]
  by_cases h1 : x < y
  ·exact .inl (.inl h1)
  by_cases h2 : y < x
  ·exact .inr (.inr (.inl h2))
  ·have h3 : x = y := UInt8.le_antisymm (UInt8.not_lt.1 h2) (UInt8.not_lt.1 h1)
   subst h3
   rcases WG a b with h | h | h
   ·exact .inl (.inr ⟨rfl, h⟩)
   ·exact .inr (.inl (by rw [h]))
   ·exact .inr (.inr (.inr ⟨rfl, h⟩))
theorem Le.refl (x : List UInt8) : Le x x := Z3 x
theorem Le.of_less {x y : List UInt8} (h : Op.bytesLess x y = true) : Le x y := by
 unfold Le
 cases h2 : Op.bytesLess y x with
 | false => rfl
 | true => have := vx h h2; rw [Z3] at this; cases this
theorem Le.cases {x y : List UInt8} (h : Le x y) : x = y ∨ Op.bytesLess x y = true := by
 rcases WG x y with g | g | g
 ·exact .inr g
 ·exact .inl g
 ·unfold Le at h; rw [h] at g; cases g
theorem Le.trans {x y z : List UInt8} (h : Le x y) (g : Le y z) : Le x z := by
 rcases h.cases with rfl | h
 ·exact g
 ·rcases g.cases with rfl | g
  ·exact Le.of_less h
  ·exact Le.of_less (vx h g)
def gt (d : List (List UInt8)) (i : Nat) : List UInt8 := (d[i]?).getD []
structure Rg (a b : Nat) (d d' : List (List UInt8)) : Prop where
 len : d'.length = d.length
 perm : d'.Perm d
 out : ∀ i, (i < a ∨ b <= i) → gt d' i = gt d i
 all : ∀ Q : List UInt8 → Prop, (∀ i, a <= i → i < b → Q (gt d i)) → ∀ i, a <= i → i < b → Q (gt d' i)
theorem Rg.refl (a b : Nat) (d : List (List UInt8)) : Rg a b d d := ⟨rfl, .refl _, fun _ _ => rfl, fun _ h => h⟩
theorem Rg.trans {a b : Nat} {d d' d'' : List (List UInt8)} (h : Rg a b d d') (g : Rg a b d' d'') : Rg a b d d'' :=
 ⟨g.len.trans h.len, g.perm.trans h.perm, fun i hi => (g.out i hi).trans (h.out i hi), fun Q hq => g.all Q (h.all Q hq)⟩
theorem Rg.mono {a b a' b' : Nat} {d d' : List (List UInt8)} (h : Rg a b d d') (ha : a' <= a) (hb : b <= b') : Rg a' b' d d' :=
 ⟨h.len, h.perm, fun i hi => h.out i (by omega), fun Q hq i h1 h2 => by
  by_cases hin : a <= i ∧ i < b
  ·exact h.all Q (fun k k1 k2 => hq k (by omega) (by omega)) i hin.1 hin.2
  ·rw [h.out i (by omega)]; exact hq i h1 h2⟩
/- values as expressions -/
mutual
def knV : GValue → Bool
 | .mk k _ _ _ l => decide (k ≠ 6) && Wp l
def Wp : List GValue → Bool
 | [] => true
 | v :: l => knV v && Wp l
end
theorem Dm (v : GValue) : knV v = (decide (v.Kind ≠ 6) && Wp v.L) := by cases v; rw [knV]; rfl
/- expressions renamed -/
/- marks -/
theorem zG {α : Type} (p : List α) (x : α) (l : List α) : (p ++ x :: l)[p.length]? = some x := by simp
theorem wM {α : Type} (p : List α) (x y : α) (l : List α) : (p ++ x :: l).set p.length y = p ++ y :: l := by simp
theorem Qr {α : Type} (p : List α) (x : α) (l : List α) : p ++ x :: l = (p ++ [x]) ++ l := by simp
theorem y8 {α : Type} (p : List α) (x : α) (h : p.length < 2 ^ 62) : w64 ((p.length : Int) + 1) = ((p ++ [x]).length : Int) := by rw [zH h]; simp
theorem vI {α : Type} (p : List α) (x : α) (l : List α) : (p.length : Int) < ((p ++ x :: l).length : Int) := by simp; omega
theorem wh {α : Type} (p : List α) : ¬ (p.length : Int) < ((p ++ []).length : Int) := by simp
theorem xK {n m : Nat} (hn : n <= 2 ^ 7) (hm : m <= 2 ^ 40) : yj n m := by
 have : m * n <= 2 ^ 40 * 2 ^ 7 := Nat.mul_le_mul hm hn
 unfold yj
 exact ⟨by rw [show maxBytes = 2 ^ 47 from rfl]; omega, by omega⟩
def mB : Int → List UInt8 → List UInt8
 | _, [] => []
 | k, _ :: l => b8 k :: mB (k + 1) l
def cB (k : List (List UInt8)) : Nat := (k.map List.length).sum
def mBB : Int → List (List UInt8) → List (List UInt8)
 | _, [] => []
 | k, x :: l => mB k x :: mBB (k + x.length) l
theorem kU (l : List UInt8) (k : Int) : (mB k l).length = l.length := by
 induction l generalizing k with
 | nil => rfl
 | cons x l ih => simp only [mB, List.length_cons, ih]
theorem JA (l : List UInt8) (k : Int) : mB k (mB k l) = mB k l := by
 induction l generalizing k with
 | nil => rfl
 | cons x l ih => simp only [mB, ih]
theorem TX (l : List (List UInt8)) (k : Int) : mBB k (mBB k l) = mBB k l := by
 induction l generalizing k with
 | nil => rfl
 | cons x l ih => simp only [mBB, JA, kU, ih]
theorem Qs (l : List (List UInt8)) (k : Int) : cB (mBB k l) = cB l := by
 induction l generalizing k with
 | nil => rfl
 | cons x l ih => unfold cB at ih ⊢; simp only [mBB, List.map_cons, List.sum_cons, kU, ih]
theorem G7 (x : List UInt8) (l : List (List UInt8)) : cB (x :: l) = x.length + cB l := by unfold cB; simp
theorem qM (l : List (List UInt8)) : bsz l = l.length + cB l := rfl
theorem O8 (l : List (List UInt8)) (k : Int) : bsz (mBB k l) = bsz l := by
 rw [qM, qM, Qs]
 congr 1
 induction l generalizing k with
 | nil => rfl
 | cons x l ih => simp only [mBB, List.length_cons, ih]
mutual
def cV : GValue → Nat
 | .mk _ _ s k l => 2 + (s.length + (cB k + cVs l))
def cVs : List GValue → Nat
 | [] => 0
 | v :: l => cV v + cVs l
end
mutual
def mV : Int → GValue → GValue
 | i, .mk _ _ s k l => .mk i (i + 1) (mB (i + 1 + 1) s) (mBB (i + 1 + 1 + s.length) k) (mVs (i + 1 + 1 + s.length + cB k) l)
def mVs : Int → List GValue → List GValue
 | _, [] => []
 | i, v :: l => mV i v :: mVs (i + cV v) l
end
theorem Pw (v : GValue) : cV v = 2 + (v.S.length + (cB v.K + cVs v.L)) := by cases v; simp only [cV, GValue.S, GValue.K, GValue.L]
theorem Px (i : Int) (v : GValue) : mV i v = .mk i (i + 1) (mB (i + 1 + 1) v.S) (mBB (i + 1 + 1 + v.S.length) v.K) (mVs (i + 1 + 1 + v.S.length + cB v.K) v.L) := by cases v; simp only [mV, GValue.S, GValue.K, GValue.L]
mutual
theorem O9 : ∀ (i : Int) (v : GValue), cV (mV i v) = cV v
 | i, .mk _ _ s k l => by simp only [mV, cV, kU, Qs, AY]
theorem AY : ∀ (i : Int) (l : List GValue), cVs (mVs i l) = cVs l
 | _, [] => rfl
 | i, v :: l => by simp only [mVs, cVs, O9 i v, AY _ l]
end
mutual
theorem OA : ∀ (i : Int) (v : GValue), mV i (mV i v) = mV i v
 | i, .mk _ _ s k l => by simp only [mV, kU, Qs, JA, TX, N4]
theorem N4 : ∀ (i : Int) (l : List GValue), mVs i (mVs i l) = mVs i l
 | _, [] => rfl
 | i, v :: l => by simp only [mVs, O9, OA i v, N4 _ l]
end
mutual
theorem HC : ∀ (i : Int) (v : GValue), vsz (mV i v) = vsz v
 | i, .mk _ _ s k l => by simp only [mV, vsz, kU, O8, Dn]
theorem Dn : ∀ (i : Int) (l : List GValue), yA (mVs i l) = yA l
 | _, [] => rfl
 | i, v :: l => by simp only [mVs, yA, HC i v, Dn _ l]
end
mutual
theorem WH : ∀ v : GValue, cV v <= 2 + 2 * vsz v
 | .mk _ _ s k l => by have := Xk l; have := qM k; simp only [cV, vsz]; omega
theorem Xk : ∀ l : List GValue, cVs l <= 2 * yA l
 | [] => by simp [cVs, yA]
 | v :: l => by have := WH v; have := Xk l; simp only [cVs, yA]; omega
end
/- addresses -/
theorem Py {α : Type} {l : List α} {i : Nat} (h : i <= l.length) : qm l none (some i) = some (l.take i) := by
 unfold qm vX; rw [if_pos ⟨by simp, by simpa using h⟩]; simp
theorem Ks {α : Type} {l : List α} {i : Nat} (h : i <= l.length) : qm l (some i) none = some (l.drop i) := by
 unfold qm vX; rw [if_pos ⟨by simpa using h, by simp⟩]; simp
theorem G8 {α : Type} {l : List α} (h : 2 <= l.length) : qm l (some 1) (some (l.length - 1)) = some ((l.drop 1).dropLast) := by
 unfold qm vX
 rw [if_pos ⟨by simp; omega, by simp⟩]
 simp only [Option.getD_some, Option.map_some, List.dropLast_eq_take, List.length_drop, List.drop_take]
theorem N5 {α : Type} {l : List α} (h : 0 < l.length) : l[l.length - 1]? = l.getLast? := by rw [List.getLast?_eq_getElem?]
def QV (n : Nat) : List UInt8 := if n < 10 then [UInt8.ofNat (48 + n)] else [UInt8.ofNat (48 + n / 10), UInt8.ofNat (48 + n % 10)]
def Kt (l : List UInt8) : Bool := decide (1 <= l.length ∧ l.length <= 2) && !(decide (l.length = 2) && decide (l[0]? = some 48)) && l.all (inB 48 57)
def HD (l : List UInt8) : Bool := if l[0]? = some 34 then (if (l.drop 1).getLast? = some 34 then jY (l.drop 1).dropLast else false) else Kt l
def vU (b : List UInt8) : List UInt8 := b.takeWhile fun x => decide (x ≠ 91)
def kj (b : List UInt8) : List UInt8 := b.dropWhile fun x => decide (x ≠ 91)
theorem Pz (b : List UInt8) : vU b ++ kj b = b := List.takeWhile_append_dropWhile
theorem G9 (b : List UInt8) : b.take (vU b).length = vU b := by
 conv => lhs; arg 2; rw [<- Pz b]
 exact List.take_left
theorem GA (b : List UInt8) : b.drop (vU b).length = kj b := by
 conv => lhs; arg 2; rw [<- Pz b]
 exact List.drop_left
theorem N6 (b : List UInt8) : (vU b).length + (kj b).length = b.length := by
 rw [<- List.length_append, Pz]
theorem GB {b : List UInt8} (h : kj b ≠ []) : ∃ t, kj b = 91 :: t := by
 unfold kj at h ⊢
 induction b with
 | nil => exact (h rfl).elim
 | cons x b ih =>
  rw [List.dropWhile_cons] at h ⊢
  by_cases hx : x = 91
  ·subst hx
   exact ⟨b, by rw [if_neg (by simp)]⟩
  ·rw [if_pos (by simpa using hx)] at h ⊢
   exact ih h
def ye (b : List UInt8) : Bool := jY (vU b) && (if kj b = [] then true else if ((kj b).drop 1).getLast? = some 93 then HD ((kj b).drop 1).dropLast else false)
def gOk {α : Type} (p : α → Bool) (key : α → List UInt8) (l : List α) (j : Nat) : Bool := match l[j]? with
 | some b => p b && (decide (j = 0) || match l[j - 1]? with | some a => Op.bytesLess (key a) (key b) | none => false)
 | none => false
def kV {α : Type} (p : α → Bool) (key : α → List UInt8) (l : List α) (i d : Nat) : Bool := (List.range' i d).all (gOk p key l)
theorem QW {α : Type} (p : α → Bool) (key : α → List UInt8) (l : List α) (i d : Nat) : kV p key l i (d + 1) = (gOk p key l i && kV p key l (i + 1) d) := by
 unfold kV; rw [List.range'_succ, List.all_cons]
theorem Rj {α : Type} {p : α → Bool} {key : α → List UInt8} {l : List α} {i : Nat} (h : i < l.length) (h0 : 0 < i) : gOk p key l i = (p l[i] && Op.bytesLess (key (l[i - 1]'(by omega))) (key l[i])) := by
 unfold gOk
 rw [zl h]
 simp only
 rw [zl (show i - 1 < l.length by omega)]
 simp [show i ≠ 0 by omega]
theorem Ku {α : Type} {p : α → Bool} {key : α → List UInt8} {l : List α} (h : 0 < l.length) : gOk p key l 0 = p l[0] := by
 unfold gOk
 rw [zl h]
 simp
theorem zbx {α : Type} {p : α → Bool} {key : α → List UInt8} {l : List α} (h : kV p key l 0 l.length = true) {j : Nat} (hj : j < l.length) : gOk p key l j = true := by
 unfold kV at h
 exact List.all_eq_true.1 h j (List.mem_range'_1.2 ⟨by omega, by omega⟩)
theorem N7 {α : Type} {p : α → Bool} {key : α → List UInt8} {l : List α} (h : kV p key l 0 l.length = true) : Asc (l.map key) := by
 intro i j
 induction j with
 | zero => intro _ h; omega
 | succ j ih =>
  intro hj hij
  rw [List.length_map] at hj
  have hk := zbx h hj
  rw [Rj hj (by omega), Bool.and_eq_true] at hk
  have h1 := hk.2
  rw [List.getElem_map, List.getElem_map]
  rcases Nat.lt_or_ge i j with hlt | hge
  ·have := ih (by rw [List.length_map]; omega) hlt
   rw [List.getElem_map, List.getElem_map] at this
   exact vx this h1
  ·obtain rfl : i = j := by omega
   exact h1
def jZ (l : List (List UInt8)) : Bool := decide (l.length <= 8) && kV ye id l 0 l.length
def kz (v : GValue) : Bool := decide (v.Kind = 5) && Yk v && knV v
def esz (e : GEntry) : Nat := e.Addr.length + vsz e.Val + bsz e.Deps
def zZ : List GEntry → Nat
 | [] => 0
 | v :: l => 1 + esz v + zZ l
theorem X9 {l : List GEntry} {v : GEntry} (h : v ∈ l) : 1 + esz v <= zZ l := by
 induction l with
 | nil => cases h
 | cons x l ih =>
  simp only [zZ]
  rcases List.mem_cons.1 h with rfl | h
  ·omega
  ·have := ih h; omega
theorem wW (l : List GEntry) : l.length <= zZ l := by
 induction l with
 | nil => simp
 | cons x l ih => simp only [zZ, List.length_cons]; omega
def Qt (ser : Int) (e : GEntry) : Bool := ye e.Addr && kz e.Val && jZ e.Deps && decide (1 <= e.Turned ∧ e.Turned <= ser)
def yy (e : GEvent) : Nat := e.Addr.length + vsz e.Val + bsz e.Deps
def zT : List GEvent → Nat
 | [] => 0
 | v :: l => 1 + yy v + zT l
theorem XW {l : List GEvent} {v : GEvent} (h : v ∈ l) : 1 + yy v <= zT l := by
 induction l with
 | nil => cases h
 | cons x l ih =>
  simp only [zT]
  rcases List.mem_cons.1 h with rfl | h
  ·omega
  ·have := ih h; omega
theorem jn (l : List GEvent) : l.length <= zT l := by
 induction l with
 | nil => simp
 | cons x l ih => simp only [zT, List.length_cons]; omega
def cEv (e : GEvent) : Nat := e.Addr.length + cV e.Val + cB e.Deps + 2
def kl : List GEvent → Nat
 | [] => 0
 | e :: l => cEv e + kl l
def mEv (k : Int) (e : GEvent) : GEvent := .mk k (mB (k + 1) e.Addr) (k + 1 + e.Addr.length) (mV (k + 1 + e.Addr.length + 1) e.Val) (mBB (k + 1 + e.Addr.length + 1 + cV e.Val) e.Deps)
def vV : Int → List GEvent → List GEvent
 | _, [] => []
 | k, e :: l => mEv k e :: vV (k + cEv e) l
theorem N8 (e : GEvent) : cEv e <= 4 + 2 * yy e := by
 have h1 := WH e.Val
 have h2 := qM e.Deps
 unfold cEv yy
 omega
theorem OB : ∀ l : List GEvent, kl l <= 4 * zT l
 | [] => by simp [kl]
 | e :: l => by have := N8 e; have := OB l; simp only [kl, zT]; omega
def ssz (s : GState) : Nat := s.Pending.length + zZ s.Entries
def yT (l : List GEntry) (a : List UInt8) : Bool := l.any fun e => decide (e.Addr = a)
def LW (s : GState) : Bool := if s.Pending = [] then decide (s.Act = 0) else s.Open && ye s.Pending && decide (1 <= s.Act ∧ s.Act <= 4) && (yT s.Entries s.Pending == decide (s.Act ≠ 1))
def LX (s : GState) : Bool := kV (Qt s.Serial) GEntry.Addr s.Entries 0 s.Entries.length
def stB (s : GState) : Bool := decide (0 <= s.Serial ∧ s.Serial <= 1000000 ∧ s.Entries.length <= 16) && LX s && LW s
def cE (e : GEntry) : Nat := e.Addr.length + cV e.Val + cB e.Deps + 2
def cEs : List GEntry → Nat
 | [] => 0
 | e :: l => cE e + cEs l
def mE (k : Int) (e : GEntry) : GEntry := .mk (mB k e.Addr) (mV (k + e.Addr.length) e.Val) (mBB (k + e.Addr.length + cV e.Val) e.Deps) (decide ((k + e.Addr.length + cV e.Val + cB e.Deps).tmod 3 = 0)) (k + e.Addr.length + cV e.Val + cB e.Deps + 1)
def mEs : Int → List GEntry → List GEntry
 | _, [] => []
 | k, e :: l => mE k e :: mEs (k + cE e) l
theorem HE (e : GEntry) : cE e <= 4 + 2 * esz e := by
 have h1 := WH e.Val
 have h2 := qM e.Deps
 unfold cE esz
 omega
theorem N9 : ∀ l : List GEntry, cEs l <= 4 * zZ l
 | [] => by simp [cEs]
 | e :: l => by have := HE e; have := N9 l; simp only [cEs, zZ]; omega
theorem zf {f : FuncId} {fn : Func} (h : Tryz.prog.funcs[f]? = some fn) (hu : HF.contains f = true := by kernel_rfl) (hb : fn.body.isSome = true := by kernel_rfl) : cfg.funcs f = some (Am.bodyOf fn, fn.ntmps, fn.results.toList) := by
 rw [Lm]
 unfold HG LQ
 rw [hu, h]
 obtain ⟨c, hc⟩ := Option.isSome_iff_exists.1 hb
 simp only [oB, Am.bodyOf, hc, Option.map_some, cond_true]
abbrev Oc {α : Type} (o : Option α) (f : FuncId) (st : List Entry) (xs : List V) (enc : α → V × List Entry) : Prop := OkC cfg o f st xs enc
abbrev Ol {α : Type} (o : Option α) (f : FuncId) (b : Code) (s : S) (enc : α → Ex × S) : Prop := OkL cfg o f b s enc
def wq (a b : List UInt8) : Option Int := some (Lib.compareBytes a b)
def q8 (a : List UInt8) (b : UInt8) : Option Int := some (Lib.indexByte a b)
def wN (a0 : Int) (e0 : List GEntry) : List GEntry → Option (List GEntry)
 | [x] => if 0 <= a0 ∧ a0 <= (e0.length : Int) ∧ e0.length <= 1048576 then some (yO e0 a0.toNat x) else none
 | _ => none
def wO (a0 a1 : Int) (e0 : List GEntry) : Option (List GEntry) := if 0 <= a0 ∧ a0 < (e0.length : Int) ∧ a1 = a0 + 1 ∧ e0.length <= 1048576 then some (qn e0 a0.toNat) else none
theorem zev {α : Type} (e : α → List C) (l : List α) (i : Nat) (x : α) : yO (eL e l) i (e x) = eL e (yO l i x) := by simp [yO, eL]
theorem zew {α : Type} (e : α → List C) (l : List α) (i : Nat) : qn (eL e l) i = eL e (qn l i) := by simp [qn, eL]
def jv (a : List UInt8) : Option (Int × Bool) := if a.length <= 2 ^ 40 then some (yC a) else none
theorem Yo (a0 : Int) (e0 e1 : List GEntry) : Oc (wN a0 e0 e1) 140 [.obj 9 (eL zt e0), .obj 9 (eL zt e1)] [vr 0, vi a0, vr 1] fun r => (.val false [.own 9 (eL zt r)], [.dead, .dead]) := by
 intro r h
 match e1, h with
 | [x], h =>
  simp only [wN] at h
  split at h
  ·rename_i hc
   obtain rfl := Option.some.inj h
   refine Vg ?_
   show (if 0 <= a0 ∧ a0 <= ((eL zt e0).length : Int) ∧ (eL zt e0).length <= 1048576 then some ((V.val false [.own 9 (yO (eL zt e0) a0.toNat (zt x))], [.dead, .dead]) : V × List Entry) else none) = _
   rw [if_pos (by simpa [eL] using hc), zev]
  ·cases h
theorem Jg (a0 a1 : Int) (e0 : List GEntry) : Oc (wO a0 a1 e0) 141 [.obj 9 (eL zt e0)] [vr 0, vi a0, vi a1] fun r => (.val false [.own 9 (eL zt r)], [.dead]) := by
 intro r h
 simp only [wO] at h
 split at h
 ·rename_i hc
  obtain rfl := Option.some.inj h
  refine Vg ?_
  show (if 0 <= a0 ∧ a0 < ((eL zt e0).length : Int) ∧ a1 = a0 + 1 ∧ (eL zt e0).length <= 1048576 then some ((V.val false [.own 9 (qn (eL zt e0) a0.toNat)], [.dead]) : V × List Entry) else none) = _
  rw [if_pos (by simpa [eL] using hc), zew]
 ·cases h
theorem XX (a b : List UInt8) : Oc (wq a b) 166 [] [vq za a, vq za b] fun r => (vi r, []) := by
 intro r h
 obtain rfl := Option.some.inj h
 refine Vg ?_
 show ((bytesOf (eL za a)).bind fun x => (bytesOf (eL za b)).map fun y => ((V.val false [C.int .i64 (Lib.compareBytes x y)], []) : V × List Entry)) = _
 rw [JT, JT]; rfl
theorem P0 (a : List UInt8) : Oc (jv a) 173 [] [vs a] fun r => (.tup [(false, [ci r.1]), (false, [kg r.2])], []) := by
 intro r h
 unfold jv at h
 by_cases ha : a.length <= 2 ^ 40
 ·rw [if_pos ha] at h
  obtain rfl := Option.some.inj h
  refine Vg ?_
  show (if a.length <= 2 ^ 40 then some ((V.tup [(false, [.int .i64 (yC a).1]), (false, [kg (yC a).2])], []) : V × List Entry) else none) = _
  rw [if_pos ha]
  rfl
 ·rw [if_neg ha] at h; cases h
theorem Xm (a : List UInt8) (b : UInt8) : Oc (q8 a b) 227 [] [vq za a, .val false [.int .u8 ((b.toNat : Nat) : Int)]] fun r => (vi r, []) := by
 intro r h
 obtain rfl := Option.some.inj h
 refine Vg ?_
 show ((bytesOf (eL za a)).map fun x => ((V.val false [C.int .i64 (Lib.indexByte x ((b.toNat : Nat) : Int).toNat.toUInt8)], []) : V × List Entry)) = _
 rw [JT, Int.toNat_natCast, show b.toNat.toUInt8 = b from UInt8.ofNat_toNat]; rfl
end
end Go.Am.Try
