/- The functions of the program in plain Lean, and that the machine answers as they do; conditions at each theorem. -/
import Derived.Test.YtfbfbebalpnkbaaJS2
import Derived.Test.YtfbfbebalpnkbaaJAmD
set_option linter.unusedVariables false
set_option linter.unusedSimpArgs false
namespace Go.Am.Try
open Go.Am Go.Proofs
set_option linter.unusedVariables false
noncomputable section
theorem Yr {α : Type} {f : α → List C} : ([] : List (List C)) = eL f [] := rfl
theorem Zu {α : Type} {f : α → List C} {x : α} {c : List C} {xs : List α} {cs : List (List C)} (h : f x = c) (t : cs = eL f xs) : c :: cs = eL f (x :: xs) := by subst h; subst t; rfl
inductive GValue where
 | mk (Kind : Int) (N : Int) (S : (List UInt8)) (K : (List (List UInt8))) (L : (List GValue))
def GValue.Kind : GValue → Int
 | .mk x _ _ _ _ => x
def GValue.N : GValue → Int
 | .mk _ x _ _ _ => x
def GValue.S : GValue → (List UInt8)
 | .mk _ _ x _ _ => x
def GValue.K : GValue → (List (List UInt8))
 | .mk _ _ _ x _ => x
def GValue.L : GValue → (List GValue)
 | .mk _ _ _ _ x => x
theorem GValue.eta (x : GValue) : GValue.mk x.Kind x.N x.S x.K x.L = x := by cases x; rfl
mutual
def zb : GValue → List C
 | .mk Kind N S K L => [.int .i64 Kind, .int .i64 N, .seq (eL za S), .seq (eL (zu za) K), .seq (vF L)]
def vF : List GValue → List (List C)
 | [] => []
 | v :: l => zb v :: vF l
end
theorem Pj (l : List GValue) : vF l = eL zb l := by
 induction l with
 | nil => rfl
 | cons v l ih => simp only [vF, ih]; rfl
def ze (x : GValue) : List C := [.int .i64 x.Kind, .int .i64 x.N, .seq (eL za x.S), .seq (eL (zu za) x.K), .seq (eL zb x.L)]
theorem eq_GValue (x : GValue) : zb x = ze x := by
 cases x; simp only [zb, ze, Pj, GValue.Kind, GValue.N, GValue.S, GValue.K, GValue.L]
mutual
def zk : GValue → List C
 | .mk Kind N S K L => [.int .i64 Kind, .int .i64 N, .own 1 (eL za S), .own 1 (eL (yf 1 za) K), .own 5 (jj L)]
def jj : List GValue → List (List C)
 | [] => []
 | v :: l => zk v :: jj l
end
theorem Pk (l : List GValue) : jj l = eL zk l := by
 induction l with
 | nil => rfl
 | cons v l ih => simp only [jj, ih]; rfl
def xe (x : GValue) : List C := [.int .i64 x.Kind, .int .i64 x.N, .own 1 (eL za x.S), .own 1 (eL (yf 1 za) x.K), .own 5 (eL zk x.L)]
theorem ym (x : GValue) : zk x = xe x := by
 cases x; simp only [zk, xe, Pk, GValue.Kind, GValue.N, GValue.S, GValue.K, GValue.L]
mutual
theorem Tg : ∀ x : GValue, yj (zk x) = zb x
 | .mk Kind N S K L => by have h := Vy L; simp only [zk, zb, yj, qw, h, jr xW, jr (wV 1 xW)]
theorem Vy : ∀ l : List GValue, xf (jj l) = vF l
 | [] => rfl
 | v :: l => by have h := Tg v; have g := Vy l; simp only [jj, vF, xf, h, g]
end
mutual
theorem Th : ∀ x : GValue, jR (zk x) = true
 | .mk Kind N S K L => by have h := Vz L; simp only [zk, jR, qU, h, js xW, js (wV 1 xW), Bool.and_self]
theorem Vz : ∀ l : List GValue, ju (jj l) = true
 | [] => rfl
 | v :: l => by have h := Th v; have g := Vz l; simp only [jj, ju, h, g, Bool.and_self]
end
theorem yE : OEnc 5 zk zb := ⟨fun x => by rw [ym]; rfl, Tg, Th⟩
theorem kr : Enc 5 zb := ⟨fun x => by rw [eq_GValue]; rfl, fun x => by rw [eq_GValue]; rfl, fun x => by rw [eq_GValue]; rfl⟩
inductive GStep where
 | mk (Kind : Int) (Key : (List UInt8)) (I : Int)
def GStep.Kind : GStep → Int
 | .mk x _ _ => x
def GStep.Key : GStep → (List UInt8)
 | .mk _ x _ => x
def GStep.I : GStep → Int
 | .mk _ _ x => x
theorem GStep.eta (x : GStep) : GStep.mk x.Kind x.Key x.I = x := by cases x; rfl
def zP (x : GStep) : List C := [.int .i64 x.Kind, .seq (eL za x.Key), .int .i64 x.I]
def Ji (x : GStep) : List C := [.int .i64 x.Kind, .seq (eL za x.Key), .int .i64 x.I]
theorem ku (x : GStep) : zP x = Ji x := rfl
def wj (x : GStep) : List C := [.int .i64 x.Kind, .own 1 (eL za x.Key), .int .i64 x.I]
def GJ (x : GStep) : List C := [.int .i64 x.Kind, .own 1 (eL za x.Key), .int .i64 x.I]
theorem vG (x : GStep) : wj x = GJ x := rfl
theorem vH : OEnc 3 wj zP := ⟨fun x => rfl, fun x => by simp only [wj, zP, yj, qw, jr xW], fun x => by simp only [wj, jR, qU, js xW, Bool.and_self]⟩
theorem q7 : Enc 3 zP := ⟨fun x => by rw [ku]; rfl, fun x => by rw [ku]; rfl, fun x => by rw [ku]; rfl⟩
inductive GChange where
 | mk (Path : (List GStep)) (Had : Bool) (Old : GValue) (Has : Bool) (New : GValue)
def GChange.Path : GChange → (List GStep)
 | .mk x _ _ _ _ => x
def GChange.Had : GChange → Bool
 | .mk _ x _ _ _ => x
def GChange.Old : GChange → GValue
 | .mk _ _ x _ _ => x
def GChange.Has : GChange → Bool
 | .mk _ _ _ x _ => x
def GChange.New : GChange → GValue
 | .mk _ _ _ _ x => x
theorem GChange.eta (x : GChange) : GChange.mk x.Path x.Had x.Old x.Has x.New = x := by cases x; rfl
def zL (x : GChange) : List C := [.seq (eL zP x.Path), .bool x.Had, .int .i64 x.Old.Kind, .int .i64 x.Old.N, .seq (eL za x.Old.S), .seq (eL (zu za) x.Old.K), .seq (eL zb x.Old.L), .bool x.Has, .int .i64 x.New.Kind, .int .i64 x.New.N, .seq (eL za x.New.S), .seq (eL (zu za) x.New.K), .seq (eL zb x.New.L)]
def QN (x : GChange) : List C := [.seq (eL zP x.Path), .bool x.Had, .int .i64 x.Old.Kind, .int .i64 x.Old.N, .seq (eL za x.Old.S), .seq (eL (zu za) x.Old.K), .seq (eL zb x.Old.L), .bool x.Has, .int .i64 x.New.Kind, .int .i64 x.New.N, .seq (eL za x.New.S), .seq (eL (zu za) x.New.K), .seq (eL zb x.New.L)]
theorem qL (x : GChange) : zL x = QN x := rfl
def yp (x : GChange) : List C := [.own 3 (eL wj x.Path), .bool x.Had, .int .i64 x.Old.Kind, .int .i64 x.Old.N, .own 1 (eL za x.Old.S), .own 1 (eL (yf 1 za) x.Old.K), .own 5 (eL zk x.Old.L), .bool x.Has, .int .i64 x.New.Kind, .int .i64 x.New.N, .own 1 (eL za x.New.S), .own 1 (eL (yf 1 za) x.New.K), .own 5 (eL zk x.New.L)]
def Mj (x : GChange) : List C := [.own 3 (eL wj x.Path), .bool x.Had, .int .i64 x.Old.Kind, .int .i64 x.Old.N, .own 1 (eL za x.Old.S), .own 1 (eL (yf 1 za) x.Old.K), .own 5 (eL zk x.Old.L), .bool x.Has, .int .i64 x.New.Kind, .int .i64 x.New.N, .own 1 (eL za x.New.S), .own 1 (eL (yf 1 za) x.New.K), .own 5 (eL zk x.New.L)]
theorem z7 (x : GChange) : yp x = Mj x := rfl
theorem zG : OEnc 13 yp zL := ⟨fun x => rfl, fun x => by simp only [yp, zL, yj, qw, jr vH, jr xW, jr (wV 1 xW), jr yE], fun x => by simp only [yp, jR, qU, js vH, js xW, js (wV 1 xW), js yE, Bool.and_self]⟩
theorem zS : Enc 13 zL := ⟨fun x => by rw [qL]; rfl, fun x => by rw [qL]; rfl, fun x => by rw [qL]; rfl⟩
def bsz (k : List (List UInt8)) : Nat := k.length + (k.map List.length).sum
mutual
def vsz : GValue → Nat
 | .mk _ _ s k l => s.length + bsz k + yu l
def yu : List GValue → Nat
 | [] => 0
 | v :: l => 1 + vsz v + yu l
end
theorem kI {k : List (List UInt8)} {b : List UInt8} (h : b ∈ k) : 1 + b.length <= bsz k := by
 unfold bsz
 induction k with
 | nil => cases h
 | cons x k ih =>
  simp only [List.length_cons, List.map_cons, List.sum_cons]
  rcases List.mem_cons.1 h with rfl | h
  ·omega
  ·have := ih h; omega
theorem wk (k : List (List UInt8)) : k.length <= bsz k := by unfold bsz; omega
theorem Pl (b : List UInt8) (k : List (List UInt8)) : bsz (b :: k) = 1 + b.length + bsz k := by unfold bsz; simp; omega
theorem yw {l : List GValue} {v : GValue} (h : v ∈ l) : 1 + vsz v <= yu l := by
 induction l with
 | nil => cases h
 | cons x l ih =>
  simp only [yu]
  rcases List.mem_cons.1 h with rfl | h
  ·omega
  ·have := ih h; omega
theorem y0 (l : List GValue) : l.length <= yu l := by
 induction l with
 | nil => simp
 | cons x l ih => simp only [yu, List.length_cons]; omega
theorem y8 (v : GValue) : vsz v = v.S.length + bsz v.K + yu v.L := by cases v; simp only [vsz, GValue.S, GValue.K, GValue.L]
mutual
def ptV : GValue → Nat
 | .mk _ _ _ _ l => 1 + zO l
def zO : List GValue → Nat
 | [] => 0
 | v :: l => ptV v + zO l
end
theorem XJ (v : GValue) : ptV v = 1 + zO v.L := by cases v; simp only [ptV, GValue.L]
theorem N2 (l : List GValue) : l.length <= zO l := by
 induction l with
 | nil => simp
 | cons v l ih => have := XJ v; simp only [zO, List.length_cons]; omega
mutual
theorem En : ∀ v : GValue, ptV v <= 1 + vsz v
 | .mk _ _ _ _ l => by have := R6 l; simp only [ptV, vsz]; omega
theorem R6 : ∀ l : List GValue, zO l <= yu l
 | [] => by simp [zO, yu]
 | v :: l => by have := En v; have := R6 l; simp only [zO, yu]; omega
end
def Ze (a : List UInt8) : Bool := decide (a.length <= 20) && a.all (inB 32 126)
def qT (a : List UInt8) : Bool := decide (1 <= a.length ∧ a.length <= 8) && a.all (inB 97 122)
def kOk (k : List (List UInt8)) (j : Nat) : Bool := match k[j]? with
 | some b => qT b && (decide (j = 0) || match k[j - 1]? with | some a => Op.bytesLess a b | none => false)
 | none => false
def q4 (k : List (List UInt8)) (i d : Nat) : Bool := (List.range' i d).all (kOk k)
theorem Xr (k : List (List UInt8)) (i d : Nat) : q4 k i (d + 1) = (kOk k i && q4 k (i + 1) d) := by
 unfold q4; rw [List.range'_succ, List.all_cons]
theorem YG {k : List (List UInt8)} {i : Nat} (h : i < k.length) (h0 : 0 < i) : kOk k i = (qT k[i] && Op.bytesLess (k[i - 1]'(by omega)) k[i]) := by
 unfold kOk
 rw [zq h]
 simp only
 rw [zq (show i - 1 < k.length by omega)]
 simp [show i ≠ 0 by omega]
theorem W5 {k : List (List UInt8)} (h : 0 < k.length) : kOk k 0 = qT k[0] := by
 unfold kOk
 rw [zq h]
 simp
theorem Ku (a b : List UInt8) : (0 <= Lib.compareBytes a b) = ¬ (Op.bytesLess a b = true) := by
 induction a generalizing b with
 | nil => cases b <;> simp [Lib.compareBytes, Op.bytesLess]
 | cons x a ih =>
  cases b with
  | nil => simp [Lib.compareBytes, Op.bytesLess]
  | cons y b =>
   simp only [Lib.compareBytes, Op.bytesLess]
   by_cases h1 : x < y
   ·simp [h1]
   ·by_cases h2 : y < x
    ·have h3 : ¬ x = y := fun e => by subst e; exact h1 h2
     simp [h1, h2, h3]
    ·have h3 : x = y := UInt8.le_antisymm (UInt8.not_lt.1 h2) (UInt8.not_lt.1 h1)
     subst h3
     simp [h1, ih]
def y3 (v : GValue) : Bool :=
 if v.Kind = 0 ∨ v.Kind = 6 then decide (v.N = 0 ∧ v.S.length = 0 ∧ v.K.length = 0 ∧ v.L.length = 0)
 else if v.Kind = 1 then decide ((0 <= v.N ∧ v.N <= 1) ∧ v.S.length = 0 ∧ v.K.length = 0 ∧ v.L.length = 0)
 else if v.Kind = 2 then decide ((-1000000000000 <= v.N ∧ v.N <= 1000000000000) ∧ v.S.length = 0 ∧ v.K.length = 0 ∧ v.L.length = 0)
 else if v.Kind = 3 then Ze v.S && decide (v.N = 0 ∧ v.K.length = 0 ∧ v.L.length = 0)
 else if v.Kind = 4 then decide (v.N = 0 ∧ v.S.length = 0 ∧ v.K.length = 0 ∧ v.L.length <= 40)
 else if v.Kind = 5 then decide (v.K.length = v.L.length ∧ v.N = 0 ∧ v.S.length = 0 ∧ v.L.length <= 40) && q4 v.K 0 v.K.length
 else false
def shV : Nat → GValue → Bool
 | 0, _ => false
 | d + 1, v => y3 v && v.L.all (shV d)
def kJ (s : Nat) (n : Int) : Int := if (s : Int) <= n then n - s else -1
/- calls -/
theorem YH (a : List UInt8) : Op.bytesLess a a = false := by
 induction a with
 | nil => rfl
 | cons x a ih => simp [Op.bytesLess, ih]
theorem kK : ∀ {a b c : List UInt8}, Op.bytesLess a b = true → Op.bytesLess b c = true → Op.bytesLess a c = true
 | [], [], _, h, _ => by simp [Op.bytesLess] at h
 | [], _ :: _, [], _, h => by simp [Op.bytesLess] at h
 | [], _ :: _, _ :: _, _, _ => rfl
 | _ :: _, [], _, h, _ => by simp [Op.bytesLess] at h
 | _ :: _, _ :: _, [], _, h => by simp [Op.bytesLess] at h
 | x :: a, y :: b, z :: c, h, g => by
  simp only [Op.bytesLess, Bool.or_eq_true, decide_eq_true_eq, Bool.and_eq_true, beq_iff_eq] at h g ⊢
  rcases h with h | ⟨rfl, h⟩
  ·rcases g with g | ⟨rfl, g⟩
   ·exact .inl (UInt8.lt_trans h g)
   ·exact .inl h
  ·rcases g with g | ⟨rfl, g⟩
   ·exact .inl g
   ·exact .inr ⟨rfl, kK h g⟩
theorem Pm : ∀ (a b : List UInt8), Lib.compareBytes a b = 0 ↔ a = b
 | [], [] => by simp [Lib.compareBytes]
 | [], _ :: _ => by simp [Lib.compareBytes]
 | _ :: _, [] => by simp [Lib.compareBytes]
 | x :: a, y :: b => by
  have ih := Pm a b
  simp only [Lib.compareBytes]
  by_cases h1 : x < y
  ·rw [if_pos h1]
   have : x ≠ y := fun e => by subst e; exact absurd h1 (UInt8.lt_irrefl x)
   simp [this]
  ·rw [if_neg h1]
   by_cases h2 : y < x
   ·rw [if_pos h2]
    have : x ≠ y := fun e => by subst e; exact absurd h2 (UInt8.lt_irrefl x)
    simp [this]
   ·have h3 : x = y := UInt8.le_antisymm (UInt8.not_lt.1 h2) (UInt8.not_lt.1 h1)
    subst h3
    rw [if_neg h2, ih]; simp
theorem R7 (a b : List UInt8) : (Lib.compareBytes a b < 0) = (Op.bytesLess a b = true) := by
 have := Ku a b
 apply propext
 constructor
 ·intro h
  refine Classical.byContradiction fun hn => ?_
  rw [<- this] at hn
  omega
 ·intro h
  refine Classical.byContradiction fun hn => ?_
  have h0 : 0 <= Lib.compareBytes a b := by omega
  rw [this] at h0
  exact h0 h
def YI (a : List (List UInt8)) (x : List UInt8) (c : Nat) : Prop := c <= a.length ∧ ∀ k (h : k < a.length), k < c ↔ Op.bytesLess a[k] x = true
def Asc (a : List (List UInt8)) : Prop := ∀ i j (hj : j < a.length) (hij : i < j), Op.bytesLess (a[i]'(by omega)) a[j] = true
theorem YI.of {a : List (List UInt8)} (ha : Asc a) (x : List UInt8) : ∃ c, YI a x c := by
 have : ∀ n, n <= a.length → ∃ c, c <= n ∧ ∀ k (h : k < a.length), k < n → (k < c ↔ Op.bytesLess a[k] x = true) := by
  intro n
  induction n with
  | zero => exact fun _ => ⟨0, Nat.le_refl _, fun k h hk => by omega⟩
  | succ n ih =>
   intro hn
   obtain ⟨c, hc, h⟩ := ih (by omega)
   by_cases hl : Op.bytesLess (a[n]'(by omega)) x = true
   ·have hcn : c = n := by
     refine Classical.byContradiction fun hne => ?_
     have h1 := h c (by omega) (by omega)
     have h2 := ha c n (by omega) (by omega)
     have := h1.2 (kK h2 hl)
     omega
    refine ⟨n + 1, Nat.le_refl _, fun k hk hkn => ?_⟩
    rcases Nat.lt_or_ge k n with hlt | hge
    ·exact ⟨fun _ => (h k hk hlt).1 (by omega), fun _ => by omega⟩
    ·obtain rfl : k = n := by omega
     exact ⟨fun _ => hl, fun _ => by omega⟩
   ·refine ⟨c, by omega, fun k hk hkn => ?_⟩
    rcases Nat.lt_or_ge k n with hlt | hge
    ·exact h k hk hlt
    ·obtain rfl : k = n := by omega
     exact ⟨fun _ => by omega, fun h => (hl h).elim⟩
 obtain ⟨c, hc, h⟩ := this a.length (Nat.le_refl _)
 exact ⟨c, hc, fun k hk => h k hk hk⟩
theorem YI.mem {a : List (List UInt8)} (ha : Asc a) {x : List UInt8} {c : Nat} (h : YI a x c) : a[c]? = some x ↔ x ∈ a := by
 constructor
 ·exact List.mem_of_getElem?
 ·intro hx
  obtain ⟨k, hk, rfl⟩ := List.mem_iff_getElem.1 hx
  have h1 : ¬ k < c := fun hlt => by
   have := (h.2 k hk).1 hlt
   rw [YH] at this
   cases this
  have h2 : k = c := by
   refine Classical.byContradiction fun hne => ?_
   have hlt : c < k := by omega
   have := (h.2 c (by omega)).2 (ha c k hk hlt)
   omega
  subst h2
  exact zq hk
theorem Eo {i j : Nat} (h : i + j < 2 ^ 62) : w64 (Yw .shr .u64 (IntKind.u64.wrap (w64 ((i : Int) + (j : Int)))) 1) = (((i + j) / 2 : Nat) : Int) := by
 rw [yo (x := (i : Int) + (j : Int)) (by omega) (by omega)]
 have h1 : IntKind.u64.wrap ((i : Int) + (j : Int)) = (i : Int) + (j : Int) := by unfold IntKind.wrap; simp [IntKind.bits, IntKind.signed]; omega
 rw [h1]
 have h2 : Yw .shr .u64 ((i : Int) + (j : Int)) 1 = (((i + j) / 2 : Nat) : Int) := by
  show Int.fdiv _ (2 ^ (min (1 : Int).toNat IntKind.u64.bits)) = _
  rw [show min (1 : Int).toNat IntKind.u64.bits = 1 from rfl, Int.fdiv_eq_ediv_of_nonneg _ (by decide)]
  omega
 rw [h2, yo (by omega) (by omega)]
def YJ (v : GValue) : Bool := decide (shV 5 v = true ∧ (ptV v : Int) <= 40)
theorem GK {k : List (List UInt8)} (h : q4 k 0 k.length = true) {j : Nat} (hj : j < k.length) : kOk k j = true := by
 unfold q4 at h
 exact List.all_eq_true.1 h j (List.mem_range'_1.2 ⟨by omega, by omega⟩)
theorem N3 {k : List (List UInt8)} (h : q4 k 0 k.length = true) : Asc k := by
 intro i j
 induction j with
 | zero => intro _ h; omega
 | succ j ih =>
  intro hj hij
  have hk := GK h hj
  rw [YG hj (by omega), Bool.and_eq_true] at hk
  have h1 : Op.bytesLess (k[j]'(by omega)) k[j + 1] = true := hk.2
  rcases Nat.lt_or_ge i j with hlt | hge
  ·exact kK (ih (by omega) hlt) h1
  ·obtain rfl : i = j := by omega
   exact h1
theorem Dc {v : GValue} (h : YJ v = true) : y3 v = true ∧ ∀ x ∈ v.L, shV 4 x = true := by
 unfold YJ at h
 have h1 := (of_decide_eq_true h).1
 rw [shV, Bool.and_eq_true, List.all_eq_true] at h1
 exact h1
def Pn (a : List UInt8) : List UInt8 := if a = [108, 101, 110] then [99] else if a = [99, 97, 116] then [116, 116] else if a = [107, 101, 121, 115] then [109] else if a = [118, 97, 108, 115] then [109] else if a = [104, 97, 115] then [109, 116] else if a = [109, 105, 110] then [105, 105] else if a = [109, 97, 120] then [105, 105] else []
def D7 (a : List UInt8) : List (List Int) := if a = [108, 101, 110] then [[3, 4, 5]] else if a = [99, 97, 116] then [[3], [3]] else if a = [107, 101, 121, 115] then [[5]] else if a = [118, 97, 108, 115] then [[5]] else if a = [104, 97, 115] then [[5], [3]] else if a = [109, 105, 110] then [[2], [2]] else if a = [109, 97, 120] then [[2], [2]] else []
def W6 (x : GValue) (c : UInt8) : Bool := if ((c.toNat : Nat) : Int) = 116 then decide (x.Kind = 3) else if ((c.toNat : Nat) : Int) = 105 then decide (x.Kind = 2) else if ((c.toNat : Nat) : Int) = 109 then decide (x.Kind = 5) else decide (x.Kind = 3 ∨ x.Kind = 4 ∨ x.Kind = 5)
def NT : List UInt8 → List GValue → Bool
 | c :: cs, v :: l => (decide (v.Kind = 6) || W6 v c) && NT cs l
 | _, _ => true
def E7 : List (List Int) → List GValue → Bool
 | c :: cs, v :: l => (decide (v.Kind = 6) || decide (v.Kind ∈ c)) && E7 cs l
 | _, _ => true
def zV : GValue := .mk 0 0 [] [] []
def vx (a : List UInt8) (x y : GValue) : GValue × Int :=
 if a = [108, 101, 110] then (if x.Kind = 3 then .mk 2 (x.S.length : Int) [] [] [] else .mk 2 (x.L.length : Int) [] [] [], 0)
 else if a = [99, 97, 116] then (if 20 < (x.S ++ y.S).length then (zV, 4) else (.mk 3 0 (x.S ++ y.S) [] [], 0))
 else if a = [107, 101, 121, 115] then (.mk 4 0 [] [] (x.K.map fun k => .mk 3 0 k [] []), 0)
 else if a = [118, 97, 108, 115] then (.mk 4 0 [] [] x.L, 0)
 else if a = [104, 97, 115] then (.mk 1 (if y.S ∈ x.K then 1 else 0) [] [] [], 0)
 else if a = [109, 105, 110] then (.mk 2 (if y.N < x.N then y.N else x.N) [] [] [], 0)
 else (.mk 2 (if x.N < y.N then y.N else x.N) [] [] [], 0)
theorem Dd (x y : GValue) : vx [108, 101, 110] x y = (if x.Kind = 3 then .mk 2 (x.S.length : Int) [] [] [] else .mk 2 (x.L.length : Int) [] [] [], 0) := by simp [vx]
theorem De (x y : GValue) : vx [99, 97, 116] x y = if 20 < (x.S ++ y.S).length then (zV, 4) else (.mk 3 0 (x.S ++ y.S) [] [], 0) := by simp [vx]
theorem EN (x y : GValue) : vx [107, 101, 121, 115] x y = (.mk 4 0 [] [] (x.K.map fun k => .mk 3 0 k [] []), 0) := by simp [vx]
theorem EO (x y : GValue) : vx [118, 97, 108, 115] x y = (.mk 4 0 [] [] x.L, 0) := by simp [vx]
theorem Df (x y : GValue) : vx [104, 97, 115] x y = (.mk 1 (if y.S ∈ x.K then 1 else 0) [] [] [], 0) := by simp [vx]
theorem Dg (x y : GValue) : vx [109, 105, 110] x y = (.mk 2 (if y.N < x.N then y.N else x.N) [] [] [], 0) := by simp [vx]
theorem Dh (x y : GValue) : vx [109, 97, 120] x y = (.mk 2 (if x.N < y.N then y.N else x.N) [] [] [], 0) := by simp [vx]
theorem DM (x : GValue) : W6 x 116 = decide (x.Kind = 3) := by unfold W6; rw [if_pos (show ((UInt8.toNat 116 : Nat) : Int) = 116 from rfl)]
theorem DN (x : GValue) : W6 x 105 = decide (x.Kind = 2) := by unfold W6; rw [if_neg (show ¬ ((UInt8.toNat 105 : Nat) : Int) = 116 by decide), if_pos (show ((UInt8.toNat 105 : Nat) : Int) = 105 from rfl)]
theorem DO (x : GValue) : W6 x 109 = decide (x.Kind = 5) := by unfold W6; rw [if_neg (show ¬ ((UInt8.toNat 109 : Nat) : Int) = 116 by decide), if_neg (show ¬ ((UInt8.toNat 109 : Nat) : Int) = 105 by decide), if_pos (show ((UInt8.toNat 109 : Nat) : Int) = 109 from rfl)]
theorem DP (x : GValue) : W6 x 99 = decide (x.Kind = 3 ∨ x.Kind = 4 ∨ x.Kind = 5) := by unfold W6; rw [if_neg (show ¬ ((UInt8.toNat 99 : Nat) : Int) = 116 by decide), if_neg (show ¬ ((UInt8.toNat 99 : Nat) : Int) = 105 by decide), if_neg (show ¬ ((UInt8.toNat 99 : Nat) : Int) = 109 by decide)]
def Ep (l : List GValue) : Bool := l.all fun v => decide (v.Kind ≠ 6)
def E8 (a : List UInt8) (l : List GValue) : GValue × Int :=
 if (Pn a).length = 0 then (zV, 5) else if (Pn a).length = l.length then
  (if NT (Pn a) l = true then (if Ep l = true then vx a ((l[0]?).getD zV) ((l[1]?).getD zV) else (.mk 6 0 [] [] [], 0)) else (zV, 2)) else (zV, 5)
def DQ (a : List UInt8) (l : List GValue) : GValue × Int := if 40 < l.length then (zV, 1) else if l.all YJ = true then E8 a l else (zV, 1)
/- sorting -/
def Le (x y : List UInt8) : Prop := Op.bytesLess y x = false
theorem V0 : ∀ a b : List UInt8, Op.bytesLess a b = true ∨ a = b ∨ Op.bytesLess b a = true
 | [], [] => .inr (.inl rfl)
 | [], _ :: _ => .inl rfl
 | _ :: _, [] => .inr (.inr rfl)
 | x :: a, y :: b => by
  simp only [Op.bytesLess, Bool.or_eq_true, decide_eq_true_eq, Bool.and_eq_true, beq_iff_eq]
  by_cases h1 : x < y
  ·exact .inl (.inl h1)
  by_cases h2 : y < x
  ·exact .inr (.inr (.inl h2))
  ·have h3 : x = y := UInt8.le_antisymm (UInt8.not_lt.1 h2) (UInt8.not_lt.1 h1)
   subst h3
   rcases V0 a b with h | h | h
   ·exact .inl (.inr ⟨rfl, h⟩)
   ·exact .inr (.inl (by rw [h]))
   ·exact .inr (.inr (.inr ⟨rfl, h⟩))
theorem Le.refl (x : List UInt8) : Le x x := YH x
theorem Le.of_less {x y : List UInt8} (h : Op.bytesLess x y = true) : Le x y := by
 unfold Le
 cases h2 : Op.bytesLess y x with
 | false => rfl
 | true => have := kK h h2; rw [YH] at this; cases this
theorem Le.cases {x y : List UInt8} (h : Le x y) : x = y ∨ Op.bytesLess x y = true := by
 rcases V0 x y with g | g | g
 ·exact .inr g
 ·exact .inl g
 ·unfold Le at h; rw [h] at g; cases g
theorem Le.trans {x y z : List UInt8} (h : Le x y) (g : Le y z) : Le x z := by
 rcases h.cases with rfl | h
 ·exact g
 ·rcases g.cases with rfl | g
  ·exact Le.of_less h
  ·exact Le.of_less (kK h g)
theorem Le.of_not {x y : List UInt8} (h : ¬ Op.bytesLess y x = true) : Le x y := Bool.eq_false_iff.2 h
def gt (d : List (List UInt8)) (i : Nat) : List UInt8 := (d[i]?).getD []
theorem Dw {d : List (List UInt8)} {i : Nat} (h : i < d.length) : d[i]? = some (gt d i) := by unfold gt; rw [zq h]; rfl
theorem Mk {d : List (List UInt8)} {i k : Nat} {x : List UInt8} (h : i < d.length) : gt (d.set i x) k = if k = i then x else gt d k := by
 unfold gt
 by_cases e : k = i
 ·subst e; rw [if_pos rfl, List.getElem?_set_self h]; rfl
 ·rw [if_neg e, List.getElem?_set_ne (fun e' => e e'.symm)]
def sw (d : List (List UInt8)) (i j : Nat) : List (List UInt8) := (d.set i (gt d j)).set j (gt d i)
theorem Er (d : List (List UInt8)) (i j : Nat) : (sw d i j).length = d.length := by unfold sw; simp
theorem NU {d : List (List UInt8)} {i j k : Nat} (hi : i < d.length) (hj : j < d.length) : gt (sw d i j) k = if k = j then gt d i else if k = i then gt d j else gt d k := by
 unfold sw
 rw [Mk (by simpa using hj), Mk hi]
structure Rg (a b : Nat) (d d' : List (List UInt8)) : Prop where
 len : d'.length = d.length
 perm : d'.Perm d
 out : ∀ i, (i < a ∨ b <= i) → gt d' i = gt d i
 all : ∀ Q : List UInt8 → Prop, (∀ i, a <= i → i < b → Q (gt d i)) → ∀ i, a <= i → i < b → Q (gt d' i)
theorem Rg.refl (a b : Nat) (d : List (List UInt8)) : Rg a b d d := ⟨rfl, .refl _, fun _ _ => rfl, fun _ h => h⟩
theorem Rg.trans {a b : Nat} {d d' d'' : List (List UInt8)} (h : Rg a b d d') (g : Rg a b d' d'') : Rg a b d d'' :=
 ⟨g.len.trans h.len, g.perm.trans h.perm, fun i hi => (g.out i hi).trans (h.out i hi), fun Q hq => g.all Q (h.all Q hq)⟩
theorem Rg.mono {a b a' b' : Nat} {d d' : List (List UInt8)} (h : Rg a b d d') (ha : a' <= a) (hb : b <= b') : Rg a' b' d d' :=
 ⟨h.len, h.perm, fun i hi => h.out i (by omega), fun Q hq i h1 h2 => by
  by_cases hin : a <= i ∧ i < b
  ·exact h.all Q (fun k k1 k2 => hq k (by omega) (by omega)) i hin.1 hin.2
  ·rw [h.out i (by omega)]; exact hq i h1 h2⟩
theorem GL {d : List (List UInt8)} {i j : Nat} (hi : i < d.length) (hj : j < d.length) : (sw d i j).Perm d := by
 have e1 : gt d j = d[j] := by unfold gt; rw [zq hj]; rfl
 have e2 : gt d i = d[i] := by unfold gt; rw [zq hi]; rfl
 unfold sw
 rw [e1, e2]
 exact List.set_set_perm hi hj
theorem Rg.swap {a b : Nat} {d : List (List UInt8)} {i j : Nat} (h1 : a <= i) (h2 : i < b) (h3 : a <= j) (h4 : j < b) (hb : b <= d.length) : Rg a b d (sw d i j) :=
 ⟨Er d i j, GL (by omega) (by omega), fun k hk => by rw [NU (by omega) (by omega), if_neg (by omega), if_neg (by omega)], fun Q hq k k1 k2 => by
  rw [NU (by omega) (by omega)]
  split
  ·exact hq i h1 h2
  ·split
   ·exact hq j h3 h4
   ·exact hq k k1 k2⟩
def Srt (a b : Nat) (d : List (List UInt8)) : Prop := ∀ i j, a <= i → i < j → j < b → Le (gt d i) (gt d j)
theorem Es {x y : List UInt8} : (Lib.compareBytes x y < 0) ↔ Op.bytesLess x y = true := by rw [R7]
/- values as expressions -/
mutual
def knV : GValue → Bool
 | .mk k _ _ _ l => decide (k ≠ 6) && N4 l
def N4 : List GValue → Bool
 | [] => true
 | v :: l => knV v && N4 l
end
theorem D8 (v : GValue) : knV v = (decide (v.Kind ≠ 6) && N4 v.L) := by cases v; rw [knV]; rfl
/- expressions renamed -/
/- marks -/
theorem zy {α : Type} (p : List α) (x : α) (l : List α) : (p ++ x :: l)[p.length]? = some x := by simp
theorem wB {α : Type} (p : List α) (x y : α) (l : List α) : (p ++ x :: l).set p.length y = p ++ y :: l := by simp
theorem Zv {α : Type} (p : List α) (x : α) (l : List α) : p ++ x :: l = (p ++ [x]) ++ l := by simp
theorem Di {α : Type} (p : List α) (x : α) : (p.length : Int) + 1 = ((p ++ [x]).length : Int) := by simp
theorem yt {α : Type} (p : List α) (x : α) (h : p.length < 2 ^ 62) : w64 ((p.length : Int) + 1) = ((p ++ [x]).length : Int) := by rw [yr h]; simp
theorem kw {α : Type} (p : List α) (x : α) (l : List α) : (p.length : Int) < ((p ++ x :: l).length : Int) := by simp; omega
theorem wl {α : Type} (p : List α) : ¬ (p.length : Int) < ((p ++ []).length : Int) := by simp
theorem xo {n m : Nat} (hn : n <= 2 ^ 7) (hm : m <= 2 ^ 40) : zA n m := by
 have : m * n <= 2 ^ 40 * 2 ^ 7 := Nat.mul_le_mul hm hn
 unfold zA
 exact ⟨by rw [show maxBytes = 2 ^ 47 from rfl]; omega, by omega⟩
def mI : Int → List Int → List Int
 | _, [] => []
 | k, _ :: l => k :: mI (k + 1) l
theorem D9 (l : List Int) (k : Int) : (mI k l).length = l.length := by
 induction l generalizing k with
 | nil => rfl
 | cons x l ih => simp only [mI, List.length_cons, ih]
theorem Dx (l : List Int) (k : Int) : mI k (mI k l) = mI k l := by
 induction l generalizing k with
 | nil => rfl
 | cons x l ih => simp only [mI, ih]
def mB : Int → List UInt8 → List UInt8
 | _, [] => []
 | k, _ :: l => b8 k :: mB (k + 1) l
def cB (k : List (List UInt8)) : Nat := (k.map List.length).sum
def mBB : Int → List (List UInt8) → List (List UInt8)
 | _, [] => []
 | k, x :: l => mB k x :: mBB (k + x.length) l
theorem ZF (l : List UInt8) (k : Int) : (mB k l).length = l.length := by
 induction l generalizing k with
 | nil => rfl
 | cons x l ih => simp only [mB, List.length_cons, ih]
theorem R8 (l : List UInt8) (k : Int) : mB k (mB k l) = mB k l := by
 induction l generalizing k with
 | nil => rfl
 | cons x l ih => simp only [mB, ih]
theorem N5 (l : List (List UInt8)) (k : Int) : mBB k (mBB k l) = mBB k l := by
 induction l generalizing k with
 | nil => rfl
 | cons x l ih => simp only [mBB, R8, ZF, ih]
theorem Po (l : List (List UInt8)) (k : Int) : cB (mBB k l) = cB l := by
 induction l generalizing k with
 | nil => rfl
 | cons x l ih => unfold cB at ih ⊢; simp only [mBB, List.map_cons, List.sum_cons, ZF, ih]
theorem PV (x : List UInt8) (l : List (List UInt8)) : cB (x :: l) = x.length + cB l := by unfold cB; simp
theorem ZG (l : List (List UInt8)) : bsz l = l.length + cB l := rfl
theorem GM (l : List (List UInt8)) (k : Int) : bsz (mBB k l) = bsz l := by
 rw [ZG, ZG, Po]
 congr 1
 induction l generalizing k with
 | nil => rfl
 | cons x l ih => simp only [mBB, List.length_cons, ih]
mutual
def cV : GValue → Nat
 | .mk _ _ s k l => 2 + (s.length + (cB k + cVs l))
def cVs : List GValue → Nat
 | [] => 0
 | v :: l => cV v + cVs l
end
mutual
def mV : Int → GValue → GValue
 | i, .mk _ _ s k l => .mk i (i + 1) (mB (i + 1 + 1) s) (mBB (i + 1 + 1 + s.length) k) (mVs (i + 1 + 1 + s.length + cB k) l)
def mVs : Int → List GValue → List GValue
 | _, [] => []
 | i, v :: l => mV i v :: mVs (i + cV v) l
end
theorem V1 (v : GValue) : cV v = 2 + (v.S.length + (cB v.K + cVs v.L)) := by cases v; simp only [cV, GValue.S, GValue.K, GValue.L]
theorem TO (i : Int) (v : GValue) : mV i v = .mk i (i + 1) (mB (i + 1 + 1) v.S) (mBB (i + 1 + 1 + v.S.length) v.K) (mVs (i + 1 + 1 + v.S.length + cB v.K) v.L) := by cases v; simp only [mV, GValue.S, GValue.K, GValue.L]
mutual
theorem OQ : ∀ (i : Int) (v : GValue), cV (mV i v) = cV v
 | i, .mk _ _ s k l => by simp only [mV, cV, ZF, Po, NV]
theorem NV : ∀ (i : Int) (l : List GValue), cVs (mVs i l) = cVs l
 | _, [] => rfl
 | i, v :: l => by simp only [mVs, cVs, OQ i v, NV _ l]
end
mutual
theorem R9 : ∀ (i : Int) (v : GValue), mV i (mV i v) = mV i v
 | i, .mk _ _ s k l => by simp only [mV, ZF, Po, R8, N5, Pp]
theorem Pp : ∀ (i : Int) (l : List GValue), mVs i (mVs i l) = mVs i l
 | _, [] => rfl
 | i, v :: l => by simp only [mVs, OQ, R9 i v, Pp _ l]
end
mutual
theorem NW : ∀ (i : Int) (v : GValue), vsz (mV i v) = vsz v
 | i, .mk _ _ s k l => by simp only [mV, vsz, ZF, GM, Ml]
theorem Ml : ∀ (i : Int) (l : List GValue), yu (mVs i l) = yu l
 | _, [] => rfl
 | i, v :: l => by simp only [mVs, yu, NW i v, Ml _ l]
end
mutual
theorem W7 : ∀ v : GValue, cV v <= 2 + 2 * vsz v
 | .mk _ _ s k l => by have := YK l; have := ZG k; simp only [cV, vsz]; omega
theorem YK : ∀ l : List GValue, cVs l <= 2 * yu l
 | [] => by simp [cVs, yu]
 | v :: l => by have := W7 v; have := YK l; simp only [cVs, yu]; omega
end
/- addresses -/
theorem DA {α : Type} {l : List α} {i : Nat} (h : i <= l.length) : ZQ l none (some i) = some (l.take i) := by
 unfold ZQ Zy; rw [if_pos ⟨by simp, by simpa using h⟩]; simp
theorem Dj {α : Type} {l : List α} {i : Nat} (h : i <= l.length) : ZQ l (some i) none = some (l.drop i) := by
 unfold ZQ Zy; rw [if_pos ⟨by simpa using h, by simp⟩]; simp
theorem Dy {α : Type} {l : List α} (h : 2 <= l.length) : ZQ l (some 1) (some (l.length - 1)) = some ((l.drop 1).dropLast) := by
 unfold ZQ Zy
 rw [if_pos ⟨by simp; omega, by simp⟩]
 simp only [Option.getD_some, Option.map_some, List.dropLast_eq_take, List.length_drop, List.drop_take]
theorem Dk {α : Type} {l : List α} (h : 0 < l.length) : l[l.length - 1]? = l.getLast? := by rw [List.getLast?_eq_getElem?]
def DR (n : Nat) : List UInt8 := if n < 10 then [UInt8.ofNat (48 + n)] else [UInt8.ofNat (48 + n / 10), UInt8.ofNat (48 + n % 10)]
def Dl (l : List UInt8) : Bool := decide (1 <= l.length ∧ l.length <= 2) && !(decide (l.length = 2) && decide (l[0]? = some 48)) && l.all (inB 48 57)
def Dm (l : List UInt8) : Bool := if l[0]? = some 34 then (if (l.drop 1).getLast? = some 34 then qT (l.drop 1).dropLast else false) else Dl l
def RA (b : List UInt8) : List UInt8 := b.takeWhile fun x => decide (x ≠ 91)
def W8 (b : List UInt8) : List UInt8 := b.dropWhile fun x => decide (x ≠ 91)
theorem OR (b : List UInt8) : RA b ++ W8 b = b := List.takeWhile_append_dropWhile
theorem Dz (b : List UInt8) : b.take (RA b).length = RA b := by
 conv => lhs; arg 2; rw [<- OR b]
 exact List.take_left
theorem D0 (b : List UInt8) : b.drop (RA b).length = W8 b := by
 conv => lhs; arg 2; rw [<- OR b]
 exact List.drop_left
theorem DC (b : List UInt8) : (RA b).length + (W8 b).length = b.length := by
 rw [<- List.length_append, OR]
theorem D1 {b : List UInt8} (h : W8 b ≠ []) : ∃ t, W8 b = 91 :: t := by
 unfold W8 at h ⊢
 induction b with
 | nil => exact (h rfl).elim
 | cons x b ih =>
  rw [List.dropWhile_cons] at h ⊢
  by_cases hx : x = 91
  ·subst hx
   exact ⟨b, by rw [if_neg (by simp)]⟩
  ·rw [if_pos (by simpa using hx)] at h ⊢
   exact ih h
def E9 (b : List UInt8) : Bool := qT (RA b) && (if W8 b = [] then true else if ((W8 b).drop 1).getLast? = some 93 then Dm ((W8 b).drop 1).dropLast else false)
theorem EP {b : List UInt8} (h : qT b = true) : 1 <= b.length ∧ b.length <= 8 := by
 unfold qT at h
 rw [Bool.and_eq_true] at h
 exact of_decide_eq_true h.1
def gOk {α : Type} (p : α → Bool) (key : α → List UInt8) (l : List α) (j : Nat) : Bool := match l[j]? with
 | some b => p b && (decide (j = 0) || match l[j - 1]? with | some a => Op.bytesLess (key a) (key b) | none => false)
 | none => false
def W9 {α : Type} (p : α → Bool) (key : α → List UInt8) (l : List α) (i d : Nat) : Bool := (List.range' i d).all (gOk p key l)
theorem EQ {α : Type} (p : α → Bool) (key : α → List UInt8) (l : List α) (i : Nat) : W9 p key l i 0 = true := rfl
theorem ER {α : Type} (p : α → Bool) (key : α → List UInt8) (l : List α) (i d : Nat) : W9 p key l i (d + 1) = (gOk p key l i && W9 p key l (i + 1) d) := by
 unfold W9; rw [List.range'_succ, List.all_cons]
theorem Et {α : Type} {p : α → Bool} {key : α → List UInt8} {l : List α} {i : Nat} (h : i < l.length) (h0 : 0 < i) : gOk p key l i = (p l[i] && Op.bytesLess (key (l[i - 1]'(by omega))) (key l[i])) := by
 unfold gOk
 rw [zq h]
 simp only
 rw [zq (show i - 1 < l.length by omega)]
 simp [show i ≠ 0 by omega]
theorem Dn {α : Type} {p : α → Bool} {key : α → List UInt8} {l : List α} (h : 0 < l.length) : gOk p key l 0 = p l[0] := by
 unfold gOk
 rw [zq h]
 simp
theorem PW {α : Type} {p : α → Bool} {key : α → List UInt8} {l : List α} (h : W9 p key l 0 l.length = true) {j : Nat} (hj : j < l.length) : gOk p key l j = true := by
 unfold W9 at h
 exact List.all_eq_true.1 h j (List.mem_range'_1.2 ⟨by omega, by omega⟩)
theorem DD {α : Type} {p : α → Bool} {key : α → List UInt8} {l : List α} (h : W9 p key l 0 l.length = true) {x : α} (hx : x ∈ l) : p x = true := by
 obtain ⟨j, hj, rfl⟩ := List.mem_iff_getElem.1 hx
 have := PW h hj
 unfold gOk at this
 rw [zq hj] at this
 simp only [Bool.and_eq_true] at this
 exact this.1
theorem Do {α : Type} {p : α → Bool} {key : α → List UInt8} {l : List α} (h : W9 p key l 0 l.length = true) : Asc (l.map key) := by
 intro i j
 induction j with
 | zero => intro _ h; omega
 | succ j ih =>
  intro hj hij
  rw [List.length_map] at hj
  have hk := PW h hj
  rw [Et hj (by omega), Bool.and_eq_true] at hk
  have h1 := hk.2
  rw [List.getElem_map, List.getElem_map]
  rcases Nat.lt_or_ge i j with hlt | hge
  ·have := ih (by rw [List.length_map]; omega) hlt
   rw [List.getElem_map, List.getElem_map] at this
   exact kK this h1
  ·obtain rfl : i = j := by omega
   exact h1
def DE (l : List (List UInt8)) : Bool := decide (l.length <= 8) && W9 E9 id l 0 l.length
def DS (v : GValue) : Bool := decide (v.Kind = 5) && YJ v && knV v
def vy (s : GStep) : Nat := s.Key.length
def zT : List GStep → Nat
 | [] => 0
 | v :: l => 1 + vy v + zT l
theorem QO {l : List GStep} {v : GStep} (h : v ∈ l) : 1 + vy v <= zT l := by
 induction l with
 | nil => cases h
 | cons x l ih =>
  simp only [zT]
  rcases List.mem_cons.1 h with rfl | h
  ·omega
  ·have := ih h; omega
theorem wX (l : List GStep) : l.length <= zT l := by
 induction l with
 | nil => simp
 | cons x l ih => simp only [zT, List.length_cons]; omega
def EA (s : GStep) : Bool := if s.Kind = 0 then qT s.Key && decide (s.I = 0) else decide (s.Kind = 1 ∧ s.Key = [] ∧ 0 <= s.I ∧ s.I <= 39)
def DT (l : List GStep) : Bool := decide (l.length <= 6) && l.all EA
def kS (x : GChange) : Nat := zT x.Path + vsz x.Old + vsz x.New
def zE : List GChange → Nat
 | [] => 0
 | v :: l => 1 + kS v + zE l
theorem Ti {l : List GChange} {v : GChange} (h : v ∈ l) : 1 + kS v <= zE l := by
 induction l with
 | nil => cases h
 | cons x l ih =>
  simp only [zE]
  rcases List.mem_cons.1 h with rfl | h
  ·omega
  ·have := ih h; omega
theorem wY (l : List GChange) : l.length <= zE l := by
 induction l with
 | nil => simp
 | cons x l ih => simp only [zE, List.length_cons]; omega
theorem jk (a b : List GChange) : zE (a ++ b) = zE a + zE b := by
 induction a with
 | nil => simp [zE]
 | cons x l ih => simp only [List.cons_append, zE, ih]; omega
def mSt (k : Int) (s : GStep) : GStep := .mk k (mB (k + 1) s.Key) (k + 1 + s.Key.length)
def zo : List GStep → Nat
 | [] => 0
 | s :: l => (s.Key.length + 2) + zo l
def wo : Int → List GStep → List GStep
 | _, [] => []
 | k, s :: l => mSt k s :: wo (k + ((s.Key.length + 2 : Nat) : Int)) l
theorem Jj : ∀ l : List GStep, zo l <= 2 * zT l
 | [] => Nat.le_refl _
 | s :: l => by have := Jj l; simp only [zo, zT, vy]; omega
theorem Pq : ∀ (k : Int) (l : List GStep), zo (wo k l) = zo l
 | _, [] => rfl
 | k, s :: l => by simp only [wo, zo, mSt, GStep.Key, ZF, Pq _ l]
theorem PX : ∀ (k : Int) (l : List GStep), zT (wo k l) = zT l
 | _, [] => rfl
 | k, s :: l => by simp only [wo, zT, vy, mSt, GStep.Key, ZF, PX _ l]
theorem Tj : ∀ (k : Int) (l : List GStep), wo k (wo k l) = wo k l
 | _, [] => rfl
 | k, s :: l => by simp only [wo, mSt, GStep.Key, ZF, R8, Tj _ l]
def cCh (x : GChange) : Nat := zo x.Path + cV x.Old + cV x.New + 2
def qv : List GChange → Nat
 | [] => 0
 | x :: l => cCh x + qv l
def mCh (k : Int) (x : GChange) : GChange := .mk (wo k x.Path) (decide ((k + zo x.Path).tmod 3 = 0)) (mV (k + zo x.Path + 1) x.Old) (decide ((k + zo x.Path + 1 + cV x.Old).tmod 3 = 0)) (mV (k + zo x.Path + 1 + cV x.Old + 1) x.New)
def jf : Int → List GChange → List GChange
 | _, [] => []
 | k, x :: l => mCh k x :: jf (k + cCh x) l
theorem Pr (x : GChange) : cCh x <= 6 + 2 * kS x := by
 have h1 := Jj x.Path
 have h2 := W7 x.Old
 have h3 := W7 x.New
 unfold cCh kS
 omega
theorem PY : ∀ l : List GChange, qv l <= 6 * zE l
 | [] => Nat.le_refl _
 | e :: l => by have := Pr e; have := PY l; simp only [qv, zE]; omega
theorem NX (k : Int) (x : GChange) : cCh (mCh k x) = cCh x := by unfold cCh mCh; simp only [GChange.Path, GChange.Old, GChange.New, Pq, OQ]
theorem Mm : ∀ (k : Int) (l : List GChange), qv (jf k l) = qv l
 | _, [] => rfl
 | k, x :: l => by simp only [jf, qv, NX, Mm _ l]
theorem Eu (k : Int) (x : GChange) : kS (mCh k x) = kS x := by unfold kS mCh; simp only [GChange.Path, GChange.Old, GChange.New, PX, NW]
theorem PZ : ∀ (k : Int) (l : List GChange), zE (jf k l) = zE l
 | _, [] => rfl
 | k, x :: l => by simp only [jf, zE, Eu, PZ _ l]
theorem N6 (k : Int) (x : GChange) : mCh k (mCh k x) = mCh k x := by
 show GChange.mk (wo k (wo k x.Path)) (decide ((k + zo (wo k x.Path)).tmod 3 = 0)) (mV (k + zo (wo k x.Path) + 1) (mV (k + zo x.Path + 1) x.Old)) (decide ((k + zo (wo k x.Path) + 1 + cV (mV (k + zo x.Path + 1) x.Old)).tmod 3 = 0)) (mV (k + zo (wo k x.Path) + 1 + cV (mV (k + zo x.Path + 1) x.Old) + 1) (mV (k + zo x.Path + 1 + cV x.Old + 1) x.New)) = _
 rw [Pq, Tj, OQ, R9, R9]; rfl
theorem Tk : ∀ (k : Int) (l : List GChange), jf k (jf k l) = jf k l
 | _, [] => rfl
 | k, x :: l => by simp only [jf, N6, NX, Tk _ l]
theorem q8 {m : Nat} (hm : m <= 2 ^ 39) : zA 216 m := by
 unfold zA
 constructor <;> simp [Am.maxBytes] <;> omega
theorem zx {f : FuncId} {fn : Func} (h : Try.prog.funcs[f]? = some fn) (hu : OT.contains f = true := by kernel_rfl) (hb : fn.body.isSome = true := by kernel_rfl) : cfg.funcs f = some (Am.bodyOf fn, fn.ntmps, fn.results.toList) := by
 rw [Tn]
 unfold OU Xd
 rw [hu, h]
 obtain ⟨c, hc⟩ := Option.isSome_iff_exists.1 hb
 simp only [Option.bind_some, Am.bodyOf, hc, Option.map_some, cond_true]
abbrev Oc {α : Type} (o : Option α) (f : FuncId) (st : List Entry) (xs : List V) (enc : α → V × List Entry) : Prop := OkC cfg o f st xs enc
abbrev Ol {α : Type} (o : Option α) (f : FuncId) (b : Code) (s : S) (enc : α → Ex × S) : Prop := OkL cfg o f b s enc
def xI (a b : List UInt8) : Option Int := some (Lib.compareBytes a b)
def RB (a : List UInt8) (b : UInt8) : Option Int := some (Lib.indexByte a b)
def yP (e0 : List (List UInt8)) : Option (List (List UInt8)) := if e0.length <= 1048576 then some (qM e0) else none
def y7 (e0 : List (List UInt8)) : Option (List (List UInt8)) := if e0.length <= 1048576 then some (Xg e0) else none
def GN (a : List UInt8) : Option (Int × Bool) := if a.length <= 2 ^ 40 then some (yU a) else none
theorem Kv : ∀ l : List (List UInt8), jB (eL (yf 1 za) l) = some l
 | [] => rfl
 | a :: l => by
  have h : eL (yf 1 za) (a :: l) = [C.own 1 (eL za a)] :: eL (yf 1 za) l := rfl
  rw [h, jB, Wj, Kv l]; rfl
theorem YM (e0 : List (List UInt8)) : Oc (yP e0) 67 [.obj 1 (eL (yf 1 za) e0)] [vr 0, .val false [.fn 68 []]] fun r => (.tup [], [.obj 1 (eL (yf 1 za) r)]) := by
 intro r h
 simp only [yP] at h
 split at h
 ·rename_i hc
  obtain rfl := Option.some.inj h
  refine TT ?_
  show (if 68 = 68 ∧ (eL (yf 1 za) e0).length <= 1048576 then (jB (eL (yf 1 za) e0)).map fun ts => ((V.tup [], [.obj 1 ((qM ts).map fun s => [C.own 1 (zW s)])]) : V × List Entry) else none) = _
  rw [if_pos ⟨rfl, by simpa [eL] using hc⟩, Kv e0]
  rfl
 ·cases h
theorem ZY (e0 : List (List UInt8)) : Oc (y7 e0) 69 [.obj 1 (eL (yf 1 za) e0)] [vr 0, .val false [.fn 64 []]] fun r => (.val false [.own 1 (eL (yf 1 za) r)], [.dead]) := by
 intro r h
 simp only [y7] at h
 split at h
 ·rename_i hc
  obtain rfl := Option.some.inj h
  refine TT ?_
  show (if 64 = 64 ∧ (eL (yf 1 za) e0).length <= 1048576 then (jB (eL (yf 1 za) e0)).map fun ts => ((V.val false [.own 1 ((Xg ts).map fun s => [C.own 1 (zW s)])], [.dead]) : V × List Entry) else none) = _
  rw [if_pos ⟨rfl, by simpa [eL] using hc⟩, Kv e0]
  rfl
 ·cases h
theorem ZH (a b : List UInt8) : Oc (xI a b) 98 [] [vq za a, vq za b] fun r => (vi r, []) := by
 intro r h
 obtain rfl := Option.some.inj h
 refine TT ?_
 show ((bytesOf (eL za a)).bind fun x => (bytesOf (eL za b)).map fun y => ((V.val false [C.int .i64 (Lib.compareBytes x y)], []) : V × List Entry)) = _
 rw [Wj, Wj]; rfl
end
end Go.Am.Try
