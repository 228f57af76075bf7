/- The functions of the program in plain Lean, and that the machine answers as they do; conditions at each theorem. -/
import Derived.Test.YtfbfbebalpnkbaaIS2
import Derived.Test.YtfbfbebalpnkbaaIAmD
set_option linter.unusedVariables false
set_option linter.unusedSimpArgs false
namespace Go.Am.Try
open Go.Am Go.Proofs
set_option linter.unusedVariables false
noncomputable section
theorem HZ {α : Type} {f : α → List C} : ([] : List (List C)) = eL f [] := rfl
theorem HI {α : Type} {f : α → List C} {x : α} {c : List C} {xs : List α} {cs : List (List C)} (h : f x = c) (t : cs = eL f xs) : c :: cs = eL f (x :: xs) := by subst h; subst t; rfl
inductive GExpr where
 | mk (Kind : Int) (N : Int) (S : (List UInt8)) (K : (List (List UInt8))) (Kids : (List GExpr))
def GExpr.Kind : GExpr → Int
 | .mk x _ _ _ _ => x
def GExpr.N : GExpr → Int
 | .mk _ x _ _ _ => x
def GExpr.S : GExpr → (List UInt8)
 | .mk _ _ x _ _ => x
def GExpr.K : GExpr → (List (List UInt8))
 | .mk _ _ _ x _ => x
def GExpr.Kids : GExpr → (List GExpr)
 | .mk _ _ _ _ x => x
theorem GExpr.eta (x : GExpr) : GExpr.mk x.Kind x.N x.S x.K x.Kids = x := by cases x; rfl
mutual
def zb : GExpr → List C
 | .mk Kind N S K Kids => [.int .i64 Kind, .int .i64 N, .seq (eL za S), .seq (eL (zk za) K), .seq (vF Kids)]
def vF : List GExpr → List (List C)
 | [] => []
 | v :: l => zb v :: vF l
end
theorem Ur (l : List GExpr) : vF l = eL zb l := by
 induction l with
 | nil => rfl
 | cons v l ih => simp only [vF, ih]; rfl
def yv (x : GExpr) : List C := [.int .i64 x.Kind, .int .i64 x.N, .seq (eL za x.S), .seq (eL (zk za) x.K), .seq (eL zb x.Kids)]
theorem zV (x : GExpr) : zb x = yv x := by
 cases x; simp only [zb, yv, Ur, GExpr.Kind, GExpr.N, GExpr.S, GExpr.K, GExpr.Kids]
mutual
def zN : GExpr → List C
 | .mk Kind N S K Kids => [.int .i64 Kind, .int .i64 N, .own 1 (eL za S), .own 1 (eL (zS 1 za) K), .own 5 (jw Kids)]
def jw : List GExpr → List (List C)
 | [] => []
 | v :: l => zN v :: jw l
end
theorem Us (l : List GExpr) : jw l = eL zN l := by
 induction l with
 | nil => rfl
 | cons v l ih => simp only [jw, ih]; rfl
def Vy (x : GExpr) : List C := [.int .i64 x.Kind, .int .i64 x.N, .own 1 (eL za x.S), .own 1 (eL (zS 1 za) x.K), .own 5 (eL zN x.Kids)]
theorem yU (x : GExpr) : zN x = Vy x := by
 cases x; simp only [zN, Vy, Us, GExpr.Kind, GExpr.N, GExpr.S, GExpr.K, GExpr.Kids]
mutual
theorem TT : ∀ x : GExpr, zQ (zN x) = zb x
 | .mk Kind N S K Kids => by have h := VX Kids; simp only [zN, zb, zQ, wG, h, ku yM, ku (xq 1 yM)]
theorem VX : ∀ l : List GExpr, yC (jw l) = vF l
 | [] => rfl
 | v :: l => by have h := TT v; have g := VX l; simp only [jw, vF, yC, h, g]
end
mutual
theorem TU : ∀ x : GExpr, jV (zN x) = true
 | .mk Kind N S K Kids => by have h := VY Kids; simp only [zN, jV, qA, h, kw yM, kw (xq 1 yM), Bool.and_self]
theorem VY : ∀ l : List GExpr, qB (jw l) = true
 | [] => rfl
 | v :: l => by have h := TU v; have g := VY l; simp only [jw, qB, h, g, Bool.and_self]
end
theorem wF : OEnc 5 zN zb := ⟨fun x => by rw [yU]; rfl, TT, TU⟩
theorem Ea : Enc 5 zb := ⟨fun x => by rw [zV]; rfl, fun x => by rw [zV]; rfl, fun x => by rw [zV]; rfl⟩
inductive GItem where
 | mk (Kind : Int) (Name : (List UInt8)) (Many : Int) (By : GExpr) (Names : (List (List UInt8))) (Exprs : (List GExpr))
def GItem.Kind : GItem → Int
 | .mk x _ _ _ _ _ => x
def GItem.Name : GItem → (List UInt8)
 | .mk _ x _ _ _ _ => x
def GItem.Many : GItem → Int
 | .mk _ _ x _ _ _ => x
def GItem.By : GItem → GExpr
 | .mk _ _ _ x _ _ => x
def GItem.Names : GItem → (List (List UInt8))
 | .mk _ _ _ _ x _ => x
def GItem.Exprs : GItem → (List GExpr)
 | .mk _ _ _ _ _ x => x
theorem GItem.eta (x : GItem) : GItem.mk x.Kind x.Name x.Many x.By x.Names x.Exprs = x := by cases x; rfl
def ym (x : GItem) : List C := [.int .i64 x.Kind, .seq (eL za x.Name), .int .i64 x.Many, .int .i64 x.By.Kind, .int .i64 x.By.N, .seq (eL za x.By.S), .seq (eL (zk za) x.By.K), .seq (eL zb x.By.Kids), .seq (eL (zk za) x.Names), .seq (eL zb x.Exprs)]
def zJ (x : GItem) : List C := [.int .i64 x.Kind, .seq (eL za x.Name), .int .i64 x.Many, .int .i64 x.By.Kind, .int .i64 x.By.N, .seq (eL za x.By.S), .seq (eL (zk za) x.By.K), .seq (eL zb x.By.Kids), .seq (eL (zk za) x.Names), .seq (eL zb x.Exprs)]
theorem eq_GItem (x : GItem) : ym x = zJ x := rfl
def Qe (x : GItem) : List C := [.int .i64 x.Kind, .own 1 (eL za x.Name), .int .i64 x.Many, .int .i64 x.By.Kind, .int .i64 x.By.N, .own 1 (eL za x.By.S), .own 1 (eL (zS 1 za) x.By.K), .own 5 (eL zN x.By.Kids), .own 1 (eL (zS 1 za) x.Names), .own 5 (eL zN x.Exprs)]
def UD (x : GItem) : List C := [.int .i64 x.Kind, .own 1 (eL za x.Name), .int .i64 x.Many, .int .i64 x.By.Kind, .int .i64 x.By.N, .own 1 (eL za x.By.S), .own 1 (eL (zS 1 za) x.By.K), .own 5 (eL zN x.By.Kids), .own 1 (eL (zS 1 za) x.Names), .own 5 (eL zN x.Exprs)]
theorem H4 (x : GItem) : Qe x = UD x := rfl
theorem Eb : OEnc 10 Qe ym := ⟨fun x => rfl, fun x => by simp only [Qe, ym, zQ, wG, ku yM, ku (xq 1 yM), ku wF], fun x => by simp only [Qe, jV, qA, kw yM, kw (xq 1 yM), kw wF, Bool.and_self]⟩
theorem UE : Enc 10 ym := ⟨fun x => by rw [eq_GItem]; rfl, fun x => by rw [eq_GItem]; rfl, fun x => by rw [eq_GItem]; rfl⟩
def bsz (k : List (List UInt8)) : Nat := k.length + (k.map List.length).sum
mutual
def xsz : GExpr → Nat
 | .mk _ _ s k l => s.length + bsz k + zB l
def zB : List GExpr → Nat
 | [] => 0
 | v :: l => 1 + xsz v + zB l
end
theorem vG {k : List (List UInt8)} {b : List UInt8} (h : b ∈ k) : 1 + b.length <= bsz k := by
 unfold bsz
 induction k with
 | nil => cases h
 | cons x k ih =>
  simp only [List.length_cons, List.map_cons, List.sum_cons]
  rcases List.mem_cons.1 h with rfl | h
  ·omega
  ·have := ih h; omega
theorem qq (k : List (List UInt8)) : k.length <= bsz k := by unfold bsz; omega
theorem xT (b : List UInt8) (k : List (List UInt8)) : bsz (b :: k) = 1 + b.length + bsz k := by unfold bsz; simp; omega
theorem yy {l : List GExpr} {v : GExpr} (h : v ∈ l) : 1 + xsz v <= zB l := by
 induction l with
 | nil => cases h
 | cons x l ih =>
  simp only [zB]
  rcases List.mem_cons.1 h with rfl | h
  ·omega
  ·have := ih h; omega
theorem zX (l : List GExpr) : l.length <= zB l := by
 induction l with
 | nil => simp
 | cons x l ih => simp only [zB, List.length_cons]; omega
theorem w5 (v : GExpr) : xsz v = v.S.length + bsz v.K + zB v.Kids := by cases v; simp only [xsz, GExpr.S, GExpr.K, GExpr.Kids]
mutual
def ptX : GExpr → Nat
 | .mk _ _ _ _ l => 1 + zP l
def zP : List GExpr → Nat
 | [] => 0
 | v :: l => ptX v + zP l
end
theorem Kp (v : GExpr) : ptX v = 1 + zP v.Kids := by cases v; simp only [ptX, GExpr.Kids]
theorem Mp (l : List GExpr) : l.length <= zP l := by
 induction l with
 | nil => simp
 | cons v l ih => have := Kp v; simp only [zP, List.length_cons]; omega
mutual
theorem OS : ∀ v : GExpr, ptX v <= 1 + xsz v
 | .mk _ _ _ _ l => by have := Qf l; simp only [ptX, xsz]; omega
theorem Qf : ∀ l : List GExpr, zP l <= zB l
 | [] => by simp [zP, zB]
 | v :: l => by have := OS v; have := Qf l; simp only [zP, zB]; omega
end
def X7 (a : List UInt8) : Bool := decide (a.length <= 20) && a.all (inB 32 126)
def y5 (a : List UInt8) : Bool := decide (1 <= a.length ∧ a.length <= 8) && a.all (inB 97 122)
def kOk (k : List (List UInt8)) (j : Nat) : Bool := match k[j]? with
 | some b => y5 b && (decide (j = 0) || match k[j - 1]? with | some a => Op.bytesLess a b | none => false)
 | none => false
def xo (k : List (List UInt8)) (i d : Nat) : Bool := (List.range' i d).all (kOk k)
theorem qw (k : List (List UInt8)) (i d : Nat) : xo k i (d + 1) = (kOk k i && xo k (i + 1) d) := by
 unfold xo; rw [List.range'_succ, List.all_cons]
theorem qO {k : List (List UInt8)} {i : Nat} (h : i < k.length) (h0 : 0 < i) : kOk k i = (y5 k[i] && Op.bytesLess (k[i - 1]'(by omega)) k[i]) := by
 unfold kOk
 rw [zo h]
 simp only
 rw [zo (show i - 1 < k.length by omega)]
 simp [show i ≠ 0 by omega]
theorem jx {k : List (List UInt8)} (h : 0 < k.length) : kOk k 0 = y5 k[0] := by
 unfold kOk
 rw [zo h]
 simp
theorem ZY (a b : List UInt8) : (0 <= Lib.compareBytes a b) = ¬ (Op.bytesLess a b = true) := by
 induction a generalizing b with
 | nil => cases b <;> simp [Lib.compareBytes, Op.bytesLess]
 | cons x a ih =>
  cases b with
  | nil => simp [Lib.compareBytes, Op.bytesLess]
  | cons y b =>
   simp only [Lib.compareBytes, Op.bytesLess]
   by_cases h1 : x < y
   ·simp [h1]
   ·by_cases h2 : y < x
    ·have h3 : ¬ x = y := fun e => by subst e; exact h1 h2
     simp [h1, h2, h3]
    ·have h3 : x = y := UInt8.le_antisymm (UInt8.not_lt.1 h2) (UInt8.not_lt.1 h1)
     subst h3
     simp [h1, ih]
def Kq : List (List UInt8) := [[110, 117, 108, 108], [116, 114, 117, 101], [102, 97, 108, 115, 101], [105, 110, 100, 101, 120], [107, 101, 121], [118, 97, 108], [108, 111, 99, 97, 108], [114, 101, 115], [111, 117, 116], [99, 111, 117, 110, 116], [101, 97, 99, 104]]
def ko (a : List UInt8) : Bool := Kq.any fun w => decide (w = a)
def bi : Bool → Int
 | true => 1
 | false => 0
def Dec {α : Type} (X b : α) (L : Prop) (t : α) : Prop := (t = X ∧ L) ∨ (t = b ∧ ¬ L)
section
variable {α β : Type} {X b x y : α} {L : Prop}
theorem Dec.ite {c : Prop} [Decidable c] (h1 : c → Dec X b L x) (h2 : ¬ c → Dec X b L y) : Dec X b L (if c then x else y) := by
 by_cases h : c
 ·rw [if_pos h]; exact h1 h
 ·rw [if_neg h]; exact h2 h
end
theorem Dec.bnd {α β : Type} {X b : Option α} {L : Prop} {e : Option β} {r : β} {f : β → Option α} (h : e = some r) (h1 : Dec X b L (f r)) : Dec X b L (e.bind f) := by rw [h]; exact h1
theorem Dec.bndB {α : Type} {X b : Option α} {L : Prop} {e : Option Bool} {t : Bool} {f : Bool → Option α} (h : e = some t) (h1 : bi t = 1 → Dec X b L (f true)) (h2 : bi t = 0 → Dec X b L (f false)) : Dec X b L (e.bind f) := by
 rw [h]
 cases t
 ·exact h2 rfl
 ·exact h1 rfl
theorem Dec.bndD {α : Type} {X b : Option α} {L : Prop} {e : Option Bool} {c : Prop} [Decidable c] {f : Bool → Option α} (h : e = some (decide c)) (h1 : c → Dec X b L (f true)) (h2 : ¬ c → Dec X b L (f false)) : Dec X b L (e.bind f) := by
 rw [h]
 by_cases hc : c
 ·rw [decide_eq_true hc]; exact h1 hc
 ·rw [decide_eq_false hc]; exact h2 hc
theorem OT (a b : Bool) : (bi (a && !b) = 1 ∧ bi a = 1 ∧ bi b = 0) ∨ (bi (a && !b) = 0 ∧ (bi a = 0 ∨ bi b = 1)) := by cases a <;> cases b <;> simp [bi]
def arI (k : Int) : Int := if k = 4 ∨ k = 5 ∨ k = 23 then -1 else if k = 8 ∨ k = 13 ∨ k = 14 then 1 else if k = 9 ∨ (15 <= k ∧ k <= 21) then 2 else if k = 22 then 3 else 0
theorem Vz (k : Int) : (k = 4 ∨ k = 5 ∨ k = 23 → arI k = -1) ∧ (k = 8 ∨ k = 13 ∨ k = 14 → arI k = 1) ∧ (k = 9 ∨ (15 <= k ∧ k <= 21) → arI k = 2) ∧ (k = 22 → arI k = 3) ∧ (¬ (k = 4 ∨ k = 5 ∨ k = 23 ∨ k = 8 ∨ k = 13 ∨ k = 14 ∨ k = 9 ∨ (15 <= k ∧ k <= 21) ∨ k = 22) → arI k = 0) := by
 unfold arI
 refine ⟨fun h => ?_, fun h => ?_, fun h => ?_, fun h => ?_, fun h => ?_⟩ <;> (repeat' split) <;> omega
def Zp (k n s kk kl ar t nm kp : Int) : Prop :=
 (0 <= k ∧ k <= 23) ∧ (0 <= ar → kl = ar) ∧ (k = 5 → kk = kl) ∧ (k ≠ 5 → kk = 0) ∧ (k = 1 → 0 <= n ∧ n <= 1) ∧ (k = 2 → 0 <= n ∧ n <= 1000000000000) ∧ (k ≠ 1 → k ≠ 2 → n = 0) ∧ (k = 3 → t = 1) ∧
 (k = 6 ∨ k = 8 ∨ k = 7 ∨ k = 23 → nm = 1) ∧ (k = 7 ∨ k = 23 → kp = 0) ∧ (k ≠ 3 → k ≠ 6 → k ≠ 8 → k ≠ 7 → k ≠ 23 → s = 0)
def kD (v : GExpr) : Prop := Zp v.Kind v.N v.S.length v.K.length v.Kids.length (arI v.Kind) (bi (X7 v.S)) (bi (y5 v.S)) (bi (ko v.S))
open Classical in
noncomputable def kE (v : GExpr) : Bool := decide (kD v ∧ v.Kids.length <= 150) && (decide (v.Kind ≠ 5) || xo v.K 0 v.K.length)
noncomputable def frX : Nat → GExpr → Bool
 | 0, _ => false
 | d + 1, v => kE v && v.Kids.all (frX d)
def jL (s : Nat) (n : Int) : Int := if (s : Int) <= n then n - s else -1
/- calls -/
theorem Jw (a : List UInt8) : Op.bytesLess a a = false := by
 induction a with
 | nil => rfl
 | cons x a ih => simp [Op.bytesLess, ih]
theorem vj : ∀ {a b c : List UInt8}, Op.bytesLess a b = true → Op.bytesLess b c = true → Op.bytesLess a c = true
 | [], [], _, h, _ => by simp [Op.bytesLess] at h
 | [], _ :: _, [], _, h => by simp [Op.bytesLess] at h
 | [], _ :: _, _ :: _, _, _ => rfl
 | _ :: _, [], _, h, _ => by simp [Op.bytesLess] at h
 | _ :: _, _ :: _, [], _, h => by simp [Op.bytesLess] at h
 | x :: a, y :: b, z :: c, h, g => by
  simp only [Op.bytesLess, Bool.or_eq_true, decide_eq_true_eq, Bool.and_eq_true, beq_iff_eq] at h g ⊢
  rcases h with h | ⟨rfl, h⟩
  ·rcases g with g | ⟨rfl, g⟩
   ·exact .inl (UInt8.lt_trans h g)
   ·exact .inl h
  ·rcases g with g | ⟨rfl, g⟩
   ·exact .inl g
   ·exact .inr ⟨rfl, vj h g⟩
theorem Mq : ∀ (a b : List UInt8), Lib.compareBytes a b = 0 ↔ a = b
 | [], [] => by simp [Lib.compareBytes]
 | [], _ :: _ => by simp [Lib.compareBytes]
 | _ :: _, [] => by simp [Lib.compareBytes]
 | x :: a, y :: b => by
  have ih := Mq a b
  simp only [Lib.compareBytes]
  by_cases h1 : x < y
  ·rw [if_pos h1]
   have : x ≠ y := fun e => by subst e; exact absurd h1 (UInt8.lt_irrefl x)
   simp [this]
  ·rw [if_neg h1]
   by_cases h2 : y < x
   ·rw [if_pos h2]
    have : x ≠ y := fun e => by subst e; exact absurd h2 (UInt8.lt_irrefl x)
    simp [this]
   ·have h3 : x = y := UInt8.le_antisymm (UInt8.not_lt.1 h2) (UInt8.not_lt.1 h1)
    subst h3
    rw [if_neg h2, ih]; simp
theorem Ny (a b : List UInt8) : (Lib.compareBytes a b < 0) = (Op.bytesLess a b = true) := by
 have := ZY a b
 apply propext
 constructor
 ·intro h
  refine Classical.byContradiction fun hn => ?_
  rw [<- this] at hn
  omega
 ·intro h
  refine Classical.byContradiction fun hn => ?_
  have h0 : 0 <= Lib.compareBytes a b := by omega
  rw [this] at h0
  exact h0 h
def P9 (a : List (List UInt8)) (x : List UInt8) (c : Nat) : Prop := c <= a.length ∧ ∀ k (h : k < a.length), k < c ↔ Op.bytesLess a[k] x = true
def Asc (a : List (List UInt8)) : Prop := ∀ i j (hj : j < a.length) (hij : i < j), Op.bytesLess (a[i]'(by omega)) a[j] = true
theorem P9.of {a : List (List UInt8)} (ha : Asc a) (x : List UInt8) : ∃ c, P9 a x c := by
 have : ∀ n, n <= a.length → ∃ c, c <= n ∧ ∀ k (h : k < a.length), k < n → (k < c ↔ Op.bytesLess a[k] x = true) := by
  intro n
  induction n with
  | zero => exact fun _ => ⟨0, Nat.le_refl _, fun k h hk => by omega⟩
  | succ n ih =>
   intro hn
   obtain ⟨c, hc, h⟩ := ih (by omega)
   by_cases hl : Op.bytesLess (a[n]'(by omega)) x = true
   ·have hcn : c = n := by
     refine Classical.byContradiction fun hne => ?_
     have h1 := h c (by omega) (by omega)
     have h2 := ha c n (by omega) (by omega)
     have := h1.2 (vj h2 hl)
     omega
    refine ⟨n + 1, Nat.le_refl _, fun k hk hkn => ?_⟩
    rcases Nat.lt_or_ge k n with hlt | hge
    ·exact ⟨fun _ => (h k hk hlt).1 (by omega), fun _ => by omega⟩
    ·obtain rfl : k = n := by omega
     exact ⟨fun _ => hl, fun _ => by omega⟩
   ·refine ⟨c, by omega, fun k hk hkn => ?_⟩
    rcases Nat.lt_or_ge k n with hlt | hge
    ·exact h k hk hlt
    ·obtain rfl : k = n := by omega
     exact ⟨fun _ => by omega, fun h => (hl h).elim⟩
 obtain ⟨c, hc, h⟩ := this a.length (Nat.le_refl _)
 exact ⟨c, hc, fun k hk => h k hk hk⟩
theorem P9.mem {a : List (List UInt8)} (ha : Asc a) {x : List UInt8} {c : Nat} (h : P9 a x c) : a[c]? = some x ↔ x ∈ a := by
 constructor
 ·exact List.mem_of_getElem?
 ·intro hx
  obtain ⟨k, hk, rfl⟩ := List.mem_iff_getElem.1 hx
  have h1 : ¬ k < c := fun hlt => by
   have := (h.2 k hk).1 hlt
   rw [Jw] at this
   cases this
  have h2 : k = c := by
   refine Classical.byContradiction fun hne => ?_
   have hlt : c < k := by omega
   have := (h.2 c (by omega)).2 (ha c k hk hlt)
   omega
  subst h2
  exact zo hk
theorem En {i j : Nat} (h : i + j < 2 ^ 62) : w64 (UO .shr .u64 (IntKind.u64.wrap (w64 ((i : Int) + (j : Int)))) 1) = (((i + j) / 2 : Nat) : Int) := by
 rw [xZ (x := (i : Int) + (j : Int)) (by omega) (by omega)]
 have h1 : IntKind.u64.wrap ((i : Int) + (j : Int)) = (i : Int) + (j : Int) := by unfold IntKind.wrap; simp [IntKind.bits, IntKind.signed]; omega
 rw [h1]
 have h2 : UO .shr .u64 ((i : Int) + (j : Int)) 1 = (((i + j) / 2 : Nat) : Int) := by
  show Int.fdiv _ (2 ^ (min (1 : Int).toNat IntKind.u64.bits)) = _
  rw [show min (1 : Int).toNat IntKind.u64.bits = 1 from rfl, Int.fdiv_eq_ediv_of_nonneg _ (by decide)]
  omega
 rw [h2, xZ (by omega) (by omega)]
/- sorting -/
def Le (x y : List UInt8) : Prop := Op.bytesLess y x = false
theorem Kr : ∀ a b : List UInt8, Op.bytesLess a b = true ∨ a = b ∨ Op.bytesLess b a = true
 | [], [] => .inr (.inl rfl)
 | [], _ :: _ => .inl rfl
 | _ :: _, [] => .inr (.inr rfl)
 | x :: a, y :: b => by
  simp only [Op.bytesLess, Bool.or_eq_true, decide_eq_true_eq, Bool.and_eq_true, beq_iff_eq]
  by_cases h1 : x < y
  ·exact .inl (.inl h1)
  by_cases h2 : y < x
  ·exact .inr (.inr (.inl h2))
  ·have h3 : x = y := UInt8.le_antisymm (UInt8.not_lt.1 h2) (UInt8.not_lt.1 h1)
   subst h3
   rcases Kr a b with h | h | h
   ·exact .inl (.inr ⟨rfl, h⟩)
   ·exact .inr (.inl (by rw [h]))
   ·exact .inr (.inr (.inr ⟨rfl, h⟩))
theorem Le.refl (x : List UInt8) : Le x x := Jw x
theorem Le.of_less {x y : List UInt8} (h : Op.bytesLess x y = true) : Le x y := by
 unfold Le
 cases h2 : Op.bytesLess y x with
 | false => rfl
 | true => have := vj h h2; rw [Jw] at this; cases this
theorem Le.cases {x y : List UInt8} (h : Le x y) : x = y ∨ Op.bytesLess x y = true := by
 rcases Kr x y with g | g | g
 ·exact .inr g
 ·exact .inl g
 ·unfold Le at h; rw [h] at g; cases g
theorem Le.trans {x y z : List UInt8} (h : Le x y) (g : Le y z) : Le x z := by
 rcases h.cases with rfl | h
 ·exact g
 ·rcases g.cases with rfl | g
  ·exact Le.of_less h
  ·exact Le.of_less (vj h g)
theorem Le.of_not {x y : List UInt8} (h : ¬ Op.bytesLess y x = true) : Le x y := Bool.eq_false_iff.2 h
def gt (d : List (List UInt8)) (i : Nat) : List UInt8 := (d[i]?).getD []
theorem Ec {d : List (List UInt8)} {i : Nat} (h : i < d.length) : d[i]? = some (gt d i) := by unfold gt; rw [zo h]; rfl
theorem OU {d : List (List UInt8)} {i k : Nat} {x : List UInt8} (h : i < d.length) : gt (d.set i x) k = if k = i then x else gt d k := by
 unfold gt
 by_cases e : k = i
 ·subst e; rw [if_pos rfl, List.getElem?_set_self h]; rfl
 ·rw [if_neg e, List.getElem?_set_ne (fun e' => e e'.symm)]
def sw (d : List (List UInt8)) (i j : Nat) : List (List UInt8) := (d.set i (gt d j)).set j (gt d i)
theorem GX (d : List (List UInt8)) (i j : Nat) : (sw d i j).length = d.length := by unfold sw; simp
theorem MA {d : List (List UInt8)} {i j k : Nat} (hi : i < d.length) (hj : j < d.length) : gt (sw d i j) k = if k = j then gt d i else if k = i then gt d j else gt d k := by
 unfold sw
 rw [OU (by simpa using hj), OU hi]
structure Rg (a b : Nat) (d d' : List (List UInt8)) : Prop where
 len : d'.length = d.length
 perm : d'.Perm d
 out : ∀ i, (i < a ∨ b <= i) → gt d' i = gt d i
 all : ∀ Q : List UInt8 → Prop, (∀ i, a <= i → i < b → Q (gt d i)) → ∀ i, a <= i → i < b → Q (gt d' i)
theorem Rg.refl (a b : Nat) (d : List (List UInt8)) : Rg a b d d := ⟨rfl, .refl _, fun _ _ => rfl, fun _ h => h⟩
theorem Rg.trans {a b : Nat} {d d' d'' : List (List UInt8)} (h : Rg a b d d') (g : Rg a b d' d'') : Rg a b d d'' :=
 ⟨g.len.trans h.len, g.perm.trans h.perm, fun i hi => (g.out i hi).trans (h.out i hi), fun Q hq => g.all Q (h.all Q hq)⟩
theorem Rg.mono {a b a' b' : Nat} {d d' : List (List UInt8)} (h : Rg a b d d') (ha : a' <= a) (hb : b <= b') : Rg a' b' d d' :=
 ⟨h.len, h.perm, fun i hi => h.out i (by omega), fun Q hq i h1 h2 => by
  by_cases hin : a <= i ∧ i < b
  ·exact h.all Q (fun k k1 k2 => hq k (by omega) (by omega)) i hin.1 hin.2
  ·rw [h.out i (by omega)]; exact hq i h1 h2⟩
theorem Nz {d : List (List UInt8)} {i j : Nat} (hi : i < d.length) (hj : j < d.length) : (sw d i j).Perm d := by
 have e1 : gt d j = d[j] := by unfold gt; rw [zo hj]; rfl
 have e2 : gt d i = d[i] := by unfold gt; rw [zo hi]; rfl
 unfold sw
 rw [e1, e2]
 exact List.set_set_perm hi hj
theorem Rg.swap {a b : Nat} {d : List (List UInt8)} {i j : Nat} (h1 : a <= i) (h2 : i < b) (h3 : a <= j) (h4 : j < b) (hb : b <= d.length) : Rg a b d (sw d i j) :=
 ⟨GX d i j, Nz (by omega) (by omega), fun k hk => by rw [MA (by omega) (by omega), if_neg (by omega), if_neg (by omega)], fun Q hq k k1 k2 => by
  rw [MA (by omega) (by omega)]
  split
  ·exact hq i h1 h2
  ·split
   ·exact hq j h3 h4
   ·exact hq k k1 k2⟩
def Srt (a b : Nat) (d : List (List UInt8)) : Prop := ∀ i j, a <= i → i < j → j < b → Le (gt d i) (gt d j)
theorem Eo {x y : List UInt8} : (Lib.compareBytes x y < 0) ↔ Op.bytesLess x y = true := by rw [Ny]
/- values as expressions -/
/- expressions renamed -/
mutual
def rnX (a b : List UInt8) : GExpr → GExpr
 | .mk k n s kk l => .mk k n (if k = 6 ∧ s = a then b else s) kk (vk a b l)
def vk (a b : List UInt8) : List GExpr → List GExpr
 | [] => []
 | v :: l => rnX a b v :: vk a b l
end
theorem Ep (a b : List UInt8) (v : GExpr) : rnX a b v = .mk v.Kind v.N (if v.Kind = 6 ∧ v.S = a then b else v.S) v.K (vk a b v.Kids) := by cases v; rw [rnX]; rfl
theorem HJ (a b : List UInt8) (l : List GExpr) : (vk a b l).length = l.length := by induction l with
 | nil => rw [vk]
 | cons x l ih => rw [vk, List.length_cons, List.length_cons, ih]
theorem H5 (a b : List UInt8) (p : List GExpr) (x : GExpr) : vk a b (p ++ [x]) = vk a b p ++ [rnX a b x] := by induction p with
 | nil => simp only [List.nil_append, vk]
 | cons y p ih => rw [List.cons_append, vk, ih, vk, List.cons_append]
mutual
theorem GY (a b : List UInt8) (hb : b.length <= 8) : ∀ v : GExpr, xsz (rnX a b v) <= 8 + 16 * xsz v
 | .mk k n s kk l => by
  have := UF a b hb l
  have h : (if k = 6 ∧ s = a then b else s).length <= 8 + s.length := by split <;> omega
  rw [rnX]
  simp only [xsz]; omega
theorem UF (a b : List UInt8) (hb : b.length <= 8) : ∀ l : List GExpr, zB (vk a b l) <= 16 * zB l
 | [] => by rw [vk]; simp [zB]
 | v :: l => by have := GY a b hb v; have := UF a b hb l; rw [vk]; simp only [zB]; omega
end
/- marks -/
theorem xn {α : Type} (p : List α) (x : α) (l : List α) : (p ++ x :: l)[p.length]? = some x := by simp
theorem ZA {α : Type} (p : List α) (x y : α) (l : List α) : (p ++ x :: l).set p.length y = p ++ y :: l := by simp
theorem ZZ {α : Type} (p : List α) (x : α) (l : List α) : p ++ x :: l = (p ++ [x]) ++ l := by simp
theorem HL {α : Type} (p : List α) (x : α) : (p.length : Int) + 1 = ((p ++ [x]).length : Int) := by simp
theorem wt {α : Type} (p : List α) (x : α) (h : p.length < 2 ^ 62) : w64 ((p.length : Int) + 1) = ((p ++ [x]).length : Int) := by rw [yb h]; simp
theorem Ya {α : Type} (p : List α) (x : α) (l : List α) : (p.length : Int) < ((p ++ x :: l).length : Int) := by simp; omega
theorem vH {α : Type} (p : List α) : ¬ (p.length : Int) < ((p ++ []).length : Int) := by simp
theorem qu {n m : Nat} (hn : n <= 2 ^ 7) (hm : m <= 2 ^ 40) : xJ n m := by
 have : m * n <= 2 ^ 40 * 2 ^ 7 := Nat.mul_le_mul hm hn
 unfold xJ
 exact ⟨by rw [show vm = 2 ^ 47 from rfl]; omega, by omega⟩
def mI : Int → List Int → List Int
 | _, [] => []
 | k, _ :: l => k :: mI (k + 1) l
theorem Er (l : List Int) (k : Int) : (mI k l).length = l.length := by
 induction l generalizing k with
 | nil => rfl
 | cons x l ih => simp only [mI, List.length_cons, ih]
theorem Ed (l : List Int) (k : Int) : mI k (mI k l) = mI k l := by
 induction l generalizing k with
 | nil => rfl
 | cons x l ih => simp only [mI, ih]
def mB : Int → List UInt8 → List UInt8
 | _, [] => []
 | k, _ :: l => b8 k :: mB (k + 1) l
def cB (k : List (List UInt8)) : Nat := (k.map List.length).sum
def mBB : Int → List (List UInt8) → List (List UInt8)
 | _, [] => []
 | k, x :: l => mB k x :: mBB (k + x.length) l
theorem WK (l : List UInt8) (k : Int) : (mB k l).length = l.length := by
 induction l generalizing k with
 | nil => rfl
 | cons x l ih => simp only [mB, List.length_cons, ih]
theorem UG (l : List UInt8) (k : Int) : mB k (mB k l) = mB k l := by
 induction l generalizing k with
 | nil => rfl
 | cons x l ih => simp only [mB, ih]
theorem TV (l : List (List UInt8)) (k : Int) : mBB k (mBB k l) = mBB k l := by
 induction l generalizing k with
 | nil => rfl
 | cons x l ih => simp only [mBB, UG, WK, ih]
theorem Ks (l : List (List UInt8)) (k : Int) : cB (mBB k l) = cB l := by
 induction l generalizing k with
 | nil => rfl
 | cons x l ih => unfold cB at ih ⊢; simp only [mBB, List.map_cons, List.sum_cons, WK, ih]
theorem UH (x : List UInt8) (l : List (List UInt8)) : cB (x :: l) = x.length + cB l := by unfold cB; simp
theorem Yb (l : List (List UInt8)) : bsz l = l.length + cB l := rfl
theorem UI (l : List (List UInt8)) (k : Int) : bsz (mBB k l) = bsz l := by
 rw [Yb, Yb, Ks]
 congr 1
 induction l generalizing k with
 | nil => rfl
 | cons x l ih => simp only [mBB, List.length_cons, ih]
mutual
def cX : GExpr → Nat
 | .mk _ _ s k l => 2 + (s.length + (cB k + cXs l))
def cXs : List GExpr → Nat
 | [] => 0
 | v :: l => cX v + cXs l
end
mutual
def mX : Int → GExpr → GExpr
 | i, .mk _ _ s k l => .mk i (i + 1) (mB (i + 1 + 1) s) (mBB (i + 1 + 1 + s.length) k) (mXs (i + 1 + 1 + s.length + cB k) l)
def mXs : Int → List GExpr → List GExpr
 | _, [] => []
 | i, v :: l => mX i v :: mXs (i + cX v) l
end
theorem E5 (v : GExpr) : cX v = 2 + (v.S.length + (cB v.K + cXs v.Kids)) := by cases v; simp only [cX, GExpr.S, GExpr.K, GExpr.Kids]
theorem E6 (i : Int) (v : GExpr) : mX i v = .mk i (i + 1) (mB (i + 1 + 1) v.S) (mBB (i + 1 + 1 + v.S.length) v.K) (mXs (i + 1 + 1 + v.S.length + cB v.K) v.Kids) := by cases v; simp only [mX, GExpr.S, GExpr.K, GExpr.Kids]
mutual
theorem GZ : ∀ (i : Int) (v : GExpr), cX (mX i v) = cX v
 | i, .mk _ _ s k l => by simp only [mX, cX, WK, Ks, MB]
theorem MB : ∀ (i : Int) (l : List GExpr), cXs (mXs i l) = cXs l
 | _, [] => rfl
 | i, v :: l => by simp only [mXs, cXs, GZ i v, MB _ l]
end
mutual
theorem N0 : ∀ (i : Int) (v : GExpr), mX i (mX i v) = mX i v
 | i, .mk _ _ s k l => by simp only [mX, WK, Ks, UG, TV, TW]
theorem TW : ∀ (i : Int) (l : List GExpr), mXs i (mXs i l) = mXs i l
 | _, [] => rfl
 | i, v :: l => by simp only [mXs, GZ, N0 i v, TW _ l]
end
mutual
theorem Hr : ∀ (i : Int) (v : GExpr), xsz (mX i v) = xsz v
 | i, .mk _ _ s k l => by simp only [mX, xsz, WK, UI, OV]
theorem OV : ∀ (i : Int) (l : List GExpr), zB (mXs i l) = zB l
 | _, [] => rfl
 | i, v :: l => by simp only [mXs, zB, Hr i v, OV _ l]
end
mutual
theorem MC : ∀ v : GExpr, cX v <= 2 + 2 * xsz v
 | .mk _ _ s k l => by have := Kt l; have := Yb k; simp only [cX, xsz]; omega
theorem Kt : ∀ l : List GExpr, cXs l <= 2 * zB l
 | [] => by simp [cXs, zB]
 | v :: l => by have := MC v; have := Kt l; simp only [cXs, zB]; omega
end
/- addresses -/
theorem Es {α : Type} {l : List α} {i : Nat} (h : i <= l.length) : kY l none (some i) = some (l.take i) := by
 unfold kY vJ; rw [if_pos ⟨by simp, by simpa using h⟩]; simp
theorem HM {α : Type} {l : List α} {i : Nat} (h : i <= l.length) : kY l (some i) none = some (l.drop i) := by
 unfold kY vJ; rw [if_pos ⟨by simpa using h, by simp⟩]; simp
theorem Ee {α : Type} {l : List α} (h : 2 <= l.length) : kY l (some 1) (some (l.length - 1)) = some ((l.drop 1).dropLast) := by
 unfold kY vJ
 rw [if_pos ⟨by simp; omega, by simp⟩]
 simp only [Option.getD_some, Option.map_some, List.dropLast_eq_take, List.length_drop, List.drop_take]
theorem HN {α : Type} {l : List α} (h : 0 < l.length) : l[l.length - 1]? = l.getLast? := by rw [List.getLast?_eq_getElem?]
def E7 (n : Nat) : List UInt8 := if n < 10 then [UInt8.ofNat (48 + n)] else [UInt8.ofNat (48 + n / 10), UInt8.ofNat (48 + n % 10)]
def HO (l : List UInt8) : Bool := decide (1 <= l.length ∧ l.length <= 2) && !(decide (l.length = 2) && decide (l[0]? = some 48)) && l.all (inB 48 57)
def HP (l : List UInt8) : Bool := if l[0]? = some 34 then (if (l.drop 1).getLast? = some 34 then y5 (l.drop 1).dropLast else false) else HO l
def V0 (b : List UInt8) : List UInt8 := b.takeWhile fun x => decide (x ≠ 91)
def X8 (b : List UInt8) : List UInt8 := b.dropWhile fun x => decide (x ≠ 91)
theorem PA (b : List UInt8) : V0 b ++ X8 b = b := List.takeWhile_append_dropWhile
theorem Ef (b : List UInt8) : b.take (V0 b).length = V0 b := by
 conv => lhs; arg 2; rw [<- PA b]
 exact List.take_left
theorem Eg (b : List UInt8) : b.drop (V0 b).length = X8 b := by
 conv => lhs; arg 2; rw [<- PA b]
 exact List.drop_left
theorem Et (b : List UInt8) : (V0 b).length + (X8 b).length = b.length := by
 rw [<- List.length_append, PA]
theorem Eh {b : List UInt8} (h : X8 b ≠ []) : ∃ t, X8 b = 91 :: t := by
 unfold X8 at h ⊢
 induction b with
 | nil => exact (h rfl).elim
 | cons x b ih =>
  rw [List.dropWhile_cons] at h ⊢
  by_cases hx : x = 91
  ·subst hx
   exact ⟨b, by rw [if_neg (by simp)]⟩
  ·rw [if_pos (by simpa using hx)] at h ⊢
   exact ih h
def Hs (b : List UInt8) : Bool := y5 (V0 b) && (if X8 b = [] then true else if ((X8 b).drop 1).getLast? = some 93 then HP ((X8 b).drop 1).dropLast else false)
theorem H6 {b : List UInt8} (h : y5 b = true) : 1 <= b.length ∧ b.length <= 8 := by
 unfold y5 at h
 rw [Bool.and_eq_true] at h
 exact of_decide_eq_true h.1
def gOk {α : Type} (p : α → Bool) (key : α → List UInt8) (l : List α) (j : Nat) : Bool := match l[j]? with
 | some b => p b && (decide (j = 0) || match l[j - 1]? with | some a => Op.bytesLess (key a) (key b) | none => false)
 | none => false
def X9 {α : Type} (p : α → Bool) (key : α → List UInt8) (l : List α) (i d : Nat) : Bool := (List.range' i d).all (gOk p key l)
theorem H7 {α : Type} (p : α → Bool) (key : α → List UInt8) (l : List α) (i : Nat) : X9 p key l i 0 = true := rfl
theorem H8 {α : Type} (p : α → Bool) (key : α → List UInt8) (l : List α) (i d : Nat) : X9 p key l i (d + 1) = (gOk p key l i && X9 p key l (i + 1) d) := by
 unfold X9; rw [List.range'_succ, List.all_cons]
theorem Ha {α : Type} {p : α → Bool} {key : α → List UInt8} {l : List α} {i : Nat} (h : i < l.length) (h0 : 0 < i) : gOk p key l i = (p l[i] && Op.bytesLess (key (l[i - 1]'(by omega))) (key l[i])) := by
 unfold gOk
 rw [zo h]
 simp only
 rw [zo (show i - 1 < l.length by omega)]
 simp [show i ≠ 0 by omega]
theorem HQ {α : Type} {p : α → Bool} {key : α → List UInt8} {l : List α} (h : 0 < l.length) : gOk p key l 0 = p l[0] := by
 unfold gOk
 rw [zo h]
 simp
theorem UJ {α : Type} {p : α → Bool} {key : α → List UInt8} {l : List α} (h : X9 p key l 0 l.length = true) {j : Nat} (hj : j < l.length) : gOk p key l j = true := by
 unfold X9 at h
 exact List.all_eq_true.1 h j (List.mem_range'_1.2 ⟨by omega, by omega⟩)
theorem Eu {α : Type} {p : α → Bool} {key : α → List UInt8} {l : List α} (h : X9 p key l 0 l.length = true) {x : α} (hx : x ∈ l) : p x = true := by
 obtain ⟨j, hj, rfl⟩ := List.mem_iff_getElem.1 hx
 have := UJ h hj
 unfold gOk at this
 rw [zo hj] at this
 simp only [Bool.and_eq_true] at this
 exact this.1
theorem HR {α : Type} {p : α → Bool} {key : α → List UInt8} {l : List α} (h : X9 p key l 0 l.length = true) : Asc (l.map key) := by
 intro i j
 induction j with
 | zero => intro _ h; omega
 | succ j ih =>
  intro hj hij
  rw [List.length_map] at hj
  have hk := UJ h hj
  rw [Ha hj (by omega), Bool.and_eq_true] at hk
  have h1 := hk.2
  rw [List.getElem_map, List.getElem_map]
  rcases Nat.lt_or_ge i j with hlt | hge
  ·have := ih (by rw [List.length_map]; omega) hlt
   rw [List.getElem_map, List.getElem_map] at this
   exact vj this h1
  ·obtain rfl : i = j := by omega
   exact h1
def Ev (l : List (List UInt8)) : Bool := decide (l.length <= 8) && X9 Hs id l 0 l.length
theorem zs {f : FuncId} {fn : Func} (h : Try.prog.funcs[f]? = some fn) (hu : PB.contains f = true := by kernel_rfl) (hb : fn.body.isSome = true := by kernel_rfl) : cfg.funcs f = some (Am.bodyOf fn, fn.ntmps, fn.results.toList) := by
 rw [VZ]
 unfold PC Yt
 rw [hu, h]
 obtain ⟨c, hc⟩ := Option.isSome_iff_exists.1 hb
 simp only [Option.bind_some, Am.bodyOf, hc, Option.map_some, cond_true]
abbrev Oc {α : Type} (o : Option α) (f : FuncId) (st : List Entry) (xs : List V) (enc : α → V × List Entry) : Prop := OkC cfg o f st xs enc
abbrev Ol {α : Type} (o : Option α) (f : FuncId) (b : Code) (s : S) (enc : α → Ex × S) : Prop := OkL cfg o f b s enc
def qP (a b : List UInt8) : Option Int := some (Lib.compareBytes a b)
def V1 (a : List UInt8) (b : UInt8) : Option Int := some (Lib.indexByte a b)
def yc (e0 : List (List UInt8)) : Option (List (List UInt8)) := if e0.length <= 1048576 then some (wR e0) else none
def zW (e0 : List (List UInt8)) : Option (List (List UInt8)) := if e0.length <= 1048576 then some (Yw e0) else none
def N1 (a : List UInt8) : Option (Int × Bool) := if a.length <= 2 ^ 40 then some (yz a) else none
theorem Jx : ∀ l : List (List UInt8), qS (eL (zS 1 za) l) = some l
 | [] => rfl
 | a :: l => by
  have h : eL (zS 1 za) (a :: l) = [C.own 1 (eL za a)] :: eL (zS 1 za) l := rfl
  rw [h, qS, Xq, Jx l]; rfl
theorem w8 (e0 : List (List UInt8)) : Oc (yc e0) 67 [.obj 1 (eL (zS 1 za) e0)] [vr 0, .val false [.fn 68 []]] fun r => (.tup [], [.obj 1 (eL (zS 1 za) r)]) := by
 intro r h
 simp only [yc] at h
 split at h
 ·rename_i hc
  obtain rfl := Option.some.inj h
  refine RD ?_
  show (if 68 = 68 ∧ (eL (zS 1 za) e0).length <= 1048576 then (qS (eL (zS 1 za) e0)).map fun ts => ((V.tup [], [.obj 1 ((wR ts).map fun s => [C.own 1 (zD s)])]) : V × List Entry) else none) = _
  rw [if_pos ⟨rfl, by simpa [eL] using hc⟩, Jx e0]
  rfl
 ·cases h
theorem wg (e0 : List (List UInt8)) : Oc (zW e0) 69 [.obj 1 (eL (zS 1 za) e0)] [vr 0, .val false [.fn 64 []]] fun r => (.val false [.own 1 (eL (zS 1 za) r)], [.dead]) := by
 intro r h
 simp only [zW] at h
 split at h
 ·rename_i hc
  obtain rfl := Option.some.inj h
  refine RD ?_
  show (if 64 = 64 ∧ (eL (zS 1 za) e0).length <= 1048576 then (qS (eL (zS 1 za) e0)).map fun ts => ((V.val false [.own 1 ((Yw ts).map fun s => [C.own 1 (zD s)])], [.dead]) : V × List Entry) else none) = _
  rw [if_pos ⟨rfl, by simpa [eL] using hc⟩, Jx e0]
  rfl
 ·cases h
theorem vW (a b : List UInt8) : Oc (qP a b) 98 [] [vq za a, vq za b] fun r => (vi r, []) := by
 intro r h
 obtain rfl := Option.some.inj h
 refine RD ?_
 show ((bytesOf (eL za a)).bind fun x => (bytesOf (eL za b)).map fun y => ((V.val false [C.int .i64 (Lib.compareBytes x y)], []) : V × List Entry)) = _
 rw [Xq, Xq]; rfl
end
end Go.Am.Try
