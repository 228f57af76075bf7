/- The functions of the program in plain Lean, and that the machine answers as they do; conditions at each theorem. -/
import Derived.Test.YtklelfbkffbceaaGreatMS2
import Derived.Test.YtklelfbkffbceaaGreatMAmD
set_option linter.unusedVariables false
set_option linter.unusedSimpArgs false
namespace Go.Am.Try
open Go.Am Go.Proofs
set_option linter.unusedVariables false
noncomputable section
theorem y7 {α : Type} {f : α → List C} : ([] : List (List C)) = eL f [] := rfl
theorem yk {α : Type} {f : α → List C} {x : α} {c : List C} {xs : List α} {cs : List (List C)} (h : f x = c) (t : cs = eL f xs) : c :: cs = eL f (x :: xs) := by subst h; subst t; rfl
inductive GExpr where
 | mk (Kind : Int) (N : Int) (S : (List UInt8)) (K : (List (List UInt8))) (Kids : (List GExpr))
def GExpr.Kind : GExpr → Int
 | .mk x _ _ _ _ => x
def GExpr.N : GExpr → Int
 | .mk _ x _ _ _ => x
def GExpr.S : GExpr → (List UInt8)
 | .mk _ _ x _ _ => x
def GExpr.K : GExpr → (List (List UInt8))
 | .mk _ _ _ x _ => x
def GExpr.Kids : GExpr → (List GExpr)
 | .mk _ _ _ _ x => x
theorem GExpr.eta (x : GExpr) : GExpr.mk x.Kind x.N x.S x.K x.Kids = x := by cases x; rfl
mutual
def zd : GExpr → List C
 | .mk Kind N S K Kids => [.int .i64 Kind, .int .i64 N, .seq (eL za S), .seq (eL (zi za) K), .seq (Wa Kids)]
def Wa : List GExpr → List (List C)
 | [] => []
 | v :: l => zd v :: Wa l
end
theorem GK (l : List GExpr) : Wa l = eL zd l := by
 induction l with
 | nil => rfl
 | cons v l ih => simp only [Wa, ih]; rfl
def zs (x : GExpr) : List C := [.int .i64 x.Kind, .int .i64 x.N, .seq (eL za x.S), .seq (eL (zi za) x.K), .seq (eL zd x.Kids)]
theorem eq_GExpr (x : GExpr) : zd x = zs x := by
 cases x; simp only [zd, zs, GK, GExpr.Kind, GExpr.N, GExpr.S, GExpr.K, GExpr.Kids]
mutual
def z7 : GExpr → List C
 | .mk Kind N S K Kids => [.int .i64 Kind, .int .i64 N, .own 1 (eL za S), .own 1 (eL (yC 1 za) K), .own 5 (ZI Kids)]
def ZI : List GExpr → List (List C)
 | [] => []
 | v :: l => z7 v :: ZI l
end
theorem GL (l : List GExpr) : ZI l = eL z7 l := by
 induction l with
 | nil => rfl
 | cons v l ih => simp only [ZI, ih]; rfl
def yL (x : GExpr) : List C := [.int .i64 x.Kind, .int .i64 x.N, .own 1 (eL za x.S), .own 1 (eL (yC 1 za) x.K), .own 5 (eL z7 x.Kids)]
theorem y3 (x : GExpr) : z7 x = yL x := by
 cases x; simp only [z7, yL, GL, GExpr.Kind, GExpr.N, GExpr.S, GExpr.K, GExpr.Kids]
mutual
theorem Ga : ∀ x : GExpr, y6 (z7 x) = zd x
 | .mk Kind N S K Kids => by have h := LG Kids; simp only [z7, zd, y6, ZL, h, vy z9, vy (zC 1 z9)]
theorem LG : ∀ l : List GExpr, xX (ZI l) = Wa l
 | [] => rfl
 | v :: l => by have h := Ga v; have g := LG l; simp only [ZI, Wa, xX, h, g]
end
mutual
theorem Gb : ∀ x : GExpr, vJ (z7 x) = true
 | .mk Kind N S K Kids => by have h := LH Kids; simp only [z7, vJ, kL, h, vA z9, vA (zC 1 z9), Bool.and_self]
theorem LH : ∀ l : List GExpr, jT (ZI l) = true
 | [] => rfl
 | v :: l => by have h := Gb v; have g := LH l; simp only [ZI, jT, h, g, Bool.and_self]
end
theorem yw : OEnc 5 z7 zd := ⟨fun x => by rw [y3]; rfl, Ga, Gb⟩
theorem xG : Enc 5 zd := ⟨fun x => by rw [eq_GExpr]; rfl, fun x => by rw [eq_GExpr]; rfl, fun x => by rw [eq_GExpr]; rfl⟩
inductive GValue where
 | mk (Kind : Int) (N : Int) (S : (List UInt8)) (K : (List (List UInt8))) (L : (List GValue))
def GValue.Kind : GValue → Int
 | .mk x _ _ _ _ => x
def GValue.N : GValue → Int
 | .mk _ x _ _ _ => x
def GValue.S : GValue → (List UInt8)
 | .mk _ _ x _ _ => x
def GValue.K : GValue → (List (List UInt8))
 | .mk _ _ _ x _ => x
def GValue.L : GValue → (List GValue)
 | .mk _ _ _ _ x => x
theorem GValue.eta (x : GValue) : GValue.mk x.Kind x.N x.S x.K x.L = x := by cases x; rfl
mutual
def zb : GValue → List C
 | .mk Kind N S K L => [.int .i64 Kind, .int .i64 N, .seq (eL za S), .seq (eL (zi za) K), .seq (Xk L)]
def Xk : List GValue → List (List C)
 | [] => []
 | v :: l => zb v :: Xk l
end
theorem Gc (l : List GValue) : Xk l = eL zb l := by
 induction l with
 | nil => rfl
 | cons v l ih => simp only [Xk, ih]; rfl
def zf (x : GValue) : List C := [.int .i64 x.Kind, .int .i64 x.N, .seq (eL za x.S), .seq (eL (zi za) x.K), .seq (eL zb x.L)]
theorem zh (x : GValue) : zb x = zf x := by
 cases x; simp only [zb, zf, Gc, GValue.Kind, GValue.N, GValue.S, GValue.K, GValue.L]
mutual
def xm : GValue → List C
 | .mk Kind N S K L => [.int .i64 Kind, .int .i64 N, .own 1 (eL za S), .own 1 (eL (yC 1 za) K), .own 5 (vl L)]
def vl : List GValue → List (List C)
 | [] => []
 | v :: l => xm v :: vl l
end
theorem Gd (l : List GValue) : vl l = eL xm l := by
 induction l with
 | nil => rfl
 | cons v l ih => simp only [vl, ih]; rfl
def YZ (x : GValue) : List C := [.int .i64 x.Kind, .int .i64 x.N, .own 1 (eL za x.S), .own 1 (eL (yC 1 za) x.K), .own 5 (eL xm x.L)]
theorem Em (x : GValue) : xm x = YZ x := by
 cases x; simp only [xm, YZ, Gd, GValue.Kind, GValue.N, GValue.S, GValue.K, GValue.L]
mutual
theorem LI : ∀ x : GValue, y6 (xm x) = zb x
 | .mk Kind N S K L => by have h := PC L; simp only [xm, zb, y6, ZL, h, vy z9, vy (zC 1 z9)]
theorem PC : ∀ l : List GValue, xX (vl l) = Xk l
 | [] => rfl
 | v :: l => by have h := LI v; have g := PC l; simp only [vl, Xk, xX, h, g]
end
mutual
theorem LJ : ∀ x : GValue, vJ (xm x) = true
 | .mk Kind N S K L => by have h := PD L; simp only [xm, vJ, kL, h, vA z9, vA (zC 1 z9), Bool.and_self]
theorem PD : ∀ l : List GValue, jT (vl l) = true
 | [] => rfl
 | v :: l => by have h := LJ v; have g := PD l; simp only [vl, jT, h, g, Bool.and_self]
end
theorem zz : OEnc 5 xm zb := ⟨fun x => by rw [Em]; rfl, LI, LJ⟩
theorem zc : Enc 5 zb := ⟨fun x => by rw [zh]; rfl, fun x => by rw [zh]; rfl, fun x => by rw [zh]; rfl⟩
inductive GEnv where
 | mk (Locals : GValue) (Res : GValue) (Index : GValue) (Key : GValue) (Val : GValue)
def GEnv.Locals : GEnv → GValue
 | .mk x _ _ _ _ => x
def GEnv.Res : GEnv → GValue
 | .mk _ x _ _ _ => x
def GEnv.Index : GEnv → GValue
 | .mk _ _ x _ _ => x
def GEnv.Key : GEnv → GValue
 | .mk _ _ _ x _ => x
def GEnv.Val : GEnv → GValue
 | .mk _ _ _ _ x => x
theorem GEnv.eta (x : GEnv) : GEnv.mk x.Locals x.Res x.Index x.Key x.Val = x := by cases x; rfl
def PE (x : GEnv) : List C := [.int .i64 x.Locals.Kind, .int .i64 x.Locals.N, .seq (eL za x.Locals.S), .seq (eL (zi za) x.Locals.K), .seq (eL zb x.Locals.L), .int .i64 x.Res.Kind, .int .i64 x.Res.N, .seq (eL za x.Res.S), .seq (eL (zi za) x.Res.K), .seq (eL zb x.Res.L), .int .i64 x.Index.Kind, .int .i64 x.Index.N, .seq (eL za x.Index.S), .seq (eL (zi za) x.Index.K), .seq (eL zb x.Index.L), .int .i64 x.Key.Kind, .int .i64 x.Key.N, .seq (eL za x.Key.S), .seq (eL (zi za) x.Key.K), .seq (eL zb x.Key.L), .int .i64 x.Val.Kind, .int .i64 x.Val.N, .seq (eL za x.Val.S), .seq (eL (zi za) x.Val.K), .seq (eL zb x.Val.L)]
def Y8 (x : GEnv) : List C := [.int .i64 x.Locals.Kind, .int .i64 x.Locals.N, .seq (eL za x.Locals.S), .seq (eL (zi za) x.Locals.K), .seq (eL zb x.Locals.L), .int .i64 x.Res.Kind, .int .i64 x.Res.N, .seq (eL za x.Res.S), .seq (eL (zi za) x.Res.K), .seq (eL zb x.Res.L), .int .i64 x.Index.Kind, .int .i64 x.Index.N, .seq (eL za x.Index.S), .seq (eL (zi za) x.Index.K), .seq (eL zb x.Index.L), .int .i64 x.Key.Kind, .int .i64 x.Key.N, .seq (eL za x.Key.S), .seq (eL (zi za) x.Key.K), .seq (eL zb x.Key.L), .int .i64 x.Val.Kind, .int .i64 x.Val.N, .seq (eL za x.Val.S), .seq (eL (zi za) x.Val.K), .seq (eL zb x.Val.L)]
theorem OZ (x : GEnv) : PE x = Y8 x := rfl
def PF (x : GEnv) : List C := [.int .i64 x.Locals.Kind, .int .i64 x.Locals.N, .own 1 (eL za x.Locals.S), .own 1 (eL (yC 1 za) x.Locals.K), .own 5 (eL xm x.Locals.L), .int .i64 x.Res.Kind, .int .i64 x.Res.N, .own 1 (eL za x.Res.S), .own 1 (eL (yC 1 za) x.Res.K), .own 5 (eL xm x.Res.L), .int .i64 x.Index.Kind, .int .i64 x.Index.N, .own 1 (eL za x.Index.S), .own 1 (eL (yC 1 za) x.Index.K), .own 5 (eL xm x.Index.L), .int .i64 x.Key.Kind, .int .i64 x.Key.N, .own 1 (eL za x.Key.S), .own 1 (eL (yC 1 za) x.Key.K), .own 5 (eL xm x.Key.L), .int .i64 x.Val.Kind, .int .i64 x.Val.N, .own 1 (eL za x.Val.S), .own 1 (eL (yC 1 za) x.Val.K), .own 5 (eL xm x.Val.L)]
def zga (x : GEnv) : List C := [.int .i64 x.Locals.Kind, .int .i64 x.Locals.N, .own 1 (eL za x.Locals.S), .own 1 (eL (yC 1 za) x.Locals.K), .own 5 (eL xm x.Locals.L), .int .i64 x.Res.Kind, .int .i64 x.Res.N, .own 1 (eL za x.Res.S), .own 1 (eL (yC 1 za) x.Res.K), .own 5 (eL xm x.Res.L), .int .i64 x.Index.Kind, .int .i64 x.Index.N, .own 1 (eL za x.Index.S), .own 1 (eL (yC 1 za) x.Index.K), .own 5 (eL xm x.Index.L), .int .i64 x.Key.Kind, .int .i64 x.Key.N, .own 1 (eL za x.Key.S), .own 1 (eL (yC 1 za) x.Key.K), .own 5 (eL xm x.Key.L), .int .i64 x.Val.Kind, .int .i64 x.Val.N, .own 1 (eL za x.Val.S), .own 1 (eL (yC 1 za) x.Val.K), .own 5 (eL xm x.Val.L)]
theorem zhx (x : GEnv) : PF x = zga x := rfl
theorem zip : OEnc 25 PF PE := ⟨fun x => rfl, fun x => by simp only [PF, PE, y6, ZL, vy z9, vy (zC 1 z9), vy zz], fun x => by simp only [PF, vJ, kL, vA z9, vA (zC 1 z9), vA zz, Bool.and_self]⟩
theorem ziq : Enc 25 PE := ⟨fun x => by rw [OZ]; rfl, fun x => by rw [OZ]; rfl, fun x => by rw [OZ]; rfl⟩
def bsz (k : List (List UInt8)) : Nat := k.length + (k.map List.length).sum
mutual
def vsz : GValue → Nat
 | .mk _ _ s k l => s.length + bsz k + qe l
def qe : List GValue → Nat
 | [] => 0
 | v :: l => 1 + vsz v + qe l
end
mutual
def xsz : GExpr → Nat
 | .mk _ _ s k l => s.length + bsz k + z8 l
def z8 : List GExpr → Nat
 | [] => 0
 | v :: l => 1 + xsz v + z8 l
end
theorem Xl {k : List (List UInt8)} {b : List UInt8} (h : b ∈ k) : 1 + b.length <= bsz k := by
 unfold bsz
 induction k with
 | nil => cases h
 | cons x k ih =>
  simp only [List.length_cons, List.map_cons, List.sum_cons]
  rcases List.mem_cons.1 h with rfl | h
  ·omega
  ·have := ih h; omega
theorem qJ (k : List (List UInt8)) : k.length <= bsz k := by unfold bsz; omega
theorem Xa (b : List UInt8) (k : List (List UInt8)) : bsz (b :: k) = 1 + b.length + bsz k := by unfold bsz; simp; omega
theorem ZJ {l : List GValue} {v : GValue} (h : v ∈ l) : 1 + vsz v <= qe l := by
 induction l with
 | nil => cases h
 | cons x l ih =>
  simp only [qe]
  rcases List.mem_cons.1 h with rfl | h
  ·omega
  ·have := ih h; omega
theorem qK (l : List GValue) : l.length <= qe l := by
 induction l with
 | nil => simp
 | cons x l ih => simp only [qe, List.length_cons]; omega
theorem jz (v : GValue) : vsz v = v.S.length + bsz v.K + qe v.L := by cases v; simp only [vsz, GValue.S, GValue.K, GValue.L]
theorem xA {l : List GExpr} {v : GExpr} (h : v ∈ l) : 1 + xsz v <= z8 l := by
 induction l with
 | nil => cases h
 | cons x l ih =>
  simp only [z8]
  rcases List.mem_cons.1 h with rfl | h
  ·omega
  ·have := ih h; omega
theorem yF (l : List GExpr) : l.length <= z8 l := by
 induction l with
 | nil => simp
 | cons x l ih => simp only [z8, List.length_cons]; omega
theorem xv (v : GExpr) : xsz v = v.S.length + bsz v.K + z8 v.Kids := by cases v; simp only [xsz, GExpr.S, GExpr.K, GExpr.Kids]
mutual
def ptV : GValue → Nat
 | .mk _ _ _ _ l => 1 + yW l
def yW : List GValue → Nat
 | [] => 0
 | v :: l => ptV v + yW l
end
theorem Wy (v : GValue) : ptV v = 1 + yW v.L := by cases v; simp only [ptV, GValue.L]
theorem KP (l : List GValue) : l.length <= yW l := by
 induction l with
 | nil => simp
 | cons v l ih => have := Wy v; simp only [yW, List.length_cons]; omega
mutual
theorem zgb : ∀ v : GValue, ptV v <= 1 + vsz v
 | .mk _ _ _ _ l => by have := La l; simp only [ptV, vsz]; omega
theorem La : ∀ l : List GValue, yW l <= qe l
 | [] => by simp [yW, qe]
 | v :: l => by have := zgb v; have := La l; simp only [yW, qe]; omega
end
mutual
def ptX : GExpr → Nat
 | .mk _ _ _ _ l => 1 + wG l
def wG : List GExpr → Nat
 | [] => 0
 | v :: l => ptX v + wG l
end
theorem PG (v : GExpr) : ptX v = 1 + wG v.Kids := by cases v; simp only [ptX, GExpr.Kids]
theorem Ay (l : List GExpr) : l.length <= wG l := by
 induction l with
 | nil => simp
 | cons v l ih => have := PG v; simp only [wG, List.length_cons]; omega
mutual
theorem zgc : ∀ v : GExpr, ptX v <= 1 + xsz v
 | .mk _ _ _ _ l => by have := Lb l; simp only [ptX, xsz]; omega
theorem Lb : ∀ l : List GExpr, wG l <= z8 l
 | [] => by simp [wG, z8]
 | v :: l => by have := zgc v; have := Lb l; simp only [wG, z8]; omega
end
def xo (a : List UInt8) : Bool := decide (a.length <= 20) && a.all (inB 32 126)
def xR (a : List UInt8) : Bool := decide (1 <= a.length ∧ a.length <= 8) && a.all (inB 97 122)
def kOk (k : List (List UInt8)) (j : Nat) : Bool := match k[j]? with
 | some b => xR b && (decide (j = 0) || match k[j - 1]? with | some a => Op.bytesLess a b | none => false)
 | none => false
def xq (k : List (List UInt8)) (i d : Nat) : Bool := (List.range' i d).all (kOk k)
theorem vm (k : List (List UInt8)) (i d : Nat) : xq k i (d + 1) = (kOk k i && xq k (i + 1) d) := by
 unfold xq; rw [List.range'_succ, List.all_cons]
theorem vd {k : List (List UInt8)} {i : Nat} (h : i < k.length) (h0 : 0 < i) : kOk k i = (xR k[i] && Op.bytesLess (k[i - 1]'(by omega)) k[i]) := by
 unfold kOk
 rw [zr h]
 simp only
 rw [zr (show i - 1 < k.length by omega)]
 simp [show i ≠ 0 by omega]
theorem ZK {k : List (List UInt8)} (h : 0 < k.length) : kOk k 0 = xR k[0] := by
 unfold kOk
 rw [zr h]
 simp
theorem QB (a b : List UInt8) : (0 <= Lib.compareBytes a b) = ¬ (Op.bytesLess a b = true) := by
 induction a generalizing b with
 | nil => cases b <;> simp [Lib.compareBytes, Op.bytesLess]
 | cons x a ih =>
  cases b with
  | nil => simp [Lib.compareBytes, Op.bytesLess]
  | cons y b =>
   simp only [Lib.compareBytes, Op.bytesLess]
   by_cases h1 : x < y
   ·simp [h1]
   ·by_cases h2 : y < x
    ·have h3 : ¬ x = y := fun e => by subst e; exact h1 h2
     simp [h1, h2, h3]
    ·have h3 : x = y := UInt8.le_antisymm (UInt8.not_lt.1 h2) (UInt8.not_lt.1 h1)
     subst h3
     simp [h1, ih]
def zO (v : GValue) : Bool :=
 if v.Kind = 0 ∨ v.Kind = 6 then decide (v.N = 0 ∧ v.S.length = 0 ∧ v.K.length = 0 ∧ v.L.length = 0)
 else if v.Kind = 1 then decide ((0 <= v.N ∧ v.N <= 1) ∧ v.S.length = 0 ∧ v.K.length = 0 ∧ v.L.length = 0)
 else if v.Kind = 2 then decide ((-1000000000000 <= v.N ∧ v.N <= 1000000000000) ∧ v.S.length = 0 ∧ v.K.length = 0 ∧ v.L.length = 0)
 else if v.Kind = 3 then xo v.S && decide (v.N = 0 ∧ v.K.length = 0 ∧ v.L.length = 0)
 else if v.Kind = 4 then decide (v.N = 0 ∧ v.S.length = 0 ∧ v.K.length = 0 ∧ v.L.length <= 40)
 else if v.Kind = 5 then decide (v.K.length = v.L.length ∧ v.N = 0 ∧ v.S.length = 0 ∧ v.L.length <= 40) && xq v.K 0 v.K.length
 else false
def shV : Nat → GValue → Bool
 | 0, _ => false
 | d + 1, v => zO v && v.L.all (shV d)
def PH : List (List UInt8) := [[110, 117, 108, 108], [116, 114, 117, 101], [102, 97, 108, 115, 101], [105, 110, 100, 101, 120], [107, 101, 121], [118, 97, 108], [108, 111, 99, 97, 108], [114, 101, 115], [111, 117, 116], [99, 111, 117, 110, 116], [101, 97, 99, 104]]
def Jp (a : List UInt8) : Bool := PH.any fun w => decide (w = a)
def bi : Bool → Int
 | true => 1
 | false => 0
def Dec {α : Type} (X b : α) (L : Prop) (t : α) : Prop := (t = X ∧ L) ∨ (t = b ∧ ¬ L)
section
variable {α β : Type} {X b x y : α} {L : Prop}
theorem Dec.ite {c : Prop} [Decidable c] (h1 : c → Dec X b L x) (h2 : ¬ c → Dec X b L y) : Dec X b L (if c then x else y) := by
 by_cases h : c
 ·rw [if_pos h]; exact h1 h
 ·rw [if_neg h]; exact h2 h
end
theorem Dec.bnd {α β : Type} {X b : Option α} {L : Prop} {e : Option β} {r : β} {f : β → Option α} (h : e = some r) (h1 : Dec X b L (f r)) : Dec X b L (e.bind f) := by rw [h]; exact h1
theorem Dec.bndB {α : Type} {X b : Option α} {L : Prop} {e : Option Bool} {t : Bool} {f : Bool → Option α} (h : e = some t) (h1 : bi t = 1 → Dec X b L (f true)) (h2 : bi t = 0 → Dec X b L (f false)) : Dec X b L (e.bind f) := by
 rw [h]
 cases t
 ·exact h2 rfl
 ·exact h1 rfl
theorem Dec.bndD {α : Type} {X b : Option α} {L : Prop} {e : Option Bool} {c : Prop} [Decidable c] {f : Bool → Option α} (h : e = some (decide c)) (h1 : c → Dec X b L (f true)) (h2 : ¬ c → Dec X b L (f false)) : Dec X b L (e.bind f) := by
 rw [h]
 by_cases hc : c
 ·rw [decide_eq_true hc]; exact h1 hc
 ·rw [decide_eq_false hc]; exact h2 hc
theorem DO (a b : Bool) : (bi (a && !b) = 1 ∧ bi a = 1 ∧ bi b = 0) ∨ (bi (a && !b) = 0 ∧ (bi a = 0 ∨ bi b = 1)) := by cases a <;> cases b <;> simp [bi]
def arI (k : Int) : Int := if k = 4 ∨ k = 5 ∨ k = 23 then -1 else if k = 8 ∨ k = 13 ∨ k = 14 then 1 else if k = 9 ∨ (15 <= k ∧ k <= 21) then 2 else if k = 22 then 3 else 0
theorem JW (k : Int) : (k = 4 ∨ k = 5 ∨ k = 23 → arI k = -1) ∧ (k = 8 ∨ k = 13 ∨ k = 14 → arI k = 1) ∧ (k = 9 ∨ (15 <= k ∧ k <= 21) → arI k = 2) ∧ (k = 22 → arI k = 3) ∧ (¬ (k = 4 ∨ k = 5 ∨ k = 23 ∨ k = 8 ∨ k = 13 ∨ k = 14 ∨ k = 9 ∨ (15 <= k ∧ k <= 21) ∨ k = 22) → arI k = 0) := by
 unfold arI
 refine ⟨fun h => ?_, fun h => ?_, fun h => ?_, fun h => ?_, fun h => ?_⟩ <;> (repeat' split) <;> omega
def Xb (k n s kk kl ar t nm kp : Int) : Prop :=
 (0 <= k ∧ k <= 23) ∧ (0 <= ar → kl = ar) ∧ (k = 5 → kk = kl) ∧ (k ≠ 5 → kk = 0) ∧ (k = 1 → 0 <= n ∧ n <= 1) ∧ (k = 2 → 0 <= n ∧ n <= 1000000000000) ∧ (k ≠ 1 → k ≠ 2 → n = 0) ∧ (k = 3 → t = 1) ∧
 (k = 6 ∨ k = 8 ∨ k = 7 ∨ k = 23 → nm = 1) ∧ (k = 7 ∨ k = 23 → kp = 0) ∧ (k ≠ 3 → k ≠ 6 → k ≠ 8 → k ≠ 7 → k ≠ 23 → s = 0)
def jI (v : GExpr) : Prop := Xb v.Kind v.N v.S.length v.K.length v.Kids.length (arI v.Kind) (bi (xo v.S)) (bi (xR v.S)) (bi (Jp v.S))
open Classical in
noncomputable def Zm (v : GExpr) : Bool := decide (jI v ∧ v.Kids.length <= 150) && (decide (v.Kind ≠ 5) || xq v.K 0 v.K.length)
noncomputable def frX : Nat → GExpr → Bool
 | 0, _ => false
 | d + 1, v => Zm v && v.Kids.all (frX d)
def YM (s : Nat) (n : Int) : Int := if (s : Int) <= n then n - s else -1
/- calls -/
theorem QC (a : List UInt8) : Op.bytesLess a a = false := by
 induction a with
 | nil => rfl
 | cons x a ih => simp [Op.bytesLess, ih]
theorem Yp : ∀ {a b c : List UInt8}, Op.bytesLess a b = true → Op.bytesLess b c = true → Op.bytesLess a c = true
 | [], [], _, h, _ => by simp [Op.bytesLess] at h
 | [], _ :: _, [], _, h => by simp [Op.bytesLess] at h
 | [], _ :: _, _ :: _, _, _ => rfl
 | _ :: _, [], _, h, _ => by simp [Op.bytesLess] at h
 | _ :: _, _ :: _, [], _, h => by simp [Op.bytesLess] at h
 | x :: a, y :: b, z :: c, h, g => by
  simp only [Op.bytesLess, Bool.or_eq_true, decide_eq_true_eq, Bool.and_eq_true, beq_iff_eq] at h g ⊢
  rcases h with h | ⟨rfl, h⟩
  ·rcases g with g | ⟨rfl, g⟩
   ·exact .inl (UInt8.lt_trans h g)
   ·exact .inl h
  ·rcases g with g | ⟨rfl, g⟩
   ·exact .inl g
   ·exact .inr ⟨rfl, Yp h g⟩
theorem Ge : ∀ (a b : List UInt8), Lib.compareBytes a b = 0 ↔ a = b
 | [], [] => by simp [Lib.compareBytes]
 | [], _ :: _ => by simp [Lib.compareBytes]
 | _ :: _, [] => by simp [Lib.compareBytes]
 | x :: a, y :: b => by
  have ih := Ge a b
  simp only [Lib.compareBytes]
  by_cases h1 : x < y
  ·rw [if_pos h1]
   have : x ≠ y := fun e => by subst e; exact absurd h1 (UInt8.lt_irrefl x)
   simp [this]
  ·rw [if_neg h1]
   by_cases h2 : y < x
   ·rw [if_pos h2]
    have : x ≠ y := fun e => by subst e; exact absurd h2 (UInt8.lt_irrefl x)
    simp [this]
   ·have h3 : x = y := UInt8.le_antisymm (UInt8.not_lt.1 h2) (UInt8.not_lt.1 h1)
    subst h3
    rw [if_neg h2, ih]; simp
theorem Lc (a b : List UInt8) : (Lib.compareBytes a b < 0) = (Op.bytesLess a b = true) := by
 have := QB a b
 apply propext
 constructor
 ·intro h
  refine Classical.byContradiction fun hn => ?_
  rw [<- this] at hn
  omega
 ·intro h
  refine Classical.byContradiction fun hn => ?_
  have h0 : 0 <= Lib.compareBytes a b := by omega
  rw [this] at h0
  exact h0 h
def QD (a : List (List UInt8)) (x : List UInt8) (c : Nat) : Prop := c <= a.length ∧ ∀ k (h : k < a.length), k < c ↔ Op.bytesLess a[k] x = true
def Asc (a : List (List UInt8)) : Prop := ∀ i j (hj : j < a.length) (hij : i < j), Op.bytesLess (a[i]'(by omega)) a[j] = true
theorem QD.of {a : List (List UInt8)} (ha : Asc a) (x : List UInt8) : ∃ c, QD a x c := by
 have : ∀ n, n <= a.length → ∃ c, c <= n ∧ ∀ k (h : k < a.length), k < n → (k < c ↔ Op.bytesLess a[k] x = true) := by
  intro n
  induction n with
  | zero => exact fun _ => ⟨0, Nat.le_refl _, fun k h hk => by omega⟩
  | succ n ih =>
   intro hn
   obtain ⟨c, hc, h⟩ := ih (by omega)
   by_cases hl : Op.bytesLess (a[n]'(by omega)) x = true
   ·have hcn : c = n := by
     refine Classical.byContradiction fun hne => ?_
     have h1 := h c (by omega) (by omega)
     have h2 := ha c n (by omega) (by omega)
     have := h1.2 (Yp h2 hl)
     omega
    refine ⟨n + 1, Nat.le_refl _, fun k hk hkn => ?_⟩
    rcases Nat.lt_or_ge k n with hlt | hge
    ·exact ⟨fun _ => (h k hk hlt).1 (by omega), fun _ => by omega⟩
    ·obtain rfl : k = n := by omega
     exact ⟨fun _ => hl, fun _ => by omega⟩
   ·refine ⟨c, by omega, fun k hk hkn => ?_⟩
    rcases Nat.lt_or_ge k n with hlt | hge
    ·exact h k hk hlt
    ·obtain rfl : k = n := by omega
     exact ⟨fun _ => by omega, fun h => (hl h).elim⟩
 obtain ⟨c, hc, h⟩ := this a.length (Nat.le_refl _)
 exact ⟨c, hc, fun k hk => h k hk hk⟩
theorem QD.mem {a : List (List UInt8)} (ha : Asc a) {x : List UInt8} {c : Nat} (h : QD a x c) : a[c]? = some x ↔ x ∈ a := by
 constructor
 ·exact List.mem_of_getElem?
 ·intro hx
  obtain ⟨k, hk, rfl⟩ := List.mem_iff_getElem.1 hx
  have h1 : ¬ k < c := fun hlt => by
   have := (h.2 k hk).1 hlt
   rw [QC] at this
   cases this
  have h2 : k = c := by
   refine Classical.byContradiction fun hne => ?_
   have hlt : c < k := by omega
   have := (h.2 c (by omega)).2 (ha c k hk hlt)
   omega
  subst h2
  exact zr hk
theorem zgd {i j : Nat} (h : i + j < 2 ^ 62) : w64 (Qp .shr .u64 (IntKind.u64.wrap (w64 ((i : Int) + (j : Int)))) 1) = (((i + j) / 2 : Nat) : Int) := by
 rw [yu (x := (i : Int) + (j : Int)) (by omega) (by omega)]
 have h1 : IntKind.u64.wrap ((i : Int) + (j : Int)) = (i : Int) + (j : Int) := by unfold IntKind.wrap; simp [IntKind.bits, IntKind.signed]; omega
 rw [h1]
 have h2 : Qp .shr .u64 ((i : Int) + (j : Int)) 1 = (((i + j) / 2 : Nat) : Int) := by
  show Int.fdiv _ (2 ^ (min (1 : Int).toNat IntKind.u64.bits)) = _
  rw [show min (1 : Int).toNat IntKind.u64.bits = 1 from rfl, Int.fdiv_eq_ediv_of_nonneg _ (by decide)]
  omega
 rw [h2, yu (by omega) (by omega)]
def zp (v : GValue) : Bool := decide (shV 5 v = true ∧ (ptV v : Int) <= 40)
theorem RL {k : List (List UInt8)} (h : xq k 0 k.length = true) {j : Nat} (hj : j < k.length) : kOk k j = true := by
 unfold xq at h
 exact List.all_eq_true.1 h j (List.mem_range'_1.2 ⟨by omega, by omega⟩)
theorem Gf {k : List (List UInt8)} (h : xq k 0 k.length = true) : Asc k := by
 intro i j
 induction j with
 | zero => intro _ h; omega
 | succ j ih =>
  intro hj hij
  have hk := RL h hj
  rw [vd hj (by omega), Bool.and_eq_true] at hk
  have h1 : Op.bytesLess (k[j]'(by omega)) k[j + 1] = true := hk.2
  rcases Nat.lt_or_ge i j with hlt | hge
  ·exact Yp (ih (by omega) hlt) h1
  ·obtain rfl : i = j := by omega
   exact h1
theorem kG {v : GValue} (h : zp v = true) : zO v = true ∧ ∀ x ∈ v.L, shV 4 x = true := by
 unfold zp at h
 have h1 := (of_decide_eq_true h).1
 rw [shV, Bool.and_eq_true, List.all_eq_true] at h1
 exact h1
def zK (a : List UInt8) : List UInt8 := if a = [108, 101, 110] then [99] else if a = [99, 97, 116] then [116, 116] else if a = [107, 101, 121, 115] then [109] else if a = [118, 97, 108, 115] then [109] else if a = [104, 97, 115] then [109, 116] else if a = [109, 105, 110] then [105, 105] else if a = [109, 97, 120] then [105, 105] else []
def jb (a : List UInt8) : List (List Int) := if a = [108, 101, 110] then [[3, 4, 5]] else if a = [99, 97, 116] then [[3], [3]] else if a = [107, 101, 121, 115] then [[5]] else if a = [118, 97, 108, 115] then [[5]] else if a = [104, 97, 115] then [[5], [3]] else if a = [109, 105, 110] then [[2], [2]] else if a = [109, 97, 120] then [[2], [2]] else []
def Wb (x : GValue) (c : UInt8) : Bool := if ((c.toNat : Nat) : Int) = 116 then decide (x.Kind = 3) else if ((c.toNat : Nat) : Int) = 105 then decide (x.Kind = 2) else if ((c.toNat : Nat) : Int) = 109 then decide (x.Kind = 5) else decide (x.Kind = 3 ∨ x.Kind = 4 ∨ x.Kind = 5)
def xB : List UInt8 → List GValue → Bool
 | c :: cs, v :: l => (decide (v.Kind = 6) || Wb v c) && xB cs l
 | _, _ => true
def YN : List (List Int) → List GValue → Bool
 | c :: cs, v :: l => (decide (v.Kind = 6) || decide (v.Kind ∈ c)) && YN cs l
 | _, _ => true
def zV : GValue := .mk 0 0 [] [] []
def wH (a : List UInt8) (x y : GValue) : GValue × Int :=
 if a = [108, 101, 110] then (if x.Kind = 3 then .mk 2 (x.S.length : Int) [] [] [] else .mk 2 (x.L.length : Int) [] [] [], 0)
 else if a = [99, 97, 116] then (if 20 < (x.S ++ y.S).length then (zV, 4) else (.mk 3 0 (x.S ++ y.S) [] [], 0))
 else if a = [107, 101, 121, 115] then (.mk 4 0 [] [] (x.K.map fun k => .mk 3 0 k [] []), 0)
 else if a = [118, 97, 108, 115] then (.mk 4 0 [] [] x.L, 0)
 else if a = [104, 97, 115] then (.mk 1 (if y.S ∈ x.K then 1 else 0) [] [] [], 0)
 else if a = [109, 105, 110] then (.mk 2 (if y.N < x.N then y.N else x.N) [] [] [], 0)
 else (.mk 2 (if x.N < y.N then y.N else x.N) [] [] [], 0)
theorem Gg (x y : GValue) : wH [108, 101, 110] x y = (if x.Kind = 3 then .mk 2 (x.S.length : Int) [] [] [] else .mk 2 (x.L.length : Int) [] [] [], 0) := by simp [wH]
theorem Gh (x y : GValue) : wH [99, 97, 116] x y = if 20 < (x.S ++ y.S).length then (zV, 4) else (.mk 3 0 (x.S ++ y.S) [] [], 0) := by simp [wH]
theorem LK (x y : GValue) : wH [107, 101, 121, 115] x y = (.mk 4 0 [] [] (x.K.map fun k => .mk 3 0 k [] []), 0) := by simp [wH]
theorem LL (x y : GValue) : wH [118, 97, 108, 115] x y = (.mk 4 0 [] [] x.L, 0) := by simp [wH]
theorem Gi (x y : GValue) : wH [104, 97, 115] x y = (.mk 1 (if y.S ∈ x.K then 1 else 0) [] [] [], 0) := by simp [wH]
theorem Gj (x y : GValue) : wH [109, 105, 110] x y = (.mk 2 (if y.N < x.N then y.N else x.N) [] [] [], 0) := by simp [wH]
theorem Gk (x y : GValue) : wH [109, 97, 120] x y = (.mk 2 (if x.N < y.N then y.N else x.N) [] [] [], 0) := by simp [wH]
theorem kw (x : GValue) : Wb x 116 = decide (x.Kind = 3) := by unfold Wb; rw [if_pos (show ((UInt8.toNat 116 : Nat) : Int) = 116 from rfl)]
theorem kz (x : GValue) : Wb x 105 = decide (x.Kind = 2) := by unfold Wb; rw [if_neg (show ¬ ((UInt8.toNat 105 : Nat) : Int) = 116 by decide), if_pos (show ((UInt8.toNat 105 : Nat) : Int) = 105 from rfl)]
theorem jN (x : GValue) : Wb x 109 = decide (x.Kind = 5) := by unfold Wb; rw [if_neg (show ¬ ((UInt8.toNat 109 : Nat) : Int) = 116 by decide), if_neg (show ¬ ((UInt8.toNat 109 : Nat) : Int) = 105 by decide), if_pos (show ((UInt8.toNat 109 : Nat) : Int) = 109 from rfl)]
theorem vI (x : GValue) : Wb x 99 = decide (x.Kind = 3 ∨ x.Kind = 4 ∨ x.Kind = 5) := by unfold Wb; rw [if_neg (show ¬ ((UInt8.toNat 99 : Nat) : Int) = 116 by decide), if_neg (show ¬ ((UInt8.toNat 99 : Nat) : Int) = 105 by decide), if_neg (show ¬ ((UInt8.toNat 99 : Nat) : Int) = 109 by decide)]
def xn (l : List GValue) : Bool := l.all fun v => decide (v.Kind ≠ 6)
def Yq (a : List UInt8) (l : List GValue) : GValue × Int :=
 if (zK a).length = 0 then (zV, 5) else if (zK a).length = l.length then
  (if xB (zK a) l = true then (if xn l = true then wH a ((l[0]?).getD zV) ((l[1]?).getD zV) else (.mk 6 0 [] [] [], 0)) else (zV, 2)) else (zV, 5)
def Wl (a : List UInt8) (l : List GValue) : GValue × Int := if 40 < l.length then (zV, 1) else if l.all zp = true then Yq a l else (zV, 1)
/- sorting -/
def Le (x y : List UInt8) : Prop := Op.bytesLess y x = false
theorem PI : ∀ a b : List UInt8, Op.bytesLess a b = true ∨ a = b ∨ Op.bytesLess b a = true
 | [], [] => .inr (.inl rfl)
 | [], _ :: _ => .inl rfl
 | _ :: _, [] => .inr (.inr rfl)
 | x :: a, y :: b => by
  simp only [Op.bytesLess, Bool.or_eq_true, decide_eq_true_eq, Bool.and_eq_true, beq_iff_eq]
  by_cases h1 : x < y
  ·exact .inl (.inl h1)
  by_cases h2 : y < x
  ·exact .inr (.inr (.inl h2))
  ·have h3 : x = y := UInt8.le_antisymm (UInt8.not_lt.1 h2) (UInt8.not_lt.1 h1)
   subst h3
   rcases PI a b with h | h | h
   ·exact .inl (.inr ⟨rfl, h⟩)
   ·exact .inr (.inl (by rw [h]))
   ·exact .inr (.inr (.inr ⟨rfl, h⟩))
theorem Le.refl (x : List UInt8) : Le x x := QC x
theorem Le.of_less {x y : List UInt8} (h : Op.bytesLess x y = true) : Le x y := by
 unfold Le
 cases h2 : Op.bytesLess y x with
 | false => rfl
 | true => have := Yp h h2; rw [QC] at this; cases this
theorem Le.cases {x y : List UInt8} (h : Le x y) : x = y ∨ Op.bytesLess x y = true := by
 rcases PI x y with g | g | g
 ·exact .inr g
 ·exact .inl g
 ·unfold Le at h; rw [h] at g; cases g
theorem Le.trans {x y z : List UInt8} (h : Le x y) (g : Le y z) : Le x z := by
 rcases h.cases with rfl | h
 ·exact g
 ·rcases g.cases with rfl | g
  ·exact Le.of_less h
  ·exact Le.of_less (Yp h g)
theorem Le.of_not {x y : List UInt8} (h : ¬ Op.bytesLess y x = true) : Le x y := Bool.eq_false_iff.2 h
def gt (d : List (List UInt8)) (i : Nat) : List UInt8 := (d[i]?).getD []
theorem zie {d : List (List UInt8)} {i : Nat} (h : i < d.length) : d[i]? = some (gt d i) := by unfold gt; rw [zr h]; rfl
theorem DP {d : List (List UInt8)} {i k : Nat} {x : List UInt8} (h : i < d.length) : gt (d.set i x) k = if k = i then x else gt d k := by
 unfold gt
 by_cases e : k = i
 ·subst e; rw [if_pos rfl, List.getElem?_set_self h]; rfl
 ·rw [if_neg e, List.getElem?_set_ne (fun e' => e e'.symm)]
def sw (d : List (List UInt8)) (i j : Nat) : List (List UInt8) := (d.set i (gt d j)).set j (gt d i)
theorem zge (d : List (List UInt8)) (i j : Nat) : (sw d i j).length = d.length := by unfold sw; simp
theorem zbn {d : List (List UInt8)} {i j k : Nat} (hi : i < d.length) (hj : j < d.length) : gt (sw d i j) k = if k = j then gt d i else if k = i then gt d j else gt d k := by
 unfold sw
 rw [DP (by simpa using hj), DP hi]
structure Rg (a b : Nat) (d d' : List (List UInt8)) : Prop where
 len : d'.length = d.length
 perm : d'.Perm d
 out : ∀ i, (i < a ∨ b <= i) → gt d' i = gt d i
 all : ∀ Q : List UInt8 → Prop, (∀ i, a <= i → i < b → Q (gt d i)) → ∀ i, a <= i → i < b → Q (gt d' i)
theorem Rg.refl (a b : Nat) (d : List (List UInt8)) : Rg a b d d := ⟨rfl, .refl _, fun _ _ => rfl, fun _ h => h⟩
theorem Rg.trans {a b : Nat} {d d' d'' : List (List UInt8)} (h : Rg a b d d') (g : Rg a b d' d'') : Rg a b d d'' :=
 ⟨g.len.trans h.len, g.perm.trans h.perm, fun i hi => (g.out i hi).trans (h.out i hi), fun Q hq => g.all Q (h.all Q hq)⟩
theorem Rg.mono {a b a' b' : Nat} {d d' : List (List UInt8)} (h : Rg a b d d') (ha : a' <= a) (hb : b <= b') : Rg a' b' d d' :=
 ⟨h.len, h.perm, fun i hi => h.out i (by omega), fun Q hq i h1 h2 => by
  by_cases hin : a <= i ∧ i < b
  ·exact h.all Q (fun k k1 k2 => hq k (by omega) (by omega)) i hin.1 hin.2
  ·rw [h.out i (by omega)]; exact hq i h1 h2⟩
theorem zdi {d : List (List UInt8)} {i j : Nat} (hi : i < d.length) (hj : j < d.length) : (sw d i j).Perm d := by
 have e1 : gt d j = d[j] := by unfold gt; rw [zr hj]; rfl
 have e2 : gt d i = d[i] := by unfold gt; rw [zr hi]; rfl
 unfold sw
 rw [e1, e2]
 exact List.set_set_perm hi hj
theorem Rg.swap {a b : Nat} {d : List (List UInt8)} {i j : Nat} (h1 : a <= i) (h2 : i < b) (h3 : a <= j) (h4 : j < b) (hb : b <= d.length) : Rg a b d (sw d i j) :=
 ⟨zge d i j, zdi (by omega) (by omega), fun k hk => by rw [zbn (by omega) (by omega), if_neg (by omega), if_neg (by omega)], fun Q hq k k1 k2 => by
  rw [zbn (by omega) (by omega)]
  split
  ·exact hq i h1 h2
  ·split
   ·exact hq j h3 h4
   ·exact hq k k1 k2⟩
def Srt (a b : Nat) (d : List (List UInt8)) : Prop := ∀ i j, a <= i → i < j → j < b → Le (gt d i) (gt d j)
theorem zir {x y : List UInt8} : (Lib.compareBytes x y < 0) ↔ Op.bytesLess x y = true := by rw [Lc]
/- values as expressions -/
mutual
def knV : GValue → Bool
 | .mk k _ _ _ l => decide (k ≠ 6) && qx l
def qx : List GValue → Bool
 | [] => true
 | v :: l => knV v && qx l
end
theorem PJ (v : GValue) : knV v = (decide (v.Kind ≠ 6) && qx v.L) := by cases v; rw [knV]; rfl
mutual
def xOf : GValue → GExpr
 | .mk k n s kk l => if k = 2 ∧ n < 0 then .mk 14 0 [] [] [.mk 2 (w64 (0 - n)) [] [] []] else .mk k n s kk (jJ l)
def jJ : List GValue → List GExpr
 | [] => []
 | v :: l => xOf v :: jJ l
end
theorem DQ (v : GValue) : xOf v = if v.Kind = 2 ∧ v.N < 0 then .mk 14 0 [] [] [.mk 2 (w64 (0 - v.N)) [] [] []] else .mk v.Kind v.N v.S v.K (jJ v.L) := by cases v; rw [xOf]; rfl
theorem U3 (l : List GValue) : (jJ l).length = l.length := by induction l with
 | nil => rfl
 | cons x l ih => simp only [jJ, List.length_cons, ih]
theorem Rw (p : List GValue) (x : GValue) : jJ (p ++ [x]) = jJ p ++ [xOf x] := by induction p with
 | nil => simp only [List.nil_append, jJ]
 | cons y p ih => simp only [List.cons_append, jJ, ih]
mutual
theorem Hn : ∀ v : GValue, xsz (xOf v) <= 1 + 2 * vsz v
 | .mk k n s kk l => by
  have := LM l
  rw [xOf]
  split
  ·simp [xsz, z8, bsz]
  ·simp only [xsz, vsz]; omega
theorem LM : ∀ l : List GValue, z8 (jJ l) <= 2 * qe l
 | [] => by simp [jJ, z8]
 | v :: l => by have := Hn v; have := LM l; simp only [jJ, z8, qe]; omega
end
def ofR (v : GValue) : GExpr × Bool := if knV v = true then (xOf v, true) else (.mk 0 0 [] [] [], false)
/- expressions renamed -/
mutual
def rnX (a b : List UInt8) : GExpr → GExpr
 | .mk k n s kk l => .mk k n (if k = 6 ∧ s = a then b else s) kk (XD a b l)
def XD (a b : List UInt8) : List GExpr → List GExpr
 | [] => []
 | v :: l => rnX a b v :: XD a b l
end
theorem zis (a b : List UInt8) (v : GExpr) : rnX a b v = .mk v.Kind v.N (if v.Kind = 6 ∧ v.S = a then b else v.S) v.K (XD a b v.Kids) := by cases v; rw [rnX]; rfl
theorem zhy (a b : List UInt8) (l : List GExpr) : (XD a b l).length = l.length := by induction l with
 | nil => rw [XD]
 | cons x l ih => rw [XD, List.length_cons, List.length_cons, ih]
theorem zhj (a b : List UInt8) (p : List GExpr) (x : GExpr) : XD a b (p ++ [x]) = XD a b p ++ [rnX a b x] := by induction p with
 | nil => simp only [List.nil_append, XD]
 | cons y p ih => rw [List.cons_append, XD, ih, XD, List.cons_append]
mutual
theorem zgf (a b : List UInt8) (hb : b.length <= 8) : ∀ v : GExpr, xsz (rnX a b v) <= 8 + 16 * xsz v
 | .mk k n s kk l => by
  have := Ho a b hb l
  have h : (if k = 6 ∧ s = a then b else s).length <= 8 + s.length := by split <;> omega
  rw [rnX]
  simp only [xsz]; omega
theorem Ho (a b : List UInt8) (hb : b.length <= 8) : ∀ l : List GExpr, z8 (XD a b l) <= 16 * z8 l
 | [] => by rw [XD]; simp [z8]
 | v :: l => by have := zgf a b hb v; have := Ho a b hb l; rw [XD]; simp only [z8]; omega
end
/- marks -/
theorem yg {α : Type} (p : List α) (x : α) (l : List α) : (p ++ x :: l)[p.length]? = some x := by simp
theorem Ql {α : Type} (p : List α) (x y : α) (l : List α) : (p ++ x :: l).set p.length y = p ++ y :: l := by simp
theorem QE {α : Type} (p : List α) (x : α) (l : List α) : p ++ x :: l = (p ++ [x]) ++ l := by simp
theorem zhz {α : Type} (p : List α) (x : α) : (p.length : Int) + 1 = ((p ++ [x]).length : Int) := by simp
theorem y8 {α : Type} (p : List α) (x : α) (h : p.length < 2 ^ 62) : w64 ((p.length : Int) + 1) = ((p ++ [x]).length : Int) := by rw [yt h]; simp
theorem Wz {α : Type} (p : List α) (x : α) (l : List α) : (p.length : Int) < ((p ++ x :: l).length : Int) := by simp; omega
theorem yD {α : Type} (p : List α) : ¬ (p.length : Int) < ((p ++ []).length : Int) := by simp
theorem xb {n m : Nat} (hn : n <= 2 ^ 7) (hm : m <= 2 ^ 40) : y4 n m := by
 have : m * n <= 2 ^ 40 * 2 ^ 7 := Nat.mul_le_mul hm hn
 unfold y4
 exact ⟨by rw [show XF = 2 ^ 47 from rfl]; omega, by omega⟩
def mI : Int → List Int → List Int
 | _, [] => []
 | k, _ :: l => k :: mI (k + 1) l
theorem zit (l : List Int) (k : Int) : (mI k l).length = l.length := by
 induction l generalizing k with
 | nil => rfl
 | cons x l ih => simp only [mI, List.length_cons, ih]
theorem zif (l : List Int) (k : Int) : mI k (mI k l) = mI k l := by
 induction l generalizing k with
 | nil => rfl
 | cons x l ih => simp only [mI, ih]
def mB : Int → List UInt8 → List UInt8
 | _, [] => []
 | k, _ :: l => b8 k :: mB (k + 1) l
def cB (k : List (List UInt8)) : Nat := (k.map List.length).sum
def mBB : Int → List (List UInt8) → List (List UInt8)
 | _, [] => []
 | k, x :: l => mB k x :: mBB (k + x.length) l
theorem Y9 (l : List UInt8) (k : Int) : (mB k l).length = l.length := by
 induction l generalizing k with
 | nil => rfl
 | cons x l ih => simp only [mB, List.length_cons, ih]
theorem RM (l : List UInt8) (k : Int) : mB k (mB k l) = mB k l := by
 induction l generalizing k with
 | nil => rfl
 | cons x l ih => simp only [mB, ih]
theorem U4 (l : List (List UInt8)) (k : Int) : mBB k (mBB k l) = mBB k l := by
 induction l generalizing k with
 | nil => rfl
 | cons x l ih => simp only [mBB, RM, Y9, ih]
theorem JX (l : List (List UInt8)) (k : Int) : cB (mBB k l) = cB l := by
 induction l generalizing k with
 | nil => rfl
 | cons x l ih => unfold cB at ih ⊢; simp only [mBB, List.map_cons, List.sum_cons, Y9, ih]
theorem Hp (x : List UInt8) (l : List (List UInt8)) : cB (x :: l) = x.length + cB l := by unfold cB; simp
theorem W1 (l : List (List UInt8)) : bsz l = l.length + cB l := rfl
theorem Ld (l : List (List UInt8)) (k : Int) : bsz (mBB k l) = bsz l := by
 rw [W1, W1, JX]
 congr 1
 induction l generalizing k with
 | nil => rfl
 | cons x l ih => simp only [mBB, List.length_cons, ih]
mutual
def cX : GExpr → Nat
 | .mk _ _ s k l => 2 + (s.length + (cB k + cXs l))
def cXs : List GExpr → Nat
 | [] => 0
 | v :: l => cX v + cXs l
end
mutual
def mX : Int → GExpr → GExpr
 | i, .mk _ _ s k l => .mk i (i + 1) (mB (i + 1 + 1) s) (mBB (i + 1 + 1 + s.length) k) (mXs (i + 1 + 1 + s.length + cB k) l)
def mXs : Int → List GExpr → List GExpr
 | _, [] => []
 | i, v :: l => mX i v :: mXs (i + cX v) l
end
theorem zg3 (v : GExpr) : cX v = 2 + (v.S.length + (cB v.K + cXs v.Kids)) := by cases v; simp only [cX, GExpr.S, GExpr.K, GExpr.Kids]
theorem zg4 (i : Int) (v : GExpr) : mX i v = .mk i (i + 1) (mB (i + 1 + 1) v.S) (mBB (i + 1 + 1 + v.S.length) v.K) (mXs (i + 1 + 1 + v.S.length + cB v.K) v.Kids) := by cases v; simp only [mX, GExpr.S, GExpr.K, GExpr.Kids]
mutual
theorem zgg : ∀ (i : Int) (v : GExpr), cX (mX i v) = cX v
 | i, .mk _ _ s k l => by simp only [mX, cX, Y9, JX, En]
theorem En : ∀ (i : Int) (l : List GExpr), cXs (mXs i l) = cXs l
 | _, [] => rfl
 | i, v :: l => by simp only [mXs, cXs, zgg i v, En _ l]
end
mutual
theorem zdj : ∀ (i : Int) (v : GExpr), mX i (mX i v) = mX i v
 | i, .mk _ _ s k l => by simp only [mX, Y9, JX, RM, U4, U5]
theorem U5 : ∀ (i : Int) (l : List GExpr), mXs i (mXs i l) = mXs i l
 | _, [] => rfl
 | i, v :: l => by simp only [mXs, zgg, zdj i v, U5 _ l]
end
mutual
theorem zg5 : ∀ (i : Int) (v : GExpr), xsz (mX i v) = xsz v
 | i, .mk _ _ s k l => by simp only [mX, xsz, Y9, Ld, Gl]
theorem Gl : ∀ (i : Int) (l : List GExpr), z8 (mXs i l) = z8 l
 | _, [] => rfl
 | i, v :: l => by simp only [mXs, z8, zg5 i v, Gl _ l]
end
mutual
theorem Eo : ∀ v : GExpr, cX v <= 2 + 2 * xsz v
 | .mk _ _ s k l => by have := JY l; have := W1 k; simp only [cX, xsz]; omega
theorem JY : ∀ l : List GExpr, cXs l <= 2 * z8 l
 | [] => by simp [cXs, z8]
 | v :: l => by have := Eo v; have := JY l; simp only [cXs, z8]; omega
end
mutual
def cV : GValue → Nat
 | .mk _ _ s k l => 2 + (s.length + (cB k + cVs l))
def cVs : List GValue → Nat
 | [] => 0
 | v :: l => cV v + cVs l
end
mutual
def mV : Int → GValue → GValue
 | i, .mk _ _ s k l => .mk i (i + 1) (mB (i + 1 + 1) s) (mBB (i + 1 + 1 + s.length) k) (mVs (i + 1 + 1 + s.length + cB k) l)
def mVs : Int → List GValue → List GValue
 | _, [] => []
 | i, v :: l => mV i v :: mVs (i + cV v) l
end
theorem zi4 (v : GValue) : cV v = 2 + (v.S.length + (cB v.K + cVs v.L)) := by cases v; simp only [cV, GValue.S, GValue.K, GValue.L]
theorem zi5 (i : Int) (v : GValue) : mV i v = .mk i (i + 1) (mB (i + 1 + 1) v.S) (mBB (i + 1 + 1 + v.S.length) v.K) (mVs (i + 1 + 1 + v.S.length + cB v.K) v.L) := by cases v; simp only [mV, GValue.S, GValue.K, GValue.L]
mutual
theorem zgh : ∀ (i : Int) (v : GValue), cV (mV i v) = cV v
 | i, .mk _ _ s k l => by simp only [mV, cV, Y9, JX, zbo]
theorem zbo : ∀ (i : Int) (l : List GValue), cVs (mVs i l) = cVs l
 | _, [] => rfl
 | i, v :: l => by simp only [mVs, cVs, zgh i v, zbo _ l]
end
mutual
theorem zdk : ∀ (i : Int) (v : GValue), mV i (mV i v) = mV i v
 | i, .mk _ _ s k l => by simp only [mV, Y9, JX, RM, U4, Gm]
theorem Gm : ∀ (i : Int) (l : List GValue), mVs i (mVs i l) = mVs i l
 | _, [] => rfl
 | i, v :: l => by simp only [mVs, zgh, zdk i v, Gm _ l]
end
mutual
theorem zg6 : ∀ (i : Int) (v : GValue), vsz (mV i v) = vsz v
 | i, .mk _ _ s k l => by simp only [mV, vsz, Y9, Ld, DR]
theorem DR : ∀ (i : Int) (l : List GValue), qe (mVs i l) = qe l
 | _, [] => rfl
 | i, v :: l => by simp only [mVs, qe, zg6 i v, DR _ l]
end
mutual
theorem zg7 : ∀ v : GValue, cV v <= 2 + 2 * vsz v
 | .mk _ _ s k l => by have := DS l; have := W1 k; simp only [cV, vsz]; omega
theorem DS : ∀ l : List GValue, cVs l <= 2 * qe l
 | [] => by simp [cVs, qe]
 | v :: l => by have := zg7 v; have := DS l; simp only [cVs, qe]; omega
end
/- addresses -/
theorem ziu {α : Type} {l : List α} {i : Nat} (h : i <= l.length) : WB l none (some i) = some (l.take i) := by
 unfold WB Wd; rw [if_pos ⟨by simp, by simpa using h⟩]; simp
theorem zh0 {α : Type} {l : List α} {i : Nat} (h : i <= l.length) : WB l (some i) none = some (l.drop i) := by
 unfold WB Wd; rw [if_pos ⟨by simpa using h, by simp⟩]; simp
theorem zig {α : Type} {l : List α} (h : 2 <= l.length) : WB l (some 1) (some (l.length - 1)) = some ((l.drop 1).dropLast) := by
 unfold WB Wd
 rw [if_pos ⟨by simp; omega, by simp⟩]
 simp only [Option.getD_some, Option.map_some, List.dropLast_eq_take, List.length_drop, List.drop_take]
theorem zh1 {α : Type} {l : List α} (h : 0 < l.length) : l[l.length - 1]? = l.getLast? := by rw [List.getLast?_eq_getElem?]
def zi6 (n : Nat) : List UInt8 := if n < 10 then [UInt8.ofNat (48 + n)] else [UInt8.ofNat (48 + n / 10), UInt8.ofNat (48 + n % 10)]
def zh2 (l : List UInt8) : Bool := decide (1 <= l.length ∧ l.length <= 2) && !(decide (l.length = 2) && decide (l[0]? = some 48)) && l.all (inB 48 57)
def zh3 (l : List UInt8) : Bool := if l[0]? = some 34 then (if (l.drop 1).getLast? = some 34 then xR (l.drop 1).dropLast else false) else zh2 l
def Lf (b : List UInt8) : List UInt8 := b.takeWhile fun x => decide (x ≠ 91)
def KQ (b : List UInt8) : List UInt8 := b.dropWhile fun x => decide (x ≠ 91)
theorem Ep (b : List UInt8) : Lf b ++ KQ b = b := List.takeWhile_append_dropWhile
theorem zih (b : List UInt8) : b.take (Lf b).length = Lf b := by
 conv => lhs; arg 2; rw [<- Ep b]
 exact List.take_left
theorem zii (b : List UInt8) : b.drop (Lf b).length = KQ b := by
 conv => lhs; arg 2; rw [<- Ep b]
 exact List.drop_left
theorem ziv (b : List UInt8) : (Lf b).length + (KQ b).length = b.length := by
 rw [<- List.length_append, Ep]
theorem zij {b : List UInt8} (h : KQ b ≠ []) : ∃ t, KQ b = 91 :: t := by
 unfold KQ at h ⊢
 induction b with
 | nil => exact (h rfl).elim
 | cons x b ih =>
  rw [List.dropWhile_cons] at h ⊢
  by_cases hx : x = 91
  ·subst hx
   exact ⟨b, by rw [if_neg (by simp)]⟩
  ·rw [if_pos (by simpa using hx)] at h ⊢
   exact ih h
def zg8 (b : List UInt8) : Bool := xR (Lf b) && (if KQ b = [] then true else if ((KQ b).drop 1).getLast? = some 93 then zh3 ((KQ b).drop 1).dropLast else false)
theorem zhk {b : List UInt8} (h : xR b = true) : 1 <= b.length ∧ b.length <= 8 := by
 unfold xR at h
 rw [Bool.and_eq_true] at h
 exact of_decide_eq_true h.1
def gOk {α : Type} (p : α → Bool) (key : α → List UInt8) (l : List α) (j : Nat) : Bool := match l[j]? with
 | some b => p b && (decide (j = 0) || match l[j - 1]? with | some a => Op.bytesLess (key a) (key b) | none => false)
 | none => false
def KR {α : Type} (p : α → Bool) (key : α → List UInt8) (l : List α) (i d : Nat) : Bool := (List.range' i d).all (gOk p key l)
theorem zhl {α : Type} (p : α → Bool) (key : α → List UInt8) (l : List α) (i : Nat) : KR p key l i 0 = true := rfl
theorem zhm {α : Type} (p : α → Bool) (key : α → List UInt8) (l : List α) (i d : Nat) : KR p key l i (d + 1) = (gOk p key l i && KR p key l (i + 1) d) := by
 unfold KR; rw [List.range'_succ, List.all_cons]
theorem zgi {α : Type} {p : α → Bool} {key : α → List UInt8} {l : List α} {i : Nat} (h : i < l.length) (h0 : 0 < i) : gOk p key l i = (p l[i] && Op.bytesLess (key (l[i - 1]'(by omega))) (key l[i])) := by
 unfold gOk
 rw [zr h]
 simp only
 rw [zr (show i - 1 < l.length by omega)]
 simp [show i ≠ 0 by omega]
theorem zh4 {α : Type} {p : α → Bool} {key : α → List UInt8} {l : List α} (h : 0 < l.length) : gOk p key l 0 = p l[0] := by
 unfold gOk
 rw [zr h]
 simp
theorem Hq {α : Type} {p : α → Bool} {key : α → List UInt8} {l : List α} (h : KR p key l 0 l.length = true) {j : Nat} (hj : j < l.length) : gOk p key l j = true := by
 unfold KR at h
 exact List.all_eq_true.1 h j (List.mem_range'_1.2 ⟨by omega, by omega⟩)
theorem ziw {α : Type} {p : α → Bool} {key : α → List UInt8} {l : List α} (h : KR p key l 0 l.length = true) {x : α} (hx : x ∈ l) : p x = true := by
 obtain ⟨j, hj, rfl⟩ := List.mem_iff_getElem.1 hx
 have := Hq h hj
 unfold gOk at this
 rw [zr hj] at this
 simp only [Bool.and_eq_true] at this
 exact this.1
theorem zh5 {α : Type} {p : α → Bool} {key : α → List UInt8} {l : List α} (h : KR p key l 0 l.length = true) : Asc (l.map key) := by
 intro i j
 induction j with
 | zero => intro _ h; omega
 | succ j ih =>
  intro hj hij
  rw [List.length_map] at hj
  have hk := Hq h hj
  rw [zgi hj (by omega), Bool.and_eq_true] at hk
  have h1 := hk.2
  rw [List.getElem_map, List.getElem_map]
  rcases Nat.lt_or_ge i j with hlt | hge
  ·have := ih (by rw [List.length_map]; omega) hlt
   rw [List.getElem_map, List.getElem_map] at this
   exact Yp this h1
  ·obtain rfl : i = j := by omega
   exact h1
def zix (l : List (List UInt8)) : Bool := decide (l.length <= 8) && KR zg8 id l 0 l.length
def zi7 (v : GValue) : Bool := decide (v.Kind = 5) && zp v && knV v
theorem zgj {u : Nat} (h : u < 18446744073709551616) : Lib.nDigits u <= 20 := by
 by_cases h0 : u < 10
 ·rw [Lib.nDigits_small h0]; decide
 ·have := Lib.numDigits_eq u (by omega) h
  split at this <;> omega
def Er : List UInt8 → List UInt8
 | [] => []
 | x :: l => (if x = 34 ∨ x = 92 then [92, x] else [x]) ++ Er l
def Lg (s : List UInt8) : List UInt8 := 34 :: (Er s ++ [34])
theorem U6 : ∀ s : List UInt8, (Er s).length <= 2 * s.length
 | [] => Nat.le_refl _
 | x :: l => by
  have := U6 l
  rw [Er, List.length_append, List.length_cons]
  split <;> simp only [List.length_cons, List.length_nil] <;> omega
mutual
def Gn : GValue → List UInt8
 | .mk kd n s k l => if kd = 0 then [110, 117, 108, 108] else if kd = 1 then (if n = 1 then [116, 114, 117, 101] else [102, 97, 108, 115, 101]) else if kd = 2 then Lib.itoa n else if kd = 3 then Lg s else if kd = 6 then [63]
  else if kd = 5 then 123 :: (Jq true true k l ++ [125]) else 91 :: (Jq false true k l ++ [93])
def Jq : Bool → Bool → List (List UInt8) → List GValue → List UInt8
 | _, _, _, [] => []
 | m, f, k, v :: l => (if f = true then [] else [44, 32]) ++ ((if m = true then (k.headD []) ++ [32, 61, 32] else []) ++ (Gn v ++ Jq m false k.tail l))
end
theorem zdl (v : GValue) : Gn v = if v.Kind = 0 then [110, 117, 108, 108] else if v.Kind = 1 then (if v.N = 1 then [116, 114, 117, 101] else [102, 97, 108, 115, 101]) else if v.Kind = 2 then Lib.itoa v.N else if v.Kind = 3 then Lg v.S else if v.Kind = 6 then [63]
  else if v.Kind = 5 then 123 :: (Jq true true v.K v.L ++ [125]) else 91 :: (Jq false true v.K v.L ++ [93]) := by
 cases v; rw [Gn]; rfl
theorem zdm {v : GValue} (h : zO v = true) : (v.Kind = 1 → 0 <= v.N ∧ v.N <= 1) ∧ (v.Kind = 2 → -1000000000000 <= v.N ∧ v.N <= 1000000000000) ∧ (v.Kind = 5 → v.K.length = v.L.length) ∧ v.L.length <= 40 := by
 unfold zO at h
 by_cases k0 : v.Kind = 0 ∨ v.Kind = 6
 ·rw [if_pos k0] at h
  have h := of_decide_eq_true h
  exact ⟨fun e => by omega, fun e => by omega, fun e => by omega, by omega⟩
 rw [if_neg k0] at h
 by_cases k1 : v.Kind = 1
 ·rw [if_pos k1] at h
  have h := of_decide_eq_true h
  exact ⟨fun _ => h.1, fun e => by omega, fun e => by omega, by omega⟩
 rw [if_neg k1] at h
 by_cases k2 : v.Kind = 2
 ·rw [if_pos k2] at h
  have h := of_decide_eq_true h
  exact ⟨fun e => by omega, fun _ => h.1, fun e => by omega, by omega⟩
 rw [if_neg k2] at h
 by_cases k3 : v.Kind = 3
 ·rw [if_pos k3, Bool.and_eq_true] at h
  have h := of_decide_eq_true h.2
  exact ⟨fun e => by omega, fun e => by omega, fun e => by omega, by omega⟩
 rw [if_neg k3] at h
 by_cases k4 : v.Kind = 4
 ·rw [if_pos k4] at h
  have h := of_decide_eq_true h
  exact ⟨fun e => by omega, fun e => by omega, fun e => by omega, by omega⟩
 rw [if_neg k4] at h
 by_cases k5 : v.Kind = 5
 ·rw [if_pos k5, Bool.and_eq_true] at h
  have h1 := of_decide_eq_true h.1
  exact ⟨fun e => by omega, fun e => by omega, fun _ => h1.1, by omega⟩
 ·rw [if_neg k5] at h; cases h
theorem Gp {n : Int} (h0 : -4611686018427387904 <= n) (h1 : n <= 4611686018427387904) : (Lib.itoa n).length <= 21 := by
 have key : ∀ u : Nat, u <= 4611686018427387904 → (Lib.decDigits u).length <= 20 := fun u hu => by rw [Lib.decDigits_length]; exact zgj (by omega)
 unfold Lib.itoa
 split
 ·have := key n.natAbs (by omega); simp only [List.length_cons]; omega
 ·have := key n.toNat (by omega); omega
theorem zh6 (k : List (List UInt8)) : (k.headD []).length + bsz k.tail <= bsz k := by
 cases k with
 | nil => decide
 | cons x k => rw [Xa]; show x.length + bsz k <= _; omega
theorem Rx {p : GValue → Prop} (hp : ∀ v, p v → (Gn v).length <= 23 * vsz v + 21) (m : Bool) : ∀ (l : List GValue) (f : Bool) (k : List (List UInt8)), (∀ v ∈ l, p v) → (m = true → l.length <= k.length) → (Jq m f k l).length <= 23 * qe l + 23 * (if m = true then bsz k else 0)
 | [], f, k, _, _ => by rw [Jq]; exact Nat.zero_le _
 | v :: l, f, k, hl, hk => by
  have h1 := hp v (hl v List.mem_cons_self)
  have h2 := Rx hp m l false k.tail (fun x hx => hl x (List.mem_cons_of_mem _ hx)) (fun hm => by have := hk hm; simp only [List.length_cons] at this; rw [List.length_tail]; omega)
  rw [Jq]
  simp only [List.length_append, qe]
  have h3 : (if f = true then ([] : List UInt8) else [44, 32]).length <= 2 := by split <;> decide
  cases m with
  | false => simp only [Bool.false_eq_true, if_false, List.length_nil] at h2 ⊢; omega
  | true =>
   simp only [if_true] at h2 ⊢
   have hk' := hk rfl
   cases k with
   | nil => simp at hk'
   | cons x k =>
    rw [Xa]
    simp only [List.headD_cons, List.tail_cons, List.length_append, List.length_cons, List.length_nil] at h2 ⊢
    omega
theorem Gq : ∀ (d : Nat) (v : GValue), shV d v = true → (Gn v).length <= 23 * vsz v + 21
 | 0, v, h => by cases h
 | d + 1, v, h => by
  rw [shV, Bool.and_eq_true, List.all_eq_true] at h
  obtain ⟨h1, h2⟩ := h
  obtain ⟨l1, l2, l3, l4⟩ := zdm h1
  have hv := jz v
  rw [zdl]
  split
  ·simp only [List.length_cons, List.length_nil]; omega
  split
  ·split <;> simp only [List.length_cons, List.length_nil] <;> omega
  split
  ·rename_i c
   have := Gp (n := v.N) (by have := l2 c; omega) (by have := l2 c; omega)
   omega
  split
  ·have := U6 v.S
   simp only [Lg, List.length_cons, List.length_append, List.length_nil]; omega
  split
  ·simp only [List.length_cons, List.length_nil]; omega
  split
  ·rename_i c
   have := Rx (p := fun x => shV d x = true) (fun x hx => Gq d x hx) true v.L true v.K (fun x hx => h2 x hx) (fun _ => by rw [l3 c]; exact Nat.le_refl _)
   simp only [if_true] at this
   simp only [List.length_cons, List.length_append, List.length_nil]; omega
  ·have := Rx (p := fun x => shV d x = true) (fun x hx => Gq d x hx) false v.L true v.K (fun x hx => h2 x hx) (fun e => by cases e)
   simp only [Bool.false_eq_true, if_false] at this
   simp only [List.length_cons, List.length_append, List.length_nil]; omega
def brk (m : Nat) (kd : Int) (t : List UInt8) : List UInt8 := if (1 <= m ∧ 15 <= kd ∧ kd <= 22) ∨ (m = 2 ∧ (kd = 13 ∨ kd = 14)) then 40 :: (t ++ [41]) else t
def M7 (kd : Int) : List UInt8 := if kd = 15 then [32, 42, 32] else if kd = 16 then [32, 43, 32] else if kd = 17 then [32, 45, 32] else if kd = 18 then [32, 61, 61, 32] else if kd = 19 then [32, 60, 32] else if kd = 20 then [32, 38, 38, 32] else [32, 124, 124, 32]
mutual
def J5 : GExpr → List UInt8
 | .mk kd n s k l => if kd = 0 then [110, 117, 108, 108] else if kd = 1 then (if n = 1 then [116, 114, 117, 101] else [102, 97, 108, 115, 101]) else if kd = 2 then Lib.itoa n else if kd = 3 then Lg s
  else if kd = 4 then 91 :: (YO false true k l ++ [93]) else if kd = 5 then 123 :: (YO true true k l ++ [125]) else if kd = 6 then 36 :: s else if kd = 7 then s
  else if kd = 8 then wj 2 0 l ++ (46 :: s) else if kd = 9 then wj 2 0 l ++ (91 :: (wj 0 1 l ++ [93]))
  else if kd = 10 then [105, 110, 100, 101, 120] else if kd = 11 then [107, 101, 121] else if kd = 12 then [118, 97, 108]
  else if kd = 13 then 33 :: wj 1 0 l else if kd = 14 then 45 :: wj 1 0 l
  else if kd = 22 then wj 1 0 l ++ ([32, 63, 32] ++ (wj 1 1 l ++ ([32, 58, 32] ++ wj 1 2 l)))
  else if kd = 23 then s ++ (40 :: (YO false true k l ++ [41]))
  else wj 1 0 l ++ (M7 kd ++ wj 1 1 l)
def YO : Bool → Bool → List (List UInt8) → List GExpr → List UInt8
 | _, _, _, [] => []
 | m, f, k, v :: l => (if f = true then [] else [44, 32]) ++ ((if m = true then (k.headD []) ++ [32, 61, 32] else []) ++ (J5 v ++ YO m false k.tail l))
def wj : Nat → Nat → List GExpr → List UInt8
 | _, _, [] => []
 | m, 0, v :: _ => brk m v.Kind (J5 v)
 | m, i + 1, _ :: l => wj m i l
end
theorem zdn (v : GExpr) : J5 v = if v.Kind = 0 then [110, 117, 108, 108] else if v.Kind = 1 then (if v.N = 1 then [116, 114, 117, 101] else [102, 97, 108, 115, 101]) else if v.Kind = 2 then Lib.itoa v.N else if v.Kind = 3 then Lg v.S
  else if v.Kind = 4 then 91 :: (YO false true v.K v.Kids ++ [93]) else if v.Kind = 5 then 123 :: (YO true true v.K v.Kids ++ [125]) else if v.Kind = 6 then 36 :: v.S else if v.Kind = 7 then v.S
  else if v.Kind = 8 then wj 2 0 v.Kids ++ (46 :: v.S) else if v.Kind = 9 then wj 2 0 v.Kids ++ (91 :: (wj 0 1 v.Kids ++ [93]))
  else if v.Kind = 10 then [105, 110, 100, 101, 120] else if v.Kind = 11 then [107, 101, 121] else if v.Kind = 12 then [118, 97, 108]
  else if v.Kind = 13 then 33 :: wj 1 0 v.Kids else if v.Kind = 14 then 45 :: wj 1 0 v.Kids
  else if v.Kind = 22 then wj 1 0 v.Kids ++ ([32, 63, 32] ++ (wj 1 1 v.Kids ++ ([32, 58, 32] ++ wj 1 2 v.Kids)))
  else if v.Kind = 23 then v.S ++ (40 :: (YO false true v.K v.Kids ++ [41]))
  else wj 1 0 v.Kids ++ (M7 v.Kind ++ wj 1 1 v.Kids) := by
 cases v; rw [J5]; rfl
theorem Az (m : Nat) : ∀ (l : List GExpr) (i : Nat) (v : GExpr), l[i]? = some v → wj m i l = brk m v.Kind (J5 v)
 | [], i, v, h => by simp at h
 | x :: l, 0, v, h => by
  have h : some x = some v := h
  injection h with h
  subst h
  rw [wj]
 | x :: l, i + 1, v, h => by rw [wj]; exact Az m l i v h
theorem zdo (m : Nat) (kd : Int) (t : List UInt8) : (brk m kd t).length <= t.length + 2 := by
 unfold brk
 split
 ·simp only [List.length_cons, List.length_append, List.length_nil]; omega
 ·omega
theorem KS (m : Nat) {p : GExpr → Prop} (hp : ∀ v, p v → (J5 v).length <= 31 * xsz v + 21) : ∀ (l : List GExpr) (i : Nat), (∀ v ∈ l, p v) → (wj m i l).length <= 31 * z8 (l.take (i + 1)) - 31 * z8 (l.take i)
 | [], i, _ => by rw [wj]; exact Nat.zero_le _
 | x :: l, 0, h => by
  have h1 := zdo m x.Kind (J5 x)
  have h2 := hp x (h x List.mem_cons_self)
  rw [wj]
  simp only [List.take_succ_cons, List.take_zero, z8]
  omega
 | x :: l, i + 1, h => by
  have := KS m hp l i (fun v hv => h v (List.mem_cons_of_mem _ hv))
  rw [wj]
  simp only [List.take_succ_cons, z8]
  omega
theorem Jr (l : List GExpr) : ∀ i j, i <= j → z8 (l.take i) <= z8 (l.take j) := by
 induction l with
 | nil => intro i j _; simp
 | cons x l ih =>
  intro i j h
  cases i with
  | zero => simp [z8]
  | succ i =>
   cases j with
   | zero => omega
   | succ j => simp only [List.take_succ_cons, z8]; have := ih i j (by omega); omega
theorem Gr (l : List GExpr) (i : Nat) : z8 (l.take i) <= z8 l := by
 have := Jr l i (i + l.length) (by omega)
 rwa [List.take_of_length_le (i := i + l.length) (by omega)] at this
theorem Ry {p : GExpr → Prop} (hp : ∀ v, p v → (J5 v).length <= 31 * xsz v + 21) (m : Bool) : ∀ (l : List GExpr) (f : Bool) (k : List (List UInt8)), (∀ v ∈ l, p v) → (m = true → l.length <= k.length) → (YO m f k l).length <= 31 * z8 l + 31 * (if m = true then bsz k else 0)
 | [], f, k, _, _ => by rw [YO]; exact Nat.zero_le _
 | v :: l, f, k, hl, hk => by
  have h1 := hp v (hl v List.mem_cons_self)
  have h2 := Ry hp m l false k.tail (fun x hx => hl x (List.mem_cons_of_mem _ hx)) (fun hm => by have := hk hm; simp only [List.length_cons] at this; rw [List.length_tail]; omega)
  rw [YO]
  simp only [List.length_append, z8]
  have h3 : (if f = true then ([] : List UInt8) else [44, 32]).length <= 2 := by split <;> decide
  cases m with
  | false => simp only [Bool.false_eq_true, if_false, List.length_nil] at h2 ⊢; omega
  | true =>
   simp only [if_true] at h2 ⊢
   have hk' := hk rfl
   cases k with
   | nil => simp at hk'
   | cons x k =>
    rw [Xa]
    simp only [List.headD_cons, List.tail_cons, List.length_append, List.length_cons, List.length_nil] at h2 ⊢
    omega
theorem DT (k : Int) : (M7 k).length <= 4 := by unfold M7; (repeat' split) <;> simp
open Classical in
theorem A0 {v : GExpr} (h : Zm v = true) : (0 <= v.Kind ∧ v.Kind <= 23) ∧ (v.Kind = 1 → 0 <= v.N ∧ v.N <= 1) ∧ (v.Kind = 2 → 0 <= v.N ∧ v.N <= 1000000000000) ∧ (v.Kind = 5 → v.K.length = v.Kids.length) ∧ v.Kids.length <= 150 ∧ (v.Kind = 8 ∨ v.Kind = 13 ∨ v.Kind = 14 → v.Kids.length = 1) ∧ (v.Kind = 9 ∨ (15 <= v.Kind ∧ v.Kind <= 21) → v.Kids.length = 2) ∧ (v.Kind = 22 → v.Kids.length = 3) ∧ (v.Kind = 3 → xo v.S = true) ∧ (v.Kind ≠ 1 → v.Kind ≠ 2 → v.N = 0) ∧ (v.Kind ≠ 3 → v.Kind ≠ 6 → v.Kind ≠ 8 → v.Kind ≠ 7 → v.Kind ≠ 23 → v.S.length = 0) := by
 unfold Zm at h
 rw [Bool.and_eq_true] at h
 obtain ⟨h1, h2⟩ := of_decide_eq_true h.1
 unfold jI Xb at h1
 obtain ⟨g1, g2, g3, g4, g5, g6, g7, g8, g9, g10, g11⟩ := h1
 obtain ⟨a1, a2, a3, a4, a5⟩ := JW v.Kind
 refine ⟨g1, g5, g6, fun e => by have := g3 e; omega, h2, fun e => ?_, fun e => ?_, fun e => ?_, fun e => ?_, g7, fun b1 b2 b3 b4 b5 => by have := g11 b1 b2 b3 b4 b5; omega⟩
 ·rw [a2 e] at g2; have := g2 (by decide); omega
 ·rw [a3 e] at g2; have := g2 (by decide); omega
 ·rw [a4 e] at g2; have := g2 (by decide); omega
 ·have := g8 e
  cases hb : xo v.S with
  | true => rfl
  | false => rw [hb] at this; cases this
theorem A4 : ∀ (d : Nat) (v : GExpr), frX d v = true → (J5 v).length <= 31 * xsz v + 21
 | 0, v, h => by simp [frX] at h
 | d + 1, v, h => by
  rw [frX, Bool.and_eq_true, List.all_eq_true] at h
  obtain ⟨h1, h2⟩ := h
  obtain ⟨l1, l2, l3, l4, l5, _⟩ := A0 h1
  have hv := xv v
  have hp : ∀ x, frX d x = true → (J5 x).length <= 31 * xsz x + 21 := fun x hx => A4 d x hx
  have k0 := fun m => KS m hp v.Kids 0 (fun x hx => h2 x hx)
  have k1 := fun m => KS m hp v.Kids 1 (fun x hx => h2 x hx)
  have k2 := fun m => KS m hp v.Kids 2 (fun x hx => h2 x hx)
  have t1 := Jr v.Kids 0 1 (by decide)
  have t2 := Jr v.Kids 1 2 (by decide)
  have t3 := Jr v.Kids 2 3 (by decide)
  have t4 := Gr v.Kids 3
  have t0 : z8 (v.Kids.take 0) = 0 := by simp [z8]
  have hs := DT v.Kind
  have a0 : (wj 0 0 v.Kids).length <= 31 * z8 (v.Kids.take 1) - 31 * z8 (v.Kids.take 0) := k0 0
  have a1 : (wj 1 0 v.Kids).length <= 31 * z8 (v.Kids.take 1) - 31 * z8 (v.Kids.take 0) := k0 1
  have a2 : (wj 2 0 v.Kids).length <= 31 * z8 (v.Kids.take 1) - 31 * z8 (v.Kids.take 0) := k0 2
  have b0 : (wj 0 1 v.Kids).length <= 31 * z8 (v.Kids.take 2) - 31 * z8 (v.Kids.take 1) := k1 0
  have b1 : (wj 1 1 v.Kids).length <= 31 * z8 (v.Kids.take 2) - 31 * z8 (v.Kids.take 1) := k1 1
  have c1 : (wj 1 2 v.Kids).length <= 31 * z8 (v.Kids.take 3) - 31 * z8 (v.Kids.take 2) := k2 1
  have q1 : (YO false true v.K v.Kids).length <= 31 * z8 v.Kids := by
   have := Ry hp false v.Kids true v.K (fun x hx => h2 x hx) (fun e => by cases e)
   rw [if_neg (by decide)] at this; omega
  have q2 : v.Kind = 5 → (YO true true v.K v.Kids).length <= 31 * z8 v.Kids + 31 * bsz v.K := fun e => by
   have := Ry hp true v.Kids true v.K (fun x hx => h2 x hx) (fun _ => by rw [l4 e]; exact Nat.le_refl _)
   rw [if_pos rfl] at this; omega
  clear hp
  rw [zdn]
  by_cases e : v.Kind = 0
  ·rw [if_pos e]
   simp only [List.length_cons, List.length_append, List.length_nil]; omega
  rw [if_neg e]
  clear e
  by_cases e : v.Kind = 1
  ·rw [if_pos e]
   split <;> simp only [List.length_cons, List.length_nil] <;> omega
  rw [if_neg e]
  clear e
  by_cases e : v.Kind = 2
  ·rw [if_pos e]
   have := Gp (n := v.N) (by have := l3 e; omega) (by have := l3 e; omega)
   omega
  rw [if_neg e]
  clear e
  by_cases e : v.Kind = 3
  ·rw [if_pos e]
   have := U6 v.S
   simp only [Lg, List.length_cons, List.length_append, List.length_nil]; omega
  rw [if_neg e]
  clear e
  by_cases e : v.Kind = 4
  ·rw [if_pos e]
   simp only [List.length_cons, List.length_append, List.length_nil]; omega
  rw [if_neg e]
  clear e
  by_cases e : v.Kind = 5
  ·rw [if_pos e]
   have := q2 e
   simp only [List.length_cons, List.length_append, List.length_nil]; omega
  rw [if_neg e]
  clear e
  by_cases e : v.Kind = 6
  ·rw [if_pos e]
   simp only [List.length_cons]; omega
  rw [if_neg e]
  clear e
  by_cases e : v.Kind = 7
  ·rw [if_pos e]
   omega
  rw [if_neg e]
  clear e
  by_cases e : v.Kind = 8
  ·rw [if_pos e]
   simp only [List.length_cons, List.length_append]; omega
  rw [if_neg e]
  clear e
  by_cases e : v.Kind = 9
  ·rw [if_pos e]
   simp only [List.length_cons, List.length_append, List.length_nil]; omega
  rw [if_neg e]
  clear e
  by_cases e : v.Kind = 10
  ·rw [if_pos e]
   simp only [List.length_cons, List.length_nil]; omega
  rw [if_neg e]
  clear e
  by_cases e : v.Kind = 11
  ·rw [if_pos e]
   simp only [List.length_cons, List.length_nil]; omega
  rw [if_neg e]
  clear e
  by_cases e : v.Kind = 12
  ·rw [if_pos e]
   simp only [List.length_cons, List.length_nil]; omega
  rw [if_neg e]
  clear e
  by_cases e : v.Kind = 13
  ·rw [if_pos e]
   simp only [List.length_cons]; omega
  rw [if_neg e]
  clear e
  by_cases e : v.Kind = 14
  ·rw [if_pos e]
   simp only [List.length_cons]; omega
  rw [if_neg e]
  clear e
  by_cases e : v.Kind = 22
  ·rw [if_pos e]
   simp only [List.length_cons, List.length_append, List.length_nil]; omega
  rw [if_neg e]
  clear e
  by_cases e : v.Kind = 23
  ·rw [if_pos e]
   simp only [List.length_cons, List.length_append, List.length_nil]; omega
  rw [if_neg e]
  clear e
  simp only [List.length_append]; omega
theorem zj {f : FuncId} {fn : Func} (h : Tryz.prog.funcs[f]? = some fn) (hu : Et.contains f = true := by kernel_rfl) (hb : fn.body.isSome = true := by kernel_rfl) : cfg.funcs f = some (Am.bodyOf fn, fn.ntmps, fn.results.toList) := by
 rw [LN]
 unfold Eu QX
 rw [hu, h]
 obtain ⟨c, hc⟩ := Option.isSome_iff_exists.1 hb
 simp only [Option.bind_some, Am.bodyOf, hc, Option.map_some, cond_true]
abbrev Oc {α : Type} (o : Option α) (f : FuncId) (st : List Entry) (xs : List V) (enc : α → V × List Entry) : Prop := OkC cfg o f st xs enc
abbrev Ol {α : Type} (o : Option α) (f : FuncId) (b : Code) (s : S) (enc : α → Ex × S) : Prop := OkL cfg o f b s enc
def wB (a b : List UInt8) : Option Int := some (Lib.compareBytes a b)
def Lh (a : List UInt8) (b : UInt8) : Option Int := some (Lib.indexByte a b)
def zdp (a : List UInt8) : Option (Int × Bool) := if a.length <= 2 ^ 40 then some (xO a) else none
theorem W2 (a b : List UInt8) : Oc (wB a b) 192 [] [vq za a, vq za b] fun r => (vi r, []) := by
 intro r h
 obtain rfl := Option.some.inj h
 refine ze2 ?_
 show ((bytesOf (eL za a)).bind fun x => (bytesOf (eL za b)).map fun y => ((V.val false [C.int .i64 (Lib.compareBytes x y)], []) : V × List Entry)) = _
 rw [TE, TE]; rfl
end
end Go.Am.Try
