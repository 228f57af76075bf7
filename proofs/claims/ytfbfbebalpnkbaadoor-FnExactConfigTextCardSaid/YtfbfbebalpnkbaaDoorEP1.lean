/- The functions of the program in plain Lean, and that the machine answers as they do; conditions at each theorem. -/
import Derived.Test.YtfbfbebalpnkbaaDoorES2
import Derived.Test.YtfbfbebalpnkbaaDoorEAmD
set_option linter.unusedVariables false
set_option linter.unusedSimpArgs false
namespace Go.Am.Try
open Go.Am Go.Proofs
set_option linter.unusedVariables false
noncomputable section
theorem Ao {α : Type} {f : α → List C} : ([] : List (List C)) = eL f [] := rfl
theorem BL {α : Type} {f : α → List C} {x : α} {c : List C} {xs : List α} {cs : List (List C)} (h : f x = c) (t : cs = eL f xs) : c :: cs = eL f (x :: xs) := by subst h; subst t; rfl
inductive GExpr where
 | mk (Kind : Int) (N : Int) (S : (List UInt8)) (K : (List (List UInt8))) (Kids : (List GExpr))
def GExpr.Kind : GExpr → Int
 | .mk x _ _ _ _ => x
def GExpr.N : GExpr → Int
 | .mk _ x _ _ _ => x
def GExpr.S : GExpr → (List UInt8)
 | .mk _ _ x _ _ => x
def GExpr.K : GExpr → (List (List UInt8))
 | .mk _ _ _ x _ => x
def GExpr.Kids : GExpr → (List GExpr)
 | .mk _ _ _ _ x => x
theorem GExpr.eta (x : GExpr) : GExpr.mk x.Kind x.N x.S x.K x.Kids = x := by cases x; rfl
mutual
def ze : GExpr → List C
 | .mk Kind N S K Kids => [.int .i64 Kind, .int .i64 N, .seq (eL za S), .seq (eL (z7 za) K), .seq (ZD Kids)]
def ZD : List GExpr → List (List C)
 | [] => []
 | v :: l => ze v :: ZD l
end
theorem Ot (l : List GExpr) : ZD l = eL ze l := by
 induction l with
 | nil => rfl
 | cons v l ih => simp only [ZD, ih]; rfl
def yh (x : GExpr) : List C := [.int .i64 x.Kind, .int .i64 x.N, .seq (eL za x.S), .seq (eL (z7 za) x.K), .seq (eL ze x.Kids)]
theorem zA (x : GExpr) : ze x = yh x := by
 cases x; simp only [ze, yh, Ot, GExpr.Kind, GExpr.N, GExpr.S, GExpr.K, GExpr.Kids]
mutual
def yD : GExpr → List C
 | .mk Kind N S K Kids => [.int .i64 Kind, .int .i64 N, .own 1 (eL za S), .own 1 (eL (wQ 1 za) K), .own 5 (k7 Kids)]
def k7 : List GExpr → List (List C)
 | [] => []
 | v :: l => yD v :: k7 l
end
theorem Ou (l : List GExpr) : k7 l = eL yD l := by
 induction l with
 | nil => rfl
 | cons v l ih => simp only [k7, ih]; rfl
def Te (x : GExpr) : List C := [.int .i64 x.Kind, .int .i64 x.N, .own 1 (eL za x.S), .own 1 (eL (wQ 1 za) x.K), .own 5 (eL yD x.Kids)]
theorem xq (x : GExpr) : yD x = Te x := by
 cases x; simp only [yD, Te, Ou, GExpr.Kind, GExpr.N, GExpr.S, GExpr.K, GExpr.Kids]
mutual
theorem PA : ∀ x : GExpr, yf (yD x) = ze x
 | .mk Kind N S K Kids => by have h := TM Kids; simp only [yD, ze, yf, kC, h, jq jp, jq (RD 1 jp)]
theorem TM : ∀ l : List GExpr, xd (k7 l) = ZD l
 | [] => rfl
 | v :: l => by have h := PA v; have g := TM l; simp only [k7, ZD, xd, h, g]
end
mutual
theorem PB : ∀ x : GExpr, j0 (yD x) = true
 | .mk Kind N S K Kids => by have h := TN Kids; simp only [yD, j0, qV, h, jr jp, jr (RD 1 jp), Bool.and_self]
theorem TN : ∀ l : List GExpr, qz (k7 l) = true
 | [] => rfl
 | v :: l => by have h := PB v; have g := TN l; simp only [k7, qz, h, g, Bool.and_self]
end
theorem OI : OEnc 5 yD ze := ⟨fun x => by rw [xq]; rfl, PA, PB⟩
theorem Ap : Enc 5 ze := ⟨fun x => by rw [zA]; rfl, fun x => by rw [zA]; rfl, fun x => by rw [zA]; rfl⟩
inductive GItem where
 | mk (Kind : Int) (Name : (List UInt8)) (Many : Int) (By : GExpr) (Names : (List (List UInt8))) (Exprs : (List GExpr))
def GItem.Kind : GItem → Int
 | .mk x _ _ _ _ _ => x
def GItem.Name : GItem → (List UInt8)
 | .mk _ x _ _ _ _ => x
def GItem.Many : GItem → Int
 | .mk _ _ x _ _ _ => x
def GItem.By : GItem → GExpr
 | .mk _ _ _ x _ _ => x
def GItem.Names : GItem → (List (List UInt8))
 | .mk _ _ _ _ x _ => x
def GItem.Exprs : GItem → (List GExpr)
 | .mk _ _ _ _ _ x => x
theorem GItem.eta (x : GItem) : GItem.mk x.Kind x.Name x.Many x.By x.Names x.Exprs = x := by cases x; rfl
def zo (x : GItem) : List C := [.int .i64 x.Kind, .seq (eL za x.Name), .int .i64 x.Many, .int .i64 x.By.Kind, .int .i64 x.By.N, .seq (eL za x.By.S), .seq (eL (z7 za) x.By.K), .seq (eL ze x.By.Kids), .seq (eL (z7 za) x.Names), .seq (eL ze x.Exprs)]
def yn (x : GItem) : List C := [.int .i64 x.Kind, .seq (eL za x.Name), .int .i64 x.Many, .int .i64 x.By.Kind, .int .i64 x.By.N, .seq (eL za x.By.S), .seq (eL (z7 za) x.By.K), .seq (eL ze x.By.Kids), .seq (eL (z7 za) x.Names), .seq (eL ze x.Exprs)]
theorem xB (x : GItem) : zo x = yn x := rfl
def wW (x : GItem) : List C := [.int .i64 x.Kind, .own 1 (eL za x.Name), .int .i64 x.Many, .int .i64 x.By.Kind, .int .i64 x.By.N, .own 1 (eL za x.By.S), .own 1 (eL (wQ 1 za) x.By.K), .own 5 (eL yD x.By.Kids), .own 1 (eL (wQ 1 za) x.Names), .own 5 (eL yD x.Exprs)]
def OJ (x : GItem) : List C := [.int .i64 x.Kind, .own 1 (eL za x.Name), .int .i64 x.Many, .int .i64 x.By.Kind, .int .i64 x.By.N, .own 1 (eL za x.By.S), .own 1 (eL (wQ 1 za) x.By.K), .own 5 (eL yD x.By.Kids), .own 1 (eL (wQ 1 za) x.Names), .own 5 (eL yD x.Exprs)]
theorem yc (x : GItem) : wW x = OJ x := rfl
theorem Wc : OEnc 10 wW zo := ⟨fun x => rfl, fun x => by simp only [wW, zo, yf, kC, jq jp, jq (RD 1 jp), jq OI], fun x => by simp only [wW, j0, qV, jr jp, jr (RD 1 jp), jr OI, Bool.and_self]⟩
theorem Ee : Enc 10 zo := ⟨fun x => by rw [xB]; rfl, fun x => by rw [xB]; rfl, fun x => by rw [xB]; rfl⟩
inductive GValue where
 | mk (Kind : Int) (N : Int) (S : (List UInt8)) (K : (List (List UInt8))) (L : (List GValue))
def GValue.Kind : GValue → Int
 | .mk x _ _ _ _ => x
def GValue.N : GValue → Int
 | .mk _ x _ _ _ => x
def GValue.S : GValue → (List UInt8)
 | .mk _ _ x _ _ => x
def GValue.K : GValue → (List (List UInt8))
 | .mk _ _ _ x _ => x
def GValue.L : GValue → (List GValue)
 | .mk _ _ _ _ x => x
theorem GValue.eta (x : GValue) : GValue.mk x.Kind x.N x.S x.K x.L = x := by cases x; rfl
mutual
def w7 : GValue → List C
 | .mk Kind N S K L => [.int .i64 Kind, .int .i64 N, .seq (eL za S), .seq (eL (z7 za) K), .seq (Zb L)]
def Zb : List GValue → List (List C)
 | [] => []
 | v :: l => w7 v :: Zb l
end
theorem PC (l : List GValue) : Zb l = eL w7 l := by
 induction l with
 | nil => rfl
 | cons v l ih => simp only [Zb, ih]; rfl
def Xe (x : GValue) : List C := [.int .i64 x.Kind, .int .i64 x.N, .seq (eL za x.S), .seq (eL (z7 za) x.K), .seq (eL w7 x.L)]
theorem X8 (x : GValue) : w7 x = Xe x := by
 cases x; simp only [w7, Xe, PC, GValue.Kind, GValue.N, GValue.S, GValue.K, GValue.L]
mutual
def qL : GValue → List C
 | .mk Kind N S K L => [.int .i64 Kind, .int .i64 N, .own 1 (eL za S), .own 1 (eL (wQ 1 za) K), .own 5 (jj L)]
def jj : List GValue → List (List C)
 | [] => []
 | v :: l => qL v :: jj l
end
theorem PD (l : List GValue) : jj l = eL qL l := by
 induction l with
 | nil => rfl
 | cons v l ih => simp only [jj, ih]; rfl
def PE (x : GValue) : List C := [.int .i64 x.Kind, .int .i64 x.N, .own 1 (eL za x.S), .own 1 (eL (wQ 1 za) x.K), .own 5 (eL qL x.L)]
theorem LJ (x : GValue) : qL x = PE x := by
 cases x; simp only [qL, PE, PD, GValue.Kind, GValue.N, GValue.S, GValue.K, GValue.L]
mutual
theorem TO : ∀ x : GValue, yf (qL x) = w7 x
 | .mk Kind N S K L => by have h := VU L; simp only [qL, w7, yf, kC, h, jq jp, jq (RD 1 jp)]
theorem VU : ∀ l : List GValue, xd (jj l) = Zb l
 | [] => rfl
 | v :: l => by have h := TO v; have g := VU l; simp only [jj, Zb, xd, h, g]
end
mutual
theorem TP : ∀ x : GValue, j0 (qL x) = true
 | .mk Kind N S K L => by have h := VV L; simp only [qL, j0, qV, h, jr jp, jr (RD 1 jp), Bool.and_self]
theorem VV : ∀ l : List GValue, qz (jj l) = true
 | [] => rfl
 | v :: l => by have h := TP v; have g := VV l; simp only [jj, qz, h, g, Bool.and_self]
end
theorem BM : OEnc 5 qL w7 := ⟨fun x => by rw [LJ]; rfl, TO, TP⟩
theorem WN : Enc 5 w7 := ⟨fun x => by rw [X8]; rfl, fun x => by rw [X8]; rfl, fun x => by rw [X8]; rfl⟩
def bsz (k : List (List UInt8)) : Nat := k.length + (k.map List.length).sum
mutual
def vsz : GValue → Nat
 | .mk _ _ s k l => s.length + bsz k + wT l
def wT : List GValue → Nat
 | [] => 0
 | v :: l => 1 + vsz v + wT l
end
mutual
def xsz : GExpr → Nat
 | .mk _ _ s k l => s.length + bsz k + zx l
def zx : List GExpr → Nat
 | [] => 0
 | v :: l => 1 + xsz v + zx l
end
theorem YC {k : List (List UInt8)} {b : List UInt8} (h : b ∈ k) : 1 + b.length <= bsz k := by
 unfold bsz
 induction k with
 | nil => cases h
 | cons x k ih =>
  simp only [List.length_cons, List.map_cons, List.sum_cons]
  rcases List.mem_cons.1 h with rfl | h
  ·omega
  ·have := ih h; omega
theorem jg (k : List (List UInt8)) : k.length <= bsz k := by unfold bsz; omega
theorem qM (b : List UInt8) (k : List (List UInt8)) : bsz (b :: k) = 1 + b.length + bsz k := by unfold bsz; simp; omega
theorem GB {l : List GValue} {v : GValue} (h : v ∈ l) : 1 + vsz v <= wT l := by
 induction l with
 | nil => cases h
 | cons x l ih =>
  simp only [wT]
  rcases List.mem_cons.1 h with rfl | h
  ·omega
  ·have := ih h; omega
theorem PF (l : List GValue) : l.length <= wT l := by
 induction l with
 | nil => simp
 | cons x l ih => simp only [wT, List.length_cons]; omega
theorem PG (v : GValue) : vsz v = v.S.length + bsz v.K + wT v.L := by cases v; simp only [vsz, GValue.S, GValue.K, GValue.L]
theorem yz {l : List GExpr} {v : GExpr} (h : v ∈ l) : 1 + xsz v <= zx l := by
 induction l with
 | nil => cases h
 | cons x l ih =>
  simp only [zx]
  rcases List.mem_cons.1 h with rfl | h
  ·omega
  ·have := ih h; omega
theorem yd (l : List GExpr) : l.length <= zx l := by
 induction l with
 | nil => simp
 | cons x l ih => simp only [zx, List.length_cons]; omega
theorem xN (v : GExpr) : xsz v = v.S.length + bsz v.K + zx v.Kids := by cases v; simp only [xsz, GExpr.S, GExpr.K, GExpr.Kids]
mutual
def ptV : GValue → Nat
 | .mk _ _ _ _ l => 1 + Jl l
def Jl : List GValue → Nat
 | [] => 0
 | v :: l => ptV v + Jl l
end
theorem DI (v : GValue) : ptV v = 1 + Jl v.L := by cases v; simp only [ptV, GValue.L]
theorem BN (l : List GValue) : l.length <= Jl l := by
 induction l with
 | nil => simp
 | cons v l ih => have := DI v; simp only [Jl, List.length_cons]; omega
mutual
theorem DJ : ∀ v : GValue, ptV v <= 1 + vsz v
 | .mk _ _ _ _ l => by have := OK l; simp only [ptV, vsz]; omega
theorem OK : ∀ l : List GValue, Jl l <= wT l
 | [] => by simp [Jl, wT]
 | v :: l => by have := DJ v; have := OK l; simp only [Jl, wT]; omega
end
mutual
def ptX : GExpr → Nat
 | .mk _ _ _ _ l => 1 + zU l
def zU : List GExpr → Nat
 | [] => 0
 | v :: l => ptX v + zU l
end
theorem PH (v : GExpr) : ptX v = 1 + zU v.Kids := by cases v; simp only [ptX, GExpr.Kids]
theorem GC (l : List GExpr) : l.length <= zU l := by
 induction l with
 | nil => simp
 | cons v l ih => have := PH v; simp only [zU, List.length_cons]; omega
mutual
theorem Nk : ∀ v : GExpr, ptX v <= 1 + xsz v
 | .mk _ _ _ _ l => by have := JB l; simp only [ptX, xsz]; omega
theorem JB : ∀ l : List GExpr, zU l <= zx l
 | [] => by simp [zU, zx]
 | v :: l => by have := Nk v; have := JB l; simp only [zU, zx]; omega
end
def ZP (a : List UInt8) : Bool := decide (a.length <= 20) && a.all (inB 32 126)
def yV (a : List UInt8) : Bool := decide (1 <= a.length ∧ a.length <= 8) && a.all (inB 97 122)
def kOk (k : List (List UInt8)) (j : Nat) : Bool := match k[j]? with
 | some b => yV b && (decide (j = 0) || match k[j - 1]? with | some a => Op.bytesLess a b | none => false)
 | none => false
def xm (k : List (List UInt8)) (i d : Nat) : Bool := (List.range' i d).all (kOk k)
theorem jk (k : List (List UInt8)) (i d : Nat) : xm k i (d + 1) = (kOk k i && xm k (i + 1) d) := by
 unfold xm; rw [List.range'_succ, List.all_cons]
theorem jh {k : List (List UInt8)} {i : Nat} (h : i < k.length) (h0 : 0 < i) : kOk k i = (yV k[i] && Op.bytesLess (k[i - 1]'(by omega)) k[i]) := by
 unfold kOk
 rw [zu h]
 simp only
 rw [zu (show i - 1 < k.length by omega)]
 simp [show i ≠ 0 by omega]
theorem kA {k : List (List UInt8)} (h : 0 < k.length) : kOk k 0 = yV k[0] := by
 unfold kOk
 rw [zu h]
 simp
theorem Xf (a b : List UInt8) : (0 <= Lib.compareBytes a b) = ¬ (Op.bytesLess a b = true) := by
 induction a generalizing b with
 | nil => cases b <;> simp [Lib.compareBytes, Op.bytesLess]
 | cons x a ih =>
  cases b with
  | nil => simp [Lib.compareBytes, Op.bytesLess]
  | cons y b =>
   simp only [Lib.compareBytes, Op.bytesLess]
   by_cases h1 : x < y
   ·simp [h1]
   ·by_cases h2 : y < x
    ·have h3 : ¬ x = y := fun e => by subst e; exact h1 h2
     simp [h1, h2, h3]
    ·have h3 : x = y := UInt8.le_antisymm (UInt8.not_lt.1 h2) (UInt8.not_lt.1 h1)
     subst h3
     simp [h1, ih]
def PI (v : GValue) : Bool :=
 if v.Kind = 0 ∨ v.Kind = 6 then decide (v.N = 0 ∧ v.S.length = 0 ∧ v.K.length = 0 ∧ v.L.length = 0)
 else if v.Kind = 1 then decide ((0 <= v.N ∧ v.N <= 1) ∧ v.S.length = 0 ∧ v.K.length = 0 ∧ v.L.length = 0)
 else if v.Kind = 2 then decide ((-1000000000000 <= v.N ∧ v.N <= 1000000000000) ∧ v.S.length = 0 ∧ v.K.length = 0 ∧ v.L.length = 0)
 else if v.Kind = 3 then ZP v.S && decide (v.N = 0 ∧ v.K.length = 0 ∧ v.L.length = 0)
 else if v.Kind = 4 then decide (v.N = 0 ∧ v.S.length = 0 ∧ v.K.length = 0 ∧ v.L.length <= 40)
 else if v.Kind = 5 then decide (v.K.length = v.L.length ∧ v.N = 0 ∧ v.S.length = 0 ∧ v.L.length <= 40) && xm v.K 0 v.K.length
 else false
def shV : Nat → GValue → Bool
 | 0, _ => false
 | d + 1, v => PI v && v.L.all (shV d)
def VW : List (List UInt8) := [[110, 117, 108, 108], [116, 114, 117, 101], [102, 97, 108, 115, 101], [105, 110, 100, 101, 120], [107, 101, 121], [118, 97, 108], [108, 111, 99, 97, 108], [114, 101, 115], [111, 117, 116], [99, 111, 117, 110, 116], [101, 97, 99, 104]]
def vG (a : List UInt8) : Bool := VW.any fun w => decide (w = a)
def bi : Bool → Int
 | true => 1
 | false => 0
def Dec {α : Type} (X b : α) (L : Prop) (t : α) : Prop := (t = X ∧ L) ∨ (t = b ∧ ¬ L)
section
variable {α β : Type} {X b x y : α} {L : Prop}
theorem Dec.ite {c : Prop} [Decidable c] (h1 : c → Dec X b L x) (h2 : ¬ c → Dec X b L y) : Dec X b L (if c then x else y) := by
 by_cases h : c
 ·rw [if_pos h]; exact h1 h
 ·rw [if_neg h]; exact h2 h
end
theorem Dec.bnd {α β : Type} {X b : Option α} {L : Prop} {e : Option β} {r : β} {f : β → Option α} (h : e = some r) (h1 : Dec X b L (f r)) : Dec X b L (e.bind f) := by rw [h]; exact h1
theorem Dec.bndB {α : Type} {X b : Option α} {L : Prop} {e : Option Bool} {t : Bool} {f : Bool → Option α} (h : e = some t) (h1 : bi t = 1 → Dec X b L (f true)) (h2 : bi t = 0 → Dec X b L (f false)) : Dec X b L (e.bind f) := by
 rw [h]
 cases t
 ·exact h2 rfl
 ·exact h1 rfl
theorem Dec.bndD {α : Type} {X b : Option α} {L : Prop} {e : Option Bool} {c : Prop} [Decidable c] {f : Bool → Option α} (h : e = some (decide c)) (h1 : c → Dec X b L (f true)) (h2 : ¬ c → Dec X b L (f false)) : Dec X b L (e.bind f) := by
 rw [h]
 by_cases hc : c
 ·rw [decide_eq_true hc]; exact h1 hc
 ·rw [decide_eq_false hc]; exact h2 hc
theorem Nl (a b : Bool) : (bi (a && !b) = 1 ∧ bi a = 1 ∧ bi b = 0) ∨ (bi (a && !b) = 0 ∧ (bi a = 0 ∨ bi b = 1)) := by cases a <;> cases b <;> simp [bi]
def arI (k : Int) : Int := if k = 4 ∨ k = 5 ∨ k = 23 then -1 else if k = 8 ∨ k = 13 ∨ k = 14 then 1 else if k = 9 ∨ (15 <= k ∧ k <= 21) then 2 else if k = 22 then 3 else 0
theorem JC (k : Int) : (k = 4 ∨ k = 5 ∨ k = 23 → arI k = -1) ∧ (k = 8 ∨ k = 13 ∨ k = 14 → arI k = 1) ∧ (k = 9 ∨ (15 <= k ∧ k <= 21) → arI k = 2) ∧ (k = 22 → arI k = 3) ∧ (¬ (k = 4 ∨ k = 5 ∨ k = 23 ∨ k = 8 ∨ k = 13 ∨ k = 14 ∨ k = 9 ∨ (15 <= k ∧ k <= 21) ∨ k = 22) → arI k = 0) := by
 unfold arI
 refine ⟨fun h => ?_, fun h => ?_, fun h => ?_, fun h => ?_, fun h => ?_⟩ <;> (repeat' split) <;> omega
def ZE (k n s kk kl ar t nm kp : Int) : Prop :=
 (0 <= k ∧ k <= 23) ∧ (0 <= ar → kl = ar) ∧ (k = 5 → kk = kl) ∧ (k ≠ 5 → kk = 0) ∧ (k = 1 → 0 <= n ∧ n <= 1) ∧ (k = 2 → 0 <= n ∧ n <= 1000000000000) ∧ (k ≠ 1 → k ≠ 2 → n = 0) ∧ (k = 3 → t = 1) ∧
 (k = 6 ∨ k = 8 ∨ k = 7 ∨ k = 23 → nm = 1) ∧ (k = 7 ∨ k = 23 → kp = 0) ∧ (k ≠ 3 → k ≠ 6 → k ≠ 8 → k ≠ 7 → k ≠ 23 → s = 0)
def vh (v : GExpr) : Prop := ZE v.Kind v.N v.S.length v.K.length v.Kids.length (arI v.Kind) (bi (ZP v.S)) (bi (yV v.S)) (bi (vG v.S))
open Classical in
noncomputable def qN (v : GExpr) : Bool := decide (vh v ∧ v.Kids.length <= 150) && (decide (v.Kind ≠ 5) || xm v.K 0 v.K.length)
noncomputable def frX : Nat → GExpr → Bool
 | 0, _ => false
 | d + 1, v => qN v && v.Kids.all (frX d)
def wI (s : Nat) (n : Int) : Int := if (s : Int) <= n then n - s else -1
/- calls -/
theorem KY (a : List UInt8) : Op.bytesLess a a = false := by
 induction a with
 | nil => rfl
 | cons x a ih => simp [Op.bytesLess, ih]
theorem kY : ∀ {a b c : List UInt8}, Op.bytesLess a b = true → Op.bytesLess b c = true → Op.bytesLess a c = true
 | [], [], _, h, _ => by simp [Op.bytesLess] at h
 | [], _ :: _, [], _, h => by simp [Op.bytesLess] at h
 | [], _ :: _, _ :: _, _, _ => rfl
 | _ :: _, [], _, h, _ => by simp [Op.bytesLess] at h
 | _ :: _, _ :: _, [], _, h => by simp [Op.bytesLess] at h
 | x :: a, y :: b, z :: c, h, g => by
  simp only [Op.bytesLess, Bool.or_eq_true, decide_eq_true_eq, Bool.and_eq_true, beq_iff_eq] at h g ⊢
  rcases h with h | ⟨rfl, h⟩
  ·rcases g with g | ⟨rfl, g⟩
   ·exact .inl (UInt8.lt_trans h g)
   ·exact .inl h
  ·rcases g with g | ⟨rfl, g⟩
   ·exact .inl g
   ·exact .inr ⟨rfl, kY h g⟩
theorem GD : ∀ (a b : List UInt8), Lib.compareBytes a b = 0 ↔ a = b
 | [], [] => by simp [Lib.compareBytes]
 | [], _ :: _ => by simp [Lib.compareBytes]
 | _ :: _, [] => by simp [Lib.compareBytes]
 | x :: a, y :: b => by
  have ih := GD a b
  simp only [Lib.compareBytes]
  by_cases h1 : x < y
  ·rw [if_pos h1]
   have : x ≠ y := fun e => by subst e; exact absurd h1 (UInt8.lt_irrefl x)
   simp [this]
  ·rw [if_neg h1]
   by_cases h2 : y < x
   ·rw [if_pos h2]
    have : x ≠ y := fun e => by subst e; exact absurd h2 (UInt8.lt_irrefl x)
    simp [this]
   ·have h3 : x = y := UInt8.le_antisymm (UInt8.not_lt.1 h2) (UInt8.not_lt.1 h1)
    subst h3
    rw [if_neg h2, ih]; simp
theorem Ef (a b : List UInt8) : (Lib.compareBytes a b < 0) = (Op.bytesLess a b = true) := by
 have := Xf a b
 apply propext
 constructor
 ·intro h
  refine Classical.byContradiction fun hn => ?_
  rw [<- this] at hn
  omega
 ·intro h
  refine Classical.byContradiction fun hn => ?_
  have h0 : 0 <= Lib.compareBytes a b := by omega
  rw [this] at h0
  exact h0 h
def LK (a : List (List UInt8)) (x : List UInt8) (c : Nat) : Prop := c <= a.length ∧ ∀ k (h : k < a.length), k < c ↔ Op.bytesLess a[k] x = true
def Asc (a : List (List UInt8)) : Prop := ∀ i j (hj : j < a.length) (hij : i < j), Op.bytesLess (a[i]'(by omega)) a[j] = true
theorem LK.of {a : List (List UInt8)} (ha : Asc a) (x : List UInt8) : ∃ c, LK a x c := by
 have : ∀ n, n <= a.length → ∃ c, c <= n ∧ ∀ k (h : k < a.length), k < n → (k < c ↔ Op.bytesLess a[k] x = true) := by
  intro n
  induction n with
  | zero => exact fun _ => ⟨0, Nat.le_refl _, fun k h hk => by omega⟩
  | succ n ih =>
   intro hn
   obtain ⟨c, hc, h⟩ := ih (by omega)
   by_cases hl : Op.bytesLess (a[n]'(by omega)) x = true
   ·have hcn : c = n := by
     refine Classical.byContradiction fun hne => ?_
     have h1 := h c (by omega) (by omega)
     have h2 := ha c n (by omega) (by omega)
     have := h1.2 (kY h2 hl)
     omega
    refine ⟨n + 1, Nat.le_refl _, fun k hk hkn => ?_⟩
    rcases Nat.lt_or_ge k n with hlt | hge
    ·exact ⟨fun _ => (h k hk hlt).1 (by omega), fun _ => by omega⟩
    ·obtain rfl : k = n := by omega
     exact ⟨fun _ => hl, fun _ => by omega⟩
   ·refine ⟨c, by omega, fun k hk hkn => ?_⟩
    rcases Nat.lt_or_ge k n with hlt | hge
    ·exact h k hk hlt
    ·obtain rfl : k = n := by omega
     exact ⟨fun _ => by omega, fun h => (hl h).elim⟩
 obtain ⟨c, hc, h⟩ := this a.length (Nat.le_refl _)
 exact ⟨c, hc, fun k hk => h k hk hk⟩
theorem LK.mem {a : List (List UInt8)} (ha : Asc a) {x : List UInt8} {c : Nat} (h : LK a x c) : a[c]? = some x ↔ x ∈ a := by
 constructor
 ·exact List.mem_of_getElem?
 ·intro hx
  obtain ⟨k, hk, rfl⟩ := List.mem_iff_getElem.1 hx
  have h1 : ¬ k < c := fun hlt => by
   have := (h.2 k hk).1 hlt
   rw [KY] at this
   cases this
  have h2 : k = c := by
   refine Classical.byContradiction fun hne => ?_
   have hlt : c < k := by omega
   have := (h.2 c (by omega)).2 (ha c k hk hlt)
   omega
  subst h2
  exact zu hk
theorem A6 {i j : Nat} (h : i + j < 2 ^ 62) : w64 (OU .shr .u64 (IntKind.u64.wrap (w64 ((i : Int) + (j : Int)))) 1) = (((i + j) / 2 : Nat) : Int) := by
 rw [yF (x := (i : Int) + (j : Int)) (by omega) (by omega)]
 have h1 : IntKind.u64.wrap ((i : Int) + (j : Int)) = (i : Int) + (j : Int) := by unfold IntKind.wrap; simp [IntKind.bits, IntKind.signed]; omega
 rw [h1]
 have h2 : OU .shr .u64 ((i : Int) + (j : Int)) 1 = (((i + j) / 2 : Nat) : Int) := by
  show Int.fdiv _ (2 ^ (min (1 : Int).toNat IntKind.u64.bits)) = _
  rw [show min (1 : Int).toNat IntKind.u64.bits = 1 from rfl, Int.fdiv_eq_ediv_of_nonneg _ (by decide)]
  omega
 rw [h2, yF (by omega) (by omega)]
def LL (v : GValue) : Bool := decide (shV 5 v = true ∧ (ptV v : Int) <= 40)
theorem Eg {k : List (List UInt8)} (h : xm k 0 k.length = true) {j : Nat} (hj : j < k.length) : kOk k j = true := by
 unfold xm at h
 exact List.all_eq_true.1 h j (List.mem_range'_1.2 ⟨by omega, by omega⟩)
theorem BO {k : List (List UInt8)} (h : xm k 0 k.length = true) : Asc k := by
 intro i j
 induction j with
 | zero => intro _ h; omega
 | succ j ih =>
  intro hj hij
  have hk := Eg h hj
  rw [jh hj (by omega), Bool.and_eq_true] at hk
  have h1 : Op.bytesLess (k[j]'(by omega)) k[j + 1] = true := hk.2
  rcases Nat.lt_or_ge i j with hlt | hge
  ·exact kY (ih (by omega) hlt) h1
  ·obtain rfl : i = j := by omega
   exact h1
theorem BP {v : GValue} (h : LL v = true) : PI v = true ∧ ∀ x ∈ v.L, shV 4 x = true := by
 unfold LL at h
 have h1 := (of_decide_eq_true h).1
 rw [shV, Bool.and_eq_true, List.all_eq_true] at h1
 exact h1
def PJ (a : List UInt8) : List UInt8 := if a = [108, 101, 110] then [99] else if a = [99, 97, 116] then [116, 116] else if a = [107, 101, 121, 115] then [109] else if a = [118, 97, 108, 115] then [109] else if a = [104, 97, 115] then [109, 116] else if a = [109, 105, 110] then [105, 105] else if a = [109, 97, 120] then [105, 105] else []
def A7 (a : List UInt8) : List (List Int) := if a = [108, 101, 110] then [[3, 4, 5]] else if a = [99, 97, 116] then [[3], [3]] else if a = [107, 101, 121, 115] then [[5]] else if a = [118, 97, 108, 115] then [[5]] else if a = [104, 97, 115] then [[5], [3]] else if a = [109, 105, 110] then [[2], [2]] else if a = [109, 97, 120] then [[2], [2]] else []
def WO (x : GValue) (c : UInt8) : Bool := if ((c.toNat : Nat) : Int) = 116 then decide (x.Kind = 3) else if ((c.toNat : Nat) : Int) = 105 then decide (x.Kind = 2) else if ((c.toNat : Nat) : Int) = 109 then decide (x.Kind = 5) else decide (x.Kind = 3 ∨ x.Kind = 4 ∨ x.Kind = 5)
def Ho : List UInt8 → List GValue → Bool
 | c :: cs, v :: l => (decide (v.Kind = 6) || WO v c) && Ho cs l
 | _, _ => true
def Bj : List (List Int) → List GValue → Bool
 | c :: cs, v :: l => (decide (v.Kind = 6) || decide (v.Kind ∈ c)) && Bj cs l
 | _, _ => true
def zV : GValue := .mk 0 0 [] [] []
def vU (a : List UInt8) (x y : GValue) : GValue × Int :=
 if a = [108, 101, 110] then (if x.Kind = 3 then .mk 2 (x.S.length : Int) [] [] [] else .mk 2 (x.L.length : Int) [] [] [], 0)
 else if a = [99, 97, 116] then (if 20 < (x.S ++ y.S).length then (zV, 4) else (.mk 3 0 (x.S ++ y.S) [] [], 0))
 else if a = [107, 101, 121, 115] then (.mk 4 0 [] [] (x.K.map fun k => .mk 3 0 k [] []), 0)
 else if a = [118, 97, 108, 115] then (.mk 4 0 [] [] x.L, 0)
 else if a = [104, 97, 115] then (.mk 1 (if y.S ∈ x.K then 1 else 0) [] [] [], 0)
 else if a = [109, 105, 110] then (.mk 2 (if y.N < x.N then y.N else x.N) [] [] [], 0)
 else (.mk 2 (if x.N < y.N then y.N else x.N) [] [] [], 0)
theorem BQ (x y : GValue) : vU [108, 101, 110] x y = (if x.Kind = 3 then .mk 2 (x.S.length : Int) [] [] [] else .mk 2 (x.L.length : Int) [] [] [], 0) := by simp [vU]
theorem BR (x y : GValue) : vU [99, 97, 116] x y = if 20 < (x.S ++ y.S).length then (zV, 4) else (.mk 3 0 (x.S ++ y.S) [] [], 0) := by simp [vU]
theorem B3 (x y : GValue) : vU [107, 101, 121, 115] x y = (.mk 4 0 [] [] (x.K.map fun k => .mk 3 0 k [] []), 0) := by simp [vU]
theorem B4 (x y : GValue) : vU [118, 97, 108, 115] x y = (.mk 4 0 [] [] x.L, 0) := by simp [vU]
theorem BS (x y : GValue) : vU [104, 97, 115] x y = (.mk 1 (if y.S ∈ x.K then 1 else 0) [] [] [], 0) := by simp [vU]
theorem BT (x y : GValue) : vU [109, 105, 110] x y = (.mk 2 (if y.N < x.N then y.N else x.N) [] [] [], 0) := by simp [vU]
theorem BU (x y : GValue) : vU [109, 97, 120] x y = (.mk 2 (if x.N < y.N then y.N else x.N) [] [] [], 0) := by simp [vU]
theorem AN (x : GValue) : WO x 116 = decide (x.Kind = 3) := by unfold WO; rw [if_pos (show ((UInt8.toNat 116 : Nat) : Int) = 116 from rfl)]
theorem AO (x : GValue) : WO x 105 = decide (x.Kind = 2) := by unfold WO; rw [if_neg (show ¬ ((UInt8.toNat 105 : Nat) : Int) = 116 by decide), if_pos (show ((UInt8.toNat 105 : Nat) : Int) = 105 from rfl)]
theorem AP (x : GValue) : WO x 109 = decide (x.Kind = 5) := by unfold WO; rw [if_neg (show ¬ ((UInt8.toNat 109 : Nat) : Int) = 116 by decide), if_neg (show ¬ ((UInt8.toNat 109 : Nat) : Int) = 105 by decide), if_pos (show ((UInt8.toNat 109 : Nat) : Int) = 109 from rfl)]
theorem AQ (x : GValue) : WO x 99 = decide (x.Kind = 3 ∨ x.Kind = 4 ∨ x.Kind = 5) := by unfold WO; rw [if_neg (show ¬ ((UInt8.toNat 99 : Nat) : Int) = 116 by decide), if_neg (show ¬ ((UInt8.toNat 99 : Nat) : Int) = 105 by decide), if_neg (show ¬ ((UInt8.toNat 99 : Nat) : Int) = 109 by decide)]
def DK (l : List GValue) : Bool := l.all fun v => decide (v.Kind ≠ 6)
def Bk (a : List UInt8) (l : List GValue) : GValue × Int :=
 if (PJ a).length = 0 then (zV, 5) else if (PJ a).length = l.length then
  (if Ho (PJ a) l = true then (if DK l = true then vU a ((l[0]?).getD zV) ((l[1]?).getD zV) else (.mk 6 0 [] [] [], 0)) else (zV, 2)) else (zV, 5)
def AR (a : List UInt8) (l : List GValue) : GValue × Int := if 40 < l.length then (zV, 1) else if l.all LL = true then Bk a l else (zV, 1)
/- sorting -/
def Le (x y : List UInt8) : Prop := Op.bytesLess y x = false
theorem VX : ∀ a b : List UInt8, Op.bytesLess a b = true ∨ a = b ∨ Op.bytesLess b a = true
 | [], [] => .inr (.inl rfl)
 | [], _ :: _ => .inl rfl
 | _ :: _, [] => .inr (.inr rfl)
 | x :: a, y :: b => by
  simp only [Op.bytesLess, Bool.or_eq_true, decide_eq_true_eq, Bool.and_eq_true, beq_iff_eq]
  by_cases h1 : x < y
  ·exact .inl (.inl h1)
  by_cases h2 : y < x
  ·exact .inr (.inr (.inl h2))
  ·have h3 : x = y := UInt8.le_antisymm (UInt8.not_lt.1 h2) (UInt8.not_lt.1 h1)
   subst h3
   rcases VX a b with h | h | h
   ·exact .inl (.inr ⟨rfl, h⟩)
   ·exact .inr (.inl (by rw [h]))
   ·exact .inr (.inr (.inr ⟨rfl, h⟩))
theorem Le.refl (x : List UInt8) : Le x x := KY x
theorem Le.of_less {x y : List UInt8} (h : Op.bytesLess x y = true) : Le x y := by
 unfold Le
 cases h2 : Op.bytesLess y x with
 | false => rfl
 | true => have := kY h h2; rw [KY] at this; cases this
theorem Le.cases {x y : List UInt8} (h : Le x y) : x = y ∨ Op.bytesLess x y = true := by
 rcases VX x y with g | g | g
 ·exact .inr g
 ·exact .inl g
 ·unfold Le at h; rw [h] at g; cases g
theorem Le.trans {x y z : List UInt8} (h : Le x y) (g : Le y z) : Le x z := by
 rcases h.cases with rfl | h
 ·exact g
 ·rcases g.cases with rfl | g
  ·exact Le.of_less h
  ·exact Le.of_less (kY h g)
theorem Le.of_not {x y : List UInt8} (h : ¬ Op.bytesLess y x = true) : Le x y := Bool.eq_false_iff.2 h
def gt (d : List (List UInt8)) (i : Nat) : List UInt8 := (d[i]?).getD []
theorem Aq {d : List (List UInt8)} {i : Nat} (h : i < d.length) : d[i]? = some (gt d i) := by unfold gt; rw [zu h]; rfl
theorem Nm {d : List (List UInt8)} {i k : Nat} {x : List UInt8} (h : i < d.length) : gt (d.set i x) k = if k = i then x else gt d k := by
 unfold gt
 by_cases e : k = i
 ·subst e; rw [if_pos rfl, List.getElem?_set_self h]; rfl
 ·rw [if_neg e, List.getElem?_set_ne (fun e' => e e'.symm)]
def sw (d : List (List UInt8)) (i j : Nat) : List (List UInt8) := (d.set i (gt d j)).set j (gt d i)
theorem DL (d : List (List UInt8)) (i j : Nat) : (sw d i j).length = d.length := by unfold sw; simp
theorem Hp {d : List (List UInt8)} {i j k : Nat} (hi : i < d.length) (hj : j < d.length) : gt (sw d i j) k = if k = j then gt d i else if k = i then gt d j else gt d k := by
 unfold sw
 rw [Nm (by simpa using hj), Nm hi]
structure Rg (a b : Nat) (d d' : List (List UInt8)) : Prop where
 len : d'.length = d.length
 perm : d'.Perm d
 out : ∀ i, (i < a ∨ b <= i) → gt d' i = gt d i
 all : ∀ Q : List UInt8 → Prop, (∀ i, a <= i → i < b → Q (gt d i)) → ∀ i, a <= i → i < b → Q (gt d' i)
theorem Rg.refl (a b : Nat) (d : List (List UInt8)) : Rg a b d d := ⟨rfl, .refl _, fun _ _ => rfl, fun _ h => h⟩
theorem Rg.trans {a b : Nat} {d d' d'' : List (List UInt8)} (h : Rg a b d d') (g : Rg a b d' d'') : Rg a b d d'' :=
 ⟨g.len.trans h.len, g.perm.trans h.perm, fun i hi => (g.out i hi).trans (h.out i hi), fun Q hq => g.all Q (h.all Q hq)⟩
theorem Rg.mono {a b a' b' : Nat} {d d' : List (List UInt8)} (h : Rg a b d d') (ha : a' <= a) (hb : b <= b') : Rg a' b' d d' :=
 ⟨h.len, h.perm, fun i hi => h.out i (by omega), fun Q hq i h1 h2 => by
  by_cases hin : a <= i ∧ i < b
  ·exact h.all Q (fun k k1 k2 => hq k (by omega) (by omega)) i hin.1 hin.2
  ·rw [h.out i (by omega)]; exact hq i h1 h2⟩
theorem Eh {d : List (List UInt8)} {i j : Nat} (hi : i < d.length) (hj : j < d.length) : (sw d i j).Perm d := by
 have e1 : gt d j = d[j] := by unfold gt; rw [zu hj]; rfl
 have e2 : gt d i = d[i] := by unfold gt; rw [zu hi]; rfl
 unfold sw
 rw [e1, e2]
 exact List.set_set_perm hi hj
theorem Rg.swap {a b : Nat} {d : List (List UInt8)} {i j : Nat} (h1 : a <= i) (h2 : i < b) (h3 : a <= j) (h4 : j < b) (hb : b <= d.length) : Rg a b d (sw d i j) :=
 ⟨DL d i j, Eh (by omega) (by omega), fun k hk => by rw [Hp (by omega) (by omega), if_neg (by omega), if_neg (by omega)], fun Q hq k k1 k2 => by
  rw [Hp (by omega) (by omega)]
  split
  ·exact hq i h1 h2
  ·split
   ·exact hq j h3 h4
   ·exact hq k k1 k2⟩
def Srt (a b : Nat) (d : List (List UInt8)) : Prop := ∀ i j, a <= i → i < j → j < b → Le (gt d i) (gt d j)
theorem A8 {x y : List UInt8} : (Lib.compareBytes x y < 0) ↔ Op.bytesLess x y = true := by rw [Ef]
/- values as expressions -/
mutual
def knV : GValue → Bool
 | .mk k _ _ _ l => decide (k ≠ 6) && GE l
def GE : List GValue → Bool
 | [] => true
 | v :: l => knV v && GE l
end
theorem A9 (v : GValue) : knV v = (decide (v.Kind ≠ 6) && GE v.L) := by cases v; rw [knV]; rfl
mutual
def xOf : GValue → GExpr
 | .mk k n s kk l => if k = 2 ∧ n < 0 then .mk 14 0 [] [] [.mk 2 (w64 (0 - n)) [] [] []] else .mk k n s kk (Yp l)
def Yp : List GValue → List GExpr
 | [] => []
 | v :: l => xOf v :: Yp l
end
theorem AA (v : GValue) : xOf v = if v.Kind = 2 ∧ v.N < 0 then .mk 14 0 [] [] [.mk 2 (w64 (0 - v.N)) [] [] []] else .mk v.Kind v.N v.S v.K (Yp v.L) := by cases v; rw [xOf]; rfl
theorem BV (l : List GValue) : (Yp l).length = l.length := by induction l with
 | nil => rfl
 | cons x l ih => simp only [Yp, List.length_cons, ih]
theorem B5 (p : List GValue) (x : GValue) : Yp (p ++ [x]) = Yp p ++ [xOf x] := by induction p with
 | nil => simp only [List.nil_append, Yp]
 | cons y p ih => simp only [List.cons_append, Yp, ih]
mutual
theorem Ei : ∀ v : GValue, xsz (xOf v) <= 1 + 2 * vsz v
 | .mk k n s kk l => by
  have := TQ l
  rw [xOf]
  split
  ·simp [xsz, zx, bsz]
  ·simp only [xsz, vsz]; omega
theorem TQ : ∀ l : List GValue, zx (Yp l) <= 2 * wT l
 | [] => by simp [Yp, zx]
 | v :: l => by have := Ei v; have := TQ l; simp only [Yp, zx, wT]; omega
end
def ofR (v : GValue) : GExpr × Bool := if knV v = true then (xOf v, true) else (.mk 0 0 [] [] [], false)
/- expressions renamed -/
mutual
def rnX (a b : List UInt8) : GExpr → GExpr
 | .mk k n s kk l => .mk k n (if k = 6 ∧ s = a then b else s) kk (Zw a b l)
def Zw (a b : List UInt8) : List GExpr → List GExpr
 | [] => []
 | v :: l => rnX a b v :: Zw a b l
end
theorem AB (a b : List UInt8) (v : GExpr) : rnX a b v = .mk v.Kind v.N (if v.Kind = 6 ∧ v.S = a then b else v.S) v.K (Zw a b v.Kids) := by cases v; rw [rnX]; rfl
theorem BW (a b : List UInt8) (l : List GExpr) : (Zw a b l).length = l.length := by induction l with
 | nil => rw [Zw]
 | cons x l ih => rw [Zw, List.length_cons, List.length_cons, ih]
theorem B6 (a b : List UInt8) (p : List GExpr) (x : GExpr) : Zw a b (p ++ [x]) = Zw a b p ++ [rnX a b x] := by induction p with
 | nil => simp only [List.nil_append, Zw]
 | cons y p ih => rw [List.cons_append, Zw, ih, Zw, List.cons_append]
mutual
theorem DM (a b : List UInt8) (hb : b.length <= 8) : ∀ v : GExpr, xsz (rnX a b v) <= 8 + 16 * xsz v
 | .mk k n s kk l => by
  have := OL a b hb l
  have h : (if k = 6 ∧ s = a then b else s).length <= 8 + s.length := by split <;> omega
  rw [rnX]
  simp only [xsz]; omega
theorem OL (a b : List UInt8) (hb : b.length <= 8) : ∀ l : List GExpr, zx (Zw a b l) <= 16 * zx l
 | [] => by rw [Zw]; simp [zx]
 | v :: l => by have := DM a b hb v; have := OL a b hb l; rw [Zw]; simp only [zx]; omega
end
/- marks -/
theorem zN {α : Type} (p : List α) (x : α) (l : List α) : (p ++ x :: l)[p.length]? = some x := by simp
theorem wX {α : Type} (p : List α) (x y : α) (l : List α) : (p ++ x :: l).set p.length y = p ++ y :: l := by simp
theorem ZF {α : Type} (p : List α) (x : α) (l : List α) : p ++ x :: l = (p ++ [x]) ++ l := by simp
theorem BX {α : Type} (p : List α) (x : α) : (p.length : Int) + 1 = ((p ++ [x]).length : Int) := by simp
theorem zZ {α : Type} (p : List α) (x : α) (h : p.length < 2 ^ 62) : w64 ((p.length : Int) + 1) = ((p ++ [x]).length : Int) := by rw [yi h]; simp
theorem Jm {α : Type} (p : List α) (x : α) (l : List α) : (p.length : Int) < ((p ++ x :: l).length : Int) := by simp; omega
theorem We {α : Type} (p : List α) : ¬ (p.length : Int) < ((p ++ []).length : Int) := by simp
theorem zc {n m : Nat} (hn : n <= 2 ^ 7) (hm : m <= 2 ^ 40) : zd n m := by
 have : m * n <= 2 ^ 40 * 2 ^ 7 := Nat.mul_le_mul hm hn
 unfold zd
 exact ⟨by rw [show Zy = 2 ^ 47 from rfl]; omega, by omega⟩
def mI : Int → List Int → List Int
 | _, [] => []
 | k, _ :: l => k :: mI (k + 1) l
theorem AC (l : List Int) (k : Int) : (mI k l).length = l.length := by
 induction l generalizing k with
 | nil => rfl
 | cons x l ih => simp only [mI, List.length_cons, ih]
theorem Ar (l : List Int) (k : Int) : mI k (mI k l) = mI k l := by
 induction l generalizing k with
 | nil => rfl
 | cons x l ih => simp only [mI, ih]
def mB : Int → List UInt8 → List UInt8
 | _, [] => []
 | k, _ :: l => b8 k :: mB (k + 1) l
def cB (k : List (List UInt8)) : Nat := (k.map List.length).sum
def mBB : Int → List (List UInt8) → List (List UInt8)
 | _, [] => []
 | k, x :: l => mB k x :: mBB (k + x.length) l
theorem vt (l : List UInt8) (k : Int) : (mB k l).length = l.length := by
 induction l generalizing k with
 | nil => rfl
 | cons x l ih => simp only [mB, List.length_cons, ih]
theorem JD (l : List UInt8) (k : Int) : mB k (mB k l) = mB k l := by
 induction l generalizing k with
 | nil => rfl
 | cons x l ih => simp only [mB, ih]
theorem PK (l : List (List UInt8)) (k : Int) : mBB k (mBB k l) = mBB k l := by
 induction l generalizing k with
 | nil => rfl
 | cons x l ih => simp only [mBB, JD, vt, ih]
theorem Jn (l : List (List UInt8)) (k : Int) : cB (mBB k l) = cB l := by
 induction l generalizing k with
 | nil => rfl
 | cons x l ih => unfold cB at ih ⊢; simp only [mBB, List.map_cons, List.sum_cons, vt, ih]
theorem Ej (x : List UInt8) (l : List (List UInt8)) : cB (x :: l) = x.length + cB l := by unfold cB; simp
theorem ZV (l : List (List UInt8)) : bsz l = l.length + cB l := rfl
theorem OM (l : List (List UInt8)) (k : Int) : bsz (mBB k l) = bsz l := by
 rw [ZV, ZV, Jn]
 congr 1
 induction l generalizing k with
 | nil => rfl
 | cons x l ih => simp only [mBB, List.length_cons, ih]
mutual
def cX : GExpr → Nat
 | .mk _ _ s k l => 2 + (s.length + (cB k + cXs l))
def cXs : List GExpr → Nat
 | [] => 0
 | v :: l => cX v + cXs l
end
mutual
def mX : Int → GExpr → GExpr
 | i, .mk _ _ s k l => .mk i (i + 1) (mB (i + 1 + 1) s) (mBB (i + 1 + 1 + s.length) k) (mXs (i + 1 + 1 + s.length + cB k) l)
def mXs : Int → List GExpr → List GExpr
 | _, [] => []
 | i, v :: l => mX i v :: mXs (i + cX v) l
end
theorem Bl (v : GExpr) : cX v = 2 + (v.S.length + (cB v.K + cXs v.Kids)) := by cases v; simp only [cX, GExpr.S, GExpr.K, GExpr.Kids]
theorem Bm (i : Int) (v : GExpr) : mX i v = .mk i (i + 1) (mB (i + 1 + 1) v.S) (mBB (i + 1 + 1 + v.S.length) v.K) (mXs (i + 1 + 1 + v.S.length + cB v.K) v.Kids) := by cases v; simp only [mX, GExpr.S, GExpr.K, GExpr.Kids]
mutual
theorem DN : ∀ (i : Int) (v : GExpr), cX (mX i v) = cX v
 | i, .mk _ _ s k l => by simp only [mX, cX, vt, Jn, Hq]
theorem Hq : ∀ (i : Int) (l : List GExpr), cXs (mXs i l) = cXs l
 | _, [] => rfl
 | i, v :: l => by simp only [mXs, cXs, DN i v, Hq _ l]
end
mutual
theorem Ek : ∀ (i : Int) (v : GExpr), mX i (mX i v) = mX i v
 | i, .mk _ _ s k l => by simp only [mX, vt, Jn, JD, PK, PL]
theorem PL : ∀ (i : Int) (l : List GExpr), mXs i (mXs i l) = mXs i l
 | _, [] => rfl
 | i, v :: l => by simp only [mXs, DN, Ek i v, PL _ l]
end
mutual
theorem Bn : ∀ (i : Int) (v : GExpr), xsz (mX i v) = xsz v
 | i, .mk _ _ s k l => by simp only [mX, xsz, vt, OM, Nn]
theorem Nn : ∀ (i : Int) (l : List GExpr), zx (mXs i l) = zx l
 | _, [] => rfl
 | i, v :: l => by simp only [mXs, zx, Bn i v, Nn _ l]
end
mutual
theorem U0 : ∀ v : GExpr, cX v <= 2 + 2 * xsz v
 | .mk _ _ s k l => by have := Wg l; have := ZV k; simp only [cX, xsz]; omega
theorem Wg : ∀ l : List GExpr, cXs l <= 2 * zx l
 | [] => by simp [cXs, zx]
 | v :: l => by have := U0 v; have := Wg l; simp only [cXs, zx]; omega
end
mutual
def cV : GValue → Nat
 | .mk _ _ s k l => 2 + (s.length + (cB k + cVs l))
def cVs : List GValue → Nat
 | [] => 0
 | v :: l => cV v + cVs l
end
mutual
def mV : Int → GValue → GValue
 | i, .mk _ _ s k l => .mk i (i + 1) (mB (i + 1 + 1) s) (mBB (i + 1 + 1 + s.length) k) (mVs (i + 1 + 1 + s.length + cB k) l)
def mVs : Int → List GValue → List GValue
 | _, [] => []
 | i, v :: l => mV i v :: mVs (i + cV v) l
end
theorem AS (v : GValue) : cV v = 2 + (v.S.length + (cB v.K + cVs v.L)) := by cases v; simp only [cV, GValue.S, GValue.K, GValue.L]
theorem AT (i : Int) (v : GValue) : mV i v = .mk i (i + 1) (mB (i + 1 + 1) v.S) (mBB (i + 1 + 1 + v.S.length) v.K) (mVs (i + 1 + 1 + v.S.length + cB v.K) v.L) := by cases v; simp only [mV, GValue.S, GValue.K, GValue.L]
mutual
theorem DO : ∀ (i : Int) (v : GValue), cV (mV i v) = cV v
 | i, .mk _ _ s k l => by simp only [mV, cV, vt, Jn, Hr]
theorem Hr : ∀ (i : Int) (l : List GValue), cVs (mVs i l) = cVs l
 | _, [] => rfl
 | i, v :: l => by simp only [mVs, cVs, DO i v, Hr _ l]
end
mutual
theorem El : ∀ (i : Int) (v : GValue), mV i (mV i v) = mV i v
 | i, .mk _ _ s k l => by simp only [mV, vt, Jn, JD, PK, PM]
theorem PM : ∀ (i : Int) (l : List GValue), mVs i (mVs i l) = mVs i l
 | _, [] => rfl
 | i, v :: l => by simp only [mVs, DO, El i v, PM _ l]
end
mutual
theorem Bo : ∀ (i : Int) (v : GValue), vsz (mV i v) = vsz v
 | i, .mk _ _ s k l => by simp only [mV, vsz, vt, OM, Np]
theorem Np : ∀ (i : Int) (l : List GValue), wT (mVs i l) = wT l
 | _, [] => rfl
 | i, v :: l => by simp only [mVs, wT, Bo i v, Np _ l]
end
mutual
theorem Bp : ∀ v : GValue, cV v <= 2 + 2 * vsz v
 | .mk _ _ s k l => by have := Nq l; have := ZV k; simp only [cV, vsz]; omega
theorem Nq : ∀ l : List GValue, cVs l <= 2 * wT l
 | [] => by simp [cVs, wT]
 | v :: l => by have := Bp v; have := Nq l; simp only [cVs, wT]; omega
end
/- addresses -/
theorem DP {α : Type} {l : List α} {i : Nat} (h : i <= l.length) : Z2 l none (some i) = some (l.take i) := by
 unfold Z2 ZL; rw [if_pos ⟨by simp, by simpa using h⟩]; simp
theorem BY {α : Type} {l : List α} {i : Nat} (h : i <= l.length) : Z2 l (some i) none = some (l.drop i) := by
 unfold Z2 ZL; rw [if_pos ⟨by simpa using h, by simp⟩]; simp
theorem As {α : Type} {l : List α} (h : 2 <= l.length) : Z2 l (some 1) (some (l.length - 1)) = some ((l.drop 1).dropLast) := by
 unfold Z2 ZL
 rw [if_pos ⟨by simp; omega, by simp⟩]
 simp only [Option.getD_some, Option.map_some, List.dropLast_eq_take, List.length_drop, List.drop_take]
theorem BZ {α : Type} {l : List α} (h : 0 < l.length) : l[l.length - 1]? = l.getLast? := by rw [List.getLast?_eq_getElem?]
def AU (n : Nat) : List UInt8 := if n < 10 then [UInt8.ofNat (48 + n)] else [UInt8.ofNat (48 + n / 10), UInt8.ofNat (48 + n % 10)]
def Aa (l : List UInt8) : Bool := decide (1 <= l.length ∧ l.length <= 2) && !(decide (l.length = 2) && decide (l[0]? = some 48)) && l.all (inB 48 57)
def Ab (l : List UInt8) : Bool := if l[0]? = some 34 then (if (l.drop 1).getLast? = some 34 then yV (l.drop 1).dropLast else false) else Aa l
def Tf (b : List UInt8) : List UInt8 := b.takeWhile fun x => decide (x ≠ 91)
def WP (b : List UInt8) : List UInt8 := b.dropWhile fun x => decide (x ≠ 91)
theorem LM (b : List UInt8) : Tf b ++ WP b = b := List.takeWhile_append_dropWhile
theorem At (b : List UInt8) : b.take (Tf b).length = Tf b := by
 conv => lhs; arg 2; rw [<- LM b]
 exact List.take_left
theorem Au (b : List UInt8) : b.drop (Tf b).length = WP b := by
 conv => lhs; arg 2; rw [<- LM b]
 exact List.drop_left
theorem AD (b : List UInt8) : (Tf b).length + (WP b).length = b.length := by
 rw [<- List.length_append, LM]
theorem Av {b : List UInt8} (h : WP b ≠ []) : ∃ t, WP b = 91 :: t := by
 unfold WP at h ⊢
 induction b with
 | nil => exact (h rfl).elim
 | cons x b ih =>
  rw [List.dropWhile_cons] at h ⊢
  by_cases hx : x = 91
  ·subst hx
   exact ⟨b, by rw [if_neg (by simp)]⟩
  ·rw [if_pos (by simpa using hx)] at h ⊢
   exact ih h
def Bq (b : List UInt8) : Bool := yV (Tf b) && (if WP b = [] then true else if ((WP b).drop 1).getLast? = some 93 then Ab ((WP b).drop 1).dropLast else false)
theorem B7 {b : List UInt8} (h : yV b = true) : 1 <= b.length ∧ b.length <= 8 := by
 unfold yV at h
 rw [Bool.and_eq_true] at h
 exact of_decide_eq_true h.1
def gOk {α : Type} (p : α → Bool) (key : α → List UInt8) (l : List α) (j : Nat) : Bool := match l[j]? with
 | some b => p b && (decide (j = 0) || match l[j - 1]? with | some a => Op.bytesLess (key a) (key b) | none => false)
 | none => false
def WQ {α : Type} (p : α → Bool) (key : α → List UInt8) (l : List α) (i d : Nat) : Bool := (List.range' i d).all (gOk p key l)
theorem B8 {α : Type} (p : α → Bool) (key : α → List UInt8) (l : List α) (i : Nat) : WQ p key l i 0 = true := rfl
theorem B9 {α : Type} (p : α → Bool) (key : α → List UInt8) (l : List α) (i d : Nat) : WQ p key l i (d + 1) = (gOk p key l i && WQ p key l (i + 1) d) := by
 unfold WQ; rw [List.range'_succ, List.all_cons]
theorem DQ {α : Type} {p : α → Bool} {key : α → List UInt8} {l : List α} {i : Nat} (h : i < l.length) (h0 : 0 < i) : gOk p key l i = (p l[i] && Op.bytesLess (key (l[i - 1]'(by omega))) (key l[i])) := by
 unfold gOk
 rw [zu h]
 simp only
 rw [zu (show i - 1 < l.length by omega)]
 simp [show i ≠ 0 by omega]
theorem Ac {α : Type} {p : α → Bool} {key : α → List UInt8} {l : List α} (h : 0 < l.length) : gOk p key l 0 = p l[0] := by
 unfold gOk
 rw [zu h]
 simp
theorem ON {α : Type} {p : α → Bool} {key : α → List UInt8} {l : List α} (h : WQ p key l 0 l.length = true) {j : Nat} (hj : j < l.length) : gOk p key l j = true := by
 unfold WQ at h
 exact List.all_eq_true.1 h j (List.mem_range'_1.2 ⟨by omega, by omega⟩)
theorem AE {α : Type} {p : α → Bool} {key : α → List UInt8} {l : List α} (h : WQ p key l 0 l.length = true) {x : α} (hx : x ∈ l) : p x = true := by
 obtain ⟨j, hj, rfl⟩ := List.mem_iff_getElem.1 hx
 have := ON h hj
 unfold gOk at this
 rw [zu hj] at this
 simp only [Bool.and_eq_true] at this
 exact this.1
theorem Ad {α : Type} {p : α → Bool} {key : α → List UInt8} {l : List α} (h : WQ p key l 0 l.length = true) : Asc (l.map key) := by
 intro i j
 induction j with
 | zero => intro _ h; omega
 | succ j ih =>
  intro hj hij
  rw [List.length_map] at hj
  have hk := ON h hj
  rw [DQ hj (by omega), Bool.and_eq_true] at hk
  have h1 := hk.2
  rw [List.getElem_map, List.getElem_map]
  rcases Nat.lt_or_ge i j with hlt | hge
  ·have := ih (by rw [List.length_map]; omega) hlt
   rw [List.getElem_map, List.getElem_map] at this
   exact kY this h1
  ·obtain rfl : i = j := by omega
   exact h1
def AF (l : List (List UInt8)) : Bool := decide (l.length <= 8) && WQ Bq id l 0 l.length
def AV (v : GValue) : Bool := decide (v.Kind = 5) && LL v && knV v
theorem PN {u : Nat} (h : u < 18446744073709551616) : Lib.nDigits u <= 20 := by
 by_cases h0 : u < 10
 ·rw [Lib.nDigits_small h0]; decide
 ·have := Lib.numDigits_eq u (by omega) h
  split at this <;> omega
def ZG : List UInt8 → List UInt8
 | [] => []
 | x :: l => (if x = 34 ∨ x = 92 then [92, x] else [x]) ++ ZG l
def Yq (s : List UInt8) : List UInt8 := 34 :: (ZG s ++ [34])
theorem ZH : ∀ s : List UInt8, (ZG s).length <= 2 * s.length
 | [] => Nat.le_refl _
 | x :: l => by
  have := ZH l
  rw [ZG, List.length_append, List.length_cons]
  split <;> simp only [List.length_cons, List.length_nil] <;> omega
mutual
def jy : GValue → List UInt8
 | .mk kd n s k l => if kd = 0 then [110, 117, 108, 108] else if kd = 1 then (if n = 1 then [116, 114, 117, 101] else [102, 97, 108, 115, 101]) else if kd = 2 then Lib.itoa n else if kd = 3 then Yq s else if kd = 6 then [63]
  else if kd = 5 then 123 :: (jW true true k l ++ [125]) else 91 :: (jW false true k l ++ [93])
def jW : Bool → Bool → List (List UInt8) → List GValue → List UInt8
 | _, _, _, [] => []
 | m, f, k, v :: l => (if f = true then [] else [44, 32]) ++ ((if m = true then (k.headD []) ++ [32, 61, 32] else []) ++ (jy v ++ jW m false k.tail l))
end
theorem Tg (v : GValue) : jy v = if v.Kind = 0 then [110, 117, 108, 108] else if v.Kind = 1 then (if v.N = 1 then [116, 114, 117, 101] else [102, 97, 108, 115, 101]) else if v.Kind = 2 then Lib.itoa v.N else if v.Kind = 3 then Yq v.S else if v.Kind = 6 then [63]
  else if v.Kind = 5 then 123 :: (jW true true v.K v.L ++ [125]) else 91 :: (jW false true v.K v.L ++ [93]) := by
 cases v; rw [jy]; rfl
theorem OO {v : GValue} (h : PI v = true) : (v.Kind = 1 → 0 <= v.N ∧ v.N <= 1) ∧ (v.Kind = 2 → -1000000000000 <= v.N ∧ v.N <= 1000000000000) ∧ (v.Kind = 5 → v.K.length = v.L.length) ∧ v.L.length <= 40 := by
 unfold PI at h
 by_cases k0 : v.Kind = 0 ∨ v.Kind = 6
 ·rw [if_pos k0] at h
  have h := of_decide_eq_true h
  exact ⟨fun e => by omega, fun e => by omega, fun e => by omega, by omega⟩
 rw [if_neg k0] at h
 by_cases k1 : v.Kind = 1
 ·rw [if_pos k1] at h
  have h := of_decide_eq_true h
  exact ⟨fun _ => h.1, fun e => by omega, fun e => by omega, by omega⟩
 rw [if_neg k1] at h
 by_cases k2 : v.Kind = 2
 ·rw [if_pos k2] at h
  have h := of_decide_eq_true h
  exact ⟨fun e => by omega, fun _ => h.1, fun e => by omega, by omega⟩
 rw [if_neg k2] at h
 by_cases k3 : v.Kind = 3
 ·rw [if_pos k3, Bool.and_eq_true] at h
  have h := of_decide_eq_true h.2
  exact ⟨fun e => by omega, fun e => by omega, fun e => by omega, by omega⟩
 rw [if_neg k3] at h
 by_cases k4 : v.Kind = 4
 ·rw [if_pos k4] at h
  have h := of_decide_eq_true h
  exact ⟨fun e => by omega, fun e => by omega, fun e => by omega, by omega⟩
 rw [if_neg k4] at h
 by_cases k5 : v.Kind = 5
 ·rw [if_pos k5, Bool.and_eq_true] at h
  have h1 := of_decide_eq_true h.1
  exact ⟨fun e => by omega, fun e => by omega, fun _ => h1.1, by omega⟩
 ·rw [if_neg k5] at h; cases h
theorem KZ {n : Int} (h0 : -4611686018427387904 <= n) (h1 : n <= 4611686018427387904) : (Lib.itoa n).length <= 21 := by
 have key : ∀ u : Nat, u <= 4611686018427387904 → (Lib.decDigits u).length <= 20 := fun u hu => by rw [Lib.decDigits_length]; exact PN (by omega)
 unfold Lib.itoa
 split
 ·have := key n.natAbs (by omega); simp only [List.length_cons]; omega
 ·have := key n.toNat (by omega); omega
theorem Va (k : List (List UInt8)) : (k.headD []).length + bsz k.tail <= bsz k := by
 cases k with
 | nil => decide
 | cons x k => rw [qM]; show x.length + bsz k <= _; omega
theorem Jo {p : GValue → Prop} (hp : ∀ v, p v → (jy v).length <= 23 * vsz v + 21) (m : Bool) : ∀ (l : List GValue) (f : Bool) (k : List (List UInt8)), (∀ v ∈ l, p v) → (m = true → l.length <= k.length) → (jW m f k l).length <= 23 * wT l + 23 * (if m = true then bsz k else 0)
 | [], f, k, _, _ => by rw [jW]; exact Nat.zero_le _
 | v :: l, f, k, hl, hk => by
  have h1 := hp v (hl v List.mem_cons_self)
  have h2 := Jo hp m l false k.tail (fun x hx => hl x (List.mem_cons_of_mem _ hx)) (fun hm => by have := hk hm; simp only [List.length_cons] at this; rw [List.length_tail]; omega)
  rw [jW]
  simp only [List.length_append, wT]
  have h3 : (if f = true then ([] : List UInt8) else [44, 32]).length <= 2 := by split <;> decide
  cases m with
  | false => simp only [Bool.false_eq_true, if_false, List.length_nil] at h2 ⊢; omega
  | true =>
   simp only [if_true] at h2 ⊢
   have hk' := hk rfl
   cases k with
   | nil => simp at hk'
   | cons x k =>
    rw [qM]
    simp only [List.headD_cons, List.tail_cons, List.length_append, List.length_cons, List.length_nil] at h2 ⊢
    omega
theorem WR : ∀ (d : Nat) (v : GValue), shV d v = true → (jy v).length <= 23 * vsz v + 21
 | 0, v, h => by cases h
 | d + 1, v, h => by
  rw [shV, Bool.and_eq_true, List.all_eq_true] at h
  obtain ⟨h1, h2⟩ := h
  obtain ⟨l1, l2, l3, l4⟩ := OO h1
  have hv := PG v
  rw [Tg]
  split
  ·simp only [List.length_cons, List.length_nil]; omega
  split
  ·split <;> simp only [List.length_cons, List.length_nil] <;> omega
  split
  ·rename_i c
   have := KZ (n := v.N) (by have := l2 c; omega) (by have := l2 c; omega)
   omega
  split
  ·have := ZH v.S
   simp only [Yq, List.length_cons, List.length_append, List.length_nil]; omega
  split
  ·simp only [List.length_cons, List.length_nil]; omega
  split
  ·rename_i c
   have := Jo (p := fun x => shV d x = true) (fun x hx => WR d x hx) true v.L true v.K (fun x hx => h2 x hx) (fun _ => by rw [l3 c]; exact Nat.le_refl _)
   simp only [if_true] at this
   simp only [List.length_cons, List.length_append, List.length_nil]; omega
  ·have := Jo (p := fun x => shV d x = true) (fun x hx => WR d x hx) false v.L true v.K (fun x hx => h2 x hx) (fun e => by cases e)
   simp only [Bool.false_eq_true, if_false] at this
   simp only [List.length_cons, List.length_append, List.length_nil]; omega
def brk (m : Nat) (kd : Int) (t : List UInt8) : List UInt8 := if (1 <= m ∧ 15 <= kd ∧ kd <= 22) ∨ (m = 2 ∧ (kd = 13 ∨ kd = 14)) then 40 :: (t ++ [41]) else t
def WS (kd : Int) : List UInt8 := if kd = 15 then [32, 42, 32] else if kd = 16 then [32, 43, 32] else if kd = 17 then [32, 45, 32] else if kd = 18 then [32, 61, 61, 32] else if kd = 19 then [32, 60, 32] else if kd = 20 then [32, 38, 38, 32] else [32, 124, 124, 32]
mutual
def zq : GExpr → List UInt8
 | .mk kd n s k l => if kd = 0 then [110, 117, 108, 108] else if kd = 1 then (if n = 1 then [116, 114, 117, 101] else [102, 97, 108, 115, 101]) else if kd = 2 then Lib.itoa n else if kd = 3 then Yq s
  else if kd = 4 then 91 :: (yW false true k l ++ [93]) else if kd = 5 then 123 :: (yW true true k l ++ [125]) else if kd = 6 then 36 :: s else if kd = 7 then s
  else if kd = 8 then yU 2 0 l ++ (46 :: s) else if kd = 9 then yU 2 0 l ++ (91 :: (yU 0 1 l ++ [93]))
  else if kd = 10 then [105, 110, 100, 101, 120] else if kd = 11 then [107, 101, 121] else if kd = 12 then [118, 97, 108]
  else if kd = 13 then 33 :: yU 1 0 l else if kd = 14 then 45 :: yU 1 0 l
  else if kd = 22 then yU 1 0 l ++ ([32, 63, 32] ++ (yU 1 1 l ++ ([32, 58, 32] ++ yU 1 2 l)))
  else if kd = 23 then s ++ (40 :: (yW false true k l ++ [41]))
  else yU 1 0 l ++ (WS kd ++ yU 1 1 l)
def yW : Bool → Bool → List (List UInt8) → List GExpr → List UInt8
 | _, _, _, [] => []
 | m, f, k, v :: l => (if f = true then [] else [44, 32]) ++ ((if m = true then (k.headD []) ++ [32, 61, 32] else []) ++ (zq v ++ yW m false k.tail l))
def yU : Nat → Nat → List GExpr → List UInt8
 | _, _, [] => []
 | m, 0, v :: _ => brk m v.Kind (zq v)
 | m, i + 1, _ :: l => yU m i l
end
theorem xO (v : GExpr) : zq v = if v.Kind = 0 then [110, 117, 108, 108] else if v.Kind = 1 then (if v.N = 1 then [116, 114, 117, 101] else [102, 97, 108, 115, 101]) else if v.Kind = 2 then Lib.itoa v.N else if v.Kind = 3 then Yq v.S
  else if v.Kind = 4 then 91 :: (yW false true v.K v.Kids ++ [93]) else if v.Kind = 5 then 123 :: (yW true true v.K v.Kids ++ [125]) else if v.Kind = 6 then 36 :: v.S else if v.Kind = 7 then v.S
  else if v.Kind = 8 then yU 2 0 v.Kids ++ (46 :: v.S) else if v.Kind = 9 then yU 2 0 v.Kids ++ (91 :: (yU 0 1 v.Kids ++ [93]))
  else if v.Kind = 10 then [105, 110, 100, 101, 120] else if v.Kind = 11 then [107, 101, 121] else if v.Kind = 12 then [118, 97, 108]
  else if v.Kind = 13 then 33 :: yU 1 0 v.Kids else if v.Kind = 14 then 45 :: yU 1 0 v.Kids
  else if v.Kind = 22 then yU 1 0 v.Kids ++ ([32, 63, 32] ++ (yU 1 1 v.Kids ++ ([32, 58, 32] ++ yU 1 2 v.Kids)))
  else if v.Kind = 23 then v.S ++ (40 :: (yW false true v.K v.Kids ++ [41]))
  else yU 1 0 v.Kids ++ (WS v.Kind ++ yU 1 1 v.Kids) := by
 cases v; rw [zq]; rfl
theorem Vb (m : Nat) : ∀ (l : List GExpr) (i : Nat) (v : GExpr), l[i]? = some v → yU m i l = brk m v.Kind (zq v)
 | [], i, v, h => by simp at h
 | x :: l, 0, v, h => by
  have h : some x = some v := h
  injection h with h
  subst h
  rw [yU]
 | x :: l, i + 1, v, h => by rw [yU]; exact Vb m l i v h
theorem Th (m : Nat) (kd : Int) (t : List UInt8) : (brk m kd t).length <= t.length + 2 := by
 unfold brk
 split
 ·simp only [List.length_cons, List.length_append, List.length_nil]; omega
 ·omega
theorem WU (m : Nat) {p : GExpr → Prop} (hp : ∀ v, p v → (zq v).length <= 31 * xsz v + 21) : ∀ (l : List GExpr) (i : Nat), (∀ v ∈ l, p v) → (yU m i l).length <= 31 * zx (l.take (i + 1)) - 31 * zx (l.take i)
 | [], i, _ => by rw [yU]; exact Nat.zero_le _
 | x :: l, 0, h => by
  have h1 := Th m x.Kind (zq x)
  have h2 := hp x (h x List.mem_cons_self)
  rw [yU]
  simp only [List.take_succ_cons, List.take_zero, zx]
  omega
 | x :: l, i + 1, h => by
  have := WU m hp l i (fun v hv => h v (List.mem_cons_of_mem _ hv))
  rw [yU]
  simp only [List.take_succ_cons, zx]
  omega
theorem X9 (l : List GExpr) : ∀ i j, i <= j → zx (l.take i) <= zx (l.take j) := by
 induction l with
 | nil => intro i j _; simp
 | cons x l ih =>
  intro i j h
  cases i with
  | zero => simp [zx]
  | succ i =>
   cases j with
   | zero => omega
   | succ j => simp only [List.take_succ_cons, zx]; have := ih i j (by omega); omega
theorem PO (l : List GExpr) (i : Nat) : zx (l.take i) <= zx l := by
 have := X9 l i (i + l.length) (by omega)
 rwa [List.take_of_length_le (i := i + l.length) (by omega)] at this
theorem kB {p : GExpr → Prop} (hp : ∀ v, p v → (zq v).length <= 31 * xsz v + 21) (m : Bool) : ∀ (l : List GExpr) (f : Bool) (k : List (List UInt8)), (∀ v ∈ l, p v) → (m = true → l.length <= k.length) → (yW m f k l).length <= 31 * zx l + 31 * (if m = true then bsz k else 0)
 | [], f, k, _, _ => by rw [yW]; exact Nat.zero_le _
 | v :: l, f, k, hl, hk => by
  have h1 := hp v (hl v List.mem_cons_self)
  have h2 := kB hp m l false k.tail (fun x hx => hl x (List.mem_cons_of_mem _ hx)) (fun hm => by have := hk hm; simp only [List.length_cons] at this; rw [List.length_tail]; omega)
  rw [yW]
  simp only [List.length_append, zx]
  have h3 : (if f = true then ([] : List UInt8) else [44, 32]).length <= 2 := by split <;> decide
  cases m with
  | false => simp only [Bool.false_eq_true, if_false, List.length_nil] at h2 ⊢; omega
  | true =>
   simp only [if_true] at h2 ⊢
   have hk' := hk rfl
   cases k with
   | nil => simp at hk'
   | cons x k =>
    rw [qM]
    simp only [List.headD_cons, List.tail_cons, List.length_append, List.length_cons, List.length_nil] at h2 ⊢
    omega
theorem Jp (k : Int) : (WS k).length <= 4 := by unfold WS; (repeat' split) <;> simp
open Classical in
theorem ZI {v : GExpr} (h : qN v = true) : (0 <= v.Kind ∧ v.Kind <= 23) ∧ (v.Kind = 1 → 0 <= v.N ∧ v.N <= 1) ∧ (v.Kind = 2 → 0 <= v.N ∧ v.N <= 1000000000000) ∧ (v.Kind = 5 → v.K.length = v.Kids.length) ∧ v.Kids.length <= 150 ∧ (v.Kind = 8 ∨ v.Kind = 13 ∨ v.Kind = 14 → v.Kids.length = 1) ∧ (v.Kind = 9 ∨ (15 <= v.Kind ∧ v.Kind <= 21) → v.Kids.length = 2) ∧ (v.Kind = 22 → v.Kids.length = 3) ∧ (v.Kind = 3 → ZP v.S = true) ∧ (v.Kind ≠ 1 → v.Kind ≠ 2 → v.N = 0) ∧ (v.Kind ≠ 3 → v.Kind ≠ 6 → v.Kind ≠ 8 → v.Kind ≠ 7 → v.Kind ≠ 23 → v.S.length = 0) := by
 unfold qN at h
 rw [Bool.and_eq_true] at h
 obtain ⟨h1, h2⟩ := of_decide_eq_true h.1
 unfold vh ZE at h1
 obtain ⟨g1, g2, g3, g4, g5, g6, g7, g8, g9, g10, g11⟩ := h1
 obtain ⟨a1, a2, a3, a4, a5⟩ := JC v.Kind
 refine ⟨g1, g5, g6, fun e => by have := g3 e; omega, h2, fun e => ?_, fun e => ?_, fun e => ?_, fun e => ?_, g7, fun b1 b2 b3 b4 b5 => by have := g11 b1 b2 b3 b4 b5; omega⟩
 ·rw [a2 e] at g2; have := g2 (by decide); omega
 ·rw [a3 e] at g2; have := g2 (by decide); omega
 ·rw [a4 e] at g2; have := g2 (by decide); omega
 ·have := g8 e
  cases hb : ZP v.S with
  | true => rfl
  | false => rw [hb] at this; cases this
theorem xb : ∀ (d : Nat) (v : GExpr), frX d v = true → (zq v).length <= 31 * xsz v + 21
 | 0, v, h => by simp [frX] at h
 | d + 1, v, h => by
  rw [frX, Bool.and_eq_true, List.all_eq_true] at h
  obtain ⟨h1, h2⟩ := h
  obtain ⟨l1, l2, l3, l4, l5, _⟩ := ZI h1
  have hv := xN v
  have hp : ∀ x, frX d x = true → (zq x).length <= 31 * xsz x + 21 := fun x hx => xb d x hx
  have k0 := fun m => WU m hp v.Kids 0 (fun x hx => h2 x hx)
  have k1 := fun m => WU m hp v.Kids 1 (fun x hx => h2 x hx)
  have k2 := fun m => WU m hp v.Kids 2 (fun x hx => h2 x hx)
  have t1 := X9 v.Kids 0 1 (by decide)
  have t2 := X9 v.Kids 1 2 (by decide)
  have t3 := X9 v.Kids 2 3 (by decide)
  have t4 := PO v.Kids 3
  have t0 : zx (v.Kids.take 0) = 0 := by simp [zx]
  have hs := Jp v.Kind
  have a0 : (yU 0 0 v.Kids).length <= 31 * zx (v.Kids.take 1) - 31 * zx (v.Kids.take 0) := k0 0
  have a1 : (yU 1 0 v.Kids).length <= 31 * zx (v.Kids.take 1) - 31 * zx (v.Kids.take 0) := k0 1
  have a2 : (yU 2 0 v.Kids).length <= 31 * zx (v.Kids.take 1) - 31 * zx (v.Kids.take 0) := k0 2
  have b0 : (yU 0 1 v.Kids).length <= 31 * zx (v.Kids.take 2) - 31 * zx (v.Kids.take 1) := k1 0
  have b1 : (yU 1 1 v.Kids).length <= 31 * zx (v.Kids.take 2) - 31 * zx (v.Kids.take 1) := k1 1
  have c1 : (yU 1 2 v.Kids).length <= 31 * zx (v.Kids.take 3) - 31 * zx (v.Kids.take 2) := k2 1
  have q1 : (yW false true v.K v.Kids).length <= 31 * zx v.Kids := by
   have := kB hp false v.Kids true v.K (fun x hx => h2 x hx) (fun e => by cases e)
   rw [if_neg (by decide)] at this; omega
  have q2 : v.Kind = 5 → (yW true true v.K v.Kids).length <= 31 * zx v.Kids + 31 * bsz v.K := fun e => by
   have := kB hp true v.Kids true v.K (fun x hx => h2 x hx) (fun _ => by rw [l4 e]; exact Nat.le_refl _)
   rw [if_pos rfl] at this; omega
  clear hp
  rw [xO]
  by_cases e : v.Kind = 0
  ·rw [if_pos e]
   simp only [List.length_cons, List.length_append, List.length_nil]; omega
  rw [if_neg e]
  clear e
  by_cases e : v.Kind = 1
  ·rw [if_pos e]
   split <;> simp only [List.length_cons, List.length_nil] <;> omega
  rw [if_neg e]
  clear e
  by_cases e : v.Kind = 2
  ·rw [if_pos e]
   have := KZ (n := v.N) (by have := l3 e; omega) (by have := l3 e; omega)
   omega
  rw [if_neg e]
  clear e
  by_cases e : v.Kind = 3
  ·rw [if_pos e]
   have := ZH v.S
   simp only [Yq, List.length_cons, List.length_append, List.length_nil]; omega
  rw [if_neg e]
  clear e
  by_cases e : v.Kind = 4
  ·rw [if_pos e]
   simp only [List.length_cons, List.length_append, List.length_nil]; omega
  rw [if_neg e]
  clear e
  by_cases e : v.Kind = 5
  ·rw [if_pos e]
   have := q2 e
   simp only [List.length_cons, List.length_append, List.length_nil]; omega
  rw [if_neg e]
  clear e
  by_cases e : v.Kind = 6
  ·rw [if_pos e]
   simp only [List.length_cons]; omega
  rw [if_neg e]
  clear e
  by_cases e : v.Kind = 7
  ·rw [if_pos e]
   omega
  rw [if_neg e]
  clear e
  by_cases e : v.Kind = 8
  ·rw [if_pos e]
   simp only [List.length_cons, List.length_append]; omega
  rw [if_neg e]
  clear e
  by_cases e : v.Kind = 9
  ·rw [if_pos e]
   simp only [List.length_cons, List.length_append, List.length_nil]; omega
  rw [if_neg e]
  clear e
  by_cases e : v.Kind = 10
  ·rw [if_pos e]
   simp only [List.length_cons, List.length_nil]; omega
  rw [if_neg e]
  clear e
  by_cases e : v.Kind = 11
  ·rw [if_pos e]
   simp only [List.length_cons, List.length_nil]; omega
  rw [if_neg e]
  clear e
  by_cases e : v.Kind = 12
  ·rw [if_pos e]
   simp only [List.length_cons, List.length_nil]; omega
  rw [if_neg e]
  clear e
  by_cases e : v.Kind = 13
  ·rw [if_pos e]
   simp only [List.length_cons]; omega
  rw [if_neg e]
  clear e
  by_cases e : v.Kind = 14
  ·rw [if_pos e]
   simp only [List.length_cons]; omega
  rw [if_neg e]
  clear e
  by_cases e : v.Kind = 22
  ·rw [if_pos e]
   simp only [List.length_cons, List.length_append, List.length_nil]; omega
  rw [if_neg e]
  clear e
  by_cases e : v.Kind = 23
  ·rw [if_pos e]
   simp only [List.length_cons, List.length_append, List.length_nil]; omega
  rw [if_neg e]
  clear e
  simp only [List.length_append]; omega
def itz (x : GItem) : Nat := x.Name.length + xsz x.By + bsz x.Names + zx x.Exprs
def yE : List GItem → Nat
 | [] => 0
 | v :: l => 1 + itz v + yE l
theorem ZJ {l : List GItem} {v : GItem} (h : v ∈ l) : 1 + itz v <= yE l := by
 induction l with
 | nil => cases h
 | cons x l ih =>
  simp only [yE]
  rcases List.mem_cons.1 h with rfl | h
  ·omega
  ·have := ih h; omega
theorem ql (l : List GItem) : l.length <= yE l := by
 induction l with
 | nil => simp
 | cons x l ih => simp only [yE, List.length_cons]; omega
def cIt (x : GItem) : Nat := 2 + x.Name.length + cX x.By + cB x.Names + cXs x.Exprs
def Yr : List GItem → Nat
 | [] => 0
 | x :: l => cIt x + Yr l
def mIt (k : Int) (x : GItem) : GItem := .mk k (mB (k + 1) x.Name) (k + 1 + x.Name.length) (mX (k + 1 + x.Name.length + 1) x.By) (mBB (k + 1 + x.Name.length + 1 + cX x.By) x.Names) (mXs (k + 1 + x.Name.length + 1 + cX x.By + cB x.Names) x.Exprs)
def Jq : Int → List GItem → List GItem
 | _, [] => []
 | k, x :: l => mIt k x :: Jq (k + cIt x) l
theorem Nr (x : GItem) : cIt x <= 4 + 2 * itz x := by
 have h1 := U0 x.By
 have h2 := ZV x.Names
 have h3 := Wg x.Exprs
 unfold cIt itz
 omega
theorem OP : ∀ l : List GItem, Yr l <= 4 * yE l
 | [] => Nat.le_refl _
 | e :: l => by have := Nr e; have := OP l; simp only [Yr, yE]; omega
structure ItTx (x : GItem) : Prop where
 k : 0 <= x.Kind ∧ x.Kind <= 2
 ex : x.Exprs.all (frX 10) = true
 nm : x.Kind = 1 → x.Names.length = x.Exprs.length
 one : x.Kind ≠ 1 → x.Exprs.length = 1
 bf : x.Kind = 1 → x.Many ≠ 0 → frX 10 x.By = true
def jz (k : Int) : List UInt8 := if k = 0 then [108, 111, 99, 97, 108] else if k = 1 then [114, 101, 115] else [111, 117, 116]
def jX : List (List UInt8) → List GExpr → List UInt8
 | n :: ns, e :: es => 32 :: (n ++ ([32, 61, 32] ++ (zq e ++ jX ns es)))
 | _, _ => []
def Vc : List GExpr → List UInt8
 | e :: _ => zq e
 | [] => []
def itT (x : GItem) : List UInt8 := jz x.Kind ++ (32 :: (x.Name ++ (if x.Kind = 1 then (if x.Many = 1 then [32, 99, 111, 117, 110, 116, 32] ++ zq x.By else if x.Many = 2 then [32, 101, 97, 99, 104, 32] ++ zq x.By else []) ++ ([32, 123] ++ (jX x.Names x.Exprs ++ [32, 125])) else [32, 61, 32] ++ Vc x.Exprs)))
def Xg : List GItem → List UInt8
 | [] => []
 | x :: l => itT x ++ (10 :: Xg l)
theorem Jr (k : Int) : (jz k).length <= 5 := by unfold jz; (repeat' split) <;> simp
theorem XA : ∀ (ns : List (List UInt8)) (es : List GExpr), es.all (frX 10) = true → (jX ns es).length <= 31 * zx es + 31 * bsz ns
 | [], [], _ => Nat.zero_le _
 | [], _ :: _, _ => Nat.zero_le _
 | _ :: _, [], _ => Nat.zero_le _
 | n :: ns, e :: es, h => by
  rw [List.all_cons, Bool.and_eq_true] at h
  have h1 := xb 10 e h.1
  have h2 := XA ns es h.2
  rw [jX, qM]
  simp only [zx, List.length_append, List.length_cons, List.length_nil]
  omega
theorem Wh {x : GItem} (h : ItTx x) : (itT x).length <= 31 * itz x + 45 := by
 have h1 := Jr x.Kind
 have h2 := XA x.Names x.Exprs h.ex
 unfold itT itz
 by_cases k : x.Kind = 1
 ·rw [if_pos k]
  by_cases m0 : x.Many = 0
  ·rw [if_neg (by omega), if_neg (by omega)]
   simp only [List.length_append, List.length_cons, List.length_nil]; omega
  ·have h3 := xb 10 x.By (h.bf k m0)
   have h4 : (if x.Many = 1 then [32, 99, 111, 117, 110, 116, 32] ++ zq x.By else if x.Many = 2 then [32, 101, 97, 99, 104, 32] ++ zq x.By else []).length <= 7 + (zq x.By).length := by
    split
    ·simp only [List.length_append, List.length_cons, List.length_nil]; omega
    ·split
     ·simp only [List.length_append, List.length_cons, List.length_nil]; omega
     ·simp
   simp only [List.length_append, List.length_cons, List.length_nil]
   omega
 ·rw [if_neg k]
  have h4 : (Vc x.Exprs).length <= 31 * zx x.Exprs + 21 := by
   have he := h.ex
   cases hE : x.Exprs with
   | nil => exact Nat.zero_le _
   | cons e l =>
    rw [hE, List.all_cons, Bool.and_eq_true] at he
    have := xb 10 e he.1
    simp only [Vc, zx]; omega
  simp only [List.length_append, List.length_cons, List.length_nil]; omega
theorem PP : ∀ {l : List GItem}, (∀ x ∈ l, ItTx x) → (Xg l).length <= 80 * yE l
 | [], _ => Nat.le_refl _
 | x :: l, h => by
  have h1 := Wh (h x List.mem_cons_self)
  have h2 := PP fun y hy => h y (List.mem_cons_of_mem _ hy)
  rw [Xg]
  simp only [yE, List.length_append, List.length_cons]
  omega
theorem zw {f : FuncId} {fn : Func} (h : Tryd.prog.funcs[f]? = some fn) (hu : LP.contains f = true := by kernel_rfl) (hb : fn.body.isSome = true := by kernel_rfl) : cfg.funcs f = some (Am.bodyOf fn, fn.ntmps, fn.results.toList) := by
 rw [TS]
 unfold LQ Xw
 rw [hu, h]
 obtain ⟨c, hc⟩ := Option.isSome_iff_exists.1 hb
 simp only [Option.bind_some, Am.bodyOf, hc, Option.map_some, cond_true]
abbrev Oc {α : Type} (o : Option α) (f : FuncId) (st : List Entry) (xs : List V) (enc : α → V × List Entry) : Prop := OkC cfg o f st xs enc
abbrev Ol {α : Type} (o : Option α) (f : FuncId) (b : Code) (s : S) (enc : α → Ex × S) : Prop := OkL cfg o f b s enc
def jH (a b : List UInt8) : Option Int := some (Lib.compareBytes a b)
def Ti (a : List UInt8) (b : UInt8) : Option Int := some (Lib.indexByte a b)
def qq (a0 a1 : Int) (e0 : List UInt8) : Option (List UInt8) := if a1 = 10 ∧ -9223372036854775808 <= a0 ∧ a0 <= 9223372036854775807 ∧ e0.length <= 2 ^ 40 then some (e0 ++ Lib.itoa a0) else none
def Em (a : List UInt8) : Option (Int × Bool) := if a.length <= 2 ^ 40 then some (yS a) else none
theorem WV (a0 a1 : Int) (e0 : List UInt8) : Oc (qq a0 a1 e0) 62 [.obj 1 (eL za e0)] [vr 0, vi a0, vi a1] fun r => (.val false [.own 1 (eL za r)], [.dead]) := by
 intro r h
 simp only [qq] at h
 split at h
 ·rename_i hc
  obtain rfl := Option.some.inj h
  refine LY ?_
  show ((bytesOf (eL za e0)).bind fun s => if a1 = 10 ∧ -9223372036854775808 <= a0 ∧ a0 <= 9223372036854775807 ∧ (eL za e0).length <= 2 ^ 40 then some ((V.val false [.own 1 (eL za e0 ++ qH (Lib.itoa a0))], [.dead]) : V × List Entry) else none) = _
  rw [W8, Option.bind_some, if_pos (by simpa [eL] using hc)]
  simp [eL, qH, za]
 ·cases h
theorem ZW (a b : List UInt8) : Oc (jH a b) 130 [] [vq za a, vq za b] fun r => (vi r, []) := by
 intro r h
 obtain rfl := Option.some.inj h
 refine LY ?_
 show ((bytesOf (eL za a)).bind fun x => (bytesOf (eL za b)).map fun y => ((V.val false [C.int .i64 (Lib.compareBytes x y)], []) : V × List Entry)) = _
 rw [W8, W8]; rfl
end
end Go.Am.Try
