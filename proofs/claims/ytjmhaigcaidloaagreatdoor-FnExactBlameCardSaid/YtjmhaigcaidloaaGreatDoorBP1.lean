/- The functions of the program in plain Lean, and that the machine answers as they do; conditions at each theorem. -/
import Derived.Test.YtjmhaigcaidloaaGreatDoorBS2
import Derived.Test.YtjmhaigcaidloaaGreatDoorBAmD
set_option linter.unusedVariables false
set_option linter.unusedSimpArgs false
namespace Go.Am.Try
open Go.Am Go.Proofs
set_option linter.unusedVariables false
noncomputable section
theorem O3 {α : Type} {f : α → List C} : ([] : List (List C)) = eL f [] := rfl
theorem TK {α : Type} {f : α → List C} {x : α} {c : List C} {xs : List α} {cs : List (List C)} (h : f x = c) (t : cs = eL f xs) : c :: cs = eL f (x :: xs) := by subst h; subst t; rfl
inductive GValue where
 | mk (Kind : Int) (N : Int) (S : (List UInt8)) (K : (List (List UInt8))) (L : (List GValue))
def GValue.Kind : GValue → Int
 | .mk x _ _ _ _ => x
def GValue.N : GValue → Int
 | .mk _ x _ _ _ => x
def GValue.S : GValue → (List UInt8)
 | .mk _ _ x _ _ => x
def GValue.K : GValue → (List (List UInt8))
 | .mk _ _ _ x _ => x
def GValue.L : GValue → (List GValue)
 | .mk _ _ _ _ x => x
theorem GValue.eta (x : GValue) : GValue.mk x.Kind x.N x.S x.K x.L = x := by cases x; rfl
mutual
def zf : GValue → List C
 | .mk Kind N S K L => [.int .i64 Kind, .int .i64 N, .seq (eL za S), .seq (eL (zt za) K), .seq (Y6 L)]
def Y6 : List GValue → List (List C)
 | [] => []
 | v :: l => zf v :: Y6 l
end
theorem Nu (l : List GValue) : Y6 l = eL zf l := by
 induction l with
 | nil => rfl
 | cons v l ih => simp only [Y6, ih]; rfl
def zq (x : GValue) : List C := [.int .i64 x.Kind, .int .i64 x.N, .seq (eL za x.S), .seq (eL (zt za) x.K), .seq (eL zf x.L)]
theorem zO (x : GValue) : zf x = zq x := by
 cases x; simp only [zf, zq, Nu, GValue.Kind, GValue.N, GValue.S, GValue.K, GValue.L]
mutual
def ye : GValue → List C
 | .mk Kind N S K L => [.int .i64 Kind, .int .i64 N, .own 1 (eL za S), .own 1 (eL (q9 1 za) K), .own 5 (kQ L)]
def kQ : List GValue → List (List C)
 | [] => []
 | v :: l => ye v :: kQ l
end
theorem Nv (l : List GValue) : kQ l = eL ye l := by
 induction l with
 | nil => rfl
 | cons v l ih => simp only [kQ, ih]; rfl
def jT (x : GValue) : List C := [.int .i64 x.Kind, .int .i64 x.N, .own 1 (eL za x.S), .own 1 (eL (q9 1 za) x.K), .own 5 (eL ye x.L)]
theorem vd (x : GValue) : ye x = jT x := by
 cases x; simp only [ye, jT, Nv, GValue.Kind, GValue.N, GValue.S, GValue.K, GValue.L]
mutual
theorem OX : ∀ x : GValue, yo (ye x) = zf x
 | .mk Kind N S K L => by have h := Pj L; simp only [ye, zf, yo, jZ, h, xB kh, xB (Tb 1 kh)]
theorem Pj : ∀ l : List GValue, xR (kQ l) = Y6 l
 | [] => rfl
 | v :: l => by have h := OX v; have g := Pj l; simp only [kQ, Y6, xR, h, g]
end
mutual
theorem OY : ∀ x : GValue, j6 (ye x) = true
 | .mk Kind N S K L => by have h := Pk L; simp only [ye, j6, qQ, h, xC kh, xC (Tb 1 kh), Bool.and_self]
theorem Pk : ∀ l : List GValue, ve (kQ l) = true
 | [] => rfl
 | v :: l => by have h := OY v; have g := Pk l; simp only [kQ, ve, h, g, Bool.and_self]
end
theorem Qe : OEnc 5 ye zf := ⟨fun x => by rw [vd]; rfl, OX, OY⟩
theorem Nw : Enc 5 zf := ⟨fun x => by rw [zO]; rfl, fun x => by rw [zO]; rfl, fun x => by rw [zO]; rfl⟩
inductive GEntry where
 | mk (Addr : (List UInt8)) (Val : GValue) (Deps : (List (List UInt8))) (Taint : Bool) (Turned : Int)
def GEntry.Addr : GEntry → (List UInt8)
 | .mk x _ _ _ _ => x
def GEntry.Val : GEntry → GValue
 | .mk _ x _ _ _ => x
def GEntry.Deps : GEntry → (List (List UInt8))
 | .mk _ _ x _ _ => x
def GEntry.Taint : GEntry → Bool
 | .mk _ _ _ x _ => x
def GEntry.Turned : GEntry → Int
 | .mk _ _ _ _ x => x
theorem GEntry.eta (x : GEntry) : GEntry.mk x.Addr x.Val x.Deps x.Taint x.Turned = x := by cases x; rfl
def zl (x : GEntry) : List C := [.seq (eL za x.Addr), .int .i64 x.Val.Kind, .int .i64 x.Val.N, .seq (eL za x.Val.S), .seq (eL (zt za) x.Val.K), .seq (eL zf x.Val.L), .seq (eL (zt za) x.Deps), .bool x.Taint, .int .i64 x.Turned]
def jU (x : GEntry) : List C := [.seq (eL za x.Addr), .int .i64 x.Val.Kind, .int .i64 x.Val.N, .seq (eL za x.Val.S), .seq (eL (zt za) x.Val.K), .seq (eL zf x.Val.L), .seq (eL (zt za) x.Deps), .bool x.Taint, .int .i64 x.Turned]
theorem zX (x : GEntry) : zl x = jU x := rfl
def yc (x : GEntry) : List C := [.own 1 (eL za x.Addr), .int .i64 x.Val.Kind, .int .i64 x.Val.N, .own 1 (eL za x.Val.S), .own 1 (eL (q9 1 za) x.Val.K), .own 5 (eL ye x.Val.L), .own 1 (eL (q9 1 za) x.Deps), .bool x.Taint, .int .i64 x.Turned]
def TM (x : GEntry) : List C := [.own 1 (eL za x.Addr), .int .i64 x.Val.Kind, .int .i64 x.Val.N, .own 1 (eL za x.Val.S), .own 1 (eL (q9 1 za) x.Val.K), .own 5 (eL ye x.Val.L), .own 1 (eL (q9 1 za) x.Deps), .bool x.Taint, .int .i64 x.Turned]
theorem xy (x : GEntry) : yc x = TM x := rfl
theorem xY : OEnc 9 yc zl := ⟨fun x => rfl, fun x => by simp only [yc, zl, yo, jZ, xB kh, xB (Tb 1 kh), xB Qe], fun x => by simp only [yc, j6, qQ, xC kh, xC (Tb 1 kh), xC Qe, Bool.and_self]⟩
theorem yA : Enc 9 zl := ⟨fun x => by rw [zX]; rfl, fun x => by rw [zX]; rfl, fun x => by rw [zX]; rfl⟩
inductive GState where
 | mk (Serial : Int) (Open : Bool) (Pending : (List UInt8)) (Act : Int) (Entries : (List GEntry))
def GState.Serial : GState → Int
 | .mk x _ _ _ _ => x
def GState.Open : GState → Bool
 | .mk _ x _ _ _ => x
def GState.Pending : GState → (List UInt8)
 | .mk _ _ x _ _ => x
def GState.Act : GState → Int
 | .mk _ _ _ x _ => x
def GState.Entries : GState → (List GEntry)
 | .mk _ _ _ _ x => x
theorem GState.eta (x : GState) : GState.mk x.Serial x.Open x.Pending x.Act x.Entries = x := by cases x; rfl
def jo (x : GState) : List C := [.int .i64 x.Serial, .bool x.Open, .seq (eL za x.Pending), .int .i64 x.Act, .seq (eL zl x.Entries)]
def yn (x : GState) : List C := [.int .i64 x.Serial, .bool x.Open, .seq (eL za x.Pending), .int .i64 x.Act, .seq (eL zl x.Entries)]
theorem jL (x : GState) : jo x = yn x := rfl
def JV (x : GState) : List C := [.int .i64 x.Serial, .bool x.Open, .own 1 (eL za x.Pending), .int .i64 x.Act, .own 9 (eL yc x.Entries)]
def Qf (x : GState) : List C := [.int .i64 x.Serial, .bool x.Open, .own 1 (eL za x.Pending), .int .i64 x.Act, .own 9 (eL yc x.Entries)]
theorem zf0 (x : GState) : JV x = Qf x := rfl
theorem zgs : OEnc 5 JV jo := ⟨fun x => rfl, fun x => by simp only [JV, jo, yo, jZ, xB kh, xB xY], fun x => by simp only [JV, j6, qQ, xC kh, xC xY, Bool.and_self]⟩
theorem Yy : Enc 5 jo := ⟨fun x => by rw [jL]; rfl, fun x => by rw [jL]; rfl, fun x => by rw [jL]; rfl⟩
inductive GEvent where
 | mk (Kind : Int) (Addr : (List UInt8)) (Act : Int) (Val : GValue) (Deps : (List (List UInt8)))
def GEvent.Kind : GEvent → Int
 | .mk x _ _ _ _ => x
def GEvent.Addr : GEvent → (List UInt8)
 | .mk _ x _ _ _ => x
def GEvent.Act : GEvent → Int
 | .mk _ _ x _ _ => x
def GEvent.Val : GEvent → GValue
 | .mk _ _ _ x _ => x
def GEvent.Deps : GEvent → (List (List UInt8))
 | .mk _ _ _ _ x => x
theorem GEvent.eta (x : GEvent) : GEvent.mk x.Kind x.Addr x.Act x.Val x.Deps = x := by cases x; rfl
def zB (x : GEvent) : List C := [.int .i64 x.Kind, .seq (eL za x.Addr), .int .i64 x.Act, .int .i64 x.Val.Kind, .int .i64 x.Val.N, .seq (eL za x.Val.S), .seq (eL (zt za) x.Val.K), .seq (eL zf x.Val.L), .seq (eL (zt za) x.Deps)]
def jp (x : GEvent) : List C := [.int .i64 x.Kind, .seq (eL za x.Addr), .int .i64 x.Act, .int .i64 x.Val.Kind, .int .i64 x.Val.N, .seq (eL za x.Val.S), .seq (eL (zt za) x.Val.K), .seq (eL zf x.Val.L), .seq (eL (zt za) x.Deps)]
theorem qD (x : GEvent) : zB x = jp x := rfl
def jV (x : GEvent) : List C := [.int .i64 x.Kind, .own 1 (eL za x.Addr), .int .i64 x.Act, .int .i64 x.Val.Kind, .int .i64 x.Val.N, .own 1 (eL za x.Val.S), .own 1 (eL (q9 1 za) x.Val.K), .own 5 (eL ye x.Val.L), .own 1 (eL (q9 1 za) x.Deps)]
def Nx (x : GEvent) : List C := [.int .i64 x.Kind, .own 1 (eL za x.Addr), .int .i64 x.Act, .int .i64 x.Val.Kind, .int .i64 x.Val.N, .own 1 (eL za x.Val.S), .own 1 (eL (q9 1 za) x.Val.K), .own 5 (eL ye x.Val.L), .own 1 (eL (q9 1 za) x.Deps)]
theorem JW (x : GEvent) : jV x = Nx x := rfl
theorem Zy : OEnc 9 jV zB := ⟨fun x => rfl, fun x => by simp only [jV, zB, yo, jZ, xB kh, xB (Tb 1 kh), xB Qe], fun x => by simp only [jV, j6, qQ, xC kh, xC (Tb 1 kh), xC Qe, Bool.and_self]⟩
theorem zgt : Enc 9 zB := ⟨fun x => by rw [qD]; rfl, fun x => by rw [qD]; rfl, fun x => by rw [qD]; rfl⟩
inductive GHistory where
 | mk (Base : GState) (Events : (List GEvent)) (Safe : Int)
def GHistory.Base : GHistory → GState
 | .mk x _ _ => x
def GHistory.Events : GHistory → (List GEvent)
 | .mk _ x _ => x
def GHistory.Safe : GHistory → Int
 | .mk _ _ x => x
theorem GHistory.eta (x : GHistory) : GHistory.mk x.Base x.Events x.Safe = x := by cases x; rfl
def Xk (x : GHistory) : List C := [.int .i64 x.Base.Serial, .bool x.Base.Open, .seq (eL za x.Base.Pending), .int .i64 x.Base.Act, .seq (eL zl x.Base.Entries), .seq (eL zB x.Events), .int .i64 x.Safe]
def yh (x : GHistory) : List C := [.int .i64 x.Base.Serial, .bool x.Base.Open, .seq (eL za x.Base.Pending), .int .i64 x.Base.Act, .seq (eL zl x.Base.Entries), .seq (eL zB x.Events), .int .i64 x.Safe]
theorem eq_GHistory (x : GHistory) : Xk x = yh x := rfl
def W6 (x : GHistory) : List C := [.int .i64 x.Base.Serial, .bool x.Base.Open, .own 1 (eL za x.Base.Pending), .int .i64 x.Base.Act, .own 9 (eL yc x.Base.Entries), .own 9 (eL jV x.Events), .int .i64 x.Safe]
def Pl (x : GHistory) : List C := [.int .i64 x.Base.Serial, .bool x.Base.Open, .own 1 (eL za x.Base.Pending), .int .i64 x.Base.Act, .own 9 (eL yc x.Base.Entries), .own 9 (eL jV x.Events), .int .i64 x.Safe]
theorem zfg (x : GHistory) : W6 x = Pl x := rfl
theorem zf1 : OEnc 7 W6 Xk := ⟨fun x => rfl, fun x => by simp only [W6, Xk, yo, jZ, xB kh, xB xY, xB Zy], fun x => by simp only [W6, j6, qQ, xC kh, xC xY, xC Zy, Bool.and_self]⟩
theorem zf2 : Enc 7 Xk := ⟨fun x => by rw [eq_GHistory]; rfl, fun x => by rw [eq_GHistory]; rfl, fun x => by rw [eq_GHistory]; rfl⟩
inductive GStep where
 | mk (Kind : Int) (Key : (List UInt8)) (I : Int)
def GStep.Kind : GStep → Int
 | .mk x _ _ => x
def GStep.Key : GStep → (List UInt8)
 | .mk _ x _ => x
def GStep.I : GStep → Int
 | .mk _ _ x => x
theorem GStep.eta (x : GStep) : GStep.mk x.Kind x.Key x.I = x := by cases x; rfl
def zw (x : GStep) : List C := [.int .i64 x.Kind, .seq (eL za x.Key), .int .i64 x.I]
def X7 (x : GStep) : List C := [.int .i64 x.Kind, .seq (eL za x.Key), .int .i64 x.I]
theorem qO (x : GStep) : zw x = X7 x := rfl
def Y7 (x : GStep) : List C := [.int .i64 x.Kind, .own 1 (eL za x.Key), .int .i64 x.I]
def G6 (x : GStep) : List C := [.int .i64 x.Kind, .own 1 (eL za x.Key), .int .i64 x.I]
theorem VQ (x : GStep) : Y7 x = G6 x := rfl
theorem WF : OEnc 3 Y7 zw := ⟨fun x => rfl, fun x => by simp only [Y7, zw, yo, jZ, xB kh], fun x => by simp only [Y7, j6, qQ, xC kh, Bool.and_self]⟩
theorem zha : Enc 3 zw := ⟨fun x => by rw [qO]; rfl, fun x => by rw [qO]; rfl, fun x => by rw [qO]; rfl⟩
def bsz (k : List (List UInt8)) : Nat := k.length + (k.map List.length).sum
mutual
def vsz : GValue → Nat
 | .mk _ _ s k l => s.length + bsz k + qr l
def qr : List GValue → Nat
 | [] => 0
 | v :: l => 1 + vsz v + qr l
end
theorem X8 {k : List (List UInt8)} {b : List UInt8} (h : b ∈ k) : 1 + b.length <= bsz k := by
 unfold bsz
 induction k with
 | nil => cases h
 | cons x k ih =>
  simp only [List.length_cons, List.map_cons, List.sum_cons]
  rcases List.mem_cons.1 h with rfl | h
  ·omega
  ·have := ih h; omega
theorem vB (k : List (List UInt8)) : k.length <= bsz k := by unfold bsz; omega
theorem zgu (b : List UInt8) (k : List (List UInt8)) : bsz (b :: k) = 1 + b.length + bsz k := by unfold bsz; simp; omega
theorem qu {l : List GValue} {v : GValue} (h : v ∈ l) : 1 + vsz v <= qr l := by
 induction l with
 | nil => cases h
 | cons x l ih =>
  simp only [qr]
  rcases List.mem_cons.1 h with rfl | h
  ·omega
  ·have := ih h; omega
theorem xm (l : List GValue) : l.length <= qr l := by
 induction l with
 | nil => simp
 | cons x l ih => simp only [qr, List.length_cons]; omega
theorem jq (v : GValue) : vsz v = v.S.length + bsz v.K + qr v.L := by cases v; simp only [vsz, GValue.S, GValue.K, GValue.L]
mutual
def ptV : GValue → Nat
 | .mk _ _ _ _ l => 1 + wz l
def wz : List GValue → Nat
 | [] => 0
 | v :: l => ptV v + wz l
end
theorem Ny (v : GValue) : ptV v = 1 + wz v.L := by cases v; simp only [ptV, GValue.L]
theorem BO (l : List GValue) : l.length <= wz l := by
 induction l with
 | nil => simp
 | cons v l ih => have := Ny v; simp only [wz, List.length_cons]; omega
mutual
theorem zfh : ∀ v : GValue, ptV v <= 1 + vsz v
 | .mk _ _ _ _ l => by have := O4 l; simp only [ptV, vsz]; omega
theorem O4 : ∀ l : List GValue, wz l <= qr l
 | [] => by simp [wz, qr]
 | v :: l => by have := zfh v; have := O4 l; simp only [wz, qr]; omega
end
def Xl (a : List UInt8) : Bool := decide (a.length <= 20) && a.all (inB 32 126)
def wD (a : List UInt8) : Bool := decide (1 <= a.length ∧ a.length <= 8) && a.all (inB 97 122)
def kOk (k : List (List UInt8)) (j : Nat) : Bool := match k[j]? with
 | some b => wD b && (decide (j = 0) || match k[j - 1]? with | some a => Op.bytesLess a b | none => false)
 | none => false
def j0 (k : List (List UInt8)) (i d : Nat) : Bool := (List.range' i d).all (kOk k)
theorem QK (k : List (List UInt8)) (i d : Nat) : j0 k i (d + 1) = (kOk k i && j0 k (i + 1) d) := by
 unfold j0; rw [List.range'_succ, List.all_cons]
theorem Qg {k : List (List UInt8)} {i : Nat} (h : i < k.length) (h0 : 0 < i) : kOk k i = (wD k[i] && Op.bytesLess (k[i - 1]'(by omega)) k[i]) := by
 unfold kOk
 rw [zd h]
 simp only
 rw [zd (show i - 1 < k.length by omega)]
 simp [show i ≠ 0 by omega]
theorem JX {k : List (List UInt8)} (h : 0 < k.length) : kOk k 0 = wD k[0] := by
 unfold kOk
 rw [zd h]
 simp
theorem X9 (a b : List UInt8) : (0 <= Lib.compareBytes a b) = ¬ (Op.bytesLess a b = true) := by
 induction a generalizing b with
 | nil => cases b <;> simp [Lib.compareBytes, Op.bytesLess]
 | cons x a ih =>
  cases b with
  | nil => simp [Lib.compareBytes, Op.bytesLess]
  | cons y b =>
   simp only [Lib.compareBytes, Op.bytesLess]
   by_cases h1 : x < y
   ·simp [h1]
   ·by_cases h2 : y < x
    ·have h3 : ¬ x = y := fun e => by subst e; exact h1 h2
     simp [h1, h2, h3]
    ·have h3 : x = y := UInt8.le_antisymm (UInt8.not_lt.1 h2) (UInt8.not_lt.1 h1)
     subst h3
     simp [h1, ih]
def y3 (v : GValue) : Bool :=
 if v.Kind = 0 ∨ v.Kind = 6 then decide (v.N = 0 ∧ v.S.length = 0 ∧ v.K.length = 0 ∧ v.L.length = 0)
 else if v.Kind = 1 then decide ((0 <= v.N ∧ v.N <= 1) ∧ v.S.length = 0 ∧ v.K.length = 0 ∧ v.L.length = 0)
 else if v.Kind = 2 then decide ((-1000000000000 <= v.N ∧ v.N <= 1000000000000) ∧ v.S.length = 0 ∧ v.K.length = 0 ∧ v.L.length = 0)
 else if v.Kind = 3 then Xl v.S && decide (v.N = 0 ∧ v.K.length = 0 ∧ v.L.length = 0)
 else if v.Kind = 4 then decide (v.N = 0 ∧ v.S.length = 0 ∧ v.K.length = 0 ∧ v.L.length <= 40)
 else if v.Kind = 5 then decide (v.K.length = v.L.length ∧ v.N = 0 ∧ v.S.length = 0 ∧ v.L.length <= 40) && j0 v.K 0 v.K.length
 else false
def shV : Nat → GValue → Bool
 | 0, _ => false
 | d + 1, v => y3 v && v.L.all (shV d)
def yv (s : Nat) (n : Int) : Int := if (s : Int) <= n then n - s else -1
/- calls -/
theorem jW (a : List UInt8) : Op.bytesLess a a = false := by
 induction a with
 | nil => rfl
 | cons x a ih => simp [Op.bytesLess, ih]
theorem jM : ∀ {a b c : List UInt8}, Op.bytesLess a b = true → Op.bytesLess b c = true → Op.bytesLess a c = true
 | [], [], _, h, _ => by simp [Op.bytesLess] at h
 | [], _ :: _, [], _, h => by simp [Op.bytesLess] at h
 | [], _ :: _, _ :: _, _, _ => rfl
 | _ :: _, [], _, h, _ => by simp [Op.bytesLess] at h
 | _ :: _, _ :: _, [], _, h => by simp [Op.bytesLess] at h
 | x :: a, y :: b, z :: c, h, g => by
  simp only [Op.bytesLess, Bool.or_eq_true, decide_eq_true_eq, Bool.and_eq_true, beq_iff_eq] at h g ⊢
  rcases h with h | ⟨rfl, h⟩
  ·rcases g with g | ⟨rfl, g⟩
   ·exact .inl (UInt8.lt_trans h g)
   ·exact .inl h
  ·rcases g with g | ⟨rfl, g⟩
   ·exact .inl g
   ·exact .inr ⟨rfl, jM h g⟩
theorem TN : ∀ (a b : List UInt8), Lib.compareBytes a b = 0 ↔ a = b
 | [], [] => by simp [Lib.compareBytes]
 | [], _ :: _ => by simp [Lib.compareBytes]
 | _ :: _, [] => by simp [Lib.compareBytes]
 | x :: a, y :: b => by
  have ih := TN a b
  simp only [Lib.compareBytes]
  by_cases h1 : x < y
  ·rw [if_pos h1]
   have : x ≠ y := fun e => by subst e; exact absurd h1 (UInt8.lt_irrefl x)
   simp [this]
  ·rw [if_neg h1]
   by_cases h2 : y < x
   ·rw [if_pos h2]
    have : x ≠ y := fun e => by subst e; exact absurd h2 (UInt8.lt_irrefl x)
    simp [this]
   ·have h3 : x = y := UInt8.le_antisymm (UInt8.not_lt.1 h2) (UInt8.not_lt.1 h1)
    subst h3
    rw [if_neg h2, ih]; simp
theorem Jv (a b : List UInt8) : (Lib.compareBytes a b < 0) = (Op.bytesLess a b = true) := by
 have := X9 a b
 apply propext
 constructor
 ·intro h
  refine Classical.byContradiction fun hn => ?_
  rw [<- this] at hn
  omega
 ·intro h
  refine Classical.byContradiction fun hn => ?_
  have h0 : 0 <= Lib.compareBytes a b := by omega
  rw [this] at h0
  exact h0 h
def qv (a : List (List UInt8)) (x : List UInt8) (c : Nat) : Prop := c <= a.length ∧ ∀ k (h : k < a.length), k < c ↔ Op.bytesLess a[k] x = true
def Asc (a : List (List UInt8)) : Prop := ∀ i j (hj : j < a.length) (hij : i < j), Op.bytesLess (a[i]'(by omega)) a[j] = true
theorem qv.of {a : List (List UInt8)} (ha : Asc a) (x : List UInt8) : ∃ c, qv a x c := by
 have : ∀ n, n <= a.length → ∃ c, c <= n ∧ ∀ k (h : k < a.length), k < n → (k < c ↔ Op.bytesLess a[k] x = true) := by
  intro n
  induction n with
  | zero => exact fun _ => ⟨0, Nat.le_refl _, fun k h hk => by omega⟩
  | succ n ih =>
   intro hn
   obtain ⟨c, hc, h⟩ := ih (by omega)
   by_cases hl : Op.bytesLess (a[n]'(by omega)) x = true
   ·have hcn : c = n := by
     refine Classical.byContradiction fun hne => ?_
     have h1 := h c (by omega) (by omega)
     have h2 := ha c n (by omega) (by omega)
     have := h1.2 (jM h2 hl)
     omega
    refine ⟨n + 1, Nat.le_refl _, fun k hk hkn => ?_⟩
    rcases Nat.lt_or_ge k n with hlt | hge
    ·exact ⟨fun _ => (h k hk hlt).1 (by omega), fun _ => by omega⟩
    ·obtain rfl : k = n := by omega
     exact ⟨fun _ => hl, fun _ => by omega⟩
   ·refine ⟨c, by omega, fun k hk hkn => ?_⟩
    rcases Nat.lt_or_ge k n with hlt | hge
    ·exact h k hk hlt
    ·obtain rfl : k = n := by omega
     exact ⟨fun _ => by omega, fun h => (hl h).elim⟩
 obtain ⟨c, hc, h⟩ := this a.length (Nat.le_refl _)
 exact ⟨c, hc, fun k hk => h k hk hk⟩
theorem qv.mem {a : List (List UInt8)} (ha : Asc a) {x : List UInt8} {c : Nat} (h : qv a x c) : a[c]? = some x ↔ x ∈ a := by
 constructor
 ·exact List.mem_of_getElem?
 ·intro hx
  obtain ⟨k, hk, rfl⟩ := List.mem_iff_getElem.1 hx
  have h1 : ¬ k < c := fun hlt => by
   have := (h.2 k hk).1 hlt
   rw [jW] at this
   cases this
  have h2 : k = c := by
   refine Classical.byContradiction fun hne => ?_
   have hlt : c < k := by omega
   have := (h.2 c (by omega)).2 (ha c k hk hlt)
   omega
  subst h2
  exact zd hk
theorem Nz {i j : Nat} (h : i + j < 2 ^ 62) : w64 (vC .shr .u64 (IntKind.u64.wrap (w64 ((i : Int) + (j : Int)))) 1) = (((i + j) / 2 : Nat) : Int) := by
 rw [xz (x := (i : Int) + (j : Int)) (by omega) (by omega)]
 have h1 : IntKind.u64.wrap ((i : Int) + (j : Int)) = (i : Int) + (j : Int) := by unfold IntKind.wrap; simp [IntKind.bits, IntKind.signed]; omega
 rw [h1]
 have h2 : vC .shr .u64 ((i : Int) + (j : Int)) 1 = (((i + j) / 2 : Nat) : Int) := by
  show Int.fdiv _ (2 ^ (min (1 : Int).toNat IntKind.u64.bits)) = _
  rw [show min (1 : Int).toNat IntKind.u64.bits = 1 from rfl, Int.fdiv_eq_ediv_of_nonneg _ (by decide)]
  omega
 rw [h2, xz (by omega) (by omega)]
def kK (v : GValue) : Bool := decide (shV 5 v = true ∧ (ptV v : Int) <= 40)
theorem zcr {k : List (List UInt8)} (h : j0 k 0 k.length = true) {j : Nat} (hj : j < k.length) : kOk k j = true := by
 unfold j0 at h
 exact List.all_eq_true.1 h j (List.mem_range'_1.2 ⟨by omega, by omega⟩)
theorem BP {k : List (List UInt8)} (h : j0 k 0 k.length = true) : Asc k := by
 intro i j
 induction j with
 | zero => intro _ h; omega
 | succ j ih =>
  intro hj hij
  have hk := zcr h hj
  rw [Qg hj (by omega), Bool.and_eq_true] at hk
  have h1 : Op.bytesLess (k[j]'(by omega)) k[j + 1] = true := hk.2
  rcases Nat.lt_or_ge i j with hlt | hge
  ·exact jM (ih (by omega) hlt) h1
  ·obtain rfl : i = j := by omega
   exact h1
theorem zgv {v : GValue} (h : kK v = true) : y3 v = true ∧ ∀ x ∈ v.L, shV 4 x = true := by
 unfold kK at h
 have h1 := (of_decide_eq_true h).1
 rw [shV, Bool.and_eq_true, List.all_eq_true] at h1
 exact h1
def N0 (a : List UInt8) : List UInt8 := if a = [108, 101, 110] then [99] else if a = [99, 97, 116] then [116, 116] else if a = [107, 101, 121, 115] then [109] else if a = [118, 97, 108, 115] then [109] else if a = [104, 97, 115] then [109, 116] else if a = [109, 105, 110] then [105, 105] else if a = [109, 97, 120] then [105, 105] else []
def zhk (a : List UInt8) : List (List Int) := if a = [108, 101, 110] then [[3, 4, 5]] else if a = [99, 97, 116] then [[3], [3]] else if a = [107, 101, 121, 115] then [[5]] else if a = [118, 97, 108, 115] then [[5]] else if a = [104, 97, 115] then [[5], [3]] else if a = [109, 105, 110] then [[2], [2]] else if a = [109, 97, 120] then [[2], [2]] else []
def JY (x : GValue) (c : UInt8) : Bool := if ((c.toNat : Nat) : Int) = 116 then decide (x.Kind = 3) else if ((c.toNat : Nat) : Int) = 105 then decide (x.Kind = 2) else if ((c.toNat : Nat) : Int) = 109 then decide (x.Kind = 5) else decide (x.Kind = 3 ∨ x.Kind = 4 ∨ x.Kind = 5)
def za0 : List UInt8 → List GValue → Bool
 | c :: cs, v :: l => (decide (v.Kind = 6) || JY v c) && za0 cs l
 | _, _ => true
def zf3 : List (List Int) → List GValue → Bool
 | c :: cs, v :: l => (decide (v.Kind = 6) || decide (v.Kind ∈ c)) && zf3 cs l
 | _, _ => true
def zV : GValue := .mk 0 0 [] [] []
def Yz (a : List UInt8) (x y : GValue) : GValue × Int :=
 if a = [108, 101, 110] then (if x.Kind = 3 then .mk 2 (x.S.length : Int) [] [] [] else .mk 2 (x.L.length : Int) [] [] [], 0)
 else if a = [99, 97, 116] then (if 20 < (x.S ++ y.S).length then (zV, 4) else (.mk 3 0 (x.S ++ y.S) [] [], 0))
 else if a = [107, 101, 121, 115] then (.mk 4 0 [] [] (x.K.map fun k => .mk 3 0 k [] []), 0)
 else if a = [118, 97, 108, 115] then (.mk 4 0 [] [] x.L, 0)
 else if a = [104, 97, 115] then (.mk 1 (if y.S ∈ x.K then 1 else 0) [] [] [], 0)
 else if a = [109, 105, 110] then (.mk 2 (if y.N < x.N then y.N else x.N) [] [] [], 0)
 else (.mk 2 (if x.N < y.N then y.N else x.N) [] [] [], 0)
theorem zgw (x y : GValue) : Yz [108, 101, 110] x y = (if x.Kind = 3 then .mk 2 (x.S.length : Int) [] [] [] else .mk 2 (x.L.length : Int) [] [] [], 0) := by simp [Yz]
theorem zgx (x y : GValue) : Yz [99, 97, 116] x y = if 20 < (x.S ++ y.S).length then (zV, 4) else (.mk 3 0 (x.S ++ y.S) [] [], 0) := by simp [Yz]
theorem zgi (x y : GValue) : Yz [107, 101, 121, 115] x y = (.mk 4 0 [] [] (x.K.map fun k => .mk 3 0 k [] []), 0) := by simp [Yz]
theorem zgj (x y : GValue) : Yz [118, 97, 108, 115] x y = (.mk 4 0 [] [] x.L, 0) := by simp [Yz]
theorem zgy (x y : GValue) : Yz [104, 97, 115] x y = (.mk 1 (if y.S ∈ x.K then 1 else 0) [] [] [], 0) := by simp [Yz]
theorem zgz (x y : GValue) : Yz [109, 105, 110] x y = (.mk 2 (if y.N < x.N then y.N else x.N) [] [] [], 0) := by simp [Yz]
theorem zg0 (x y : GValue) : Yz [109, 97, 120] x y = (.mk 2 (if x.N < y.N then y.N else x.N) [] [] [], 0) := by simp [Yz]
theorem zhv (x : GValue) : JY x 116 = decide (x.Kind = 3) := by unfold JY; rw [if_pos (show ((UInt8.toNat 116 : Nat) : Int) = 116 from rfl)]
theorem zhw (x : GValue) : JY x 105 = decide (x.Kind = 2) := by unfold JY; rw [if_neg (show ¬ ((UInt8.toNat 105 : Nat) : Int) = 116 by decide), if_pos (show ((UInt8.toNat 105 : Nat) : Int) = 105 from rfl)]
theorem zhx (x : GValue) : JY x 109 = decide (x.Kind = 5) := by unfold JY; rw [if_neg (show ¬ ((UInt8.toNat 109 : Nat) : Int) = 116 by decide), if_neg (show ¬ ((UInt8.toNat 109 : Nat) : Int) = 105 by decide), if_pos (show ((UInt8.toNat 109 : Nat) : Int) = 109 from rfl)]
theorem zhy (x : GValue) : JY x 99 = decide (x.Kind = 3 ∨ x.Kind = 4 ∨ x.Kind = 5) := by unfold JY; rw [if_neg (show ¬ ((UInt8.toNat 99 : Nat) : Int) = 116 by decide), if_neg (show ¬ ((UInt8.toNat 99 : Nat) : Int) = 105 by decide), if_neg (show ¬ ((UInt8.toNat 99 : Nat) : Int) = 109 by decide)]
def zfi (l : List GValue) : Bool := l.all fun v => decide (v.Kind ≠ 6)
def zf4 (a : List UInt8) (l : List GValue) : GValue × Int :=
 if (N0 a).length = 0 then (zV, 5) else if (N0 a).length = l.length then
  (if za0 (N0 a) l = true then (if zfi l = true then Yz a ((l[0]?).getD zV) ((l[1]?).getD zV) else (.mk 6 0 [] [] [], 0)) else (zV, 2)) else (zV, 5)
def zhz (a : List UInt8) (l : List GValue) : GValue × Int := if 40 < l.length then (zV, 1) else if l.all kK = true then zf4 a l else (zV, 1)
/- sorting -/
def Le (x y : List UInt8) : Prop := Op.bytesLess y x = false
theorem W7 : ∀ a b : List UInt8, Op.bytesLess a b = true ∨ a = b ∨ Op.bytesLess b a = true
 | [], [] => .inr (.inl rfl)
 | [], _ :: _ => .inl rfl
 | _ :: _, [] => .inr (.inr rfl)
 | x :: a, y :: b => by
  simp only [Op.bytesLess, Bool.or_eq_true, decide_eq_true_eq, Bool.and_eq_true, beq_iff_eq]
  by_cases h1 : x < y
  ·exact .inl (.inl h1)
  by_cases h2 : y < x
  ·exact .inr (.inr (.inl h2))
  ·have h3 : x = y := UInt8.le_antisymm (UInt8.not_lt.1 h2) (UInt8.not_lt.1 h1)
   subst h3
   rcases W7 a b with h | h | h
   ·exact .inl (.inr ⟨rfl, h⟩)
   ·exact .inr (.inl (by rw [h]))
   ·exact .inr (.inr (.inr ⟨rfl, h⟩))
theorem Le.refl (x : List UInt8) : Le x x := jW x
theorem Le.of_less {x y : List UInt8} (h : Op.bytesLess x y = true) : Le x y := by
 unfold Le
 cases h2 : Op.bytesLess y x with
 | false => rfl
 | true => have := jM h h2; rw [jW] at this; cases this
theorem Le.cases {x y : List UInt8} (h : Le x y) : x = y ∨ Op.bytesLess x y = true := by
 rcases W7 x y with g | g | g
 ·exact .inr g
 ·exact .inl g
 ·unfold Le at h; rw [h] at g; cases g
theorem Le.trans {x y z : List UInt8} (h : Le x y) (g : Le y z) : Le x z := by
 rcases h.cases with rfl | h
 ·exact g
 ·rcases g.cases with rfl | g
  ·exact Le.of_less h
  ·exact Le.of_less (jM h g)
theorem Le.of_not {x y : List UInt8} (h : ¬ Op.bytesLess y x = true) : Le x y := Bool.eq_false_iff.2 h
def gt (d : List (List UInt8)) (i : Nat) : List UInt8 := (d[i]?).getD []
theorem zhb {d : List (List UInt8)} {i : Nat} (h : i < d.length) : d[i]? = some (gt d i) := by unfold gt; rw [zd h]; rfl
theorem Dt {d : List (List UInt8)} {i k : Nat} {x : List UInt8} (h : i < d.length) : gt (d.set i x) k = if k = i then x else gt d k := by
 unfold gt
 by_cases e : k = i
 ·subst e; rw [if_pos rfl, List.getElem?_set_self h]; rfl
 ·rw [if_neg e, List.getElem?_set_ne (fun e' => e e'.symm)]
def sw (d : List (List UInt8)) (i j : Nat) : List (List UInt8) := (d.set i (gt d j)).set j (gt d i)
theorem zfj (d : List (List UInt8)) (i j : Nat) : (sw d i j).length = d.length := by unfold sw; simp
theorem za1 {d : List (List UInt8)} {i j k : Nat} (hi : i < d.length) (hj : j < d.length) : gt (sw d i j) k = if k = j then gt d i else if k = i then gt d j else gt d k := by
 unfold sw
 rw [Dt (by simpa using hj), Dt hi]
structure Rg (a b : Nat) (d d' : List (List UInt8)) : Prop where
 len : d'.length = d.length
 perm : d'.Perm d
 out : ∀ i, (i < a ∨ b <= i) → gt d' i = gt d i
 all : ∀ Q : List UInt8 → Prop, (∀ i, a <= i → i < b → Q (gt d i)) → ∀ i, a <= i → i < b → Q (gt d' i)
theorem Rg.refl (a b : Nat) (d : List (List UInt8)) : Rg a b d d := ⟨rfl, .refl _, fun _ _ => rfl, fun _ h => h⟩
theorem Rg.trans {a b : Nat} {d d' d'' : List (List UInt8)} (h : Rg a b d d') (g : Rg a b d' d'') : Rg a b d d'' :=
 ⟨g.len.trans h.len, g.perm.trans h.perm, fun i hi => (g.out i hi).trans (h.out i hi), fun Q hq => g.all Q (h.all Q hq)⟩
theorem Rg.mono {a b a' b' : Nat} {d d' : List (List UInt8)} (h : Rg a b d d') (ha : a' <= a) (hb : b <= b') : Rg a' b' d d' :=
 ⟨h.len, h.perm, fun i hi => h.out i (by omega), fun Q hq i h1 h2 => by
  by_cases hin : a <= i ∧ i < b
  ·exact h.all Q (fun k k1 k2 => hq k (by omega) (by omega)) i hin.1 hin.2
  ·rw [h.out i (by omega)]; exact hq i h1 h2⟩
theorem zcs {d : List (List UInt8)} {i j : Nat} (hi : i < d.length) (hj : j < d.length) : (sw d i j).Perm d := by
 have e1 : gt d j = d[j] := by unfold gt; rw [zd hj]; rfl
 have e2 : gt d i = d[i] := by unfold gt; rw [zd hi]; rfl
 unfold sw
 rw [e1, e2]
 exact List.set_set_perm hi hj
theorem Rg.swap {a b : Nat} {d : List (List UInt8)} {i j : Nat} (h1 : a <= i) (h2 : i < b) (h3 : a <= j) (h4 : j < b) (hb : b <= d.length) : Rg a b d (sw d i j) :=
 ⟨zfj d i j, zcs (by omega) (by omega), fun k hk => by rw [za1 (by omega) (by omega), if_neg (by omega), if_neg (by omega)], fun Q hq k k1 k2 => by
  rw [za1 (by omega) (by omega)]
  split
  ·exact hq i h1 h2
  ·split
   ·exact hq j h3 h4
   ·exact hq k k1 k2⟩
def Srt (a b : Nat) (d : List (List UInt8)) : Prop := ∀ i j, a <= i → i < j → j < b → Le (gt d i) (gt d j)
theorem zhl {x y : List UInt8} : (Lib.compareBytes x y < 0) ↔ Op.bytesLess x y = true := by rw [Jv]
/- values as expressions -/
mutual
def knV : GValue → Bool
 | .mk k _ _ _ l => decide (k ≠ 6) && Wj l
def Wj : List GValue → Bool
 | [] => true
 | v :: l => knV v && Wj l
end
theorem Du (v : GValue) : knV v = (decide (v.Kind ≠ 6) && Wj v.L) := by cases v; rw [knV]; rfl
/- expressions renamed -/
/- marks -/
theorem wP {α : Type} (p : List α) (x : α) (l : List α) : (p ++ x :: l)[p.length]? = some x := by simp
theorem zhc {α : Type} (p : List α) (x y : α) (l : List α) : (p ++ x :: l).set p.length y = p ++ y :: l := by simp
theorem zg1 {α : Type} (p : List α) (x : α) (l : List α) : p ++ x :: l = (p ++ [x]) ++ l := by simp
theorem zg2 {α : Type} (p : List α) (x : α) : (p.length : Int) + 1 = ((p ++ [x]).length : Int) := by simp
theorem qw {α : Type} (p : List α) (x : α) (h : p.length < 2 ^ 62) : w64 ((p.length : Int) + 1) = ((p ++ [x]).length : Int) := by rw [z7 h]; simp
theorem zhm {α : Type} (p : List α) (x : α) (l : List α) : (p.length : Int) < ((p ++ x :: l).length : Int) := by simp; omega
theorem XA {α : Type} (p : List α) : ¬ (p.length : Int) < ((p ++ []).length : Int) := by simp
theorem ZU {n m : Nat} (hn : n <= 2 ^ 7) (hm : m <= 2 ^ 40) : yM n m := by
 have : m * n <= 2 ^ 40 * 2 ^ 7 := Nat.mul_le_mul hm hn
 unfold yM
 exact ⟨by rw [show maxBytes = 2 ^ 47 from rfl]; omega, by omega⟩
def mI : Int → List Int → List Int
 | _, [] => []
 | k, _ :: l => k :: mI (k + 1) l
theorem zhn (l : List Int) (k : Int) : (mI k l).length = l.length := by
 induction l generalizing k with
 | nil => rfl
 | cons x l ih => simp only [mI, List.length_cons, ih]
theorem zhd (l : List Int) (k : Int) : mI k (mI k l) = mI k l := by
 induction l generalizing k with
 | nil => rfl
 | cons x l ih => simp only [mI, ih]
def mB : Int → List UInt8 → List UInt8
 | _, [] => []
 | k, _ :: l => b8 k :: mB (k + 1) l
def cB (k : List (List UInt8)) : Nat := (k.map List.length).sum
def mBB : Int → List (List UInt8) → List (List UInt8)
 | _, [] => []
 | k, x :: l => mB k x :: mBB (k + x.length) l
theorem VR (l : List UInt8) (k : Int) : (mB k l).length = l.length := by
 induction l generalizing k with
 | nil => rfl
 | cons x l ih => simp only [mB, List.length_cons, ih]
theorem G7 (l : List UInt8) (k : Int) : mB k (mB k l) = mB k l := by
 induction l generalizing k with
 | nil => rfl
 | cons x l ih => simp only [mB, ih]
theorem BQ (l : List (List UInt8)) (k : Int) : mBB k (mBB k l) = mBB k l := by
 induction l generalizing k with
 | nil => rfl
 | cons x l ih => simp only [mBB, G7, VR, ih]
theorem N1 (l : List (List UInt8)) (k : Int) : cB (mBB k l) = cB l := by
 induction l generalizing k with
 | nil => rfl
 | cons x l ih => unfold cB at ih ⊢; simp only [mBB, List.map_cons, List.sum_cons, VR, ih]
theorem zhe (x : List UInt8) (l : List (List UInt8)) : cB (x :: l) = x.length + cB l := by unfold cB; simp
theorem VS (l : List (List UInt8)) : bsz l = l.length + cB l := rfl
theorem zct (l : List (List UInt8)) (k : Int) : bsz (mBB k l) = bsz l := by
 rw [VS, VS, N1]
 congr 1
 induction l generalizing k with
 | nil => rfl
 | cons x l ih => simp only [mBB, List.length_cons, ih]
mutual
def cV : GValue → Nat
 | .mk _ _ s k l => 2 + (s.length + (cB k + cVs l))
def cVs : List GValue → Nat
 | [] => 0
 | v :: l => cV v + cVs l
end
mutual
def mV : Int → GValue → GValue
 | i, .mk _ _ s k l => .mk i (i + 1) (mB (i + 1 + 1) s) (mBB (i + 1 + 1 + s.length) k) (mVs (i + 1 + 1 + s.length + cB k) l)
def mVs : Int → List GValue → List GValue
 | _, [] => []
 | i, v :: l => mV i v :: mVs (i + cV v) l
end
theorem zh0 (v : GValue) : cV v = 2 + (v.S.length + (cB v.K + cVs v.L)) := by cases v; simp only [cV, GValue.S, GValue.K, GValue.L]
theorem zh1 (i : Int) (v : GValue) : mV i v = .mk i (i + 1) (mB (i + 1 + 1) v.S) (mBB (i + 1 + 1 + v.S.length) v.K) (mVs (i + 1 + 1 + v.S.length + cB v.K) v.L) := by cases v; simp only [mV, GValue.S, GValue.K, GValue.L]
mutual
theorem zfk : ∀ (i : Int) (v : GValue), cV (mV i v) = cV v
 | i, .mk _ _ s k l => by simp only [mV, cV, VR, N1, za2]
theorem za2 : ∀ (i : Int) (l : List GValue), cVs (mVs i l) = cVs l
 | _, [] => rfl
 | i, v :: l => by simp only [mVs, cVs, zfk i v, za2 _ l]
end
mutual
theorem zcu : ∀ (i : Int) (v : GValue), mV i (mV i v) = mV i v
 | i, .mk _ _ s k l => by simp only [mV, VR, N1, G7, BQ, N2]
theorem N2 : ∀ (i : Int) (l : List GValue), mVs i (mVs i l) = mVs i l
 | _, [] => rfl
 | i, v :: l => by simp only [mVs, zfk, zcu i v, N2 _ l]
end
mutual
theorem zf5 : ∀ (i : Int) (v : GValue), vsz (mV i v) = vsz v
 | i, .mk _ _ s k l => by simp only [mV, vsz, VR, zct, Dv]
theorem Dv : ∀ (i : Int) (l : List GValue), qr (mVs i l) = qr l
 | _, [] => rfl
 | i, v :: l => by simp only [mVs, qr, zf5 i v, Dv _ l]
end
mutual
theorem HE : ∀ v : GValue, cV v <= 2 + 2 * vsz v
 | .mk _ _ s k l => by have := Dw l; have := VS k; simp only [cV, vsz]; omega
theorem Dw : ∀ l : List GValue, cVs l <= 2 * qr l
 | [] => by simp [cVs, qr]
 | v :: l => by have := HE v; have := Dw l; simp only [cVs, qr]; omega
end
/- addresses -/
theorem Pm {α : Type} {l : List α} {i : Nat} (h : i <= l.length) : w6 l none (some i) = some (l.take i) := by
 unfold w6 vP; rw [if_pos ⟨by simp, by simpa using h⟩]; simp
theorem JZ {α : Type} {l : List α} {i : Nat} (h : i <= l.length) : w6 l (some i) none = some (l.drop i) := by
 unfold w6 vP; rw [if_pos ⟨by simpa using h, by simp⟩]; simp
theorem G8 {α : Type} {l : List α} (h : 2 <= l.length) : w6 l (some 1) (some (l.length - 1)) = some ((l.drop 1).dropLast) := by
 unfold w6 vP
 rw [if_pos ⟨by simp; omega, by simp⟩]
 simp only [Option.getD_some, Option.map_some, List.dropLast_eq_take, List.length_drop, List.drop_take]
theorem N3 {α : Type} {l : List α} (h : 0 < l.length) : l[l.length - 1]? = l.getLast? := by rw [List.getLast?_eq_getElem?]
def QL (n : Nat) : List UInt8 := if n < 10 then [UInt8.ofNat (48 + n)] else [UInt8.ofNat (48 + n / 10), UInt8.ofNat (48 + n % 10)]
def Ka (l : List UInt8) : Bool := decide (1 <= l.length ∧ l.length <= 2) && !(decide (l.length = 2) && decide (l[0]? = some 48)) && l.all (inB 48 57)
def HF (l : List UInt8) : Bool := if l[0]? = some 34 then (if (l.drop 1).getLast? = some 34 then wD (l.drop 1).dropLast else false) else Ka l
def vJ (b : List UInt8) : List UInt8 := b.takeWhile fun x => decide (x ≠ 91)
def jX (b : List UInt8) : List UInt8 := b.dropWhile fun x => decide (x ≠ 91)
theorem Pn (b : List UInt8) : vJ b ++ jX b = b := List.takeWhile_append_dropWhile
theorem G9 (b : List UInt8) : b.take (vJ b).length = vJ b := by
 conv => lhs; arg 2; rw [<- Pn b]
 exact List.take_left
theorem GA (b : List UInt8) : b.drop (vJ b).length = jX b := by
 conv => lhs; arg 2; rw [<- Pn b]
 exact List.drop_left
theorem N4 (b : List UInt8) : (vJ b).length + (jX b).length = b.length := by
 rw [<- List.length_append, Pn]
theorem GB {b : List UInt8} (h : jX b ≠ []) : ∃ t, jX b = 91 :: t := by
 unfold jX at h ⊢
 induction b with
 | nil => exact (h rfl).elim
 | cons x b ih =>
  rw [List.dropWhile_cons] at h ⊢
  by_cases hx : x = 91
  ·subst hx
   exact ⟨b, by rw [if_neg (by simp)]⟩
  ·rw [if_pos (by simpa using hx)] at h ⊢
   exact ih h
def yj (b : List UInt8) : Bool := wD (vJ b) && (if jX b = [] then true else if ((jX b).drop 1).getLast? = some 93 then HF ((jX b).drop 1).dropLast else false)
theorem zgk {b : List UInt8} (h : wD b = true) : 1 <= b.length ∧ b.length <= 8 := by
 unfold wD at h
 rw [Bool.and_eq_true] at h
 exact of_decide_eq_true h.1
def gOk {α : Type} (p : α → Bool) (key : α → List UInt8) (l : List α) (j : Nat) : Bool := match l[j]? with
 | some b => p b && (decide (j = 0) || match l[j - 1]? with | some a => Op.bytesLess (key a) (key b) | none => false)
 | none => false
def j3 {α : Type} (p : α → Bool) (key : α → List UInt8) (l : List α) (i d : Nat) : Bool := (List.range' i d).all (gOk p key l)
theorem zgl {α : Type} (p : α → Bool) (key : α → List UInt8) (l : List α) (i : Nat) : j3 p key l i 0 = true := rfl
theorem QM {α : Type} (p : α → Bool) (key : α → List UInt8) (l : List α) (i d : Nat) : j3 p key l i (d + 1) = (gOk p key l i && j3 p key l (i + 1) d) := by
 unfold j3; rw [List.range'_succ, List.all_cons]
theorem VT {α : Type} {p : α → Bool} {key : α → List UInt8} {l : List α} {i : Nat} (h : i < l.length) (h0 : 0 < i) : gOk p key l i = (p l[i] && Op.bytesLess (key (l[i - 1]'(by omega))) (key l[i])) := by
 unfold gOk
 rw [zd h]
 simp only
 rw [zd (show i - 1 < l.length by omega)]
 simp [show i ≠ 0 by omega]
theorem Kb {α : Type} {p : α → Bool} {key : α → List UInt8} {l : List α} (h : 0 < l.length) : gOk p key l 0 = p l[0] := by
 unfold gOk
 rw [zd h]
 simp
theorem GC {α : Type} {p : α → Bool} {key : α → List UInt8} {l : List α} (h : j3 p key l 0 l.length = true) {j : Nat} (hj : j < l.length) : gOk p key l j = true := by
 unfold j3 at h
 exact List.all_eq_true.1 h j (List.mem_range'_1.2 ⟨by omega, by omega⟩)
theorem zfl {α : Type} {p : α → Bool} {key : α → List UInt8} {l : List α} (h : j3 p key l 0 l.length = true) {x : α} (hx : x ∈ l) : p x = true := by
 obtain ⟨j, hj, rfl⟩ := List.mem_iff_getElem.1 hx
 have := GC h hj
 unfold gOk at this
 rw [zd hj] at this
 simp only [Bool.and_eq_true] at this
 exact this.1
theorem N5 {α : Type} {p : α → Bool} {key : α → List UInt8} {l : List α} (h : j3 p key l 0 l.length = true) : Asc (l.map key) := by
 intro i j
 induction j with
 | zero => intro _ h; omega
 | succ j ih =>
  intro hj hij
  rw [List.length_map] at hj
  have hk := GC h hj
  rw [VT hj (by omega), Bool.and_eq_true] at hk
  have h1 := hk.2
  rw [List.getElem_map, List.getElem_map]
  rcases Nat.lt_or_ge i j with hlt | hge
  ·have := ih (by rw [List.length_map]; omega) hlt
   rw [List.getElem_map, List.getElem_map] at this
   exact jM this h1
  ·obtain rfl : i = j := by omega
   exact h1
def jN (l : List (List UInt8)) : Bool := decide (l.length <= 8) && j3 yj id l 0 l.length
def ju (v : GValue) : Bool := decide (v.Kind = 5) && kK v && knV v
def esz (e : GEntry) : Nat := e.Addr.length + vsz e.Val + bsz e.Deps
def yr : List GEntry → Nat
 | [] => 0
 | v :: l => 1 + esz v + yr l
theorem Qh {l : List GEntry} {v : GEntry} (h : v ∈ l) : 1 + esz v <= yr l := by
 induction l with
 | nil => cases h
 | cons x l ih =>
  simp only [yr]
  rcases List.mem_cons.1 h with rfl | h
  ·omega
  ·have := ih h; omega
theorem qP (l : List GEntry) : l.length <= yr l := by
 induction l with
 | nil => simp
 | cons x l ih => simp only [yr, List.length_cons]; omega
def Wk (ser : Int) (e : GEntry) : Bool := yj e.Addr && ju e.Val && jN e.Deps && decide (1 <= e.Turned ∧ e.Turned <= ser)
def qE (e : GEvent) : Nat := e.Addr.length + vsz e.Val + bsz e.Deps
def yk : List GEvent → Nat
 | [] => 0
 | v :: l => 1 + qE v + yk l
theorem VU {l : List GEvent} {v : GEvent} (h : v ∈ l) : 1 + qE v <= yk l := by
 induction l with
 | nil => cases h
 | cons x l ih =>
  simp only [yk]
  rcases List.mem_cons.1 h with rfl | h
  ·omega
  ·have := ih h; omega
theorem Zz (l : List GEvent) : l.length <= yk l := by
 induction l with
 | nil => simp
 | cons x l ih => simp only [yk, List.length_cons]; omega
def cEv (e : GEvent) : Nat := e.Addr.length + cV e.Val + cB e.Deps + 2
def HG : List GEvent → Nat
 | [] => 0
 | e :: l => cEv e + HG l
def mEv (k : Int) (e : GEvent) : GEvent := .mk k (mB (k + 1) e.Addr) (k + 1 + e.Addr.length) (mV (k + 1 + e.Addr.length + 1) e.Val) (mBB (k + 1 + e.Addr.length + 1 + cV e.Val) e.Deps)
def zg3 : Int → List GEvent → List GEvent
 | _, [] => []
 | k, e :: l => mEv k e :: zg3 (k + cEv e) l
theorem zfm (e : GEvent) : cEv e <= 4 + 2 * qE e := by
 have h1 := HE e.Val
 have h2 := VS e.Deps
 unfold cEv qE
 omega
theorem zcv : ∀ l : List GEvent, HG l <= 4 * yk l
 | [] => by simp [HG]
 | e :: l => by have := zfm e; have := zcv l; simp only [HG, yk]; omega
def vK (s : GStep) : Nat := s.Key.length
def wT : List GStep → Nat
 | [] => 0
 | v :: l => 1 + vK v + wT l
theorem QN {l : List GStep} {v : GStep} (h : v ∈ l) : 1 + vK v <= wT l := by
 induction l with
 | nil => cases h
 | cons x l ih =>
  simp only [wT]
  rcases List.mem_cons.1 h with rfl | h
  ·omega
  ·have := ih h; omega
theorem QO (l : List GStep) : l.length <= wT l := by
 induction l with
 | nil => simp
 | cons x l ih => simp only [wT, List.length_cons]; omega
def qV (s : GStep) : Bool := if s.Kind = 0 then wD s.Key && decide (s.I = 0) else decide (s.Kind = 1 ∧ s.Key = [] ∧ 0 <= s.I ∧ s.I <= 39)
def Kc (l : List GStep) : Bool := decide (l.length <= 6) && l.all qV
def ssz (s : GState) : Nat := s.Pending.length + yr s.Entries
def yB (l : List GEntry) (a : List UInt8) : Bool := l.any fun e => decide (e.Addr = a)
def LO (s : GState) : Bool := if s.Pending = [] then decide (s.Act = 0) else s.Open && yj s.Pending && decide (1 <= s.Act ∧ s.Act <= 4) && (yB s.Entries s.Pending == decide (s.Act ≠ 1))
def Po (s : GState) : Bool := j3 (Wk s.Serial) GEntry.Addr s.Entries 0 s.Entries.length
def stB (s : GState) : Bool := decide (0 <= s.Serial ∧ s.Serial <= 1000000 ∧ s.Entries.length <= 16) && Po s && LO s
def cE (e : GEntry) : Nat := e.Addr.length + cV e.Val + cB e.Deps + 2
def cEs : List GEntry → Nat
 | [] => 0
 | e :: l => cE e + cEs l
def mE (k : Int) (e : GEntry) : GEntry := .mk (mB k e.Addr) (mV (k + e.Addr.length) e.Val) (mBB (k + e.Addr.length + cV e.Val) e.Deps) (decide ((k + e.Addr.length + cV e.Val + cB e.Deps).tmod 3 = 0)) (k + e.Addr.length + cV e.Val + cB e.Deps + 1)
def mEs : Int → List GEntry → List GEntry
 | _, [] => []
 | k, e :: l => mE k e :: mEs (k + cE e) l
theorem zf6 (e : GEntry) : cE e <= 4 + 2 * esz e := by
 have h1 := HE e.Val
 have h2 := VS e.Deps
 unfold cE esz
 omega
theorem zfn : ∀ l : List GEntry, cEs l <= 4 * yr l
 | [] => by simp [cEs]
 | e :: l => by have := zf6 e; have := zfn l; simp only [cEs, yr]; omega
theorem zh {f : FuncId} {fn : Func} (h : Tryz.prog.funcs[f]? = some fn) (hu : HH.contains f = true := by kernel_rfl) (hb : fn.body.isSome = true := by kernel_rfl) : cfg.funcs f = some (Am.bodyOf fn, fn.ntmps, fn.results.toList) := by
 rw [Lb]
 unfold HI Qy
 rw [hu, h]
 obtain ⟨c, hc⟩ := Option.isSome_iff_exists.1 hb
 simp only [Option.bind_some, Am.bodyOf, hc, Option.map_some, cond_true]
abbrev Oc {α : Type} (o : Option α) (f : FuncId) (st : List Entry) (xs : List V) (enc : α → V × List Entry) : Prop := OkC cfg o f st xs enc
abbrev Ol {α : Type} (o : Option α) (f : FuncId) (b : Code) (s : S) (enc : α → Ex × S) : Prop := OkL cfg o f b s enc
def y5 (a b : List UInt8) : Option Int := some (Lib.compareBytes a b)
def qx (a : List UInt8) (b : UInt8) : Option Int := some (Lib.indexByte a b)
def wx (a0 : Int) (e0 : List GEntry) : List GEntry → Option (List GEntry)
 | [x] => if 0 <= a0 ∧ a0 <= (e0.length : Int) ∧ e0.length <= 1048576 then some (yF e0 a0.toNat x) else none
 | _ => none
def wy (a0 a1 : Int) (e0 : List GEntry) : Option (List GEntry) := if 0 <= a0 ∧ a0 < (e0.length : Int) ∧ a1 = a0 + 1 ∧ e0.length <= 1048576 then some (wZ e0 a0.toNat) else none
theorem zfo {α : Type} (e : α → List C) (l : List α) (i : Nat) (x : α) : yF (eL e l) i (e x) = eL e (yF l i x) := by simp [yF, eL]
theorem zfp {α : Type} (e : α → List C) (l : List α) (i : Nat) : wZ (eL e l) i = eL e (wZ l i) := by simp [wZ, eL]
def je (a : List UInt8) : Option (Int × Bool) := if a.length <= 2 ^ 40 then some (y6 a) else none
theorem Yg (a0 : Int) (e0 e1 : List GEntry) : Oc (wx a0 e0 e1) 140 [.obj 9 (eL yc e0), .obj 9 (eL yc e1)] [vr 0, vi a0, vr 1] fun r => (.val false [.own 9 (eL yc r)], [.dead, .dead]) := by
 intro r h
 match e1, h with
 | [x], h =>
  simp only [wx] at h
  split at h
  ·rename_i hc
   obtain rfl := Option.some.inj h
   refine KI ?_
   show (if 0 <= a0 ∧ a0 <= ((eL yc e0).length : Int) ∧ (eL yc e0).length <= 1048576 then some ((V.val false [.own 9 (yF (eL yc e0) a0.toNat (yc x))], [.dead, .dead]) : V × List Entry) else none) = _
   rw [if_pos (by simpa [eL] using hc), zfo]
  ·cases h
theorem QY (a0 a1 : Int) (e0 : List GEntry) : Oc (wy a0 a1 e0) 141 [.obj 9 (eL yc e0)] [vr 0, vi a0, vi a1] fun r => (.val false [.own 9 (eL yc r)], [.dead]) := by
 intro r h
 simp only [wy] at h
 split at h
 ·rename_i hc
  obtain rfl := Option.some.inj h
  refine KI ?_
  show (if 0 <= a0 ∧ a0 < ((eL yc e0).length : Int) ∧ a1 = a0 + 1 ∧ (eL yc e0).length <= 1048576 then some ((V.val false [.own 9 (wZ (eL yc e0) a0.toNat)], [.dead]) : V × List Entry) else none) = _
  rw [if_pos (by simpa [eL] using hc), zfp]
 ·cases h
theorem XP (a b : List UInt8) : Oc (y5 a b) 166 [] [vq za a, vq za b] fun r => (vi r, []) := by
 intro r h
 obtain rfl := Option.some.inj h
 refine KI ?_
 show ((bytesOf (eL za a)).bind fun x => (bytesOf (eL za b)).map fun y => ((V.val false [C.int .i64 (Lib.compareBytes x y)], []) : V × List Entry)) = _
 rw [JH, JH]; rfl
theorem Pp (a : List UInt8) : Oc (je a) 173 [] [vs a] fun r => (.tup [(false, [ci r.1]), (false, [jQ r.2])], []) := by
 intro r h
 unfold je at h
 by_cases ha : a.length <= 2 ^ 40
 ·rw [if_pos ha] at h
  obtain rfl := Option.some.inj h
  refine KI ?_
  show (if a.length <= 2 ^ 40 then some ((V.tup [(false, [.int .i64 (y6 a).1]), (false, [jQ (y6 a).2])], []) : V × List Entry) else none) = _
  rw [if_pos ha]
  rfl
 ·rw [if_neg ha] at h; cases h
theorem Xn (a : List UInt8) (b : UInt8) : Oc (qx a b) 227 [] [vq za a, .val false [.int .u8 ((b.toNat : Nat) : Int)]] fun r => (vi r, []) := by
 intro r h
 obtain rfl := Option.some.inj h
 refine KI ?_
 show ((bytesOf (eL za a)).map fun x => ((V.val false [C.int .i64 (Lib.indexByte x ((b.toNat : Nat) : Int).toNat.toUInt8)], []) : V × List Entry)) = _
 rw [JH, Int.toNat_natCast, show b.toNat.toUInt8 = b from UInt8.ofNat_toNat]; rfl
end
end Go.Am.Try
