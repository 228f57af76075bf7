/- The functions of the program in plain Lean, and that the machine answers as they do; conditions at each theorem. -/
import Derived.Test.YtjmhaigcaidloaaGreatDoorFS2
import Derived.Test.YtjmhaigcaidloaaGreatDoorFAmD
set_option linter.unusedVariables false
set_option linter.unusedSimpArgs false
namespace Go.Am.Try
open Go.Am Go.Proofs
set_option linter.unusedVariables false
noncomputable section
theorem BR {α : Type} {f : α → List C} : ([] : List (List C)) = eL f [] := rfl
theorem BA {α : Type} {f : α → List C} {x : α} {c : List C} {xs : List α} {cs : List (List C)} (h : f x = c) (t : cs = eL f xs) : c :: cs = eL f (x :: xs) := by subst h; subst t; rfl
inductive GValue where
 | mk (Kind : Int) (N : Int) (S : (List UInt8)) (K : (List (List UInt8))) (L : (List GValue))
def GValue.Kind : GValue → Int
 | .mk x _ _ _ _ => x
def GValue.N : GValue → Int
 | .mk _ x _ _ _ => x
def GValue.S : GValue → (List UInt8)
 | .mk _ _ x _ _ => x
def GValue.K : GValue → (List (List UInt8))
 | .mk _ _ _ x _ => x
def GValue.L : GValue → (List GValue)
 | .mk _ _ _ _ x => x
theorem GValue.eta (x : GValue) : GValue.mk x.Kind x.N x.S x.K x.L = x := by cases x; rfl
mutual
def zd : GValue → List C
 | .mk Kind N S K L => [.int .i64 Kind, .int .i64 N, .seq (eL za S), .seq (eL (zq za) K), .seq (vI L)]
def vI : List GValue → List (List C)
 | [] => []
 | v :: l => zd v :: vI l
end
theorem PM (l : List GValue) : vI l = eL zd l := by
 induction l with
 | nil => rfl
 | cons v l ih => simp only [vI, ih]; rfl
def z8 (x : GValue) : List C := [.int .i64 x.Kind, .int .i64 x.N, .seq (eL za x.S), .seq (eL (zq za) x.K), .seq (eL zd x.L)]
theorem zR (x : GValue) : zd x = z8 x := by
 cases x; simp only [zd, z8, PM, GValue.Kind, GValue.N, GValue.S, GValue.K, GValue.L]
mutual
def yp : GValue → List C
 | .mk Kind N S K L => [.int .i64 Kind, .int .i64 N, .own 1 (eL za S), .own 1 (eL (yD 1 za) K), .own 5 (j7 L)]
def j7 : List GValue → List (List C)
 | [] => []
 | v :: l => yp v :: j7 l
end
theorem PN (l : List GValue) : j7 l = eL yp l := by
 induction l with
 | nil => rfl
 | cons v l ih => simp only [j7, ih]; rfl
def KS (x : GValue) : List C := [.int .i64 x.Kind, .int .i64 x.N, .own 1 (eL za x.S), .own 1 (eL (yD 1 za) x.K), .own 5 (eL yp x.L)]
theorem yJ (x : GValue) : yp x = KS x := by
 cases x; simp only [yp, KS, PN, GValue.Kind, GValue.N, GValue.S, GValue.K, GValue.L]
mutual
theorem TJ : ∀ x : GValue, ya (yp x) = zd x
 | .mk Kind N S K L => by have h := VZ L; simp only [yp, zd, ya, qC, h, jD wG, jD (jb 1 wG)]
theorem VZ : ∀ l : List GValue, yT (j7 l) = vI l
 | [] => rfl
 | v :: l => by have h := TJ v; have g := VZ l; simp only [j7, vI, yT, h, g]
end
mutual
theorem TK : ∀ x : GValue, kn (yp x) = true
 | .mk Kind N S K L => by have h := Ra L; simp only [yp, kn, ja, h, jE wG, jE (jb 1 wG), Bool.and_self]
theorem Ra : ∀ l : List GValue, jI (j7 l) = true
 | [] => rfl
 | v :: l => by have h := TK v; have g := Ra l; simp only [j7, jI, h, g, Bool.and_self]
end
theorem PO : OEnc 5 yp zd := ⟨fun x => by rw [yJ]; rfl, TJ, TK⟩
theorem BB : Enc 5 zd := ⟨fun x => by rw [zR]; rfl, fun x => by rw [zR]; rfl, fun x => by rw [zR]; rfl⟩
inductive GEntry where
 | mk (Addr : (List UInt8)) (Val : GValue) (Deps : (List (List UInt8))) (Taint : Bool) (Turned : Int)
def GEntry.Addr : GEntry → (List UInt8)
 | .mk x _ _ _ _ => x
def GEntry.Val : GEntry → GValue
 | .mk _ x _ _ _ => x
def GEntry.Deps : GEntry → (List (List UInt8))
 | .mk _ _ x _ _ => x
def GEntry.Taint : GEntry → Bool
 | .mk _ _ _ x _ => x
def GEntry.Turned : GEntry → Int
 | .mk _ _ _ _ x => x
theorem GEntry.eta (x : GEntry) : GEntry.mk x.Addr x.Val x.Deps x.Taint x.Turned = x := by cases x; rfl
def zr (x : GEntry) : List C := [.seq (eL za x.Addr), .int .i64 x.Val.Kind, .int .i64 x.Val.N, .seq (eL za x.Val.S), .seq (eL (zq za) x.Val.K), .seq (eL zd x.Val.L), .seq (eL (zq za) x.Deps), .bool x.Taint, .int .i64 x.Turned]
def ZA (x : GEntry) : List C := [.seq (eL za x.Addr), .int .i64 x.Val.Kind, .int .i64 x.Val.N, .seq (eL za x.Val.S), .seq (eL (zq za) x.Val.K), .seq (eL zd x.Val.L), .seq (eL (zq za) x.Deps), .bool x.Taint, .int .i64 x.Turned]
theorem zS (x : GEntry) : zr x = ZA x := rfl
def yQ (x : GEntry) : List C := [.own 1 (eL za x.Addr), .int .i64 x.Val.Kind, .int .i64 x.Val.N, .own 1 (eL za x.Val.S), .own 1 (eL (yD 1 za) x.Val.K), .own 5 (eL yp x.Val.L), .own 1 (eL (yD 1 za) x.Deps), .bool x.Taint, .int .i64 x.Turned]
def PP (x : GEntry) : List C := [.own 1 (eL za x.Addr), .int .i64 x.Val.Kind, .int .i64 x.Val.N, .own 1 (eL za x.Val.S), .own 1 (eL (yD 1 za) x.Val.K), .own 5 (eL yp x.Val.L), .own 1 (eL (yD 1 za) x.Deps), .bool x.Taint, .int .i64 x.Turned]
theorem zW (x : GEntry) : yQ x = PP x := rfl
theorem wS : OEnc 9 yQ zr := ⟨fun x => rfl, fun x => by simp only [yQ, zr, ya, qC, jD wG, jD (jb 1 wG), jD PO], fun x => by simp only [yQ, kn, ja, jE wG, jE (jb 1 wG), jE PO, Bool.and_self]⟩
theorem BC : Enc 9 zr := ⟨fun x => by rw [zS]; rfl, fun x => by rw [zS]; rfl, fun x => by rw [zS]; rfl⟩
inductive GState where
 | mk (Serial : Int) (Open : Bool) (Pending : (List UInt8)) (Act : Int) (Entries : (List GEntry))
def GState.Serial : GState → Int
 | .mk x _ _ _ _ => x
def GState.Open : GState → Bool
 | .mk _ x _ _ _ => x
def GState.Pending : GState → (List UInt8)
 | .mk _ _ x _ _ => x
def GState.Act : GState → Int
 | .mk _ _ _ x _ => x
def GState.Entries : GState → (List GEntry)
 | .mk _ _ _ _ x => x
theorem GState.eta (x : GState) : GState.mk x.Serial x.Open x.Pending x.Act x.Entries = x := by cases x; rfl
def Xh (x : GState) : List C := [.int .i64 x.Serial, .bool x.Open, .seq (eL za x.Pending), .int .i64 x.Act, .seq (eL zr x.Entries)]
def zw (x : GState) : List C := [.int .i64 x.Serial, .bool x.Open, .seq (eL za x.Pending), .int .i64 x.Act, .seq (eL zr x.Entries)]
theorem eq_GState (x : GState) : Xh x = zw x := rfl
def WS (x : GState) : List C := [.int .i64 x.Serial, .bool x.Open, .own 1 (eL za x.Pending), .int .i64 x.Act, .own 9 (eL yQ x.Entries)]
def PQ (x : GState) : List C := [.int .i64 x.Serial, .bool x.Open, .own 1 (eL za x.Pending), .int .i64 x.Act, .own 9 (eL yQ x.Entries)]
theorem Bc (x : GState) : WS x = PQ x := rfl
theorem BD : OEnc 5 WS Xh := ⟨fun x => rfl, fun x => by simp only [WS, Xh, ya, qC, jD wG, jD wS], fun x => by simp only [WS, kn, ja, jE wG, jE wS, Bool.and_self]⟩
theorem BE : Enc 5 Xh := ⟨fun x => by rw [eq_GState]; rfl, fun x => by rw [eq_GState]; rfl, fun x => by rw [eq_GState]; rfl⟩
def bsz (k : List (List UInt8)) : Nat := k.length + (k.map List.length).sum
mutual
def vsz : GValue → Nat
 | .mk _ _ s k l => s.length + bsz k + yK l
def yK : List GValue → Nat
 | [] => 0
 | v :: l => 1 + vsz v + yK l
end
theorem ZB {k : List (List UInt8)} {b : List UInt8} (h : b ∈ k) : 1 + b.length <= bsz k := by
 unfold bsz
 induction k with
 | nil => cases h
 | cons x k ih =>
  simp only [List.length_cons, List.map_cons, List.sum_cons]
  rcases List.mem_cons.1 h with rfl | h
  ·omega
  ·have := ih h; omega
theorem wQ (k : List (List UInt8)) : k.length <= bsz k := by unfold bsz; omega
theorem jH (b : List UInt8) (k : List (List UInt8)) : bsz (b :: k) = 1 + b.length + bsz k := by unfold bsz; simp; omega
theorem w6 {l : List GValue} {v : GValue} (h : v ∈ l) : 1 + vsz v <= yK l := by
 induction l with
 | nil => cases h
 | cons x l ih =>
  simp only [yK]
  rcases List.mem_cons.1 h with rfl | h
  ·omega
  ·have := ih h; omega
theorem yR (l : List GValue) : l.length <= yK l := by
 induction l with
 | nil => simp
 | cons x l ih => simp only [yK, List.length_cons]; omega
theorem qa (v : GValue) : vsz v = v.S.length + bsz v.K + yK v.L := by cases v; simp only [vsz, GValue.S, GValue.K, GValue.L]
mutual
def ptV : GValue → Nat
 | .mk _ _ _ _ l => 1 + xS l
def xS : List GValue → Nat
 | [] => 0
 | v :: l => ptV v + xS l
end
theorem PR (v : GValue) : ptV v = 1 + xS v.L := by cases v; simp only [ptV, GValue.L]
theorem GB (l : List GValue) : l.length <= xS l := by
 induction l with
 | nil => simp
 | cons v l ih => have := PR v; simp only [xS, List.length_cons]; omega
mutual
theorem DM : ∀ v : GValue, ptV v <= 1 + vsz v
 | .mk _ _ _ _ l => by have := Tj l; simp only [ptV, vsz]; omega
theorem Tj : ∀ l : List GValue, xS l <= yK l
 | [] => by simp [xS, yK]
 | v :: l => by have := DM v; have := Tj l; simp only [xS, yK]; omega
end
def Zo (a : List UInt8) : Bool := decide (a.length <= 20) && a.all (inB 32 126)
def qf (a : List UInt8) : Bool := decide (1 <= a.length ∧ a.length <= 8) && a.all (inB 97 122)
def kOk (k : List (List UInt8)) (j : Nat) : Bool := match k[j]? with
 | some b => qf b && (decide (j = 0) || match k[j - 1]? with | some a => Op.bytesLess a b | none => false)
 | none => false
def q7 (k : List (List UInt8)) (i d : Nat) : Bool := (List.range' i d).all (kOk k)
theorem XJ (k : List (List UInt8)) (i d : Nat) : q7 k i (d + 1) = (kOk k i && q7 k (i + 1) d) := by
 unfold q7; rw [List.range'_succ, List.all_cons]
theorem Xi {k : List (List UInt8)} {i : Nat} (h : i < k.length) (h0 : 0 < i) : kOk k i = (qf k[i] && Op.bytesLess (k[i - 1]'(by omega)) k[i]) := by
 unfold kOk
 rw [zg h]
 simp only
 rw [zg (show i - 1 < k.length by omega)]
 simp [show i ≠ 0 by omega]
theorem WU {k : List (List UInt8)} (h : 0 < k.length) : kOk k 0 = qf k[0] := by
 unfold kOk
 rw [zg h]
 simp
theorem ZC (a b : List UInt8) : (0 <= Lib.compareBytes a b) = ¬ (Op.bytesLess a b = true) := by
 induction a generalizing b with
 | nil => cases b <;> simp [Lib.compareBytes, Op.bytesLess]
 | cons x a ih =>
  cases b with
  | nil => simp [Lib.compareBytes, Op.bytesLess]
  | cons y b =>
   simp only [Lib.compareBytes, Op.bytesLess]
   by_cases h1 : x < y
   ·simp [h1]
   ·by_cases h2 : y < x
    ·have h3 : ¬ x = y := fun e => by subst e; exact h1 h2
     simp [h1, h2, h3]
    ·have h3 : x = y := UInt8.le_antisymm (UInt8.not_lt.1 h2) (UInt8.not_lt.1 h1)
     subst h3
     simp [h1, ih]
def yq (v : GValue) : Bool :=
 if v.Kind = 0 ∨ v.Kind = 6 then decide (v.N = 0 ∧ v.S.length = 0 ∧ v.K.length = 0 ∧ v.L.length = 0)
 else if v.Kind = 1 then decide ((0 <= v.N ∧ v.N <= 1) ∧ v.S.length = 0 ∧ v.K.length = 0 ∧ v.L.length = 0)
 else if v.Kind = 2 then decide ((-1000000000000 <= v.N ∧ v.N <= 1000000000000) ∧ v.S.length = 0 ∧ v.K.length = 0 ∧ v.L.length = 0)
 else if v.Kind = 3 then Zo v.S && decide (v.N = 0 ∧ v.K.length = 0 ∧ v.L.length = 0)
 else if v.Kind = 4 then decide (v.N = 0 ∧ v.S.length = 0 ∧ v.K.length = 0 ∧ v.L.length <= 40)
 else if v.Kind = 5 then decide (v.K.length = v.L.length ∧ v.N = 0 ∧ v.S.length = 0 ∧ v.L.length <= 40) && q7 v.K 0 v.K.length
 else false
def shV : Nat → GValue → Bool
 | 0, _ => false
 | d + 1, v => yq v && v.L.all (shV d)
def wk (s : Nat) (n : Int) : Int := if (s : Int) <= n then n - s else -1
/- calls -/
theorem ZD (a : List UInt8) : Op.bytesLess a a = false := by
 induction a with
 | nil => rfl
 | cons x a ih => simp [Op.bytesLess, ih]
theorem kX : ∀ {a b c : List UInt8}, Op.bytesLess a b = true → Op.bytesLess b c = true → Op.bytesLess a c = true
 | [], [], _, h, _ => by simp [Op.bytesLess] at h
 | [], _ :: _, [], _, h => by simp [Op.bytesLess] at h
 | [], _ :: _, _ :: _, _, _ => rfl
 | _ :: _, [], _, h, _ => by simp [Op.bytesLess] at h
 | _ :: _, _ :: _, [], _, h => by simp [Op.bytesLess] at h
 | x :: a, y :: b, z :: c, h, g => by
  simp only [Op.bytesLess, Bool.or_eq_true, decide_eq_true_eq, Bool.and_eq_true, beq_iff_eq] at h g ⊢
  rcases h with h | ⟨rfl, h⟩
  ·rcases g with g | ⟨rfl, g⟩
   ·exact .inl (UInt8.lt_trans h g)
   ·exact .inl h
  ·rcases g with g | ⟨rfl, g⟩
   ·exact .inl g
   ·exact .inr ⟨rfl, kX h g⟩
theorem PS : ∀ (a b : List UInt8), Lib.compareBytes a b = 0 ↔ a = b
 | [], [] => by simp [Lib.compareBytes]
 | [], _ :: _ => by simp [Lib.compareBytes]
 | _ :: _, [] => by simp [Lib.compareBytes]
 | x :: a, y :: b => by
  have ih := PS a b
  simp only [Lib.compareBytes]
  by_cases h1 : x < y
  ·rw [if_pos h1]
   have : x ≠ y := fun e => by subst e; exact absurd h1 (UInt8.lt_irrefl x)
   simp [this]
  ·rw [if_neg h1]
   by_cases h2 : y < x
   ·rw [if_pos h2]
    have : x ≠ y := fun e => by subst e; exact absurd h2 (UInt8.lt_irrefl x)
    simp [this]
   ·have h3 : x = y := UInt8.le_antisymm (UInt8.not_lt.1 h2) (UInt8.not_lt.1 h1)
    subst h3
    rw [if_neg h2, ih]; simp
theorem Tk (a b : List UInt8) : (Lib.compareBytes a b < 0) = (Op.bytesLess a b = true) := by
 have := ZC a b
 apply propext
 constructor
 ·intro h
  refine Classical.byContradiction fun hn => ?_
  rw [<- this] at hn
  omega
 ·intro h
  refine Classical.byContradiction fun hn => ?_
  have h0 : 0 <= Lib.compareBytes a b := by omega
  rw [this] at h0
  exact h0 h
def WV (a : List (List UInt8)) (x : List UInt8) (c : Nat) : Prop := c <= a.length ∧ ∀ k (h : k < a.length), k < c ↔ Op.bytesLess a[k] x = true
def Asc (a : List (List UInt8)) : Prop := ∀ i j (hj : j < a.length) (hij : i < j), Op.bytesLess (a[i]'(by omega)) a[j] = true
theorem WV.of {a : List (List UInt8)} (ha : Asc a) (x : List UInt8) : ∃ c, WV a x c := by
 have : ∀ n, n <= a.length → ∃ c, c <= n ∧ ∀ k (h : k < a.length), k < n → (k < c ↔ Op.bytesLess a[k] x = true) := by
  intro n
  induction n with
  | zero => exact fun _ => ⟨0, Nat.le_refl _, fun k h hk => by omega⟩
  | succ n ih =>
   intro hn
   obtain ⟨c, hc, h⟩ := ih (by omega)
   by_cases hl : Op.bytesLess (a[n]'(by omega)) x = true
   ·have hcn : c = n := by
     refine Classical.byContradiction fun hne => ?_
     have h1 := h c (by omega) (by omega)
     have h2 := ha c n (by omega) (by omega)
     have := h1.2 (kX h2 hl)
     omega
    refine ⟨n + 1, Nat.le_refl _, fun k hk hkn => ?_⟩
    rcases Nat.lt_or_ge k n with hlt | hge
    ·exact ⟨fun _ => (h k hk hlt).1 (by omega), fun _ => by omega⟩
    ·obtain rfl : k = n := by omega
     exact ⟨fun _ => hl, fun _ => by omega⟩
   ·refine ⟨c, by omega, fun k hk hkn => ?_⟩
    rcases Nat.lt_or_ge k n with hlt | hge
    ·exact h k hk hlt
    ·obtain rfl : k = n := by omega
     exact ⟨fun _ => by omega, fun h => (hl h).elim⟩
 obtain ⟨c, hc, h⟩ := this a.length (Nat.le_refl _)
 exact ⟨c, hc, fun k hk => h k hk hk⟩
theorem WV.mem {a : List (List UInt8)} (ha : Asc a) {x : List UInt8} {c : Nat} (h : WV a x c) : a[c]? = some x ↔ x ∈ a := by
 constructor
 ·exact List.mem_of_getElem?
 ·intro hx
  obtain ⟨k, hk, rfl⟩ := List.mem_iff_getElem.1 hx
  have h1 : ¬ k < c := fun hlt => by
   have := (h.2 k hk).1 hlt
   rw [ZD] at this
   cases this
  have h2 : k = c := by
   refine Classical.byContradiction fun hne => ?_
   have hlt : c < k := by omega
   have := (h.2 c (by omega)).2 (ha c k hk hlt)
   omega
  subst h2
  exact zg hk
theorem Ns {i j : Nat} (h : i + j < 2 ^ 62) : w64 (YM .shr .u64 (IntKind.u64.wrap (w64 ((i : Int) + (j : Int)))) 1) = (((i + j) / 2 : Nat) : Int) := by
 rw [xt (x := (i : Int) + (j : Int)) (by omega) (by omega)]
 have h1 : IntKind.u64.wrap ((i : Int) + (j : Int)) = (i : Int) + (j : Int) := by unfold IntKind.wrap; simp [IntKind.bits, IntKind.signed]; omega
 rw [h1]
 have h2 : YM .shr .u64 ((i : Int) + (j : Int)) 1 = (((i + j) / 2 : Nat) : Int) := by
  show Int.fdiv _ (2 ^ (min (1 : Int).toNat IntKind.u64.bits)) = _
  rw [show min (1 : Int).toNat IntKind.u64.bits = 1 from rfl, Int.fdiv_eq_ediv_of_nonneg _ (by decide)]
  omega
 rw [h2, xt (by omega) (by omega)]
def Zp (v : GValue) : Bool := decide (shV 5 v = true ∧ (ptV v : Int) <= 40)
theorem EF {k : List (List UInt8)} (h : q7 k 0 k.length = true) {j : Nat} (hj : j < k.length) : kOk k j = true := by
 unfold q7 at h
 exact List.all_eq_true.1 h j (List.mem_range'_1.2 ⟨by omega, by omega⟩)
theorem GC {k : List (List UInt8)} (h : q7 k 0 k.length = true) : Asc k := by
 intro i j
 induction j with
 | zero => intro _ h; omega
 | succ j ih =>
  intro hj hij
  have hk := EF h hj
  rw [Xi hj (by omega), Bool.and_eq_true] at hk
  have h1 : Op.bytesLess (k[j]'(by omega)) k[j + 1] = true := hk.2
  rcases Nat.lt_or_ge i j with hlt | hge
  ·exact kX (ih (by omega) hlt) h1
  ·obtain rfl : i = j := by omega
   exact h1
theorem BF {v : GValue} (h : Zp v = true) : yq v = true ∧ ∀ x ∈ v.L, shV 4 x = true := by
 unfold Zp at h
 have h1 := (of_decide_eq_true h).1
 rw [shV, Bool.and_eq_true, List.all_eq_true] at h1
 exact h1
def PT (a : List UInt8) : List UInt8 := if a = [108, 101, 110] then [99] else if a = [99, 97, 116] then [116, 116] else if a = [107, 101, 121, 115] then [109] else if a = [118, 97, 108, 115] then [109] else if a = [104, 97, 115] then [109, 116] else if a = [109, 105, 110] then [105, 105] else if a = [109, 97, 120] then [105, 105] else []
def BY (a : List UInt8) : List (List Int) := if a = [108, 101, 110] then [[3, 4, 5]] else if a = [99, 97, 116] then [[3], [3]] else if a = [107, 101, 121, 115] then [[5]] else if a = [118, 97, 108, 115] then [[5]] else if a = [104, 97, 115] then [[5], [3]] else if a = [109, 105, 110] then [[2], [2]] else if a = [109, 97, 120] then [[2], [2]] else []
def WW (x : GValue) (c : UInt8) : Bool := if ((c.toNat : Nat) : Int) = 116 then decide (x.Kind = 3) else if ((c.toNat : Nat) : Int) = 105 then decide (x.Kind = 2) else if ((c.toNat : Nat) : Int) = 109 then decide (x.Kind = 5) else decide (x.Kind = 3 ∨ x.Kind = 4 ∨ x.Kind = 5)
def HL : List UInt8 → List GValue → Bool
 | c :: cs, v :: l => (decide (v.Kind = 6) || WW v c) && HL cs l
 | _, _ => true
def Bd : List (List Int) → List GValue → Bool
 | c :: cs, v :: l => (decide (v.Kind = 6) || decide (v.Kind ∈ c)) && Bd cs l
 | _, _ => true
def zV : GValue := .mk 0 0 [] [] []
def vE (a : List UInt8) (x y : GValue) : GValue × Int :=
 if a = [108, 101, 110] then (if x.Kind = 3 then .mk 2 (x.S.length : Int) [] [] [] else .mk 2 (x.L.length : Int) [] [] [], 0)
 else if a = [99, 97, 116] then (if 20 < (x.S ++ y.S).length then (zV, 4) else (.mk 3 0 (x.S ++ y.S) [] [], 0))
 else if a = [107, 101, 121, 115] then (.mk 4 0 [] [] (x.K.map fun k => .mk 3 0 k [] []), 0)
 else if a = [118, 97, 108, 115] then (.mk 4 0 [] [] x.L, 0)
 else if a = [104, 97, 115] then (.mk 1 (if y.S ∈ x.K then 1 else 0) [] [] [], 0)
 else if a = [109, 105, 110] then (.mk 2 (if y.N < x.N then y.N else x.N) [] [] [], 0)
 else (.mk 2 (if x.N < y.N then y.N else x.N) [] [] [], 0)
theorem BG (x y : GValue) : vE [108, 101, 110] x y = (if x.Kind = 3 then .mk 2 (x.S.length : Int) [] [] [] else .mk 2 (x.L.length : Int) [] [] [], 0) := by simp [vE]
theorem BH (x y : GValue) : vE [99, 97, 116] x y = if 20 < (x.S ++ y.S).length then (zV, 4) else (.mk 3 0 (x.S ++ y.S) [] [], 0) := by simp [vE]
theorem Bt (x y : GValue) : vE [107, 101, 121, 115] x y = (.mk 4 0 [] [] (x.K.map fun k => .mk 3 0 k [] []), 0) := by simp [vE]
theorem Bu (x y : GValue) : vE [118, 97, 108, 115] x y = (.mk 4 0 [] [] x.L, 0) := by simp [vE]
theorem BI (x y : GValue) : vE [104, 97, 115] x y = (.mk 1 (if y.S ∈ x.K then 1 else 0) [] [] [], 0) := by simp [vE]
theorem BJ (x y : GValue) : vE [109, 105, 110] x y = (.mk 2 (if y.N < x.N then y.N else x.N) [] [] [], 0) := by simp [vE]
theorem BK (x y : GValue) : vE [109, 97, 120] x y = (.mk 2 (if x.N < y.N then y.N else x.N) [] [] [], 0) := by simp [vE]
theorem Ai (x : GValue) : WW x 116 = decide (x.Kind = 3) := by unfold WW; rw [if_pos (show ((UInt8.toNat 116 : Nat) : Int) = 116 from rfl)]
theorem Aj (x : GValue) : WW x 105 = decide (x.Kind = 2) := by unfold WW; rw [if_neg (show ¬ ((UInt8.toNat 105 : Nat) : Int) = 116 by decide), if_pos (show ((UInt8.toNat 105 : Nat) : Int) = 105 from rfl)]
theorem Ak (x : GValue) : WW x 109 = decide (x.Kind = 5) := by unfold WW; rw [if_neg (show ¬ ((UInt8.toNat 109 : Nat) : Int) = 116 by decide), if_neg (show ¬ ((UInt8.toNat 109 : Nat) : Int) = 105 by decide), if_pos (show ((UInt8.toNat 109 : Nat) : Int) = 109 from rfl)]
theorem Al (x : GValue) : WW x 99 = decide (x.Kind = 3 ∨ x.Kind = 4 ∨ x.Kind = 5) := by unfold WW; rw [if_neg (show ¬ ((UInt8.toNat 99 : Nat) : Int) = 116 by decide), if_neg (show ¬ ((UInt8.toNat 99 : Nat) : Int) = 105 by decide), if_neg (show ¬ ((UInt8.toNat 99 : Nat) : Int) = 109 by decide)]
def DN (l : List GValue) : Bool := l.all fun v => decide (v.Kind ≠ 6)
def Be (a : List UInt8) (l : List GValue) : GValue × Int :=
 if (PT a).length = 0 then (zV, 5) else if (PT a).length = l.length then
  (if HL (PT a) l = true then (if DN l = true then vE a ((l[0]?).getD zV) ((l[1]?).getD zV) else (.mk 6 0 [] [] [], 0)) else (zV, 2)) else (zV, 5)
def Ao (a : List UInt8) (l : List GValue) : GValue × Int := if 40 < l.length then (zV, 1) else if l.all Zp = true then Be a l else (zV, 1)
/- sorting -/
def Le (x y : List UInt8) : Prop := Op.bytesLess y x = false
theorem Rb : ∀ a b : List UInt8, Op.bytesLess a b = true ∨ a = b ∨ Op.bytesLess b a = true
 | [], [] => .inr (.inl rfl)
 | [], _ :: _ => .inl rfl
 | _ :: _, [] => .inr (.inr rfl)
 | x :: a, y :: b => by
  simp only [Op.bytesLess, Bool.or_eq_true, decide_eq_true_eq, Bool.and_eq_true, beq_iff_eq]
  by_cases h1 : x < y
  ·exact .inl (.inl h1)
  by_cases h2 : y < x
  ·exact .inr (.inr (.inl h2))
  ·have h3 : x = y := UInt8.le_antisymm (UInt8.not_lt.1 h2) (UInt8.not_lt.1 h1)
   subst h3
   rcases Rb a b with h | h | h
   ·exact .inl (.inr ⟨rfl, h⟩)
   ·exact .inr (.inl (by rw [h]))
   ·exact .inr (.inr (.inr ⟨rfl, h⟩))
theorem Le.refl (x : List UInt8) : Le x x := ZD x
theorem Le.of_less {x y : List UInt8} (h : Op.bytesLess x y = true) : Le x y := by
 unfold Le
 cases h2 : Op.bytesLess y x with
 | false => rfl
 | true => have := kX h h2; rw [ZD] at this; cases this
theorem Le.cases {x y : List UInt8} (h : Le x y) : x = y ∨ Op.bytesLess x y = true := by
 rcases Rb x y with g | g | g
 ·exact .inr g
 ·exact .inl g
 ·unfold Le at h; rw [h] at g; cases g
theorem Le.trans {x y z : List UInt8} (h : Le x y) (g : Le y z) : Le x z := by
 rcases h.cases with rfl | h
 ·exact g
 ·rcases g.cases with rfl | g
  ·exact Le.of_less h
  ·exact Le.of_less (kX h g)
theorem Le.of_not {x y : List UInt8} (h : ¬ Op.bytesLess y x = true) : Le x y := Bool.eq_false_iff.2 h
def gt (d : List (List UInt8)) (i : Nat) : List UInt8 := (d[i]?).getD []
theorem BS {d : List (List UInt8)} {i : Nat} (h : i < d.length) : d[i]? = some (gt d i) := by unfold gt; rw [zg h]; rfl
theorem Nt {d : List (List UInt8)} {i k : Nat} {x : List UInt8} (h : i < d.length) : gt (d.set i x) k = if k = i then x else gt d k := by
 unfold gt
 by_cases e : k = i
 ·subst e; rw [if_pos rfl, List.getElem?_set_self h]; rfl
 ·rw [if_neg e, List.getElem?_set_ne (fun e' => e e'.symm)]
def sw (d : List (List UInt8)) (i j : Nat) : List (List UInt8) := (d.set i (gt d j)).set j (gt d i)
theorem DO (d : List (List UInt8)) (i j : Nat) : (sw d i j).length = d.length := by unfold sw; simp
theorem HM {d : List (List UInt8)} {i j k : Nat} (hi : i < d.length) (hj : j < d.length) : gt (sw d i j) k = if k = j then gt d i else if k = i then gt d j else gt d k := by
 unfold sw
 rw [Nt (by simpa using hj), Nt hi]
structure Rg (a b : Nat) (d d' : List (List UInt8)) : Prop where
 len : d'.length = d.length
 perm : d'.Perm d
 out : ∀ i, (i < a ∨ b <= i) → gt d' i = gt d i
 all : ∀ Q : List UInt8 → Prop, (∀ i, a <= i → i < b → Q (gt d i)) → ∀ i, a <= i → i < b → Q (gt d' i)
theorem Rg.refl (a b : Nat) (d : List (List UInt8)) : Rg a b d d := ⟨rfl, .refl _, fun _ _ => rfl, fun _ h => h⟩
theorem Rg.trans {a b : Nat} {d d' d'' : List (List UInt8)} (h : Rg a b d d') (g : Rg a b d' d'') : Rg a b d d'' :=
 ⟨g.len.trans h.len, g.perm.trans h.perm, fun i hi => (g.out i hi).trans (h.out i hi), fun Q hq => g.all Q (h.all Q hq)⟩
theorem Rg.mono {a b a' b' : Nat} {d d' : List (List UInt8)} (h : Rg a b d d') (ha : a' <= a) (hb : b <= b') : Rg a' b' d d' :=
 ⟨h.len, h.perm, fun i hi => h.out i (by omega), fun Q hq i h1 h2 => by
  by_cases hin : a <= i ∧ i < b
  ·exact h.all Q (fun k k1 k2 => hq k (by omega) (by omega)) i hin.1 hin.2
  ·rw [h.out i (by omega)]; exact hq i h1 h2⟩
theorem EG {d : List (List UInt8)} {i j : Nat} (hi : i < d.length) (hj : j < d.length) : (sw d i j).Perm d := by
 have e1 : gt d j = d[j] := by unfold gt; rw [zg hj]; rfl
 have e2 : gt d i = d[i] := by unfold gt; rw [zg hi]; rfl
 unfold sw
 rw [e1, e2]
 exact List.set_set_perm hi hj
theorem Rg.swap {a b : Nat} {d : List (List UInt8)} {i j : Nat} (h1 : a <= i) (h2 : i < b) (h3 : a <= j) (h4 : j < b) (hb : b <= d.length) : Rg a b d (sw d i j) :=
 ⟨DO d i j, EG (by omega) (by omega), fun k hk => by rw [HM (by omega) (by omega), if_neg (by omega), if_neg (by omega)], fun Q hq k k1 k2 => by
  rw [HM (by omega) (by omega)]
  split
  ·exact hq i h1 h2
  ·split
   ·exact hq j h3 h4
   ·exact hq k k1 k2⟩
def Srt (a b : Nat) (d : List (List UInt8)) : Prop := ∀ i j, a <= i → i < j → j < b → Le (gt d i) (gt d j)
theorem BZ {x y : List UInt8} : (Lib.compareBytes x y < 0) ↔ Op.bytesLess x y = true := by rw [Tk]
/- values as expressions -/
mutual
def knV : GValue → Bool
 | .mk k _ _ _ l => decide (k ≠ 6) && Yq l
def Yq : List GValue → Bool
 | [] => true
 | v :: l => knV v && Yq l
end
theorem Nu (v : GValue) : knV v = (decide (v.Kind ≠ 6) && Yq v.L) := by cases v; rw [knV]; rfl
/- expressions renamed -/
/- marks -/
theorem yh {α : Type} (p : List α) (x : α) (l : List α) : (p ++ x :: l)[p.length]? = some x := by simp
theorem jy {α : Type} (p : List α) (x y : α) (l : List α) : (p ++ x :: l).set p.length y = p ++ y :: l := by simp
theorem Xj {α : Type} (p : List α) (x : α) (l : List α) : p ++ x :: l = (p ++ [x]) ++ l := by simp
theorem BL {α : Type} (p : List α) (x : α) : (p.length : Int) + 1 = ((p ++ [x]).length : Int) := by simp
theorem xK {α : Type} (p : List α) (x : α) (h : p.length < 2 ^ 62) : w64 ((p.length : Int) + 1) = ((p ++ [x]).length : Int) := by rw [zC h]; simp
theorem ZZ {α : Type} (p : List α) (x : α) (l : List α) : (p.length : Int) < ((p ++ x :: l).length : Int) := by simp; omega
theorem jz {α : Type} (p : List α) : ¬ (p.length : Int) < ((p ++ []).length : Int) := by simp
theorem j0 {n m : Nat} (hn : n <= 2 ^ 7) (hm : m <= 2 ^ 40) : wj n m := by
 have : m * n <= 2 ^ 40 * 2 ^ 7 := Nat.mul_le_mul hm hn
 unfold wj
 exact ⟨by rw [show Zt = 2 ^ 47 from rfl]; omega, by omega⟩
def mI : Int → List Int → List Int
 | _, [] => []
 | k, _ :: l => k :: mI (k + 1) l
theorem Aa (l : List Int) (k : Int) : (mI k l).length = l.length := by
 induction l generalizing k with
 | nil => rfl
 | cons x l ih => simp only [mI, List.length_cons, ih]
theorem BT (l : List Int) (k : Int) : mI k (mI k l) = mI k l := by
 induction l generalizing k with
 | nil => rfl
 | cons x l ih => simp only [mI, ih]
def mB : Int → List UInt8 → List UInt8
 | _, [] => []
 | k, _ :: l => b8 k :: mB (k + 1) l
def cB (k : List (List UInt8)) : Nat := (k.map List.length).sum
def mBB : Int → List (List UInt8) → List (List UInt8)
 | _, [] => []
 | k, x :: l => mB k x :: mBB (k + x.length) l
theorem J0 (l : List UInt8) (k : Int) : (mB k l).length = l.length := by
 induction l generalizing k with
 | nil => rfl
 | cons x l ih => simp only [mB, List.length_cons, ih]
theorem OS (l : List UInt8) (k : Int) : mB k (mB k l) = mB k l := by
 induction l generalizing k with
 | nil => rfl
 | cons x l ih => simp only [mB, ih]
theorem PU (l : List (List UInt8)) (k : Int) : mBB k (mBB k l) = mBB k l := by
 induction l generalizing k with
 | nil => rfl
 | cons x l ih => simp only [mBB, OS, J0, ih]
theorem Rc (l : List (List UInt8)) (k : Int) : cB (mBB k l) = cB l := by
 induction l generalizing k with
 | nil => rfl
 | cons x l ih => unfold cB at ih ⊢; simp only [mBB, List.map_cons, List.sum_cons, J0, ih]
theorem OT (x : List UInt8) (l : List (List UInt8)) : cB (x :: l) = x.length + cB l := by unfold cB; simp
theorem Ya (l : List (List UInt8)) : bsz l = l.length + cB l := rfl
theorem OU (l : List (List UInt8)) (k : Int) : bsz (mBB k l) = bsz l := by
 rw [Ya, Ya, Rc]
 congr 1
 induction l generalizing k with
 | nil => rfl
 | cons x l ih => simp only [mBB, List.length_cons, ih]
mutual
def cV : GValue → Nat
 | .mk _ _ s k l => 2 + (s.length + (cB k + cVs l))
def cVs : List GValue → Nat
 | [] => 0
 | v :: l => cV v + cVs l
end
mutual
def mV : Int → GValue → GValue
 | i, .mk _ _ s k l => .mk i (i + 1) (mB (i + 1 + 1) s) (mBB (i + 1 + 1 + s.length) k) (mVs (i + 1 + 1 + s.length + cB k) l)
def mVs : Int → List GValue → List GValue
 | _, [] => []
 | i, v :: l => mV i v :: mVs (i + cV v) l
end
theorem Bf (v : GValue) : cV v = 2 + (v.S.length + (cB v.K + cVs v.L)) := by cases v; simp only [cV, GValue.S, GValue.K, GValue.L]
theorem Bg (i : Int) (v : GValue) : mV i v = .mk i (i + 1) (mB (i + 1 + 1) v.S) (mBB (i + 1 + 1 + v.S.length) v.K) (mVs (i + 1 + 1 + v.S.length + cB v.K) v.L) := by cases v; simp only [mV, GValue.S, GValue.K, GValue.L]
mutual
theorem DP : ∀ (i : Int) (v : GValue), cV (mV i v) = cV v
 | i, .mk _ _ s k l => by simp only [mV, cV, J0, Rc, HN]
theorem HN : ∀ (i : Int) (l : List GValue), cVs (mVs i l) = cVs l
 | _, [] => rfl
 | i, v :: l => by simp only [mVs, cVs, DP i v, HN _ l]
end
mutual
theorem EH : ∀ (i : Int) (v : GValue), mV i (mV i v) = mV i v
 | i, .mk _ _ s k l => by simp only [mV, J0, Rc, OS, PU, PV]
theorem PV : ∀ (i : Int) (l : List GValue), mVs i (mVs i l) = mVs i l
 | _, [] => rfl
 | i, v :: l => by simp only [mVs, DP, EH i v, PV _ l]
end
mutual
theorem Bh : ∀ (i : Int) (v : GValue), vsz (mV i v) = vsz v
 | i, .mk _ _ s k l => by simp only [mV, vsz, J0, OU, Nv]
theorem Nv : ∀ (i : Int) (l : List GValue), yK (mVs i l) = yK l
 | _, [] => rfl
 | i, v :: l => by simp only [mVs, yK, Bh i v, Nv _ l]
end
mutual
theorem U7 : ∀ v : GValue, cV v <= 2 + 2 * vsz v
 | .mk _ _ s k l => by have := Re l; have := Ya k; simp only [cV, vsz]; omega
theorem Re : ∀ l : List GValue, cVs l <= 2 * yK l
 | [] => by simp [cVs, yK]
 | v :: l => by have := U7 v; have := Re l; simp only [cVs, yK]; omega
end
/- addresses -/
theorem Rf {α : Type} {l : List α} {i : Nat} (h : i <= l.length) : qc l none (some i) = some (l.take i) := by
 unfold qc ZI; rw [if_pos ⟨by simp, by simpa using h⟩]; simp
theorem WX {α : Type} {l : List α} {i : Nat} (h : i <= l.length) : qc l (some i) none = some (l.drop i) := by
 unfold qc ZI; rw [if_pos ⟨by simpa using h, by simp⟩]; simp
theorem OV {α : Type} {l : List α} (h : 2 <= l.length) : qc l (some 1) (some (l.length - 1)) = some ((l.drop 1).dropLast) := by
 unfold qc ZI
 rw [if_pos ⟨by simp; omega, by simp⟩]
 simp only [Option.getD_some, Option.map_some, List.dropLast_eq_take, List.length_drop, List.drop_take]
theorem PW {α : Type} {l : List α} (h : 0 < l.length) : l[l.length - 1]? = l.getLast? := by rw [List.getLast?_eq_getElem?]
def XK (n : Nat) : List UInt8 := if n < 10 then [UInt8.ofNat (48 + n)] else [UInt8.ofNat (48 + n / 10), UInt8.ofNat (48 + n % 10)]
def WY (l : List UInt8) : Bool := decide (1 <= l.length ∧ l.length <= 2) && !(decide (l.length = 2) && decide (l[0]? = some 48)) && l.all (inB 48 57)
def LV (l : List UInt8) : Bool := if l[0]? = some 34 then (if (l.drop 1).getLast? = some 34 then qf (l.drop 1).dropLast else false) else WY l
def jX (b : List UInt8) : List UInt8 := b.takeWhile fun x => decide (x ≠ 91)
def qU (b : List UInt8) : List UInt8 := b.dropWhile fun x => decide (x ≠ 91)
theorem Rh (b : List UInt8) : jX b ++ qU b = b := List.takeWhile_append_dropWhile
theorem OW (b : List UInt8) : b.take (jX b).length = jX b := by
 conv => lhs; arg 2; rw [<- Rh b]
 exact List.take_left
theorem OX (b : List UInt8) : b.drop (jX b).length = qU b := by
 conv => lhs; arg 2; rw [<- Rh b]
 exact List.drop_left
theorem PX (b : List UInt8) : (jX b).length + (qU b).length = b.length := by
 rw [<- List.length_append, Rh]
theorem OY {b : List UInt8} (h : qU b ≠ []) : ∃ t, qU b = 91 :: t := by
 unfold qU at h ⊢
 induction b with
 | nil => exact (h rfl).elim
 | cons x b ih =>
  rw [List.dropWhile_cons] at h ⊢
  by_cases hx : x = 91
  ·subst hx
   exact ⟨b, by rw [if_neg (by simp)]⟩
  ·rw [if_pos (by simpa using hx)] at h ⊢
   exact ih h
def yA (b : List UInt8) : Bool := qf (jX b) && (if qU b = [] then true else if ((qU b).drop 1).getLast? = some 93 then LV ((qU b).drop 1).dropLast else false)
theorem Bv {b : List UInt8} (h : qf b = true) : 1 <= b.length ∧ b.length <= 8 := by
 unfold qf at h
 rw [Bool.and_eq_true] at h
 exact of_decide_eq_true h.1
def gOk {α : Type} (p : α → Bool) (key : α → List UInt8) (l : List α) (j : Nat) : Bool := match l[j]? with
 | some b => p b && (decide (j = 0) || match l[j - 1]? with | some a => Op.bytesLess (key a) (key b) | none => false)
 | none => false
def q8 {α : Type} (p : α → Bool) (key : α → List UInt8) (l : List α) (i d : Nat) : Bool := (List.range' i d).all (gOk p key l)
theorem Bw {α : Type} (p : α → Bool) (key : α → List UInt8) (l : List α) (i : Nat) : q8 p key l i 0 = true := rfl
theorem XL {α : Type} (p : α → Bool) (key : α → List UInt8) (l : List α) (i d : Nat) : q8 p key l i (d + 1) = (gOk p key l i && q8 p key l (i + 1) d) := by
 unfold q8; rw [List.range'_succ, List.all_cons]
theorem J1 {α : Type} {p : α → Bool} {key : α → List UInt8} {l : List α} {i : Nat} (h : i < l.length) (h0 : 0 < i) : gOk p key l i = (p l[i] && Op.bytesLess (key (l[i - 1]'(by omega))) (key l[i])) := by
 unfold gOk
 rw [zg h]
 simp only
 rw [zg (show i - 1 < l.length by omega)]
 simp [show i ≠ 0 by omega]
theorem WZ {α : Type} {p : α → Bool} {key : α → List UInt8} {l : List α} (h : 0 < l.length) : gOk p key l 0 = p l[0] := by
 unfold gOk
 rw [zg h]
 simp
theorem OZ {α : Type} {p : α → Bool} {key : α → List UInt8} {l : List α} (h : q8 p key l 0 l.length = true) {j : Nat} (hj : j < l.length) : gOk p key l j = true := by
 unfold q8 at h
 exact List.all_eq_true.1 h j (List.mem_range'_1.2 ⟨by omega, by omega⟩)
theorem DQ {α : Type} {p : α → Bool} {key : α → List UInt8} {l : List α} (h : q8 p key l 0 l.length = true) {x : α} (hx : x ∈ l) : p x = true := by
 obtain ⟨j, hj, rfl⟩ := List.mem_iff_getElem.1 hx
 have := OZ h hj
 unfold gOk at this
 rw [zg hj] at this
 simp only [Bool.and_eq_true] at this
 exact this.1
theorem PY {α : Type} {p : α → Bool} {key : α → List UInt8} {l : List α} (h : q8 p key l 0 l.length = true) : Asc (l.map key) := by
 intro i j
 induction j with
 | zero => intro _ h; omega
 | succ j ih =>
  intro hj hij
  rw [List.length_map] at hj
  have hk := OZ h hj
  rw [J1 hj (by omega), Bool.and_eq_true] at hk
  have h1 := hk.2
  rw [List.getElem_map, List.getElem_map]
  rcases Nat.lt_or_ge i j with hlt | hge
  ·have := ih (by rw [List.length_map]; omega) hlt
   rw [List.getElem_map, List.getElem_map] at this
   exact kX this h1
  ·obtain rfl : i = j := by omega
   exact h1
def kD (l : List (List UInt8)) : Bool := decide (l.length <= 8) && q8 yA id l 0 l.length
def ZO (v : GValue) : Bool := decide (v.Kind = 5) && Zp v && knV v
def esz (e : GEntry) : Nat := e.Addr.length + vsz e.Val + bsz e.Deps
def xT : List GEntry → Nat
 | [] => 0
 | v :: l => 1 + esz v + xT l
theorem ZE {l : List GEntry} {v : GEntry} (h : v ∈ l) : 1 + esz v <= xT l := by
 induction l with
 | nil => cases h
 | cons x l ih =>
  simp only [xT]
  rcases List.mem_cons.1 h with rfl | h
  ·omega
  ·have := ih h; omega
theorem qx (l : List GEntry) : l.length <= xT l := by
 induction l with
 | nil => simp
 | cons x l ih => simp only [xT, List.length_cons]; omega
def Yr (ser : Int) (e : GEntry) : Bool := yA e.Addr && ZO e.Val && kD e.Deps && decide (1 <= e.Turned ∧ e.Turned <= ser)
def ssz (s : GState) : Nat := s.Pending.length + xT s.Entries
def y5 (l : List GEntry) (a : List UInt8) : Bool := l.any fun e => decide (e.Addr = a)
def LW (s : GState) : Bool := if s.Pending = [] then decide (s.Act = 0) else s.Open && yA s.Pending && decide (1 <= s.Act ∧ s.Act <= 4) && (y5 s.Entries s.Pending == decide (s.Act ≠ 1))
def Ri (s : GState) : Bool := q8 (Yr s.Serial) GEntry.Addr s.Entries 0 s.Entries.length
def stB (s : GState) : Bool := decide (0 <= s.Serial ∧ s.Serial <= 1000000 ∧ s.Entries.length <= 16) && Ri s && LW s
def cE (e : GEntry) : Nat := e.Addr.length + cV e.Val + cB e.Deps + 2
def cEs : List GEntry → Nat
 | [] => 0
 | e :: l => cE e + cEs l
def mE (k : Int) (e : GEntry) : GEntry := .mk (mB k e.Addr) (mV (k + e.Addr.length) e.Val) (mBB (k + e.Addr.length + cV e.Val) e.Deps) (decide ((k + e.Addr.length + cV e.Val + cB e.Deps).tmod 3 = 0)) (k + e.Addr.length + cV e.Val + cB e.Deps + 1)
def mEs : Int → List GEntry → List GEntry
 | _, [] => []
 | k, e :: l => mE k e :: mEs (k + cE e) l
theorem HO (e : GEntry) : cE e <= 4 + 2 * esz e := by
 have h1 := U7 e.Val
 have h2 := Ya e.Deps
 unfold cE esz
 omega
theorem Nw : ∀ l : List GEntry, cEs l <= 4 * xT l
 | [] => by simp [cEs]
 | e :: l => by have := HO e; have := Nw l; simp only [cEs, xT]; omega
theorem zj {f : FuncId} {fn : Func} (h : Tryz.prog.funcs[f]? = some fn) (hu : LZ.contains f = true := by kernel_rfl) (hb : fn.body.isSome = true := by kernel_rfl) : cfg.funcs f = some (Am.bodyOf fn, fn.ntmps, fn.results.toList) := by
 rw [TO]
 unfold Ma X2
 rw [hu, h]
 obtain ⟨c, hc⟩ := Option.isSome_iff_exists.1 hb
 simp only [Option.bind_some, Am.bodyOf, hc, Option.map_some, cond_true]
abbrev Oc {α : Type} (o : Option α) (f : FuncId) (st : List Entry) (xs : List V) (enc : α → V × List Entry) : Prop := OkC cfg o f st xs enc
abbrev Ol {α : Type} (o : Option α) (f : FuncId) (b : Code) (s : S) (enc : α → Ex × S) : Prop := OkL cfg o f b s enc
def xu (a b : List UInt8) : Option Int := some (Lib.compareBytes a b)
def w7 (a : List UInt8) (b : UInt8) : Option Int := some (Lib.indexByte a b)
def wB (e0 : List (List UInt8)) : Option (List (List UInt8)) := if e0.length <= 1048576 then some (wR e0) else none
def ql (a : List UInt8) : Option (Int × Bool) := if a.length <= 2 ^ 40 then some (ym a) else none
theorem PZ : ∀ l : List (List UInt8), vJ (eL (yD 1 za) l) = some l
 | [] => rfl
 | a :: l => by
  have h : eL (yD 1 za) (a :: l) = [C.own 1 (eL za a)] :: eL (yD 1 za) l := rfl
  rw [h, vJ, YU, PZ l]; rfl
theorem Xm (e0 : List (List UInt8)) : Oc (wB e0) 120 [.obj 1 (eL (yD 1 za) e0)] [vr 0, .val false [.fn 121 []]] fun r => (.tup [], [.obj 1 (eL (yD 1 za) r)]) := by
 intro r h
 simp only [wB] at h
 split at h
 ·rename_i hc
  obtain rfl := Option.some.inj h
  refine KX ?_
  show (if 121 = 121 ∧ (eL (yD 1 za) e0).length <= 1048576 then (vJ (eL (yD 1 za) e0)).map fun ts => ((V.tup [], [.obj 1 ((wR ts).map fun s => [C.own 1 (yS s)])]) : V × List Entry) else none) = _
  rw [if_pos ⟨rfl, by simpa [eL] using hc⟩, PZ e0]
  rfl
 ·cases h
theorem Yb (a b : List UInt8) : Oc (xu a b) 166 [] [vq za a, vq za b] fun r => (vi r, []) := by
 intro r h
 obtain rfl := Option.some.inj h
 refine KX ?_
 show ((bytesOf (eL za a)).bind fun x => (bytesOf (eL za b)).map fun y => ((V.val false [C.int .i64 (Lib.compareBytes x y)], []) : V × List Entry)) = _
 rw [YU, YU]; rfl
theorem Rj (a : List UInt8) : Oc (ql a) 173 [] [vs a] fun r => (.tup [(false, [ci r.1]), (false, [qR r.2])], []) := by
 intro r h
 unfold ql at h
 by_cases ha : a.length <= 2 ^ 40
 ·rw [if_pos ha] at h
  obtain rfl := Option.some.inj h
  refine KX ?_
  show (if a.length <= 2 ^ 40 then some ((V.tup [(false, [.int .i64 (ym a).1]), (false, [qR (ym a).2])], []) : V × List Entry) else none) = _
  rw [if_pos ha]
  rfl
 ·rw [if_neg ha] at h; cases h
theorem Zs (a : List UInt8) (b : UInt8) : Oc (w7 a b) 227 [] [vq za a, .val false [.int .u8 ((b.toNat : Nat) : Int)]] fun r => (vi r, []) := by
 intro r h
 obtain rfl := Option.some.inj h
 refine KX ?_
 show ((bytesOf (eL za a)).map fun x => ((V.val false [C.int .i64 (Lib.indexByte x ((b.toNat : Nat) : Int).toNat.toUInt8)], []) : V × List Entry)) = _
 rw [YU, Int.toNat_natCast, show b.toNat.toUInt8 = b from UInt8.ofNat_toNat]; rfl
end
end Go.Am.Try
