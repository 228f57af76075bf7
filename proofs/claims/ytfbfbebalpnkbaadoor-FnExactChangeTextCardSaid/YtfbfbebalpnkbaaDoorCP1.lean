/- The functions of the program in plain Lean, and that the machine answers as they do; conditions at each theorem. -/
import Derived.Test.YtfbfbebalpnkbaaDoorCS2
import Derived.Test.YtfbfbebalpnkbaaDoorCAmD
set_option linter.unusedVariables false
set_option linter.unusedSimpArgs false
namespace Go.Am.Try
open Go.Am Go.Proofs
set_option linter.unusedVariables false
noncomputable section
theorem Do {α : Type} {f : α → List C} : ([] : List (List C)) = eL f [] := rfl
theorem ET {α : Type} {f : α → List C} {x : α} {c : List C} {xs : List α} {cs : List (List C)} (h : f x = c) (t : cs = eL f xs) : c :: cs = eL f (x :: xs) := by subst h; subst t; rfl
inductive GStep where
 | mk (Kind : Int) (Key : (List UInt8)) (I : Int)
def GStep.Kind : GStep → Int
 | .mk x _ _ => x
def GStep.Key : GStep → (List UInt8)
 | .mk _ x _ => x
def GStep.I : GStep → Int
 | .mk _ _ x => x
theorem GStep.eta (x : GStep) : GStep.mk x.Kind x.Key x.I = x := by cases x; rfl
def zb (x : GStep) : List C := [.int .i64 x.Kind, .seq (eL za x.Key), .int .i64 x.I]
def jf (x : GStep) : List C := [.int .i64 x.Kind, .seq (eL za x.Key), .int .i64 x.I]
theorem yv (x : GStep) : zb x = jf x := rfl
def xu (x : GStep) : List C := [.int .i64 x.Kind, .own 1 (eL za x.Key), .int .i64 x.I]
def Pt (x : GStep) : List C := [.int .i64 x.Kind, .own 1 (eL za x.Key), .int .i64 x.I]
theorem qm (x : GStep) : xu x = Pt x := rfl
theorem vS : OEnc 3 xu zb := ⟨fun x => rfl, fun x => by simp only [xu, zb, ya, jO, qO wJ], fun x => by simp only [xu, j3, q5, qP wJ, Bool.and_self]⟩
theorem Q2 : Enc 3 zb := ⟨fun x => by rw [yv]; rfl, fun x => by rw [yv]; rfl, fun x => by rw [yv]; rfl⟩
inductive GValue where
 | mk (Kind : Int) (N : Int) (S : (List UInt8)) (K : (List (List UInt8))) (L : (List GValue))
def GValue.Kind : GValue → Int
 | .mk x _ _ _ _ => x
def GValue.N : GValue → Int
 | .mk _ x _ _ _ => x
def GValue.S : GValue → (List UInt8)
 | .mk _ _ x _ _ => x
def GValue.K : GValue → (List (List UInt8))
 | .mk _ _ _ x _ => x
def GValue.L : GValue → (List GValue)
 | .mk _ _ _ _ x => x
theorem GValue.eta (x : GValue) : GValue.mk x.Kind x.N x.S x.K x.L = x := by cases x; rfl
mutual
def zd : GValue → List C
 | .mk Kind N S K L => [.int .i64 Kind, .int .i64 N, .seq (eL za S), .seq (eL (zL za) K), .seq (kP L)]
def kP : List GValue → List (List C)
 | [] => []
 | v :: l => zd v :: kP l
end
theorem U1 (l : List GValue) : kP l = eL zd l := by
 induction l with
 | nil => rfl
 | cons v l ih => simp only [kP, ih]; rfl
def zH (x : GValue) : List C := [.int .i64 x.Kind, .int .i64 x.N, .seq (eL za x.S), .seq (eL (zL za) x.K), .seq (eL zd x.L)]
theorem zU (x : GValue) : zd x = zH x := by
 cases x; simp only [zd, zH, U1, GValue.Kind, GValue.N, GValue.S, GValue.K, GValue.L]
mutual
def zJ : GValue → List C
 | .mk Kind N S K L => [.int .i64 Kind, .int .i64 N, .own 1 (eL za S), .own 1 (eL (xN 1 za) K), .own 5 (qI L)]
def qI : List GValue → List (List C)
 | [] => []
 | v :: l => zJ v :: qI l
end
theorem U2 (l : List GValue) : qI l = eL zJ l := by
 induction l with
 | nil => rfl
 | cons v l ih => simp only [qI, ih]; rfl
def JG (x : GValue) : List C := [.int .i64 x.Kind, .int .i64 x.N, .own 1 (eL za x.S), .own 1 (eL (xN 1 za) x.K), .own 5 (eL zJ x.L)]
theorem yF (x : GValue) : zJ x = JG x := by
 cases x; simp only [zJ, JG, U2, GValue.Kind, GValue.N, GValue.S, GValue.K, GValue.L]
mutual
theorem R1 : ∀ x : GValue, ya (zJ x) = zd x
 | .mk Kind N S K L => by have h := KH L; simp only [zJ, zd, ya, jO, h, qO wJ, qO (vg 1 wJ)]
theorem KH : ∀ l : List GValue, xc (qI l) = kP l
 | [] => rfl
 | v :: l => by have h := R1 v; have g := KH l; simp only [qI, kP, xc, h, g]
end
mutual
theorem R2 : ∀ x : GValue, j3 (zJ x) = true
 | .mk Kind N S K L => by have h := KI L; simp only [zJ, j3, q5, h, qP wJ, qP (vg 1 wJ), Bool.and_self]
theorem KI : ∀ l : List GValue, qS (qI l) = true
 | [] => rfl
 | v :: l => by have h := R2 v; have g := KI l; simp only [qI, qS, h, g, Bool.and_self]
end
theorem wx : OEnc 5 zJ zd := ⟨fun x => by rw [yF]; rfl, R1, R2⟩
theorem EU : Enc 5 zd := ⟨fun x => by rw [zU]; rfl, fun x => by rw [zU]; rfl, fun x => by rw [zU]; rfl⟩
inductive GChange where
 | mk (Path : (List GStep)) (Had : Bool) (Old : GValue) (Has : Bool) (New : GValue)
def GChange.Path : GChange → (List GStep)
 | .mk x _ _ _ _ => x
def GChange.Had : GChange → Bool
 | .mk _ x _ _ _ => x
def GChange.Old : GChange → GValue
 | .mk _ _ x _ _ => x
def GChange.Has : GChange → Bool
 | .mk _ _ _ x _ => x
def GChange.New : GChange → GValue
 | .mk _ _ _ _ x => x
theorem GChange.eta (x : GChange) : GChange.mk x.Path x.Had x.Old x.Has x.New = x := by cases x; rfl
def yz (x : GChange) : List C := [.seq (eL zb x.Path), .bool x.Had, .int .i64 x.Old.Kind, .int .i64 x.Old.N, .seq (eL za x.Old.S), .seq (eL (zL za) x.Old.K), .seq (eL zd x.Old.L), .bool x.Has, .int .i64 x.New.Kind, .int .i64 x.New.N, .seq (eL za x.New.S), .seq (eL (zL za) x.New.K), .seq (eL zd x.New.L)]
def qJ (x : GChange) : List C := [.seq (eL zb x.Path), .bool x.Had, .int .i64 x.Old.Kind, .int .i64 x.Old.N, .seq (eL za x.Old.S), .seq (eL (zL za) x.Old.K), .seq (eL zd x.Old.L), .bool x.Has, .int .i64 x.New.Kind, .int .i64 x.New.N, .seq (eL za x.New.S), .seq (eL (zL za) x.New.K), .seq (eL zd x.New.L)]
theorem eq_GChange (x : GChange) : yz x = qJ x := rfl
def Y5 (x : GChange) : List C := [.own 3 (eL xu x.Path), .bool x.Had, .int .i64 x.Old.Kind, .int .i64 x.Old.N, .own 1 (eL za x.Old.S), .own 1 (eL (xN 1 za) x.Old.K), .own 5 (eL zJ x.Old.L), .bool x.Has, .int .i64 x.New.Kind, .int .i64 x.New.N, .own 1 (eL za x.New.S), .own 1 (eL (xN 1 za) x.New.K), .own 5 (eL zJ x.New.L)]
def R3 (x : GChange) : List C := [.own 3 (eL xu x.Path), .bool x.Had, .int .i64 x.Old.Kind, .int .i64 x.Old.N, .own 1 (eL za x.Old.S), .own 1 (eL (xN 1 za) x.Old.K), .own 5 (eL zJ x.Old.L), .bool x.Has, .int .i64 x.New.Kind, .int .i64 x.New.N, .own 1 (eL za x.New.S), .own 1 (eL (xN 1 za) x.New.K), .own 5 (eL zJ x.New.L)]
theorem Eo (x : GChange) : Y5 x = R3 x := rfl
theorem EC : OEnc 13 Y5 yz := ⟨fun x => rfl, fun x => by simp only [Y5, yz, ya, jO, qO vS, qO wJ, qO (vg 1 wJ), qO wx], fun x => by simp only [Y5, j3, q5, qP vS, qP wJ, qP (vg 1 wJ), qP wx, Bool.and_self]⟩
theorem R4 : Enc 13 yz := ⟨fun x => by rw [eq_GChange]; rfl, fun x => by rw [eq_GChange]; rfl, fun x => by rw [eq_GChange]; rfl⟩
def bsz (k : List (List UInt8)) : Nat := k.length + (k.map List.length).sum
mutual
def vsz : GValue → Nat
 | .mk _ _ s k l => s.length + bsz k + yw l
def yw : List GValue → Nat
 | [] => 0
 | v :: l => 1 + vsz v + yw l
end
theorem Q3 {k : List (List UInt8)} {b : List UInt8} (h : b ∈ k) : 1 + b.length <= bsz k := by
 unfold bsz
 induction k with
 | nil => cases h
 | cons x k ih =>
  simp only [List.length_cons, List.map_cons, List.sum_cons]
  rcases List.mem_cons.1 h with rfl | h
  ·omega
  ·have := ih h; omega
theorem kQ (k : List (List UInt8)) : k.length <= bsz k := by unfold bsz; omega
theorem Yc (b : List UInt8) (k : List (List UInt8)) : bsz (b :: k) = 1 + b.length + bsz k := by unfold bsz; simp; omega
theorem wy {l : List GValue} {v : GValue} (h : v ∈ l) : 1 + vsz v <= yw l := by
 induction l with
 | nil => cases h
 | cons x l ih =>
  simp only [yw]
  rcases List.mem_cons.1 h with rfl | h
  ·omega
  ·have := ih h; omega
theorem yC (l : List GValue) : l.length <= yw l := by
 induction l with
 | nil => simp
 | cons x l ih => simp only [yw, List.length_cons]; omega
theorem xR (v : GValue) : vsz v = v.S.length + bsz v.K + yw v.L := by cases v; simp only [vsz, GValue.S, GValue.K, GValue.L]
mutual
def ptV : GValue → Nat
 | .mk _ _ _ _ l => 1 + xB l
def xB : List GValue → Nat
 | [] => 0
 | v :: l => ptV v + xB l
end
theorem U3 (v : GValue) : ptV v = 1 + xB v.L := by cases v; simp only [ptV, GValue.L]
theorem MY (l : List GValue) : l.length <= xB l := by
 induction l with
 | nil => simp
 | cons v l ih => have := U3 v; simp only [xB, List.length_cons]; omega
mutual
theorem HX : ∀ v : GValue, ptV v <= 1 + vsz v
 | .mk _ _ _ _ l => by have := VJ l; simp only [ptV, vsz]; omega
theorem VJ : ∀ l : List GValue, xB l <= yw l
 | [] => by simp [xB, yw]
 | v :: l => by have := HX v; have := VJ l; simp only [xB, yw]; omega
end
def vB (a : List UInt8) : Bool := decide (a.length <= 20) && a.all (inB 32 126)
def w9 (a : List UInt8) : Bool := decide (1 <= a.length ∧ a.length <= 8) && a.all (inB 97 122)
def kOk (k : List (List UInt8)) (j : Nat) : Bool := match k[j]? with
 | some b => w9 b && (decide (j = 0) || match k[j - 1]? with | some a => Op.bytesLess a b | none => false)
 | none => false
def wT (k : List (List UInt8)) (i d : Nat) : Bool := (List.range' i d).all (kOk k)
theorem Y6 (k : List (List UInt8)) (i d : Nat) : wT k i (d + 1) = (kOk k i && wT k (i + 1) d) := by
 unfold wT; rw [List.range'_succ, List.all_cons]
theorem Yd {k : List (List UInt8)} {i : Nat} (h : i < k.length) (h0 : 0 < i) : kOk k i = (w9 k[i] && Op.bytesLess (k[i - 1]'(by omega)) k[i]) := by
 unfold kOk
 rw [zw h]
 simp only
 rw [zw (show i - 1 < k.length by omega)]
 simp [show i ≠ 0 by omega]
theorem XD {k : List (List UInt8)} (h : 0 < k.length) : kOk k 0 = w9 k[0] := by
 unfold kOk
 rw [zw h]
 simp
theorem JH (a b : List UInt8) : (0 <= Lib.compareBytes a b) = ¬ (Op.bytesLess a b = true) := by
 induction a generalizing b with
 | nil => cases b <;> simp [Lib.compareBytes, Op.bytesLess]
 | cons x a ih =>
  cases b with
  | nil => simp [Lib.compareBytes, Op.bytesLess]
  | cons y b =>
   simp only [Lib.compareBytes, Op.bytesLess]
   by_cases h1 : x < y
   ·simp [h1]
   ·by_cases h2 : y < x
    ·have h3 : ¬ x = y := fun e => by subst e; exact h1 h2
     simp [h1, h2, h3]
    ·have h3 : x = y := UInt8.le_antisymm (UInt8.not_lt.1 h2) (UInt8.not_lt.1 h1)
     subst h3
     simp [h1, ih]
def yh (v : GValue) : Bool :=
 if v.Kind = 0 ∨ v.Kind = 6 then decide (v.N = 0 ∧ v.S.length = 0 ∧ v.K.length = 0 ∧ v.L.length = 0)
 else if v.Kind = 1 then decide ((0 <= v.N ∧ v.N <= 1) ∧ v.S.length = 0 ∧ v.K.length = 0 ∧ v.L.length = 0)
 else if v.Kind = 2 then decide ((-1000000000000 <= v.N ∧ v.N <= 1000000000000) ∧ v.S.length = 0 ∧ v.K.length = 0 ∧ v.L.length = 0)
 else if v.Kind = 3 then vB v.S && decide (v.N = 0 ∧ v.K.length = 0 ∧ v.L.length = 0)
 else if v.Kind = 4 then decide (v.N = 0 ∧ v.S.length = 0 ∧ v.K.length = 0 ∧ v.L.length <= 40)
 else if v.Kind = 5 then decide (v.K.length = v.L.length ∧ v.N = 0 ∧ v.S.length = 0 ∧ v.L.length <= 40) && wT v.K 0 v.K.length
 else false
def shV : Nat → GValue → Bool
 | 0, _ => false
 | d + 1, v => yh v && v.L.all (shV d)
def wa (s : Nat) (n : Int) : Int := if (s : Int) <= n then n - s else -1
/- calls -/
theorem JI (a : List UInt8) : Op.bytesLess a a = false := by
 induction a with
 | nil => rfl
 | cons x a ih => simp [Op.bytesLess, ih]
theorem kb : ∀ {a b c : List UInt8}, Op.bytesLess a b = true → Op.bytesLess b c = true → Op.bytesLess a c = true
 | [], [], _, h, _ => by simp [Op.bytesLess] at h
 | [], _ :: _, [], _, h => by simp [Op.bytesLess] at h
 | [], _ :: _, _ :: _, _, _ => rfl
 | _ :: _, [], _, h, _ => by simp [Op.bytesLess] at h
 | _ :: _, _ :: _, [], _, h => by simp [Op.bytesLess] at h
 | x :: a, y :: b, z :: c, h, g => by
  simp only [Op.bytesLess, Bool.or_eq_true, decide_eq_true_eq, Bool.and_eq_true, beq_iff_eq] at h g ⊢
  rcases h with h | ⟨rfl, h⟩
  ·rcases g with g | ⟨rfl, g⟩
   ·exact .inl (UInt8.lt_trans h g)
   ·exact .inl h
  ·rcases g with g | ⟨rfl, g⟩
   ·exact .inl g
   ·exact .inr ⟨rfl, kb h g⟩
theorem MZ : ∀ (a b : List UInt8), Lib.compareBytes a b = 0 ↔ a = b
 | [], [] => by simp [Lib.compareBytes]
 | [], _ :: _ => by simp [Lib.compareBytes]
 | _ :: _, [] => by simp [Lib.compareBytes]
 | x :: a, y :: b => by
  have ih := MZ a b
  simp only [Lib.compareBytes]
  by_cases h1 : x < y
  ·rw [if_pos h1]
   have : x ≠ y := fun e => by subst e; exact absurd h1 (UInt8.lt_irrefl x)
   simp [this]
  ·rw [if_neg h1]
   by_cases h2 : y < x
   ·rw [if_pos h2]
    have : x ≠ y := fun e => by subst e; exact absurd h2 (UInt8.lt_irrefl x)
    simp [this]
   ·have h3 : x = y := UInt8.le_antisymm (UInt8.not_lt.1 h2) (UInt8.not_lt.1 h1)
    subst h3
    rw [if_neg h2, ih]; simp
theorem Gl (a b : List UInt8) : (Lib.compareBytes a b < 0) = (Op.bytesLess a b = true) := by
 have := JH a b
 apply propext
 constructor
 ·intro h
  refine Classical.byContradiction fun hn => ?_
  rw [<- this] at hn
  omega
 ·intro h
  refine Classical.byContradiction fun hn => ?_
  have h0 : 0 <= Lib.compareBytes a b := by omega
  rw [this] at h0
  exact h0 h
def Ok (a : List (List UInt8)) (x : List UInt8) (c : Nat) : Prop := c <= a.length ∧ ∀ k (h : k < a.length), k < c ↔ Op.bytesLess a[k] x = true
def Asc (a : List (List UInt8)) : Prop := ∀ i j (hj : j < a.length) (hij : i < j), Op.bytesLess (a[i]'(by omega)) a[j] = true
theorem Ok.of {a : List (List UInt8)} (ha : Asc a) (x : List UInt8) : ∃ c, Ok a x c := by
 have : ∀ n, n <= a.length → ∃ c, c <= n ∧ ∀ k (h : k < a.length), k < n → (k < c ↔ Op.bytesLess a[k] x = true) := by
  intro n
  induction n with
  | zero => exact fun _ => ⟨0, Nat.le_refl _, fun k h hk => by omega⟩
  | succ n ih =>
   intro hn
   obtain ⟨c, hc, h⟩ := ih (by omega)
   by_cases hl : Op.bytesLess (a[n]'(by omega)) x = true
   ·have hcn : c = n := by
     refine Classical.byContradiction fun hne => ?_
     have h1 := h c (by omega) (by omega)
     have h2 := ha c n (by omega) (by omega)
     have := h1.2 (kb h2 hl)
     omega
    refine ⟨n + 1, Nat.le_refl _, fun k hk hkn => ?_⟩
    rcases Nat.lt_or_ge k n with hlt | hge
    ·exact ⟨fun _ => (h k hk hlt).1 (by omega), fun _ => by omega⟩
    ·obtain rfl : k = n := by omega
     exact ⟨fun _ => hl, fun _ => by omega⟩
   ·refine ⟨c, by omega, fun k hk hkn => ?_⟩
    rcases Nat.lt_or_ge k n with hlt | hge
    ·exact h k hk hlt
    ·obtain rfl : k = n := by omega
     exact ⟨fun _ => by omega, fun h => (hl h).elim⟩
 obtain ⟨c, hc, h⟩ := this a.length (Nat.le_refl _)
 exact ⟨c, hc, fun k hk => h k hk hk⟩
theorem Ok.mem {a : List (List UInt8)} (ha : Asc a) {x : List UInt8} {c : Nat} (h : Ok a x c) : a[c]? = some x ↔ x ∈ a := by
 constructor
 ·exact List.mem_of_getElem?
 ·intro hx
  obtain ⟨k, hk, rfl⟩ := List.mem_iff_getElem.1 hx
  have h1 : ¬ k < c := fun hlt => by
   have := (h.2 k hk).1 hlt
   rw [JI] at this
   cases this
  have h2 : k = c := by
   refine Classical.byContradiction fun hne => ?_
   have hlt : c < k := by omega
   have := (h.2 c (by omega)).2 (ha c k hk hlt)
   omega
  subst h2
  exact zw hk
theorem D3 {i j : Nat} (h : i + j < 2 ^ 62) : w64 (Pz .shr .u64 (IntKind.u64.wrap (w64 ((i : Int) + (j : Int)))) 1) = (((i + j) / 2 : Nat) : Int) := by
 rw [yD (x := (i : Int) + (j : Int)) (by omega) (by omega)]
 have h1 : IntKind.u64.wrap ((i : Int) + (j : Int)) = (i : Int) + (j : Int) := by unfold IntKind.wrap; simp [IntKind.bits, IntKind.signed]; omega
 rw [h1]
 have h2 : Pz .shr .u64 ((i : Int) + (j : Int)) 1 = (((i + j) / 2 : Nat) : Int) := by
  show Int.fdiv _ (2 ^ (min (1 : Int).toNat IntKind.u64.bits)) = _
  rw [show min (1 : Int).toNat IntKind.u64.bits = 1 from rfl, Int.fdiv_eq_ediv_of_nonneg _ (by decide)]
  omega
 rw [h2, yD (by omega) (by omega)]
def jL (v : GValue) : Bool := decide (shV 5 v = true ∧ (ptV v : Int) <= 40)
theorem Gm {k : List (List UInt8)} (h : wT k 0 k.length = true) {j : Nat} (hj : j < k.length) : kOk k j = true := by
 unfold wT at h
 exact List.all_eq_true.1 h j (List.mem_range'_1.2 ⟨by omega, by omega⟩)
theorem EV {k : List (List UInt8)} (h : wT k 0 k.length = true) : Asc k := by
 intro i j
 induction j with
 | zero => intro _ h; omega
 | succ j ih =>
  intro hj hij
  have hk := Gm h hj
  rw [Yd hj (by omega), Bool.and_eq_true] at hk
  have h1 : Op.bytesLess (k[j]'(by omega)) k[j + 1] = true := hk.2
  rcases Nat.lt_or_ge i j with hlt | hge
  ·exact kb (ih (by omega) hlt) h1
  ·obtain rfl : i = j := by omega
   exact h1
theorem U4 {v : GValue} (h : jL v = true) : yh v = true ∧ ∀ x ∈ v.L, shV 4 x = true := by
 unfold jL at h
 have h1 := (of_decide_eq_true h).1
 rw [shV, Bool.and_eq_true, List.all_eq_true] at h1
 exact h1
def U5 (a : List UInt8) : List UInt8 := if a = [108, 101, 110] then [99] else if a = [99, 97, 116] then [116, 116] else if a = [107, 101, 121, 115] then [109] else if a = [118, 97, 108, 115] then [109] else if a = [104, 97, 115] then [109, 116] else if a = [109, 105, 110] then [105, 105] else if a = [109, 97, 120] then [105, 105] else []
def D4 (a : List UInt8) : List (List Int) := if a = [108, 101, 110] then [[3, 4, 5]] else if a = [99, 97, 116] then [[3], [3]] else if a = [107, 101, 121, 115] then [[5]] else if a = [118, 97, 108, 115] then [[5]] else if a = [104, 97, 115] then [[5], [3]] else if a = [109, 105, 110] then [[2], [2]] else if a = [109, 97, 120] then [[2], [2]] else []
def XE (x : GValue) (c : UInt8) : Bool := if ((c.toNat : Nat) : Int) = 116 then decide (x.Kind = 3) else if ((c.toNat : Nat) : Int) = 105 then decide (x.Kind = 2) else if ((c.toNat : Nat) : Int) = 109 then decide (x.Kind = 5) else decide (x.Kind = 3 ∨ x.Kind = 4 ∨ x.Kind = 5)
def Nz : List UInt8 → List GValue → Bool
 | c :: cs, v :: l => (decide (v.Kind = 6) || XE v c) && Nz cs l
 | _, _ => true
def Ev : List (List Int) → List GValue → Bool
 | c :: cs, v :: l => (decide (v.Kind = 6) || decide (v.Kind ∈ c)) && Ev cs l
 | _, _ => true
def zV : GValue := .mk 0 0 [] [] []
def kJ (a : List UInt8) (x y : GValue) : GValue × Int :=
 if a = [108, 101, 110] then (if x.Kind = 3 then .mk 2 (x.S.length : Int) [] [] [] else .mk 2 (x.L.length : Int) [] [] [], 0)
 else if a = [99, 97, 116] then (if 20 < (x.S ++ y.S).length then (zV, 4) else (.mk 3 0 (x.S ++ y.S) [] [], 0))
 else if a = [107, 101, 121, 115] then (.mk 4 0 [] [] (x.K.map fun k => .mk 3 0 k [] []), 0)
 else if a = [118, 97, 108, 115] then (.mk 4 0 [] [] x.L, 0)
 else if a = [104, 97, 115] then (.mk 1 (if y.S ∈ x.K then 1 else 0) [] [] [], 0)
 else if a = [109, 105, 110] then (.mk 2 (if y.N < x.N then y.N else x.N) [] [] [], 0)
 else (.mk 2 (if x.N < y.N then y.N else x.N) [] [] [], 0)
theorem EW (x y : GValue) : kJ [108, 101, 110] x y = (if x.Kind = 3 then .mk 2 (x.S.length : Int) [] [] [] else .mk 2 (x.L.length : Int) [] [] [], 0) := by simp [kJ]
theorem EX (x y : GValue) : kJ [99, 97, 116] x y = if 20 < (x.S ++ y.S).length then (zV, 4) else (.mk 3 0 (x.S ++ y.S) [] [], 0) := by simp [kJ]
theorem ED (x y : GValue) : kJ [107, 101, 121, 115] x y = (.mk 4 0 [] [] (x.K.map fun k => .mk 3 0 k [] []), 0) := by simp [kJ]
theorem EE (x y : GValue) : kJ [118, 97, 108, 115] x y = (.mk 4 0 [] [] x.L, 0) := by simp [kJ]
theorem EY (x y : GValue) : kJ [104, 97, 115] x y = (.mk 1 (if y.S ∈ x.K then 1 else 0) [] [] [], 0) := by simp [kJ]
theorem EZ (x y : GValue) : kJ [109, 105, 110] x y = (.mk 2 (if y.N < x.N then y.N else x.N) [] [] [], 0) := by simp [kJ]
theorem Da (x y : GValue) : kJ [109, 97, 120] x y = (.mk 2 (if x.N < y.N then y.N else x.N) [] [] [], 0) := by simp [kJ]
theorem DI (x : GValue) : XE x 116 = decide (x.Kind = 3) := by unfold XE; rw [if_pos (show ((UInt8.toNat 116 : Nat) : Int) = 116 from rfl)]
theorem DJ (x : GValue) : XE x 105 = decide (x.Kind = 2) := by unfold XE; rw [if_neg (show ¬ ((UInt8.toNat 105 : Nat) : Int) = 116 by decide), if_pos (show ((UInt8.toNat 105 : Nat) : Int) = 105 from rfl)]
theorem DK (x : GValue) : XE x 109 = decide (x.Kind = 5) := by unfold XE; rw [if_neg (show ¬ ((UInt8.toNat 109 : Nat) : Int) = 116 by decide), if_neg (show ¬ ((UInt8.toNat 109 : Nat) : Int) = 105 by decide), if_pos (show ((UInt8.toNat 109 : Nat) : Int) = 109 from rfl)]
theorem DL (x : GValue) : XE x 99 = decide (x.Kind = 3 ∨ x.Kind = 4 ∨ x.Kind = 5) := by unfold XE; rw [if_neg (show ¬ ((UInt8.toNat 99 : Nat) : Int) = 116 by decide), if_neg (show ¬ ((UInt8.toNat 99 : Nat) : Int) = 105 by decide), if_neg (show ¬ ((UInt8.toNat 99 : Nat) : Int) = 109 by decide)]
def HY (l : List GValue) : Bool := l.all fun v => decide (v.Kind ≠ 6)
def Ew (a : List UInt8) (l : List GValue) : GValue × Int :=
 if (U5 a).length = 0 then (zV, 5) else if (U5 a).length = l.length then
  (if Nz (U5 a) l = true then (if HY l = true then kJ a ((l[0]?).getD zV) ((l[1]?).getD zV) else (.mk 6 0 [] [] [], 0)) else (zV, 2)) else (zV, 5)
def DM (a : List UInt8) (l : List GValue) : GValue × Int := if 40 < l.length then (zV, 1) else if l.all jL = true then Ew a l else (zV, 1)
/- sorting -/
def Le (x y : List UInt8) : Prop := Op.bytesLess y x = false
theorem KJ : ∀ a b : List UInt8, Op.bytesLess a b = true ∨ a = b ∨ Op.bytesLess b a = true
 | [], [] => .inr (.inl rfl)
 | [], _ :: _ => .inl rfl
 | _ :: _, [] => .inr (.inr rfl)
 | x :: a, y :: b => by
  simp only [Op.bytesLess, Bool.or_eq_true, decide_eq_true_eq, Bool.and_eq_true, beq_iff_eq]
  by_cases h1 : x < y
  ·exact .inl (.inl h1)
  by_cases h2 : y < x
  ·exact .inr (.inr (.inl h2))
  ·have h3 : x = y := UInt8.le_antisymm (UInt8.not_lt.1 h2) (UInt8.not_lt.1 h1)
   subst h3
   rcases KJ a b with h | h | h
   ·exact .inl (.inr ⟨rfl, h⟩)
   ·exact .inr (.inl (by rw [h]))
   ·exact .inr (.inr (.inr ⟨rfl, h⟩))
theorem Le.refl (x : List UInt8) : Le x x := JI x
theorem Le.of_less {x y : List UInt8} (h : Op.bytesLess x y = true) : Le x y := by
 unfold Le
 cases h2 : Op.bytesLess y x with
 | false => rfl
 | true => have := kb h h2; rw [JI] at this; cases this
theorem Le.cases {x y : List UInt8} (h : Le x y) : x = y ∨ Op.bytesLess x y = true := by
 rcases KJ x y with g | g | g
 ·exact .inr g
 ·exact .inl g
 ·unfold Le at h; rw [h] at g; cases g
theorem Le.trans {x y z : List UInt8} (h : Le x y) (g : Le y z) : Le x z := by
 rcases h.cases with rfl | h
 ·exact g
 ·rcases g.cases with rfl | g
  ·exact Le.of_less h
  ·exact Le.of_less (kb h g)
theorem Le.of_not {x y : List UInt8} (h : ¬ Op.bytesLess y x = true) : Le x y := Bool.eq_false_iff.2 h
def gt (d : List (List UInt8)) (i : Nat) : List UInt8 := (d[i]?).getD []
theorem Dp {d : List (List UInt8)} {i : Nat} (h : i < d.length) : d[i]? = some (gt d i) := by unfold gt; rw [zw h]; rfl
theorem LK {d : List (List UInt8)} {i k : Nat} {x : List UInt8} (h : i < d.length) : gt (d.set i x) k = if k = i then x else gt d k := by
 unfold gt
 by_cases e : k = i
 ·subst e; rw [if_pos rfl, List.getElem?_set_self h]; rfl
 ·rw [if_neg e, List.getElem?_set_ne (fun e' => e e'.symm)]
def sw (d : List (List UInt8)) (i j : Nat) : List (List UInt8) := (d.set i (gt d j)).set j (gt d i)
theorem HZ (d : List (List UInt8)) (i j : Nat) : (sw d i j).length = d.length := by unfold sw; simp
theorem N0 {d : List (List UInt8)} {i j k : Nat} (hi : i < d.length) (hj : j < d.length) : gt (sw d i j) k = if k = j then gt d i else if k = i then gt d j else gt d k := by
 unfold sw
 rw [LK (by simpa using hj), LK hi]
structure Rg (a b : Nat) (d d' : List (List UInt8)) : Prop where
 len : d'.length = d.length
 perm : d'.Perm d
 out : ∀ i, (i < a ∨ b <= i) → gt d' i = gt d i
 all : ∀ Q : List UInt8 → Prop, (∀ i, a <= i → i < b → Q (gt d i)) → ∀ i, a <= i → i < b → Q (gt d' i)
theorem Rg.refl (a b : Nat) (d : List (List UInt8)) : Rg a b d d := ⟨rfl, .refl _, fun _ _ => rfl, fun _ h => h⟩
theorem Rg.trans {a b : Nat} {d d' d'' : List (List UInt8)} (h : Rg a b d d') (g : Rg a b d' d'') : Rg a b d d'' :=
 ⟨g.len.trans h.len, g.perm.trans h.perm, fun i hi => (g.out i hi).trans (h.out i hi), fun Q hq => g.all Q (h.all Q hq)⟩
theorem Rg.mono {a b a' b' : Nat} {d d' : List (List UInt8)} (h : Rg a b d d') (ha : a' <= a) (hb : b <= b') : Rg a' b' d d' :=
 ⟨h.len, h.perm, fun i hi => h.out i (by omega), fun Q hq i h1 h2 => by
  by_cases hin : a <= i ∧ i < b
  ·exact h.all Q (fun k k1 k2 => hq k (by omega) (by omega)) i hin.1 hin.2
  ·rw [h.out i (by omega)]; exact hq i h1 h2⟩
theorem Gn {d : List (List UInt8)} {i j : Nat} (hi : i < d.length) (hj : j < d.length) : (sw d i j).Perm d := by
 have e1 : gt d j = d[j] := by unfold gt; rw [zw hj]; rfl
 have e2 : gt d i = d[i] := by unfold gt; rw [zw hi]; rfl
 unfold sw
 rw [e1, e2]
 exact List.set_set_perm hi hj
theorem Rg.swap {a b : Nat} {d : List (List UInt8)} {i j : Nat} (h1 : a <= i) (h2 : i < b) (h3 : a <= j) (h4 : j < b) (hb : b <= d.length) : Rg a b d (sw d i j) :=
 ⟨HZ d i j, Gn (by omega) (by omega), fun k hk => by rw [N0 (by omega) (by omega), if_neg (by omega), if_neg (by omega)], fun Q hq k k1 k2 => by
  rw [N0 (by omega) (by omega)]
  split
  ·exact hq i h1 h2
  ·split
   ·exact hq j h3 h4
   ·exact hq k k1 k2⟩
def Srt (a b : Nat) (d : List (List UInt8)) : Prop := ∀ i j, a <= i → i < j → j < b → Le (gt d i) (gt d j)
theorem D5 {x y : List UInt8} : (Lib.compareBytes x y < 0) ↔ Op.bytesLess x y = true := by rw [Gl]
/- values as expressions -/
mutual
def knV : GValue → Bool
 | .mk k _ _ _ l => decide (k ≠ 6) && Na l
def Na : List GValue → Bool
 | [] => true
 | v :: l => knV v && Na l
end
theorem D6 (v : GValue) : knV v = (decide (v.Kind ≠ 6) && Na v.L) := by cases v; rw [knV]; rfl
/- expressions renamed -/
/- marks -/
theorem zZ {α : Type} (p : List α) (x : α) (l : List α) : (p ++ x :: l)[p.length]? = some x := by simp
theorem kR {α : Type} (p : List α) (x y : α) (l : List α) : (p ++ x :: l).set p.length y = p ++ y :: l := by simp
theorem Ye {α : Type} (p : List α) (x : α) (l : List α) : p ++ x :: l = (p ++ [x]) ++ l := by simp
theorem Db {α : Type} (p : List α) (x : α) : (p.length : Int) + 1 = ((p ++ [x]).length : Int) := by simp
theorem yj {α : Type} (p : List α) (x : α) (h : p.length < 2 ^ 62) : w64 ((p.length : Int) + 1) = ((p ++ [x]).length : Int) := by rw [yf h]; simp
theorem Qg {α : Type} (p : List α) (x : α) (l : List α) : (p.length : Int) < ((p ++ x :: l).length : Int) := by simp; omega
theorem ZG {α : Type} (p : List α) : ¬ (p.length : Int) < ((p ++ []).length : Int) := by simp
theorem zt {n m : Nat} (hn : n <= 2 ^ 7) (hm : m <= 2 ^ 40) : zq n m := by
 have : m * n <= 2 ^ 40 * 2 ^ 7 := Nat.mul_le_mul hm hn
 unfold zq
 exact ⟨by rw [show maxBytes = 2 ^ 47 from rfl]; omega, by omega⟩
def mI : Int → List Int → List Int
 | _, [] => []
 | k, _ :: l => k :: mI (k + 1) l
theorem D7 (l : List Int) (k : Int) : (mI k l).length = l.length := by
 induction l generalizing k with
 | nil => rfl
 | cons x l ih => simp only [mI, List.length_cons, ih]
theorem Dq (l : List Int) (k : Int) : mI k (mI k l) = mI k l := by
 induction l generalizing k with
 | nil => rfl
 | cons x l ih => simp only [mI, ih]
def mB : Int → List UInt8 → List UInt8
 | _, [] => []
 | k, _ :: l => b8 k :: mB (k + 1) l
def cB (k : List (List UInt8)) : Nat := (k.map List.length).sum
def mBB : Int → List (List UInt8) → List (List UInt8)
 | _, [] => []
 | k, x :: l => mB k x :: mBB (k + x.length) l
theorem kr (l : List UInt8) (k : Int) : (mB k l).length = l.length := by
 induction l generalizing k with
 | nil => rfl
 | cons x l ih => simp only [mB, List.length_cons, ih]
theorem Q4 (l : List UInt8) (k : Int) : mB k (mB k l) = mB k l := by
 induction l generalizing k with
 | nil => rfl
 | cons x l ih => simp only [mB, ih]
theorem Nb (l : List (List UInt8)) (k : Int) : mBB k (mBB k l) = mBB k l := by
 induction l generalizing k with
 | nil => rfl
 | cons x l ih => simp only [mBB, Q4, kr, ih]
theorem U6 (l : List (List UInt8)) (k : Int) : cB (mBB k l) = cB l := by
 induction l generalizing k with
 | nil => rfl
 | cons x l ih => unfold cB at ih ⊢; simp only [mBB, List.map_cons, List.sum_cons, kr, ih]
theorem Gp (x : List UInt8) (l : List (List UInt8)) : cB (x :: l) = x.length + cB l := by unfold cB; simp
theorem Qh (l : List (List UInt8)) : bsz l = l.length + cB l := rfl
theorem Gq (l : List (List UInt8)) (k : Int) : bsz (mBB k l) = bsz l := by
 rw [Qh, Qh, U6]
 congr 1
 induction l generalizing k with
 | nil => rfl
 | cons x l ih => simp only [mBB, List.length_cons, ih]
mutual
def cV : GValue → Nat
 | .mk _ _ s k l => 2 + (s.length + (cB k + cVs l))
def cVs : List GValue → Nat
 | [] => 0
 | v :: l => cV v + cVs l
end
mutual
def mV : Int → GValue → GValue
 | i, .mk _ _ s k l => .mk i (i + 1) (mB (i + 1 + 1) s) (mBB (i + 1 + 1 + s.length) k) (mVs (i + 1 + 1 + s.length + cB k) l)
def mVs : Int → List GValue → List GValue
 | _, [] => []
 | i, v :: l => mV i v :: mVs (i + cV v) l
end
theorem DN (v : GValue) : cV v = 2 + (v.S.length + (cB v.K + cVs v.L)) := by cases v; simp only [cV, GValue.S, GValue.K, GValue.L]
theorem DO (i : Int) (v : GValue) : mV i v = .mk i (i + 1) (mB (i + 1 + 1) v.S) (mBB (i + 1 + 1 + v.S.length) v.K) (mVs (i + 1 + 1 + v.S.length + cB v.K) v.L) := by cases v; simp only [mV, GValue.S, GValue.K, GValue.L]
mutual
theorem Om : ∀ (i : Int) (v : GValue), cV (mV i v) = cV v
 | i, .mk _ _ s k l => by simp only [mV, cV, kr, U6, N1]
theorem N1 : ∀ (i : Int) (l : List GValue), cVs (mVs i l) = cVs l
 | _, [] => rfl
 | i, v :: l => by simp only [mVs, cVs, Om i v, N1 _ l]
end
mutual
theorem VK : ∀ (i : Int) (v : GValue), mV i (mV i v) = mV i v
 | i, .mk _ _ s k l => by simp only [mV, kr, U6, Q4, Nb, U7]
theorem U7 : ∀ (i : Int) (l : List GValue), mVs i (mVs i l) = mVs i l
 | _, [] => rfl
 | i, v :: l => by simp only [mVs, Om, VK i v, U7 _ l]
end
mutual
theorem N2 : ∀ (i : Int) (v : GValue), vsz (mV i v) = vsz v
 | i, .mk _ _ s k l => by simp only [mV, vsz, kr, Gq, LL]
theorem LL : ∀ (i : Int) (l : List GValue), yw (mVs i l) = yw l
 | _, [] => rfl
 | i, v :: l => by simp only [mVs, yw, N2 i v, LL _ l]
end
mutual
theorem Tj : ∀ v : GValue, cV v <= 2 + 2 * vsz v
 | .mk _ _ s k l => by have := KK l; have := Qh k; simp only [cV, vsz]; omega
theorem KK : ∀ l : List GValue, cVs l <= 2 * yw l
 | [] => by simp [cVs, yw]
 | v :: l => by have := Tj v; have := KK l; simp only [cVs, yw]; omega
end
/- addresses -/
theorem LM {α : Type} {l : List α} {i : Nat} (h : i <= l.length) : jB l none (some i) = some (l.take i) := by
 unfold jB vU; rw [if_pos ⟨by simp, by simpa using h⟩]; simp
theorem Dc {α : Type} {l : List α} {i : Nat} (h : i <= l.length) : jB l (some i) none = some (l.drop i) := by
 unfold jB vU; rw [if_pos ⟨by simpa using h, by simp⟩]; simp
theorem Dr {α : Type} {l : List α} (h : 2 <= l.length) : jB l (some 1) (some (l.length - 1)) = some ((l.drop 1).dropLast) := by
 unfold jB vU
 rw [if_pos ⟨by simp; omega, by simp⟩]
 simp only [Option.getD_some, Option.map_some, List.dropLast_eq_take, List.length_drop, List.drop_take]
theorem Dd {α : Type} {l : List α} (h : 0 < l.length) : l[l.length - 1]? = l.getLast? := by rw [List.getLast?_eq_getElem?]
def DP (n : Nat) : List UInt8 := if n < 10 then [UInt8.ofNat (48 + n)] else [UInt8.ofNat (48 + n / 10), UInt8.ofNat (48 + n % 10)]
def De (l : List UInt8) : Bool := decide (1 <= l.length ∧ l.length <= 2) && !(decide (l.length = 2) && decide (l[0]? = some 48)) && l.all (inB 48 57)
def Df (l : List UInt8) : Bool := if l[0]? = some 34 then (if (l.drop 1).getLast? = some 34 then w9 (l.drop 1).dropLast else false) else De l
def VL (b : List UInt8) : List UInt8 := b.takeWhile fun x => decide (x ≠ 91)
def XF (b : List UInt8) : List UInt8 := b.dropWhile fun x => decide (x ≠ 91)
theorem On (b : List UInt8) : VL b ++ XF b = b := List.takeWhile_append_dropWhile
theorem Ds (b : List UInt8) : b.take (VL b).length = VL b := by
 conv => lhs; arg 2; rw [<- On b]
 exact List.take_left
theorem Dt (b : List UInt8) : b.drop (VL b).length = XF b := by
 conv => lhs; arg 2; rw [<- On b]
 exact List.drop_left
theorem D8 (b : List UInt8) : (VL b).length + (XF b).length = b.length := by
 rw [<- List.length_append, On]
theorem Du {b : List UInt8} (h : XF b ≠ []) : ∃ t, XF b = 91 :: t := by
 unfold XF at h ⊢
 induction b with
 | nil => exact (h rfl).elim
 | cons x b ih =>
  rw [List.dropWhile_cons] at h ⊢
  by_cases hx : x = 91
  ·subst hx
   exact ⟨b, by rw [if_neg (by simp)]⟩
  ·rw [if_pos (by simpa using hx)] at h ⊢
   exact ih h
def Ey (b : List UInt8) : Bool := w9 (VL b) && (if XF b = [] then true else if ((XF b).drop 1).getLast? = some 93 then Df ((XF b).drop 1).dropLast else false)
theorem EF {b : List UInt8} (h : w9 b = true) : 1 <= b.length ∧ b.length <= 8 := by
 unfold w9 at h
 rw [Bool.and_eq_true] at h
 exact of_decide_eq_true h.1
def gOk {α : Type} (p : α → Bool) (key : α → List UInt8) (l : List α) (j : Nat) : Bool := match l[j]? with
 | some b => p b && (decide (j = 0) || match l[j - 1]? with | some a => Op.bytesLess (key a) (key b) | none => false)
 | none => false
def XG {α : Type} (p : α → Bool) (key : α → List UInt8) (l : List α) (i d : Nat) : Bool := (List.range' i d).all (gOk p key l)
theorem EG {α : Type} (p : α → Bool) (key : α → List UInt8) (l : List α) (i : Nat) : XG p key l i 0 = true := rfl
theorem EH {α : Type} (p : α → Bool) (key : α → List UInt8) (l : List α) (i d : Nat) : XG p key l i (d + 1) = (gOk p key l i && XG p key l (i + 1) d) := by
 unfold XG; rw [List.range'_succ, List.all_cons]
theorem Ea {α : Type} {p : α → Bool} {key : α → List UInt8} {l : List α} {i : Nat} (h : i < l.length) (h0 : 0 < i) : gOk p key l i = (p l[i] && Op.bytesLess (key (l[i - 1]'(by omega))) (key l[i])) := by
 unfold gOk
 rw [zw h]
 simp only
 rw [zw (show i - 1 < l.length by omega)]
 simp [show i ≠ 0 by omega]
theorem Dg {α : Type} {p : α → Bool} {key : α → List UInt8} {l : List α} (h : 0 < l.length) : gOk p key l 0 = p l[0] := by
 unfold gOk
 rw [zw h]
 simp
theorem Pu {α : Type} {p : α → Bool} {key : α → List UInt8} {l : List α} (h : XG p key l 0 l.length = true) {j : Nat} (hj : j < l.length) : gOk p key l j = true := by
 unfold XG at h
 exact List.all_eq_true.1 h j (List.mem_range'_1.2 ⟨by omega, by omega⟩)
theorem D9 {α : Type} {p : α → Bool} {key : α → List UInt8} {l : List α} (h : XG p key l 0 l.length = true) {x : α} (hx : x ∈ l) : p x = true := by
 obtain ⟨j, hj, rfl⟩ := List.mem_iff_getElem.1 hx
 have := Pu h hj
 unfold gOk at this
 rw [zw hj] at this
 simp only [Bool.and_eq_true] at this
 exact this.1
theorem Dh {α : Type} {p : α → Bool} {key : α → List UInt8} {l : List α} (h : XG p key l 0 l.length = true) : Asc (l.map key) := by
 intro i j
 induction j with
 | zero => intro _ h; omega
 | succ j ih =>
  intro hj hij
  rw [List.length_map] at hj
  have hk := Pu h hj
  rw [Ea hj (by omega), Bool.and_eq_true] at hk
  have h1 := hk.2
  rw [List.getElem_map, List.getElem_map]
  rcases Nat.lt_or_ge i j with hlt | hge
  ·have := ih (by rw [List.length_map]; omega) hlt
   rw [List.getElem_map, List.getElem_map] at this
   exact kb this h1
  ·obtain rfl : i = j := by omega
   exact h1
def DA (l : List (List UInt8)) : Bool := decide (l.length <= 8) && XG Ey id l 0 l.length
def DQ (v : GValue) : Bool := decide (v.Kind = 5) && jL v && knV v
def wA (s : GStep) : Nat := s.Key.length
def zW : List GStep → Nat
 | [] => 0
 | v :: l => 1 + wA v + zW l
theorem Y7 {l : List GStep} {v : GStep} (h : v ∈ l) : 1 + wA v <= zW l := by
 induction l with
 | nil => cases h
 | cons x l ih =>
  simp only [zW]
  rcases List.mem_cons.1 h with rfl | h
  ·omega
  ·have := ih h; omega
theorem wk (l : List GStep) : l.length <= zW l := by
 induction l with
 | nil => simp
 | cons x l ih => simp only [zW, List.length_cons]; omega
def xd (s : GStep) : Bool := if s.Kind = 0 then w9 s.Key && decide (s.I = 0) else decide (s.Kind = 1 ∧ s.Key = [] ∧ 0 <= s.I ∧ s.I <= 39)
def q4 (l : List GStep) : Bool := decide (l.length <= 6) && l.all xd
def stT (s : GStep) : List UInt8 := if s.Kind = 0 then 46 :: s.Key else 91 :: (Lib.itoa s.I ++ [93])
def xe : List GStep → List UInt8
 | [] => []
 | s :: l => stT s ++ xe l
def Q5 (l : List GStep) : Bool := l.all fun s => decide (-4611686018427387904 <= s.I ∧ s.I <= 4611686018427387904)
theorem U8 {l : List GStep} (h : Q5 l = true) {x : GStep} (hx : x ∈ l) : -4611686018427387904 <= x.I ∧ x.I <= 4611686018427387904 := of_decide_eq_true (List.all_eq_true.1 h x hx)
theorem U9 {u : Nat} (h : u < 18446744073709551616) : Lib.nDigits u <= 20 := by
 by_cases h0 : u < 10
 ·rw [Lib.nDigits_small h0]; decide
 ·have := Lib.numDigits_eq u (by omega) h
  split at this <;> omega
def Zu : List UInt8 → List UInt8
 | [] => []
 | x :: l => (if x = 34 ∨ x = 92 then [92, x] else [x]) ++ Zu l
def JJ (s : List UInt8) : List UInt8 := 34 :: (Zu s ++ [34])
theorem XH : ∀ s : List UInt8, (Zu s).length <= 2 * s.length
 | [] => Nat.le_refl _
 | x :: l => by
  have := XH l
  rw [Zu, List.length_append, List.length_cons]
  split <;> simp only [List.length_cons, List.length_nil] <;> omega
mutual
def y4 : GValue → List UInt8
 | .mk kd n s k l => if kd = 0 then [110, 117, 108, 108] else if kd = 1 then (if n = 1 then [116, 114, 117, 101] else [102, 97, 108, 115, 101]) else if kd = 2 then Lib.itoa n else if kd = 3 then JJ s else if kd = 6 then [63]
  else if kd = 5 then 123 :: (wu true true k l ++ [125]) else 91 :: (wu false true k l ++ [93])
def wu : Bool → Bool → List (List UInt8) → List GValue → List UInt8
 | _, _, _, [] => []
 | m, f, k, v :: l => (if f = true then [] else [44, 32]) ++ ((if m = true then (k.headD []) ++ [32, 61, 32] else []) ++ (y4 v ++ wu m false k.tail l))
end
theorem VM (v : GValue) : y4 v = if v.Kind = 0 then [110, 117, 108, 108] else if v.Kind = 1 then (if v.N = 1 then [116, 114, 117, 101] else [102, 97, 108, 115, 101]) else if v.Kind = 2 then Lib.itoa v.N else if v.Kind = 3 then JJ v.S else if v.Kind = 6 then [63]
  else if v.Kind = 5 then 123 :: (wu true true v.K v.L ++ [125]) else 91 :: (wu false true v.K v.L ++ [93]) := by
 cases v; rw [y4]; rfl
theorem VN {v : GValue} (h : yh v = true) : (v.Kind = 1 → 0 <= v.N ∧ v.N <= 1) ∧ (v.Kind = 2 → -1000000000000 <= v.N ∧ v.N <= 1000000000000) ∧ (v.Kind = 5 → v.K.length = v.L.length) ∧ v.L.length <= 40 := by
 unfold yh at h
 by_cases k0 : v.Kind = 0 ∨ v.Kind = 6
 ·rw [if_pos k0] at h
  have h := of_decide_eq_true h
  exact ⟨fun e => by omega, fun e => by omega, fun e => by omega, by omega⟩
 rw [if_neg k0] at h
 by_cases k1 : v.Kind = 1
 ·rw [if_pos k1] at h
  have h := of_decide_eq_true h
  exact ⟨fun _ => h.1, fun e => by omega, fun e => by omega, by omega⟩
 rw [if_neg k1] at h
 by_cases k2 : v.Kind = 2
 ·rw [if_pos k2] at h
  have h := of_decide_eq_true h
  exact ⟨fun e => by omega, fun _ => h.1, fun e => by omega, by omega⟩
 rw [if_neg k2] at h
 by_cases k3 : v.Kind = 3
 ·rw [if_pos k3, Bool.and_eq_true] at h
  have h := of_decide_eq_true h.2
  exact ⟨fun e => by omega, fun e => by omega, fun e => by omega, by omega⟩
 rw [if_neg k3] at h
 by_cases k4 : v.Kind = 4
 ·rw [if_pos k4] at h
  have h := of_decide_eq_true h
  exact ⟨fun e => by omega, fun e => by omega, fun e => by omega, by omega⟩
 rw [if_neg k4] at h
 by_cases k5 : v.Kind = 5
 ·rw [if_pos k5, Bool.and_eq_true] at h
  have h1 := of_decide_eq_true h.1
  exact ⟨fun e => by omega, fun e => by omega, fun _ => h1.1, by omega⟩
 ·rw [if_neg k5] at h; cases h
theorem XI {n : Int} (h0 : -4611686018427387904 <= n) (h1 : n <= 4611686018427387904) : (Lib.itoa n).length <= 21 := by
 have key : ∀ u : Nat, u <= 4611686018427387904 → (Lib.decDigits u).length <= 20 := fun u hu => by rw [Lib.decDigits_length]; exact U9 (by omega)
 unfold Lib.itoa
 split
 ·have := key n.natAbs (by omega); simp only [List.length_cons]; omega
 ·have := key n.toNat (by omega); omega
theorem UA (k : List (List UInt8)) : (k.headD []).length + bsz k.tail <= bsz k := by
 cases k with
 | nil => decide
 | cons x k => rw [Yc]; show x.length + bsz k <= _; omega
theorem Qi {p : GValue → Prop} (hp : ∀ v, p v → (y4 v).length <= 23 * vsz v + 21) (m : Bool) : ∀ (l : List GValue) (f : Bool) (k : List (List UInt8)), (∀ v ∈ l, p v) → (m = true → l.length <= k.length) → (wu m f k l).length <= 23 * yw l + 23 * (if m = true then bsz k else 0)
 | [], f, k, _, _ => by rw [wu]; exact Nat.zero_le _
 | v :: l, f, k, hl, hk => by
  have h1 := hp v (hl v List.mem_cons_self)
  have h2 := Qi hp m l false k.tail (fun x hx => hl x (List.mem_cons_of_mem _ hx)) (fun hm => by have := hk hm; simp only [List.length_cons] at this; rw [List.length_tail]; omega)
  rw [wu]
  simp only [List.length_append, yw]
  have h3 : (if f = true then ([] : List UInt8) else [44, 32]).length <= 2 := by split <;> decide
  cases m with
  | false => simp only [Bool.false_eq_true, if_false, List.length_nil] at h2 ⊢; omega
  | true =>
   simp only [if_true] at h2 ⊢
   have hk' := hk rfl
   cases k with
   | nil => simp at hk'
   | cons x k =>
    rw [Yc]
    simp only [List.headD_cons, List.tail_cons, List.length_append, List.length_cons, List.length_nil] at h2 ⊢
    omega
theorem jM : ∀ (d : Nat) (v : GValue), shV d v = true → (y4 v).length <= 23 * vsz v + 21
 | 0, v, h => by cases h
 | d + 1, v, h => by
  rw [shV, Bool.and_eq_true, List.all_eq_true] at h
  obtain ⟨h1, h2⟩ := h
  obtain ⟨l1, l2, l3, l4⟩ := VN h1
  have hv := xR v
  rw [VM]
  split
  ·simp only [List.length_cons, List.length_nil]; omega
  split
  ·split <;> simp only [List.length_cons, List.length_nil] <;> omega
  split
  ·rename_i c
   have := XI (n := v.N) (by have := l2 c; omega) (by have := l2 c; omega)
   omega
  split
  ·have := XH v.S
   simp only [JJ, List.length_cons, List.length_append, List.length_nil]; omega
  split
  ·simp only [List.length_cons, List.length_nil]; omega
  split
  ·rename_i c
   have := Qi (p := fun x => shV d x = true) (fun x hx => jM d x hx) true v.L true v.K (fun x hx => h2 x hx) (fun _ => by rw [l3 c]; exact Nat.le_refl _)
   simp only [if_true] at this
   simp only [List.length_cons, List.length_append, List.length_nil]; omega
  ·have := Qi (p := fun x => shV d x = true) (fun x hx => jM d x hx) false v.L true v.K (fun x hx => h2 x hx) (fun e => by cases e)
   simp only [Bool.false_eq_true, if_false] at this
   simp only [List.length_cons, List.length_append, List.length_nil]; omega
def ki (a b : Int) : Int := if a < b then -1 else if b < a then 1 else 0
theorem R5 (a : Int) : ki a a = 0 := by unfold ki; rw [if_neg (by omega), if_neg (by omega)]
theorem Qj {a b : Int} : ki a b = 0 ↔ a = b := by
 unfold ki
 split
 ·exact ⟨fun h => absurd h (by decide), fun h => by omega⟩
 ·split
  ·exact ⟨fun h => absurd h (by decide), fun h => by omega⟩
  ·exact ⟨fun _ => by omega, fun _ => rfl⟩
def Qk (s t : GStep) : Int := if s.Kind = t.Kind then (if s.Kind = 1 then ki s.I t.I else Lib.compareBytes s.Key t.Key) else ki s.Kind t.Kind
def jN : List GStep → List GStep → Int
 | [], [] => 0
 | [], _ :: _ => -1
 | _ :: _, [] => 1
 | s :: a, t :: b => if Qk s t = 0 then jN a b else Qk s t
def qE (x : GChange) : Nat := zW x.Path + vsz x.Old + vsz x.New
def xf : List GChange → Nat
 | [] => 0
 | v :: l => 1 + qE v + xf l
theorem Y8 {l : List GChange} {v : GChange} (h : v ∈ l) : 1 + qE v <= xf l := by
 induction l with
 | nil => cases h
 | cons x l ih =>
  simp only [xf]
  rcases List.mem_cons.1 h with rfl | h
  ·omega
  ·have := ih h; omega
theorem kS (l : List GChange) : l.length <= xf l := by
 induction l with
 | nil => simp
 | cons x l ih => simp only [xf, List.length_cons]; omega
theorem EI (a b : List GChange) : xf (a ++ b) = xf a + xf b := by
 induction a with
 | nil => simp [xf]
 | cons x l ih => simp only [List.cons_append, xf, ih]; omega
def mSt (k : Int) (s : GStep) : GStep := .mk k (mB (k + 1) s.Key) (k + 1 + s.Key.length)
def xY : List GStep → Nat
 | [] => 0
 | s :: l => (s.Key.length + 2) + xY l
def wU : Int → List GStep → List GStep
 | _, [] => []
 | k, s :: l => mSt k s :: wU (k + ((s.Key.length + 2 : Nat) : Int)) l
theorem VO : ∀ l : List GStep, xY l <= 2 * zW l
 | [] => Nat.le_refl _
 | s :: l => by have := VO l; simp only [xY, zW, wA]; omega
theorem UB : ∀ (k : Int) (l : List GStep), xY (wU k l) = xY l
 | _, [] => rfl
 | k, s :: l => by simp only [wU, xY, mSt, GStep.Key, kr, UB _ l]
theorem Pv : ∀ (k : Int) (l : List GStep), zW (wU k l) = zW l
 | _, [] => rfl
 | k, s :: l => by simp only [wU, zW, wA, mSt, GStep.Key, kr, Pv _ l]
theorem R6 : ∀ (k : Int) (l : List GStep), wU k (wU k l) = wU k l
 | _, [] => rfl
 | k, s :: l => by simp only [wU, mSt, GStep.Key, kr, Q4, R6 _ l]
def cCh (x : GChange) : Nat := xY x.Path + cV x.Old + cV x.New + 2
def VP : List GChange → Nat
 | [] => 0
 | x :: l => cCh x + VP l
def mCh (k : Int) (x : GChange) : GChange := .mk (wU k x.Path) (decide ((k + xY x.Path).tmod 3 = 0)) (mV (k + xY x.Path + 1) x.Old) (decide ((k + xY x.Path + 1 + cV x.Old).tmod 3 = 0)) (mV (k + xY x.Path + 1 + cV x.Old + 1) x.New)
def XJ : Int → List GChange → List GChange
 | _, [] => []
 | k, x :: l => mCh k x :: XJ (k + cCh x) l
theorem Eb (x : GChange) : cCh x <= 6 + 2 * qE x := by
 have h1 := VO x.Path
 have h2 := Tj x.Old
 have h3 := Tj x.New
 unfold cCh qE
 omega
theorem Gs : ∀ l : List GChange, VP l <= 6 * xf l
 | [] => Nat.le_refl _
 | e :: l => by have := Eb e; have := Gs l; simp only [VP, xf]; omega
theorem N3 (k : Int) (x : GChange) : cCh (mCh k x) = cCh x := by unfold cCh mCh; simp only [GChange.Path, GChange.Old, GChange.New, UB, Om]
theorem Ec : ∀ (k : Int) (l : List GChange), VP (XJ k l) = VP l
 | _, [] => rfl
 | k, x :: l => by simp only [XJ, VP, N3, Ec _ l]
theorem Ed (k : Int) (x : GChange) : qE (mCh k x) = qE x := by unfold qE mCh; simp only [GChange.Path, GChange.Old, GChange.New, Pv, N2]
theorem Gt : ∀ (k : Int) (l : List GChange), xf (XJ k l) = xf l
 | _, [] => rfl
 | k, x :: l => by simp only [XJ, xf, Ed, Gt _ l]
theorem Nc (k : Int) (x : GChange) : mCh k (mCh k x) = mCh k x := by
 show GChange.mk (wU k (wU k x.Path)) (decide ((k + xY (wU k x.Path)).tmod 3 = 0)) (mV (k + xY (wU k x.Path) + 1) (mV (k + xY x.Path + 1) x.Old)) (decide ((k + xY (wU k x.Path) + 1 + cV (mV (k + xY x.Path + 1) x.Old)).tmod 3 = 0)) (mV (k + xY (wU k x.Path) + 1 + cV (mV (k + xY x.Path + 1) x.Old) + 1) (mV (k + xY x.Path + 1 + cV x.Old + 1) x.New)) = _
 rw [UB, R6, Om, VK, VK]; rfl
theorem LN : ∀ (k : Int) (l : List GChange), XJ k (XJ k l) = XJ k l
 | _, [] => rfl
 | k, x :: l => by simp only [XJ, Nc, N3, LN _ l]
theorem Dv {m : Nat} (hm : m <= 2 ^ 39) : zq 216 m := by
 unfold zq
 constructor <;> simp [Am.maxBytes] <;> omega
def Y9 (p : List GStep) : Bool := match p[p.length - 1]? with | some s => decide (s.Kind = 0) | none => false
def ch1 (x : GChange) : Bool := q4 x.Path && (jL x.Old && (jL x.New && (if x.Had = true then (if x.Has = true then true else decide (x.New.Kind = 0) && Y9 x.Path) else (decide (x.Old.Kind = 0) && (x.Has && Y9 x.Path)))))
def ch2 (a b : List GStep) : Bool := decide (jN a b < 0) && !(decide (a.length <= b.length) && decide (jN a (b.take a.length) = 0))
def chA : List GStep → List GChange → Bool
 | _, [] => true
 | a, x :: l => ch1 x && (ch2 a x.Path && chA x.Path l)
def XK : List GChange → Bool
 | [] => true
 | x :: l => ch1 x && chA x.Path l
theorem UC {x : GChange} (h : ch1 x = true) : q4 x.Path = true := by unfold ch1 at h; rw [Bool.and_eq_true] at h; exact h.1
theorem zr {f : FuncId} {fn : Func} (h : Tryd.prog.funcs[f]? = some fn) (hu : Ot.contains f = true := by kernel_rfl) (hb : fn.body.isSome = true := by kernel_rfl) : cfg.funcs f = some (Am.bodyOf fn, fn.ntmps, fn.results.toList) := by
 rw [R8]
 unfold Ou Yt
 rw [hu, h]
 obtain ⟨c, hc⟩ := Option.isSome_iff_exists.1 hb
 simp only [Option.bind_some, Am.bodyOf, hc, Option.map_some, cond_true]
abbrev Oc {α : Type} (o : Option α) (f : FuncId) (st : List Entry) (xs : List V) (enc : α → V × List Entry) : Prop := OkC cfg o f st xs enc
abbrev Ol {α : Type} (o : Option α) (f : FuncId) (b : Code) (s : S) (enc : α → Ex × S) : Prop := OkL cfg o f b s enc
def jd (a b : List UInt8) : Option Int := some (Lib.compareBytes a b)
def VQ (a : List UInt8) (b : UInt8) : Option Int := some (Lib.indexByte a b)
def yX (a0 a1 : Int) (e0 : List UInt8) : Option (List UInt8) := if a1 = 10 ∧ -9223372036854775808 <= a0 ∧ a0 <= 9223372036854775807 ∧ e0.length <= 2 ^ 40 then some (e0 ++ Lib.itoa a0) else none
def Gu (a : List UInt8) : Option (Int × Bool) := if a.length <= 2 ^ 40 then some (yE a) else none
theorem vC (a0 a1 : Int) (e0 : List UInt8) : Oc (yX a0 a1 e0) 62 [.obj 1 (eL za e0)] [vr 0, vi a0, vi a1] fun r => (.val false [.own 1 (eL za r)], [.dead]) := by
 intro r h
 simp only [yX] at h
 split at h
 ·rename_i hc
  obtain rfl := Option.some.inj h
  refine O2 ?_
  show ((bytesOf (eL za e0)).bind fun s => if a1 = 10 ∧ -9223372036854775808 <= a0 ∧ a0 <= 9223372036854775807 ∧ (eL za e0).length <= 2 ^ 40 then some ((V.val false [.own 1 (eL za e0 ++ qn (Lib.itoa a0))], [.dead]) : V × List Entry) else none) = _
  rw [Xx, Option.bind_some, if_pos (by simpa [eL] using hc)]
  simp [eL, qn, za]
 ·cases h
theorem Ze (a b : List UInt8) : Oc (jd a b) 130 [] [vq za a, vq za b] fun r => (vi r, []) := by
 intro r h
 obtain rfl := Option.some.inj h
 refine O2 ?_
 show ((bytesOf (eL za a)).bind fun x => (bytesOf (eL za b)).map fun y => ((V.val false [C.int .i64 (Lib.compareBytes x y)], []) : V × List Entry)) = _
 rw [Xx, Xx]; rfl
end
end Go.Am.Try
