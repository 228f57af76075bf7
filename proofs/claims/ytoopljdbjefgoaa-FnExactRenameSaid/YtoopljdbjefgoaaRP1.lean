/- The functions of the program in plain Lean, and that the machine answers as they do; conditions at each theorem. -/
import Derived.Test.YtoopljdbjefgoaaRS2
import Derived.Test.YtoopljdbjefgoaaRAmC
set_option linter.unusedVariables false
set_option linter.unusedSimpArgs false
namespace Go.Am.Try
open Go.Am Go.Proofs
set_option linter.unusedVariables false
noncomputable section
theorem raw_nil {α : Type} {f : α → List C} : ([] : List (List C)) = eL f [] := rfl
theorem raw_cons {α : Type} {f : α → List C} {x : α} {c : List C} {xs : List α} {cs : List (List C)} (h : f x = c) (t : cs = eL f xs) : c :: cs = eL f (x :: xs) := by subst h; subst t; rfl
inductive GExpr where
  | mk (Kind : Int) (N : Int) (S : (List UInt8)) (K : (List (List UInt8))) (Kids : (List GExpr))
def GExpr.Kind : GExpr → Int
  | .mk x _ _ _ _ => x
def GExpr.N : GExpr → Int
  | .mk _ x _ _ _ => x
def GExpr.S : GExpr → (List UInt8)
  | .mk _ _ x _ _ => x
def GExpr.K : GExpr → (List (List UInt8))
  | .mk _ _ _ x _ => x
def GExpr.Kids : GExpr → (List GExpr)
  | .mk _ _ _ _ x => x
theorem GExpr.eta (x : GExpr) : GExpr.mk x.Kind x.N x.S x.K x.Kids = x := by cases x; rfl
mutual
def e_GExpr : GExpr → List C
  | .mk Kind N S K Kids => [.int .i64 Kind, .int .i64 N, .seq (eL e_u8 S), .seq (eL (e_sl e_u8) K), .seq (e_GExprs Kids)]
def e_GExprs : List GExpr → List (List C)
  | [] => []
  | v :: l => e_GExpr v :: e_GExprs l
end
theorem e_GExprs_eq (l : List GExpr) : e_GExprs l = eL e_GExpr l := by
  induction l with
  | nil => rfl
  | cons v l ih => simp only [e_GExprs, ih]; rfl
theorem eq_GExpr (x : GExpr) : e_GExpr x = [.int .i64 x.Kind, .int .i64 x.N, .seq (eL e_u8 x.S), .seq (eL (e_sl e_u8) x.K), .seq (eL e_GExpr x.Kids)] := by
  cases x; simp only [e_GExpr, e_GExprs_eq, GExpr.Kind, GExpr.N, GExpr.S, GExpr.K, GExpr.Kids]
mutual
def o_GExpr : GExpr → List C
  | .mk Kind N S K Kids => [.int .i64 Kind, .int .i64 N, .own 1 (eL e_u8 S), .own 1 (eL (o_sl 1 e_u8) K), .own 5 (o_GExprs Kids)]
def o_GExprs : List GExpr → List (List C)
  | [] => []
  | v :: l => o_GExpr v :: o_GExprs l
end
theorem o_GExprs_eq (l : List GExpr) : o_GExprs l = eL o_GExpr l := by
  induction l with
  | nil => rfl
  | cons v l ih => simp only [o_GExprs, ih]; rfl
theorem oeq_GExpr (x : GExpr) : o_GExpr x = [.int .i64 x.Kind, .int .i64 x.N, .own 1 (eL e_u8 x.S), .own 1 (eL (o_sl 1 e_u8) x.K), .own 5 (eL o_GExpr x.Kids)] := by
  cases x; simp only [o_GExpr, o_GExprs_eq, GExpr.Kind, GExpr.N, GExpr.S, GExpr.K, GExpr.Kids]
mutual
theorem ov_GExpr : ∀ x : GExpr, viewE (o_GExpr x) = e_GExpr x
  | .mk Kind N S K Kids => by have h := ovs_GExpr Kids; simp only [o_GExpr, e_GExpr, viewE, viewC, h, viewL_oL O_u8, viewL_oL (O_sl 1 O_u8)]
theorem ovs_GExpr : ∀ l : List GExpr, viewL (o_GExprs l) = e_GExprs l
  | [] => rfl
  | v :: l => by have h := ov_GExpr v; have g := ovs_GExpr l; simp only [o_GExprs, e_GExprs, viewL, h, g]
end
mutual
theorem oc_GExpr : ∀ x : GExpr, cleanE (o_GExpr x) = true
  | .mk Kind N S K Kids => by have h := ocs_GExpr Kids; simp only [o_GExpr, cleanE, cleanC, h, clean_oL O_u8, clean_oL (O_sl 1 O_u8), Bool.and_self]
theorem ocs_GExpr : ∀ l : List GExpr, cleanL (o_GExprs l) = true
  | [] => rfl
  | v :: l => by have h := oc_GExpr v; have g := ocs_GExpr l; simp only [o_GExprs, cleanL, h, g, Bool.and_self]
end
theorem O_GExpr : OEnc 5 o_GExpr e_GExpr := ⟨fun x => by rw [oeq_GExpr]; rfl, ov_GExpr, oc_GExpr⟩
theorem E_GExpr : Enc 5 e_GExpr := ⟨fun x => by rw [eq_GExpr]; rfl, fun x => by rw [eq_GExpr]; rfl, fun x => by rw [eq_GExpr]; rfl⟩
/-- How much a text, texts, a value, values hold: as the law counts. -/
def bsz (k : List (List UInt8)) : Nat := k.length + (k.map List.length).sum
mutual
def xsz : GExpr → Nat
  | .mk _ _ s k l => s.length + bsz k + xszs l
def xszs : List GExpr → Nat
  | [] => 0
  | v :: l => 1 + xsz v + xszs l
end
theorem bsz_mem {k : List (List UInt8)} {b : List UInt8} (h : b ∈ k) : 1 + b.length ≤ bsz k := by
  unfold bsz
  induction k with
  | nil => cases h
  | cons x k ih =>
    simp only [List.length_cons, List.map_cons, List.sum_cons]
    rcases List.mem_cons.1 h with rfl | h
    · omega
    · have := ih h; omega
theorem bsz_len (k : List (List UInt8)) : k.length ≤ bsz k := by unfold bsz; omega
theorem bsz_cons (b : List UInt8) (k : List (List UInt8)) : bsz (b :: k) = 1 + b.length + bsz k := by unfold bsz; simp; omega
theorem xszs_mem {l : List GExpr} {v : GExpr} (h : v ∈ l) : 1 + xsz v ≤ xszs l := by
  induction l with
  | nil => cases h
  | cons x l ih =>
    simp only [xszs]
    rcases List.mem_cons.1 h with rfl | h
    · omega
    · have := ih h; omega
theorem xszs_len (l : List GExpr) : l.length ≤ xszs l := by
  induction l with
  | nil => simp
  | cons x l ih => simp only [xszs, List.length_cons]; omega
theorem xsz_eq (v : GExpr) : xsz v = v.S.length + bsz v.K + xszs v.Kids := by cases v; simp only [xsz, GExpr.S, GExpr.K, GExpr.Kids]
mutual
def ptX : GExpr → Nat
  | .mk _ _ _ _ l => 1 + ptXs l
def ptXs : List GExpr → Nat
  | [] => 0
  | v :: l => ptX v + ptXs l
end
theorem ptX_eq (v : GExpr) : ptX v = 1 + ptXs v.Kids := by cases v; simp only [ptX, GExpr.Kids]
theorem ptXs_len (l : List GExpr) : l.length ≤ ptXs l := by
  induction l with
  | nil => simp
  | cons v l ih => have := ptX_eq v; simp only [ptXs, List.length_cons]; omega
mutual
theorem ptX_le : ∀ v : GExpr, ptX v ≤ 1 + xsz v
  | .mk _ _ _ _ l => by have := ptXs_le l; simp only [ptX, xsz]; omega
theorem ptXs_le : ∀ l : List GExpr, ptXs l ≤ xszs l
  | [] => by simp [ptXs, xszs]
  | v :: l => by have := ptX_le v; have := ptXs_le l; simp only [ptXs, xszs]; omega
end
def textB (a : List UInt8) : Bool := decide (a.length ≤ 20) && a.all (inB 32 126)
def nameB (a : List UInt8) : Bool := decide (1 ≤ a.length ∧ a.length ≤ 8) && a.all (inB 97 122)
/-- A key that is a name, above the one ahead of it. -/
def kOk (k : List (List UInt8)) (j : Nat) : Bool := match k[j]? with
  | some b => nameB b && (decide (j = 0) || match k[j - 1]? with | some a => Op.bytesLess a b | none => false)
  | none => false
def kAll (k : List (List UInt8)) (i d : Nat) : Bool := (List.range' i d).all (kOk k)
theorem kAll_succ (k : List (List UInt8)) (i d : Nat) : kAll k i (d + 1) = (kOk k i && kAll k (i + 1) d) := by
  unfold kAll; rw [List.range'_succ, List.all_cons]
theorem kOk_eq {k : List (List UInt8)} {i : Nat} (h : i < k.length) (h0 : 0 < i) : kOk k i = (nameB k[i] && Op.bytesLess (k[i - 1]'(by omega)) k[i]) := by
  unfold kOk
  rw [get_some h]
  simp only
  rw [get_some (show i - 1 < k.length by omega)]
  simp [show i ≠ 0 by omega]
theorem kOk_zero {k : List (List UInt8)} (h : 0 < k.length) : kOk k 0 = nameB k[0] := by
  unfold kOk
  rw [get_some h]
  simp
theorem less_cmp (a b : List UInt8) : (0 ≤ Lib.compareBytes a b) = ¬ (Op.bytesLess a b = true) := by
  induction a generalizing b with
  | nil => cases b <;> simp [Lib.compareBytes, Op.bytesLess]
  | cons x a ih =>
    cases b with
    | nil => simp [Lib.compareBytes, Op.bytesLess]
    | cons y b =>
      simp only [Lib.compareBytes, Op.bytesLess]
      by_cases h1 : x < y
      · simp [h1]
      · by_cases h2 : y < x
        · have h3 : ¬ x = y := fun e => by subst e; exact h1 h2
          simp [h1, h2, h3]
        · have h3 : x = y := UInt8.le_antisymm (UInt8.not_lt.1 h2) (UInt8.not_lt.1 h1)
          subst h3
          simp [h1, ih]
def keptL : List (List UInt8) := [[110, 117, 108, 108], [116, 114, 117, 101], [102, 97, 108, 115, 101], [105, 110, 100, 101, 120], [107, 101, 121], [118, 97, 108], [108, 111, 99, 97, 108], [114, 101, 115], [111, 117, 116], [99, 111, 117, 110, 116], [101, 97, 99, 104]]
def keptB (a : List UInt8) : Bool := keptL.any fun w => decide (w = a)
def bi : Bool → Int
  | true => 1
  | false => 0
/-- A tree of questions: it ends in X where L holds, in b where L fails. -/
def Dec {α : Type} (X b : α) (L : Prop) (t : α) : Prop := (t = X ∧ L) ∨ (t = b ∧ ¬ L)
section
variable {α β : Type} {X b x y : α} {L : Prop}
theorem Dec.ite {c : Prop} [Decidable c] (h1 : c → Dec X b L x) (h2 : ¬ c → Dec X b L y) : Dec X b L (if c then x else y) := by
  by_cases h : c
  · rw [if_pos h]; exact h1 h
  · rw [if_neg h]; exact h2 h
end
theorem Dec.bnd {α β : Type} {X b : Option α} {L : Prop} {e : Option β} {r : β} {f : β → Option α} (h : e = some r) (h1 : Dec X b L (f r)) : Dec X b L (e.bind f) := by rw [h]; exact h1
theorem Dec.bndB {α : Type} {X b : Option α} {L : Prop} {e : Option Bool} {t : Bool} {f : Bool → Option α} (h : e = some t) (h1 : bi t = 1 → Dec X b L (f true)) (h2 : bi t = 0 → Dec X b L (f false)) : Dec X b L (e.bind f) := by
  rw [h]
  cases t
  · exact h2 rfl
  · exact h1 rfl
theorem Dec.bndD {α : Type} {X b : Option α} {L : Prop} {e : Option Bool} {c : Prop} [Decidable c] {f : Bool → Option α} (h : e = some (decide c)) (h1 : c → Dec X b L (f true)) (h2 : ¬ c → Dec X b L (f false)) : Dec X b L (e.bind f) := by
  rw [h]
  by_cases hc : c
  · rw [decide_eq_true hc]; exact h1 hc
  · rw [decide_eq_false hc]; exact h2 hc
theorem bi_and (a b : Bool) : (bi (a && !b) = 1 ∧ bi a = 1 ∧ bi b = 0) ∨ (bi (a && !b) = 0 ∧ (bi a = 0 ∨ bi b = 1)) := by cases a <;> cases b <;> simp [bi]
/-- How many parts a kind bears; -1: no fixed number. -/
def arI (k : Int) : Int := if k = 4 ∨ k = 5 ∨ k = 23 then -1 else if k = 8 ∨ k = 13 ∨ k = 14 then 1 else if k = 9 ∨ (15 ≤ k ∧ k ≤ 21) then 2 else if k = 22 then 3 else 0
theorem arI_all (k : Int) : (k = 4 ∨ k = 5 ∨ k = 23 → arI k = -1) ∧ (k = 8 ∨ k = 13 ∨ k = 14 → arI k = 1) ∧ (k = 9 ∨ (15 ≤ k ∧ k ≤ 21) → arI k = 2) ∧ (k = 22 → arI k = 3) ∧ (¬ (k = 4 ∨ k = 5 ∨ k = 23 ∨ k = 8 ∨ k = 13 ∨ k = 14 ∨ k = 9 ∨ (15 ≤ k ∧ k ≤ 21) ∨ k = 22) → arI k = 0) := by
  unfold arI
  refine ⟨fun h => ?_, fun h => ?_, fun h => ?_, fun h => ?_, fun h => ?_⟩ <;> (repeat' split) <;> omega
def LocA (k n s kk kl ar t nm kp : Int) : Prop :=
  (0 ≤ k ∧ k ≤ 23) ∧ (0 ≤ ar → kl = ar) ∧ (k = 5 → kk = kl) ∧ (k ≠ 5 → kk = 0) ∧ (k = 1 → 0 ≤ n ∧ n ≤ 1) ∧ (k = 2 → 0 ≤ n ∧ n ≤ 1000000000000) ∧ (k ≠ 1 → k ≠ 2 → n = 0) ∧ (k = 3 → t = 1) ∧
  (k = 6 ∨ k = 8 ∨ k = 7 ∨ k = 23 → nm = 1) ∧ (k = 7 ∨ k = 23 → kp = 0) ∧ (k ≠ 3 → k ≠ 6 → k ≠ 8 → k ≠ 7 → k ≠ 23 → s = 0)
/-- What an expression's own part must be. -/
def LocX (v : GExpr) : Prop := LocA v.Kind v.N v.S.length v.K.length v.Kids.length (arI v.Kind) (bi (textB v.S)) (bi (nameB v.S)) (bi (keptB v.S))
open Classical in
noncomputable def locX (v : GExpr) : Bool := decide (LocX v ∧ v.Kids.length ≤ 150) && (decide (v.Kind ≠ 5) || kAll v.K 0 v.K.length)
noncomputable def frX : Nat → GExpr → Bool
  | 0, _ => false
  | d + 1, v => locX v && v.Kids.all (frX d)
def leftV (s : Nat) (n : Int) : Int := if (s : Int) ≤ n then n - s else -1
/- values as expressions -/
/- expressions renamed -/
mutual
def rnX (a b : List UInt8) : GExpr → GExpr
  | .mk k n s kk l => .mk k n (if k = 6 ∧ s = a then b else s) kk (rnXs a b l)
def rnXs (a b : List UInt8) : List GExpr → List GExpr
  | [] => []
  | v :: l => rnX a b v :: rnXs a b l
end
theorem rnX_eq (a b : List UInt8) (v : GExpr) : rnX a b v = .mk v.Kind v.N (if v.Kind = 6 ∧ v.S = a then b else v.S) v.K (rnXs a b v.Kids) := by cases v; rw [rnX]; rfl
theorem rnXs_len (a b : List UInt8) (l : List GExpr) : (rnXs a b l).length = l.length := by induction l with
  | nil => rw [rnXs]
  | cons x l ih => rw [rnXs, List.length_cons, List.length_cons, ih]
theorem rnXs_snoc (a b : List UInt8) (p : List GExpr) (x : GExpr) : rnXs a b (p ++ [x]) = rnXs a b p ++ [rnX a b x] := by induction p with
  | nil => simp only [List.nil_append, rnXs]
  | cons y p ih => rw [List.cons_append, rnXs, ih, rnXs, List.cons_append]
mutual
theorem xsz_rn (a b : List UInt8) (hb : b.length ≤ 8) : ∀ v : GExpr, xsz (rnX a b v) ≤ 8 + 16 * xsz v
  | .mk k n s kk l => by
    have := xszs_rn a b hb l
    have h : (if k = 6 ∧ s = a then b else s).length ≤ 8 + s.length := by split <;> omega
    rw [rnX]
    simp only [xsz]; omega
theorem xszs_rn (a b : List UInt8) (hb : b.length ≤ 8) : ∀ l : List GExpr, xszs (rnXs a b l) ≤ 16 * xszs l
  | [] => by rw [rnXs]; simp [xszs]
  | v :: l => by have := xsz_rn a b hb v; have := xszs_rn a b hb l; rw [rnXs]; simp only [xszs]; omega
end
/- marks -/
theorem get_mid {α : Type} (p : List α) (x : α) (l : List α) : (p ++ x :: l)[p.length]? = some x := by simp
theorem set_mid {α : Type} (p : List α) (x y : α) (l : List α) : (p ++ x :: l).set p.length y = p ++ y :: l := by simp
theorem snoc_app {α : Type} (p : List α) (x : α) (l : List α) : p ++ x :: l = (p ++ [x]) ++ l := by simp
theorem snoc_len {α : Type} (p : List α) (x : α) : ((p.length : Nat) : Int) + 1 = (((p ++ [x]).length : Nat) : Int) := by simp
theorem w64_len {α : Type} (p : List α) (x : α) (h : p.length < 2 ^ 62) : w64 (((p.length : Nat) : Int) + 1) = (((p ++ [x]).length : Nat) : Int) := by rw [w64_succ h]; simp
theorem lt_mid {α : Type} (p : List α) (x : α) (l : List α) : ((p.length : Nat) : Int) < (((p ++ x :: l).length : Nat) : Int) := by simp; omega
theorem nlt_end {α : Type} (p : List α) : ¬ ((p.length : Nat) : Int) < (((p ++ []).length : Nat) : Int) := by simp
theorem room_ok {n m : Nat} (hn : n ≤ 2 ^ 7) (hm : m ≤ 2 ^ 40) : roomP n m := by
  have : m * n ≤ 2 ^ 40 * 2 ^ 7 := Nat.mul_le_mul hm hn
  unfold roomP
  exact ⟨by rw [show maxBytes = 2 ^ 47 from rfl]; omega, by omega⟩
/-- A text, texts, in which all bytes count on; and how many they are. -/
def mB : Int → List UInt8 → List UInt8
  | _, [] => []
  | k, _ :: l => b8 k :: mB (k + 1) l
def cB (k : List (List UInt8)) : Nat := (k.map List.length).sum
def mBB : Int → List (List UInt8) → List (List UInt8)
  | _, [] => []
  | k, x :: l => mB k x :: mBB (k + x.length) l
theorem mB_len (l : List UInt8) (k : Int) : (mB k l).length = l.length := by
  induction l generalizing k with
  | nil => rfl
  | cons x l ih => simp only [mB, List.length_cons, ih]
theorem mB_idem (l : List UInt8) (k : Int) : mB k (mB k l) = mB k l := by
  induction l generalizing k with
  | nil => rfl
  | cons x l ih => simp only [mB, ih]
theorem mBB_idem (l : List (List UInt8)) (k : Int) : mBB k (mBB k l) = mBB k l := by
  induction l generalizing k with
  | nil => rfl
  | cons x l ih => simp only [mBB, mB_idem, mB_len, ih]
theorem cB_mBB (l : List (List UInt8)) (k : Int) : cB (mBB k l) = cB l := by
  induction l generalizing k with
  | nil => rfl
  | cons x l ih => unfold cB at ih ⊢; simp only [mBB, List.map_cons, List.sum_cons, mB_len, ih]
theorem cB_cons (x : List UInt8) (l : List (List UInt8)) : cB (x :: l) = x.length + cB l := by unfold cB; simp
theorem bsz_cB (l : List (List UInt8)) : bsz l = l.length + cB l := rfl
theorem bsz_mBB (l : List (List UInt8)) (k : Int) : bsz (mBB k l) = bsz l := by
  rw [bsz_cB, bsz_cB, cB_mBB]
  congr 1
  induction l generalizing k with
  | nil => rfl
  | cons x l ih => simp only [mBB, List.length_cons, ih]
mutual
def cX : GExpr → Nat
  | .mk _ _ s k l => 2 + (s.length + (cB k + cXs l))
def cXs : List GExpr → Nat
  | [] => 0
  | v :: l => cX v + cXs l
end
mutual
def mX : Int → GExpr → GExpr
  | i, .mk _ _ s k l => .mk i (i + 1) (mB (i + 1 + 1) s) (mBB (i + 1 + 1 + s.length) k) (mXs (i + 1 + 1 + s.length + cB k) l)
def mXs : Int → List GExpr → List GExpr
  | _, [] => []
  | i, v :: l => mX i v :: mXs (i + cX v) l
end
theorem cX_eq (v : GExpr) : cX v = 2 + (v.S.length + (cB v.K + cXs v.Kids)) := by cases v; simp only [cX, GExpr.S, GExpr.K, GExpr.Kids]
theorem mX_eq (i : Int) (v : GExpr) : mX i v = .mk i (i + 1) (mB (i + 1 + 1) v.S) (mBB (i + 1 + 1 + v.S.length) v.K) (mXs (i + 1 + 1 + v.S.length + cB v.K) v.Kids) := by cases v; simp only [mX, GExpr.S, GExpr.K, GExpr.Kids]
mutual
theorem cX_m : ∀ (i : Int) (v : GExpr), cX (mX i v) = cX v
  | i, .mk _ _ s k l => by simp only [mX, cX, mB_len, cB_mBB, cXs_m]
theorem cXs_m : ∀ (i : Int) (l : List GExpr), cXs (mXs i l) = cXs l
  | _, [] => rfl
  | i, v :: l => by simp only [mXs, cXs, cX_m i v, cXs_m _ l]
end
mutual
theorem mX_idem : ∀ (i : Int) (v : GExpr), mX i (mX i v) = mX i v
  | i, .mk _ _ s k l => by simp only [mX, mB_len, cB_mBB, mB_idem, mBB_idem, mXs_idem]
theorem mXs_idem : ∀ (i : Int) (l : List GExpr), mXs i (mXs i l) = mXs i l
  | _, [] => rfl
  | i, v :: l => by simp only [mXs, cX_m, mX_idem i v, mXs_idem _ l]
end
mutual
theorem xsz_m : ∀ (i : Int) (v : GExpr), xsz (mX i v) = xsz v
  | i, .mk _ _ s k l => by simp only [mX, xsz, mB_len, bsz_mBB, xszs_m]
theorem xszs_m : ∀ (i : Int) (l : List GExpr), xszs (mXs i l) = xszs l
  | _, [] => rfl
  | i, v :: l => by simp only [mXs, xszs, xsz_m i v, xszs_m _ l]
end
mutual
theorem cX_le : ∀ v : GExpr, cX v ≤ 2 + 2 * xsz v
  | .mk _ _ s k l => by have := cXs_le l; have := bsz_cB k; simp only [cX, xsz]; omega
theorem cXs_le : ∀ l : List GExpr, cXs l ≤ 2 * xszs l
  | [] => by simp [cXs, xszs]
  | v :: l => by have := cX_le v; have := cXs_le l; simp only [cXs, xszs]; omega
end

theorem fn_of {f : FuncId} {fn : Func} (h : Try.prog.funcs[f]? = some fn) (hu : usedT.contains f = true) (hb : fn.body.isSome = true) : cfg.funcs f = some (Am.bodyOf fn, fn.ntmps, fn.results.toList) := by
  rw [cfg_funcs]
  unfold fnsT fnsOf
  rw [hu, h]
  obtain ⟨c, hc⟩ := Option.isSome_iff_exists.1 hb
  simp only [Option.bind_some, Am.bodyOf, hc, Option.map_some, cond_true]
def S_internal_bytealg_Compare (a b : List UInt8) : Option Int := some (Lib.compareBytes a b)
theorem ok_internal_bytealg_Compare (a b : List UInt8) (r : Int) (h : S_internal_bytealg_Compare a b = some r) : (mach cfg).call 130 [] [.val false [.seq (eL e_u8 a)], .val false [.seq (eL e_u8 b)]] = some (.val false [.int .i64 r], []) := by
  obtain rfl := Option.some.inj h
  refine mach_X ?_
  show ((bytesOf (eL e_u8 a)).bind fun x => (bytesOf (eL e_u8 b)).map fun y => ((V.val false [C.int .i64 (Lib.compareBytes x y)], []) : V × List Entry)) = _
  rw [bytes_eL, bytes_eL]; rfl
end
end Go.Am.Try
