/- The functions of the program in plain Lean, and that the machine answers as they do; conditions at each theorem. -/
import Derived.Test.YtnhmhmjgeffboaaXS2
import Derived.Test.YtnhmhmjgeffboaaXAmC
set_option linter.unusedVariables false
set_option linter.unusedSimpArgs false
namespace Go.Am.Try
open Go.Am Go.Proofs
set_option linter.unusedVariables false
noncomputable section
inductive GExpr where
  | mk (Kind : Int) (N : Int) (S : (List UInt8)) (K : (List (List UInt8))) (Kids : (List GExpr))
def GExpr.Kind : GExpr → Int
  | .mk x _ _ _ _ => x
def GExpr.N : GExpr → Int
  | .mk _ x _ _ _ => x
def GExpr.S : GExpr → (List UInt8)
  | .mk _ _ x _ _ => x
def GExpr.K : GExpr → (List (List UInt8))
  | .mk _ _ _ x _ => x
def GExpr.Kids : GExpr → (List GExpr)
  | .mk _ _ _ _ x => x
theorem GExpr.eta (x : GExpr) : GExpr.mk x.Kind x.N x.S x.K x.Kids = x := by cases x; rfl
mutual
def e_GExpr : GExpr → List C
  | .mk Kind N S K Kids => [.int .i64 Kind, .int .i64 N, .seq (eL e_u8 S), .seq (eL (e_sl e_u8) K), .seq (e_GExprs Kids)]
def e_GExprs : List GExpr → List (List C)
  | [] => []
  | v :: l => e_GExpr v :: e_GExprs l
end
theorem e_GExprs_eq (l : List GExpr) : e_GExprs l = eL e_GExpr l := by
  induction l with
  | nil => rfl
  | cons v l ih => simp only [e_GExprs, ih]; rfl
theorem eq_GExpr (x : GExpr) : e_GExpr x = [.int .i64 x.Kind, .int .i64 x.N, .seq (eL e_u8 x.S), .seq (eL (e_sl e_u8) x.K), .seq (eL e_GExpr x.Kids)] := by
  cases x; simp only [e_GExpr, e_GExprs_eq, GExpr.Kind, GExpr.N, GExpr.S, GExpr.K, GExpr.Kids]
theorem E_GExpr : Enc 5 e_GExpr := ⟨fun x => by rw [eq_GExpr]; rfl, fun x => by rw [eq_GExpr]; rfl, fun x => by rw [eq_GExpr]; rfl⟩
/-- How much a text, texts, a value, values hold: as the law counts. -/
def bsz (k : List (List UInt8)) : Nat := k.length + (k.map List.length).sum
mutual
def xsz : GExpr → Nat
  | .mk _ _ s k l => s.length + bsz k + xszs l
def xszs : List GExpr → Nat
  | [] => 0
  | v :: l => 1 + xsz v + xszs l
end
theorem bsz_mem {k : List (List UInt8)} {b : List UInt8} (h : b ∈ k) : 1 + b.length ≤ bsz k := by
  unfold bsz
  induction k with
  | nil => cases h
  | cons x k ih =>
    simp only [List.length_cons, List.map_cons, List.sum_cons]
    rcases List.mem_cons.1 h with rfl | h
    · omega
    · have := ih h; omega
theorem bsz_len (k : List (List UInt8)) : k.length ≤ bsz k := by unfold bsz; omega
theorem bsz_cons (b : List UInt8) (k : List (List UInt8)) : bsz (b :: k) = 1 + b.length + bsz k := by unfold bsz; simp; omega
theorem xszs_mem {l : List GExpr} {v : GExpr} (h : v ∈ l) : 1 + xsz v ≤ xszs l := by
  induction l with
  | nil => cases h
  | cons x l ih =>
    simp only [xszs]
    rcases List.mem_cons.1 h with rfl | h
    · omega
    · have := ih h; omega
theorem xszs_len (l : List GExpr) : l.length ≤ xszs l := by
  induction l with
  | nil => simp
  | cons x l ih => simp only [xszs, List.length_cons]; omega
theorem xsz_eq (v : GExpr) : xsz v = v.S.length + bsz v.K + xszs v.Kids := by cases v; simp only [xsz, GExpr.S, GExpr.K, GExpr.Kids]
mutual
def ptX : GExpr → Nat
  | .mk _ _ _ _ l => 1 + ptXs l
def ptXs : List GExpr → Nat
  | [] => 0
  | v :: l => ptX v + ptXs l
end
theorem ptX_eq (v : GExpr) : ptX v = 1 + ptXs v.Kids := by cases v; simp only [ptX, GExpr.Kids]
theorem ptXs_len (l : List GExpr) : l.length ≤ ptXs l := by
  induction l with
  | nil => simp
  | cons v l ih => have := ptX_eq v; simp only [ptXs, List.length_cons]; omega
mutual
theorem ptX_le : ∀ v : GExpr, ptX v ≤ 1 + xsz v
  | .mk _ _ _ _ l => by have := ptXs_le l; simp only [ptX, xsz]; omega
theorem ptXs_le : ∀ l : List GExpr, ptXs l ≤ xszs l
  | [] => by simp [ptXs, xszs]
  | v :: l => by have := ptX_le v; have := ptXs_le l; simp only [ptXs, xszs]; omega
end
def textB (a : List UInt8) : Bool := decide (a.length ≤ 20) && a.all (inB 32 126)
def nameB (a : List UInt8) : Bool := decide (1 ≤ a.length ∧ a.length ≤ 8) && a.all (inB 97 122)
/-- A key that is a name, above the one ahead of it. -/
def kOk (k : List (List UInt8)) (j : Nat) : Bool := match k[j]? with
  | some b => nameB b && (decide (j = 0) || match k[j - 1]? with | some a => Op.bytesLess a b | none => false)
  | none => false
def kAll (k : List (List UInt8)) (i d : Nat) : Bool := (List.range' i d).all (kOk k)
theorem kAll_succ (k : List (List UInt8)) (i d : Nat) : kAll k i (d + 1) = (kOk k i && kAll k (i + 1) d) := by
  unfold kAll; rw [List.range'_succ, List.all_cons]
theorem kOk_eq {k : List (List UInt8)} {i : Nat} (h : i < k.length) (h0 : 0 < i) : kOk k i = (nameB k[i] && Op.bytesLess (k[i - 1]'(by omega)) k[i]) := by
  unfold kOk
  rw [get_some h]
  simp only
  rw [get_some (show i - 1 < k.length by omega)]
  simp [show i ≠ 0 by omega]
theorem kOk_zero {k : List (List UInt8)} (h : 0 < k.length) : kOk k 0 = nameB k[0] := by
  unfold kOk
  rw [get_some h]
  simp
theorem less_cmp (a b : List UInt8) : (0 ≤ Lib.compareBytes a b) = ¬ (Op.bytesLess a b = true) := by
  induction a generalizing b with
  | nil => cases b <;> simp [Lib.compareBytes, Op.bytesLess]
  | cons x a ih =>
    cases b with
    | nil => simp [Lib.compareBytes, Op.bytesLess]
    | cons y b =>
      simp only [Lib.compareBytes, Op.bytesLess]
      by_cases h1 : x < y
      · simp [h1]
      · by_cases h2 : y < x
        · have h3 : ¬ x = y := fun e => by subst e; exact h1 h2
          simp [h1, h2, h3]
        · have h3 : x = y := UInt8.le_antisymm (UInt8.not_lt.1 h2) (UInt8.not_lt.1 h1)
          subst h3
          simp [h1, ih]
def keptL : List (List UInt8) := [[110, 117, 108, 108], [116, 114, 117, 101], [102, 97, 108, 115, 101], [105, 110, 100, 101, 120], [107, 101, 121], [118, 97, 108], [108, 111, 99, 97, 108], [114, 101, 115], [111, 117, 116], [99, 111, 117, 110, 116], [101, 97, 99, 104]]
def keptB (a : List UInt8) : Bool := keptL.any fun w => decide (w = a)
def bi : Bool → Int
  | true => 1
  | false => 0
/-- A tree of questions: it ends in X where L holds, in b where L fails. -/
def Dec {α : Type} (X b : α) (L : Prop) (t : α) : Prop := (t = X ∧ L) ∨ (t = b ∧ ¬ L)
section
variable {α β : Type} {X b x y : α} {L : Prop}
theorem Dec.ite {c : Prop} [Decidable c] (h1 : c → Dec X b L x) (h2 : ¬ c → Dec X b L y) : Dec X b L (if c then x else y) := by
  by_cases h : c
  · rw [if_pos h]; exact h1 h
  · rw [if_neg h]; exact h2 h
end
theorem Dec.bnd {α β : Type} {X b : Option α} {L : Prop} {e : Option β} {r : β} {f : β → Option α} (h : e = some r) (h1 : Dec X b L (f r)) : Dec X b L (e.bind f) := by rw [h]; exact h1
theorem Dec.bndB {α : Type} {X b : Option α} {L : Prop} {e : Option Bool} {t : Bool} {f : Bool → Option α} (h : e = some t) (h1 : bi t = 1 → Dec X b L (f true)) (h2 : bi t = 0 → Dec X b L (f false)) : Dec X b L (e.bind f) := by
  rw [h]
  cases t
  · exact h2 rfl
  · exact h1 rfl
theorem Dec.bndD {α : Type} {X b : Option α} {L : Prop} {e : Option Bool} {c : Prop} [Decidable c] {f : Bool → Option α} (h : e = some (decide c)) (h1 : c → Dec X b L (f true)) (h2 : ¬ c → Dec X b L (f false)) : Dec X b L (e.bind f) := by
  rw [h]
  by_cases hc : c
  · rw [decide_eq_true hc]; exact h1 hc
  · rw [decide_eq_false hc]; exact h2 hc
theorem bi_and (a b : Bool) : (bi (a && !b) = 1 ∧ bi a = 1 ∧ bi b = 0) ∨ (bi (a && !b) = 0 ∧ (bi a = 0 ∨ bi b = 1)) := by cases a <;> cases b <;> simp [bi]
/-- How many parts a kind bears; -1: no fixed number. -/
def arI (k : Int) : Int := if k = 4 ∨ k = 5 ∨ k = 23 then -1 else if k = 8 ∨ k = 13 ∨ k = 14 then 1 else if k = 9 ∨ (15 ≤ k ∧ k ≤ 21) then 2 else if k = 22 then 3 else 0
theorem arI_all (k : Int) : (k = 4 ∨ k = 5 ∨ k = 23 → arI k = -1) ∧ (k = 8 ∨ k = 13 ∨ k = 14 → arI k = 1) ∧ (k = 9 ∨ (15 ≤ k ∧ k ≤ 21) → arI k = 2) ∧ (k = 22 → arI k = 3) ∧ (¬ (k = 4 ∨ k = 5 ∨ k = 23 ∨ k = 8 ∨ k = 13 ∨ k = 14 ∨ k = 9 ∨ (15 ≤ k ∧ k ≤ 21) ∨ k = 22) → arI k = 0) := by
  unfold arI
  refine ⟨fun h => ?_, fun h => ?_, fun h => ?_, fun h => ?_, fun h => ?_⟩ <;> (repeat' split) <;> omega
def LocA (k n s kk kl ar t nm kp : Int) : Prop :=
  (0 ≤ k ∧ k ≤ 23) ∧ (0 ≤ ar → kl = ar) ∧ (k = 5 → kk = kl) ∧ (k ≠ 5 → kk = 0) ∧ (k = 1 → 0 ≤ n ∧ n ≤ 1) ∧ (k = 2 → 0 ≤ n ∧ n ≤ 1000000000000) ∧ (k ≠ 1 → k ≠ 2 → n = 0) ∧ (k = 3 → t = 1) ∧
  (k = 6 ∨ k = 8 ∨ k = 7 ∨ k = 23 → nm = 1) ∧ (k = 7 ∨ k = 23 → kp = 0) ∧ (k ≠ 3 → k ≠ 6 → k ≠ 8 → k ≠ 7 → k ≠ 23 → s = 0)
/-- What an expression's own part must be. -/
def LocX (v : GExpr) : Prop := LocA v.Kind v.N v.S.length v.K.length v.Kids.length (arI v.Kind) (bi (textB v.S)) (bi (nameB v.S)) (bi (keptB v.S))
open Classical in
noncomputable def locX (v : GExpr) : Bool := decide (LocX v ∧ v.Kids.length ≤ 150) && (decide (v.Kind ≠ 5) || kAll v.K 0 v.K.length)
noncomputable def frX : Nat → GExpr → Bool
  | 0, _ => false
  | d + 1, v => locX v && v.Kids.all (frX d)
def leftV (s : Nat) (n : Int) : Int := if (s : Int) ≤ n then n - s else -1

theorem fn_of {f : FuncId} {fn : Func} (h : Try.prog.funcs[f]? = some fn) (hu : usedT.contains f = true) (hb : fn.body.isSome = true) : cfg.funcs f = some (Am.bodyOf fn, fn.ntmps, fn.results.toList) := by
  rw [cfg_funcs]
  unfold fnsT fnsOf
  rw [hu, h]
  obtain ⟨c, hc⟩ := Option.isSome_iff_exists.1 hb
  simp only [Option.bind_some, Am.bodyOf, hc, Option.map_some, cond_true]
def S_internal_bytealg_Compare (a b : List UInt8) : Option Int := some (Lib.compareBytes a b)
theorem ok_internal_bytealg_Compare (a b : List UInt8) (r : Int) (h : S_internal_bytealg_Compare a b = some r) : (mach cfg).call 112 [] [.val false [.seq (eL e_u8 a)], .val false [.seq (eL e_u8 b)]] = some (.val false [.int .i64 r], []) := by
  obtain rfl := Option.some.inj h
  refine mach_X ?_
  show ((bytesOf (eL e_u8 a)).bind fun x => (bytesOf (eL e_u8 b)).map fun y => ((V.val false [C.int .i64 (Lib.compareBytes x y)], []) : V × List Entry)) = _
  rw [bytes_eL, bytes_eL]; rfl
end
end Go.Am.Try
