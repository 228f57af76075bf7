/- The functions of the program in plain Lean, and that the machine answers as they do; conditions at each theorem. -/
import Derived.Test.YtnhmhmjgeffboaaES2
import Derived.Test.YtnhmhmjgeffboaaEAmC
set_option linter.unusedVariables false
set_option linter.unusedSimpArgs false
namespace Go.Am.Try
open Go.Am Go.Proofs
set_option linter.unusedVariables false
noncomputable section
inductive GValue where
  | mk (Kind : Int) (N : Int) (S : (List UInt8)) (K : (List (List UInt8))) (L : (List GValue))
def GValue.Kind : GValue → Int
  | .mk x _ _ _ _ => x
def GValue.N : GValue → Int
  | .mk _ x _ _ _ => x
def GValue.S : GValue → (List UInt8)
  | .mk _ _ x _ _ => x
def GValue.K : GValue → (List (List UInt8))
  | .mk _ _ _ x _ => x
def GValue.L : GValue → (List GValue)
  | .mk _ _ _ _ x => x
theorem GValue.eta (x : GValue) : GValue.mk x.Kind x.N x.S x.K x.L = x := by cases x; rfl
mutual
def e_GValue : GValue → List C
  | .mk Kind N S K L => [.int .i64 Kind, .int .i64 N, .seq (eL e_u8 S), .seq (eL (e_sl e_u8) K), .seq (e_GValues L)]
def e_GValues : List GValue → List (List C)
  | [] => []
  | v :: l => e_GValue v :: e_GValues l
end
theorem e_GValues_eq (l : List GValue) : e_GValues l = eL e_GValue l := by
  induction l with
  | nil => rfl
  | cons v l ih => simp only [e_GValues, ih]; rfl
theorem eq_GValue (x : GValue) : e_GValue x = [.int .i64 x.Kind, .int .i64 x.N, .seq (eL e_u8 x.S), .seq (eL (e_sl e_u8) x.K), .seq (eL e_GValue x.L)] := by
  cases x; simp only [e_GValue, e_GValues_eq, GValue.Kind, GValue.N, GValue.S, GValue.K, GValue.L]
theorem E_GValue : Enc 5 e_GValue := ⟨fun x => by rw [eq_GValue]; rfl, fun x => by rw [eq_GValue]; rfl, fun x => by rw [eq_GValue]; rfl⟩
inductive GEnv where
  | mk (Locals : GValue) (Res : GValue) (Index : GValue) (Key : GValue) (Val : GValue)
def GEnv.Locals : GEnv → GValue
  | .mk x _ _ _ _ => x
def GEnv.Res : GEnv → GValue
  | .mk _ x _ _ _ => x
def GEnv.Index : GEnv → GValue
  | .mk _ _ x _ _ => x
def GEnv.Key : GEnv → GValue
  | .mk _ _ _ x _ => x
def GEnv.Val : GEnv → GValue
  | .mk _ _ _ _ x => x
theorem GEnv.eta (x : GEnv) : GEnv.mk x.Locals x.Res x.Index x.Key x.Val = x := by cases x; rfl
def e_GEnv (x : GEnv) : List C := [.int .i64 x.Locals.Kind, .int .i64 x.Locals.N, .seq (eL e_u8 x.Locals.S), .seq (eL (e_sl e_u8) x.Locals.K), .seq (eL e_GValue x.Locals.L), .int .i64 x.Res.Kind, .int .i64 x.Res.N, .seq (eL e_u8 x.Res.S), .seq (eL (e_sl e_u8) x.Res.K), .seq (eL e_GValue x.Res.L), .int .i64 x.Index.Kind, .int .i64 x.Index.N, .seq (eL e_u8 x.Index.S), .seq (eL (e_sl e_u8) x.Index.K), .seq (eL e_GValue x.Index.L), .int .i64 x.Key.Kind, .int .i64 x.Key.N, .seq (eL e_u8 x.Key.S), .seq (eL (e_sl e_u8) x.Key.K), .seq (eL e_GValue x.Key.L), .int .i64 x.Val.Kind, .int .i64 x.Val.N, .seq (eL e_u8 x.Val.S), .seq (eL (e_sl e_u8) x.Val.K), .seq (eL e_GValue x.Val.L)]
theorem eq_GEnv (x : GEnv) : e_GEnv x = [.int .i64 x.Locals.Kind, .int .i64 x.Locals.N, .seq (eL e_u8 x.Locals.S), .seq (eL (e_sl e_u8) x.Locals.K), .seq (eL e_GValue x.Locals.L), .int .i64 x.Res.Kind, .int .i64 x.Res.N, .seq (eL e_u8 x.Res.S), .seq (eL (e_sl e_u8) x.Res.K), .seq (eL e_GValue x.Res.L), .int .i64 x.Index.Kind, .int .i64 x.Index.N, .seq (eL e_u8 x.Index.S), .seq (eL (e_sl e_u8) x.Index.K), .seq (eL e_GValue x.Index.L), .int .i64 x.Key.Kind, .int .i64 x.Key.N, .seq (eL e_u8 x.Key.S), .seq (eL (e_sl e_u8) x.Key.K), .seq (eL e_GValue x.Key.L), .int .i64 x.Val.Kind, .int .i64 x.Val.N, .seq (eL e_u8 x.Val.S), .seq (eL (e_sl e_u8) x.Val.K), .seq (eL e_GValue x.Val.L)] := rfl
theorem E_GEnv : Enc 25 e_GEnv := ⟨fun x => by rw [eq_GEnv]; rfl, fun x => by rw [eq_GEnv]; rfl, fun x => by rw [eq_GEnv]; rfl⟩
/-- How much a text, texts, a value, values hold: as the law counts. -/
def bsz (k : List (List UInt8)) : Nat := k.length + (k.map List.length).sum
mutual
def vsz : GValue → Nat
  | .mk _ _ s k l => s.length + bsz k + vszs l
def vszs : List GValue → Nat
  | [] => 0
  | v :: l => 1 + vsz v + vszs l
end
theorem bsz_mem {k : List (List UInt8)} {b : List UInt8} (h : b ∈ k) : 1 + b.length ≤ bsz k := by
  unfold bsz
  induction k with
  | nil => cases h
  | cons x k ih =>
    simp only [List.length_cons, List.map_cons, List.sum_cons]
    rcases List.mem_cons.1 h with rfl | h
    · omega
    · have := ih h; omega
theorem bsz_len (k : List (List UInt8)) : k.length ≤ bsz k := by unfold bsz; omega
theorem bsz_cons (b : List UInt8) (k : List (List UInt8)) : bsz (b :: k) = 1 + b.length + bsz k := by unfold bsz; simp; omega
theorem vszs_mem {l : List GValue} {v : GValue} (h : v ∈ l) : 1 + vsz v ≤ vszs l := by
  induction l with
  | nil => cases h
  | cons x l ih =>
    simp only [vszs]
    rcases List.mem_cons.1 h with rfl | h
    · omega
    · have := ih h; omega
theorem vszs_len (l : List GValue) : l.length ≤ vszs l := by
  induction l with
  | nil => simp
  | cons x l ih => simp only [vszs, List.length_cons]; omega
theorem vsz_eq (v : GValue) : vsz v = v.S.length + bsz v.K + vszs v.L := by cases v; simp only [vsz, GValue.S, GValue.K, GValue.L]
mutual
def ptV : GValue → Nat
  | .mk _ _ _ _ l => 1 + ptVs l
def ptVs : List GValue → Nat
  | [] => 0
  | v :: l => ptV v + ptVs l
end
theorem ptV_eq (v : GValue) : ptV v = 1 + ptVs v.L := by cases v; simp only [ptV, GValue.L]
theorem ptVs_len (l : List GValue) : l.length ≤ ptVs l := by
  induction l with
  | nil => simp
  | cons v l ih => have := ptV_eq v; simp only [ptVs, List.length_cons]; omega
mutual
theorem ptV_le : ∀ v : GValue, ptV v ≤ 1 + vsz v
  | .mk _ _ _ _ l => by have := ptVs_le l; simp only [ptV, vsz]; omega
theorem ptVs_le : ∀ l : List GValue, ptVs l ≤ vszs l
  | [] => by simp [ptVs, vszs]
  | v :: l => by have := ptV_le v; have := ptVs_le l; simp only [ptVs, vszs]; omega
end
def textB (a : List UInt8) : Bool := decide (a.length ≤ 20) && a.all (inB 32 126)
def nameB (a : List UInt8) : Bool := decide (1 ≤ a.length ∧ a.length ≤ 8) && a.all (inB 97 122)
/-- A key that is a name, above the one ahead of it. -/
def kOk (k : List (List UInt8)) (j : Nat) : Bool := match k[j]? with
  | some b => nameB b && (decide (j = 0) || match k[j - 1]? with | some a => Op.bytesLess a b | none => false)
  | none => false
def kAll (k : List (List UInt8)) (i d : Nat) : Bool := (List.range' i d).all (kOk k)
theorem kAll_succ (k : List (List UInt8)) (i d : Nat) : kAll k i (d + 1) = (kOk k i && kAll k (i + 1) d) := by
  unfold kAll; rw [List.range'_succ, List.all_cons]
theorem kOk_eq {k : List (List UInt8)} {i : Nat} (h : i < k.length) (h0 : 0 < i) : kOk k i = (nameB k[i] && Op.bytesLess (k[i - 1]'(by omega)) k[i]) := by
  unfold kOk
  rw [get_some h]
  simp only
  rw [get_some (show i - 1 < k.length by omega)]
  simp [show i ≠ 0 by omega]
theorem kOk_zero {k : List (List UInt8)} (h : 0 < k.length) : kOk k 0 = nameB k[0] := by
  unfold kOk
  rw [get_some h]
  simp
theorem less_cmp (a b : List UInt8) : (0 ≤ Lib.compareBytes a b) = ¬ (Op.bytesLess a b = true) := by
  induction a generalizing b with
  | nil => cases b <;> simp [Lib.compareBytes, Op.bytesLess]
  | cons x a ih =>
    cases b with
    | nil => simp [Lib.compareBytes, Op.bytesLess]
    | cons y b =>
      simp only [Lib.compareBytes, Op.bytesLess]
      by_cases h1 : x < y
      · simp [h1]
      · by_cases h2 : y < x
        · have h3 : ¬ x = y := fun e => by subst e; exact h1 h2
          simp [h1, h2, h3]
        · have h3 : x = y := UInt8.le_antisymm (UInt8.not_lt.1 h2) (UInt8.not_lt.1 h1)
          subst h3
          simp [h1, ih]
/-- What a value's own part must be. -/
def locV (v : GValue) : Bool :=
  if v.Kind = 0 ∨ v.Kind = 6 then decide (v.N = 0 ∧ v.S.length = 0 ∧ v.K.length = 0 ∧ v.L.length = 0)
  else if v.Kind = 1 then decide ((0 ≤ v.N ∧ v.N ≤ 1) ∧ v.S.length = 0 ∧ v.K.length = 0 ∧ v.L.length = 0)
  else if v.Kind = 2 then decide ((-1000000000000 ≤ v.N ∧ v.N ≤ 1000000000000) ∧ v.S.length = 0 ∧ v.K.length = 0 ∧ v.L.length = 0)
  else if v.Kind = 3 then textB v.S && decide (v.N = 0 ∧ v.K.length = 0 ∧ v.L.length = 0)
  else if v.Kind = 4 then decide (v.N = 0 ∧ v.S.length = 0 ∧ v.K.length = 0 ∧ v.L.length ≤ 40)
  else if v.Kind = 5 then decide (v.K.length = v.L.length ∧ v.N = 0 ∧ v.S.length = 0 ∧ v.L.length ≤ 40) && kAll v.K 0 v.K.length
  else false
def shV : Nat → GValue → Bool
  | 0, _ => false
  | d + 1, v => locV v && v.L.all (shV d)

theorem fn_of {f : FuncId} {fn : Func} (h : Try.prog.funcs[f]? = some fn) (hu : usedT.contains f = true) (hb : fn.body.isSome = true) : cfg.funcs f = some (Am.bodyOf fn, fn.ntmps, fn.results.toList) := by
  rw [cfg_funcs]
  unfold fnsT fnsOf
  rw [hu, h]
  obtain ⟨c, hc⟩ := Option.isSome_iff_exists.1 hb
  simp only [Option.bind_some, Am.bodyOf, hc, Option.map_some, cond_true]
def S_internal_bytealg_Compare (a b : List UInt8) : Option Int := some (Lib.compareBytes a b)
theorem ok_internal_bytealg_Compare (a b : List UInt8) (r : Int) (h : S_internal_bytealg_Compare a b = some r) : (mach cfg).call 112 [] [.val false [.seq (eL e_u8 a)], .val false [.seq (eL e_u8 b)]] = some (.val false [.int .i64 r], []) := by
  obtain rfl := Option.some.inj h
  refine mach_X ?_
  show ((bytesOf (eL e_u8 a)).bind fun x => (bytesOf (eL e_u8 b)).map fun y => ((V.val false [C.int .i64 (Lib.compareBytes x y)], []) : V × List Entry)) = _
  rw [bytes_eL, bytes_eL]; rfl
end
end Go.Am.Try
