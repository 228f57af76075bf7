
/- The functions of the program in plain Lean, and that the machine answers as they do; conditions at each theorem. -/
import Derived.Test.YtjmhaigcaidloaaGreatDoorOS2
import Derived.Test.YtjmhaigcaidloaaGreatDoorMAmD
set_option linter.unusedVariables false
set_option linter.unusedSimpArgs false
namespace Go.Am.Try
open Go.Am Go.Proofs
set_option linter.unusedVariables false
noncomputable section
theorem raw_nil {α : Type} {f : α → List C} : ([] : List (List C)) = eL f [] := rfl
theorem raw_cons {α : Type} {f : α → List C} {x : α} {c : List C} {xs : List α} {cs : List (List C)} (h : f x = c) (t : cs = eL f xs) : c :: cs = eL f (x :: xs) := by subst h; subst t; rfl
inductive GValue where
  | mk (Kind : Int) (N : Int) (S : (List UInt8)) (K : (List (List UInt8))) (L : (List GValue))
def GValue.Kind : GValue → Int
  | .mk x _ _ _ _ => x
def GValue.N : GValue → Int
  | .mk _ x _ _ _ => x
def GValue.S : GValue → (List UInt8)
  | .mk _ _ x _ _ => x
def GValue.K : GValue → (List (List UInt8))
  | .mk _ _ _ x _ => x
def GValue.L : GValue → (List GValue)
  | .mk _ _ _ _ x => x
theorem GValue.eta (x : GValue) : GValue.mk x.Kind x.N x.S x.K x.L = x := by cases x; rfl
mutual
def e_GValue : GValue → List C
  | .mk Kind N S K L => [.int .i64 Kind, .int .i64 N, .seq (eL e_u8 S), .seq (eL (e_sl e_u8) K), .seq (e_GValues L)]
def e_GValues : List GValue → List (List C)
  | [] => []
  | v :: l => e_GValue v :: e_GValues l
end
theorem e_GValues_eq (l : List GValue) : e_GValues l = eL e_GValue l := by
  induction l with
  | nil => rfl
  | cons v l ih => simp only [e_GValues, ih]; rfl
def x_GValue (x : GValue) : List C := [.int .i64 x.Kind, .int .i64 x.N, .seq (eL e_u8 x.S), .seq (eL (e_sl e_u8) x.K), .seq (eL e_GValue x.L)]
theorem eq_GValue (x : GValue) : e_GValue x = x_GValue x := by
  cases x; simp only [e_GValue, x_GValue, e_GValues_eq, GValue.Kind, GValue.N, GValue.S, GValue.K, GValue.L]
mutual
def o_GValue : GValue → List C
  | .mk Kind N S K L => [.int .i64 Kind, .int .i64 N, .own 1 (eL e_u8 S), .own 1 (eL (o_sl 1 e_u8) K), .own 5 (o_GValues L)]
def o_GValues : List GValue → List (List C)
  | [] => []
  | v :: l => o_GValue v :: o_GValues l
end
theorem o_GValues_eq (l : List GValue) : o_GValues l = eL o_GValue l := by
  induction l with
  | nil => rfl
  | cons v l ih => simp only [o_GValues, ih]; rfl
def y_GValue (x : GValue) : List C := [.int .i64 x.Kind, .int .i64 x.N, .own 1 (eL e_u8 x.S), .own 1 (eL (o_sl 1 e_u8) x.K), .own 5 (eL o_GValue x.L)]
theorem oeq_GValue (x : GValue) : o_GValue x = y_GValue x := by
  cases x; simp only [o_GValue, y_GValue, o_GValues_eq, GValue.Kind, GValue.N, GValue.S, GValue.K, GValue.L]
mutual
theorem ov_GValue : ∀ x : GValue, viewE (o_GValue x) = e_GValue x
  | .mk Kind N S K L => by have h := ovs_GValue L; simp only [o_GValue, e_GValue, viewE, viewC, h, viewL_oL O_u8, viewL_oL (O_sl 1 O_u8)]
theorem ovs_GValue : ∀ l : List GValue, viewL (o_GValues l) = e_GValues l
  | [] => rfl
  | v :: l => by have h := ov_GValue v; have g := ovs_GValue l; simp only [o_GValues, e_GValues, viewL, h, g]
end
mutual
theorem oc_GValue : ∀ x : GValue, cleanE (o_GValue x) = true
  | .mk Kind N S K L => by have h := ocs_GValue L; simp only [o_GValue, cleanE, cleanC, h, clean_oL O_u8, clean_oL (O_sl 1 O_u8), Bool.and_self]
theorem ocs_GValue : ∀ l : List GValue, cleanL (o_GValues l) = true
  | [] => rfl
  | v :: l => by have h := oc_GValue v; have g := ocs_GValue l; simp only [o_GValues, cleanL, h, g, Bool.and_self]
end
theorem O_GValue : OEnc 5 o_GValue e_GValue := ⟨fun x => by rw [oeq_GValue]; rfl, ov_GValue, oc_GValue⟩
inductive GEntry where
  | mk (Addr : (List UInt8)) (Val : GValue) (Deps : (List (List UInt8))) (Taint : Bool) (Turned : Int)
def GEntry.Addr : GEntry → (List UInt8)
  | .mk x _ _ _ _ => x
def GEntry.Val : GEntry → GValue
  | .mk _ x _ _ _ => x
def GEntry.Deps : GEntry → (List (List UInt8))
  | .mk _ _ x _ _ => x
def GEntry.Taint : GEntry → Bool
  | .mk _ _ _ x _ => x
def GEntry.Turned : GEntry → Int
  | .mk _ _ _ _ x => x
theorem GEntry.eta (x : GEntry) : GEntry.mk x.Addr x.Val x.Deps x.Taint x.Turned = x := by cases x; rfl
def e_GEntry (x : GEntry) : List C := [.seq (eL e_u8 x.Addr), .int .i64 x.Val.Kind, .int .i64 x.Val.N, .seq (eL e_u8 x.Val.S), .seq (eL (e_sl e_u8) x.Val.K), .seq (eL e_GValue x.Val.L), .seq (eL (e_sl e_u8) x.Deps), .bool x.Taint, .int .i64 x.Turned]
def x_GEntry (x : GEntry) : List C := [.seq (eL e_u8 x.Addr), .int .i64 x.Val.Kind, .int .i64 x.Val.N, .seq (eL e_u8 x.Val.S), .seq (eL (e_sl e_u8) x.Val.K), .seq (eL e_GValue x.Val.L), .seq (eL (e_sl e_u8) x.Deps), .bool x.Taint, .int .i64 x.Turned]
theorem eq_GEntry (x : GEntry) : e_GEntry x = x_GEntry x := rfl
def o_GEntry (x : GEntry) : List C := [.own 1 (eL e_u8 x.Addr), .int .i64 x.Val.Kind, .int .i64 x.Val.N, .own 1 (eL e_u8 x.Val.S), .own 1 (eL (o_sl 1 e_u8) x.Val.K), .own 5 (eL o_GValue x.Val.L), .own 1 (eL (o_sl 1 e_u8) x.Deps), .bool x.Taint, .int .i64 x.Turned]
def y_GEntry (x : GEntry) : List C := [.own 1 (eL e_u8 x.Addr), .int .i64 x.Val.Kind, .int .i64 x.Val.N, .own 1 (eL e_u8 x.Val.S), .own 1 (eL (o_sl 1 e_u8) x.Val.K), .own 5 (eL o_GValue x.Val.L), .own 1 (eL (o_sl 1 e_u8) x.Deps), .bool x.Taint, .int .i64 x.Turned]
theorem oeq_GEntry (x : GEntry) : o_GEntry x = y_GEntry x := rfl
theorem O_GEntry : OEnc 9 o_GEntry e_GEntry := ⟨fun x => rfl, fun x => by simp only [o_GEntry, e_GEntry, viewE, viewC, viewL_oL O_u8, viewL_oL (O_sl 1 O_u8), viewL_oL O_GValue], fun x => by simp only [o_GEntry, cleanE, cleanC, clean_oL O_u8, clean_oL (O_sl 1 O_u8), clean_oL O_GValue, Bool.and_self]⟩
theorem E_GEntry : Enc 9 e_GEntry := ⟨fun x => by rw [eq_GEntry]; rfl, fun x => by rw [eq_GEntry]; rfl, fun x => by rw [eq_GEntry]; rfl⟩
inductive GState where
  | mk (Serial : Int) (Open : Bool) (Pending : (List UInt8)) (Act : Int) (Entries : (List GEntry))
def GState.Serial : GState → Int
  | .mk x _ _ _ _ => x
def GState.Open : GState → Bool
  | .mk _ x _ _ _ => x
def GState.Pending : GState → (List UInt8)
  | .mk _ _ x _ _ => x
def GState.Act : GState → Int
  | .mk _ _ _ x _ => x
def GState.Entries : GState → (List GEntry)
  | .mk _ _ _ _ x => x
theorem GState.eta (x : GState) : GState.mk x.Serial x.Open x.Pending x.Act x.Entries = x := by cases x; rfl
def e_GState (x : GState) : List C := [.int .i64 x.Serial, .bool x.Open, .seq (eL e_u8 x.Pending), .int .i64 x.Act, .seq (eL e_GEntry x.Entries)]
def x_GState (x : GState) : List C := [.int .i64 x.Serial, .bool x.Open, .seq (eL e_u8 x.Pending), .int .i64 x.Act, .seq (eL e_GEntry x.Entries)]
theorem eq_GState (x : GState) : e_GState x = x_GState x := rfl
def y_GState (x : GState) : List C := [.int .i64 x.Serial, .bool x.Open, .own 1 (eL e_u8 x.Pending), .int .i64 x.Act, .own 9 (eL o_GEntry x.Entries)]
theorem E_GState : Enc 5 e_GState := ⟨fun x => by rw [eq_GState]; rfl, fun x => by rw [eq_GState]; rfl, fun x => by rw [eq_GState]; rfl⟩
inductive GEvent where
  | mk (Kind : Int) (Addr : (List UInt8)) (Act : Int) (Val : GValue) (Deps : (List (List UInt8)))
def GEvent.Kind : GEvent → Int
  | .mk x _ _ _ _ => x
def GEvent.Addr : GEvent → (List UInt8)
  | .mk _ x _ _ _ => x
def GEvent.Act : GEvent → Int
  | .mk _ _ x _ _ => x
def GEvent.Val : GEvent → GValue
  | .mk _ _ _ x _ => x
def GEvent.Deps : GEvent → (List (List UInt8))
  | .mk _ _ _ _ x => x
theorem GEvent.eta (x : GEvent) : GEvent.mk x.Kind x.Addr x.Act x.Val x.Deps = x := by cases x; rfl
def e_GEvent (x : GEvent) : List C := [.int .i64 x.Kind, .seq (eL e_u8 x.Addr), .int .i64 x.Act, .int .i64 x.Val.Kind, .int .i64 x.Val.N, .seq (eL e_u8 x.Val.S), .seq (eL (e_sl e_u8) x.Val.K), .seq (eL e_GValue x.Val.L), .seq (eL (e_sl e_u8) x.Deps)]
def x_GEvent (x : GEvent) : List C := [.int .i64 x.Kind, .seq (eL e_u8 x.Addr), .int .i64 x.Act, .int .i64 x.Val.Kind, .int .i64 x.Val.N, .seq (eL e_u8 x.Val.S), .seq (eL (e_sl e_u8) x.Val.K), .seq (eL e_GValue x.Val.L), .seq (eL (e_sl e_u8) x.Deps)]
theorem eq_GEvent (x : GEvent) : e_GEvent x = x_GEvent x := rfl
def o_GEvent (x : GEvent) : List C := [.int .i64 x.Kind, .own 1 (eL e_u8 x.Addr), .int .i64 x.Act, .int .i64 x.Val.Kind, .int .i64 x.Val.N, .own 1 (eL e_u8 x.Val.S), .own 1 (eL (o_sl 1 e_u8) x.Val.K), .own 5 (eL o_GValue x.Val.L), .own 1 (eL (o_sl 1 e_u8) x.Deps)]
def y_GEvent (x : GEvent) : List C := [.int .i64 x.Kind, .own 1 (eL e_u8 x.Addr), .int .i64 x.Act, .int .i64 x.Val.Kind, .int .i64 x.Val.N, .own 1 (eL e_u8 x.Val.S), .own 1 (eL (o_sl 1 e_u8) x.Val.K), .own 5 (eL o_GValue x.Val.L), .own 1 (eL (o_sl 1 e_u8) x.Deps)]
theorem oeq_GEvent (x : GEvent) : o_GEvent x = y_GEvent x := rfl
theorem O_GEvent : OEnc 9 o_GEvent e_GEvent := ⟨fun x => rfl, fun x => by simp only [o_GEvent, e_GEvent, viewE, viewC, viewL_oL O_u8, viewL_oL (O_sl 1 O_u8), viewL_oL O_GValue], fun x => by simp only [o_GEvent, cleanE, cleanC, clean_oL O_u8, clean_oL (O_sl 1 O_u8), clean_oL O_GValue, Bool.and_self]⟩
inductive GHistory where
  | mk (Base : GState) (Events : (List GEvent)) (Safe : Int)
def GHistory.Base : GHistory → GState
  | .mk x _ _ => x
def GHistory.Events : GHistory → (List GEvent)
  | .mk _ x _ => x
def GHistory.Safe : GHistory → Int
  | .mk _ _ x => x
theorem GHistory.eta (x : GHistory) : GHistory.mk x.Base x.Events x.Safe = x := by cases x; rfl
def e_GHistory (x : GHistory) : List C := [.int .i64 x.Base.Serial, .bool x.Base.Open, .seq (eL e_u8 x.Base.Pending), .int .i64 x.Base.Act, .seq (eL e_GEntry x.Base.Entries), .seq (eL e_GEvent x.Events), .int .i64 x.Safe]
def x_GHistory (x : GHistory) : List C := [.int .i64 x.Base.Serial, .bool x.Base.Open, .seq (eL e_u8 x.Base.Pending), .int .i64 x.Base.Act, .seq (eL e_GEntry x.Base.Entries), .seq (eL e_GEvent x.Events), .int .i64 x.Safe]
theorem eq_GHistory (x : GHistory) : e_GHistory x = x_GHistory x := rfl
def y_GHistory (x : GHistory) : List C := [.int .i64 x.Base.Serial, .bool x.Base.Open, .own 1 (eL e_u8 x.Base.Pending), .int .i64 x.Base.Act, .own 9 (eL o_GEntry x.Base.Entries), .own 9 (eL o_GEvent x.Events), .int .i64 x.Safe]
def bsz (k : List (List UInt8)) : Nat := k.length + (k.map List.length).sum
mutual
def vsz : GValue → Nat
  | .mk _ _ s k l => s.length + bsz k + vszs l
def vszs : List GValue → Nat
  | [] => 0
  | v :: l => 1 + vsz v + vszs l
end
theorem bsz_mem {k : List (List UInt8)} {b : List UInt8} (h : b ∈ k) : 1 + b.length <= bsz k := by
  unfold bsz
  induction k with
  | nil => cases h
  | cons x k ih =>
    simp only [List.length_cons, List.map_cons, List.sum_cons]
    rcases List.mem_cons.1 h with rfl | h
    · omega
    · have := ih h; omega
theorem bsz_len (k : List (List UInt8)) : k.length <= bsz k := by unfold bsz; omega
theorem vszs_mem {l : List GValue} {v : GValue} (h : v ∈ l) : 1 + vsz v <= vszs l := by
  induction l with
  | nil => cases h
  | cons x l ih =>
    simp only [vszs]
    rcases List.mem_cons.1 h with rfl | h
    · omega
    · have := ih h; omega
theorem vszs_len (l : List GValue) : l.length <= vszs l := by
  induction l with
  | nil => simp
  | cons x l ih => simp only [vszs, List.length_cons]; omega
theorem vsz_eq (v : GValue) : vsz v = v.S.length + bsz v.K + vszs v.L := by cases v; simp only [vsz, GValue.S, GValue.K, GValue.L]
mutual
def ptV : GValue → Nat
  | .mk _ _ _ _ l => 1 + ptVs l
def ptVs : List GValue → Nat
  | [] => 0
  | v :: l => ptV v + ptVs l
end
theorem ptV_eq (v : GValue) : ptV v = 1 + ptVs v.L := by cases v; simp only [ptV, GValue.L]
theorem ptVs_len (l : List GValue) : l.length <= ptVs l := by
  induction l with
  | nil => simp
  | cons v l ih => have := ptV_eq v; simp only [ptVs, List.length_cons]; omega
mutual
theorem ptV_le : ∀ v : GValue, ptV v <= 1 + vsz v
  | .mk _ _ _ _ l => by have := ptVs_le l; simp only [ptV, vsz]; omega
theorem ptVs_le : ∀ l : List GValue, ptVs l <= vszs l
  | [] => by simp [ptVs, vszs]
  | v :: l => by have := ptV_le v; have := ptVs_le l; simp only [ptVs, vszs]; omega
end
def textB (a : List UInt8) : Bool := decide (a.length <= 20) && a.all (inB 32 126)
def nameB (a : List UInt8) : Bool := decide (1 <= a.length ∧ a.length <= 8) && a.all (inB 97 122)
def kOk (k : List (List UInt8)) (j : Nat) : Bool := match k[j]? with
  | some b => nameB b && (decide (j = 0) || match k[j - 1]? with | some a => Op.bytesLess a b | none => false)
  | none => false
def kAll (k : List (List UInt8)) (i d : Nat) : Bool := (List.range' i d).all (kOk k)
theorem kAll_succ (k : List (List UInt8)) (i d : Nat) : kAll k i (d + 1) = (kOk k i && kAll k (i + 1) d) := by
  unfold kAll; rw [List.range'_succ, List.all_cons]
theorem kOk_eq {k : List (List UInt8)} {i : Nat} (h : i < k.length) (h0 : 0 < i) : kOk k i = (nameB k[i] && Op.bytesLess (k[i - 1]'(by omega)) k[i]) := by
  unfold kOk
  rw [get_some h]
  simp only
  rw [get_some (show i - 1 < k.length by omega)]
  simp [show i ≠ 0 by omega]
theorem kOk_zero {k : List (List UInt8)} (h : 0 < k.length) : kOk k 0 = nameB k[0] := by
  unfold kOk
  rw [get_some h]
  simp
theorem less_cmp (a b : List UInt8) : (0 <= Lib.compareBytes a b) = ¬ (Op.bytesLess a b = true) := by
  induction a generalizing b with
  | nil => cases b <;> simp [Lib.compareBytes, Op.bytesLess]
  | cons x a ih =>
    cases b with
    | nil => simp [Lib.compareBytes, Op.bytesLess]
    | cons y b =>
      simp only [Lib.compareBytes, Op.bytesLess]
      by_cases h1 : x < y
      · simp [h1]
      · by_cases h2 : y < x
        · have h3 : ¬ x = y := fun e => by subst e; exact h1 h2
          simp [h1, h2, h3]
        · have h3 : x = y := UInt8.le_antisymm (UInt8.not_lt.1 h2) (UInt8.not_lt.1 h1)
          subst h3
          simp [h1, ih]
def locV (v : GValue) : Bool :=
  if v.Kind = 0 ∨ v.Kind = 6 then decide (v.N = 0 ∧ v.S.length = 0 ∧ v.K.length = 0 ∧ v.L.length = 0)
  else if v.Kind = 1 then decide ((0 <= v.N ∧ v.N <= 1) ∧ v.S.length = 0 ∧ v.K.length = 0 ∧ v.L.length = 0)
  else if v.Kind = 2 then decide ((-1000000000000 <= v.N ∧ v.N <= 1000000000000) ∧ v.S.length = 0 ∧ v.K.length = 0 ∧ v.L.length = 0)
  else if v.Kind = 3 then textB v.S && decide (v.N = 0 ∧ v.K.length = 0 ∧ v.L.length = 0)
  else if v.Kind = 4 then decide (v.N = 0 ∧ v.S.length = 0 ∧ v.K.length = 0 ∧ v.L.length <= 40)
  else if v.Kind = 5 then decide (v.K.length = v.L.length ∧ v.N = 0 ∧ v.S.length = 0 ∧ v.L.length <= 40) && kAll v.K 0 v.K.length
  else false
def shV : Nat → GValue → Bool
  | 0, _ => false
  | d + 1, v => locV v && v.L.all (shV d)
def leftV (s : Nat) (n : Int) : Int := if (s : Int) <= n then n - s else -1
/- calls -/
theorem less_irr (a : List UInt8) : Op.bytesLess a a = false := by
  induction a with
  | nil => rfl
  | cons x a ih => simp [Op.bytesLess, ih]
theorem less_trans : ∀ {a b c : List UInt8}, Op.bytesLess a b = true → Op.bytesLess b c = true → Op.bytesLess a c = true
  | [], [], _, h, _ => by simp [Op.bytesLess] at h
  | [], _ :: _, [], _, h => by simp [Op.bytesLess] at h
  | [], _ :: _, _ :: _, _, _ => rfl
  | _ :: _, [], _, h, _ => by simp [Op.bytesLess] at h
  | _ :: _, _ :: _, [], _, h => by simp [Op.bytesLess] at h
  | x :: a, y :: b, z :: c, h, g => by
    simp only [Op.bytesLess, Bool.or_eq_true, decide_eq_true_eq, Bool.and_eq_true, beq_iff_eq] at h g ⊢
    rcases h with h | ⟨rfl, h⟩
    · rcases g with g | ⟨rfl, g⟩
      · exact .inl (UInt8.lt_trans h g)
      · exact .inl h
    · rcases g with g | ⟨rfl, g⟩
      · exact .inl g
      · exact .inr ⟨rfl, less_trans h g⟩
theorem cmp_zero : ∀ (a b : List UInt8), Lib.compareBytes a b = 0 ↔ a = b
  | [], [] => by simp [Lib.compareBytes]
  | [], _ :: _ => by simp [Lib.compareBytes]
  | _ :: _, [] => by simp [Lib.compareBytes]
  | x :: a, y :: b => by
    have ih := cmp_zero a b
    simp only [Lib.compareBytes]
    by_cases h1 : x < y
    · rw [if_pos h1]
      have : x ≠ y := fun e => by subst e; exact absurd h1 (UInt8.lt_irrefl x)
      simp [this]
    · rw [if_neg h1]
      by_cases h2 : y < x
      · rw [if_pos h2]
        have : x ≠ y := fun e => by subst e; exact absurd h2 (UInt8.lt_irrefl x)
        simp [this]
      · have h3 : x = y := UInt8.le_antisymm (UInt8.not_lt.1 h2) (UInt8.not_lt.1 h1)
        subst h3
        rw [if_neg h2, ih]; simp
theorem cmp_neg (a b : List UInt8) : (Lib.compareBytes a b < 0) = (Op.bytesLess a b = true) := by
  have := less_cmp a b
  apply propext
  constructor
  · intro h
    refine Classical.byContradiction fun hn => ?_
    rw [<- this] at hn
    omega
  · intro h
    refine Classical.byContradiction fun hn => ?_
    have h0 : 0 <= Lib.compareBytes a b := by omega
    rw [this] at h0
    exact h0 h
def Part (a : List (List UInt8)) (x : List UInt8) (c : Nat) : Prop := c <= a.length ∧ ∀ k (h : k < a.length), k < c ↔ Op.bytesLess a[k] x = true
def Asc (a : List (List UInt8)) : Prop := ∀ i j (hj : j < a.length) (hij : i < j), Op.bytesLess (a[i]'(by omega)) a[j] = true
theorem Part.of {a : List (List UInt8)} (ha : Asc a) (x : List UInt8) : ∃ c, Part a x c := by
  have : ∀ n, n <= a.length → ∃ c, c <= n ∧ ∀ k (h : k < a.length), k < n → (k < c ↔ Op.bytesLess a[k] x = true) := by
    intro n
    induction n with
    | zero => exact fun _ => ⟨0, Nat.le_refl _, fun k h hk => by omega⟩
    | succ n ih =>
      intro hn
      obtain ⟨c, hc, h⟩ := ih (by omega)
      by_cases hl : Op.bytesLess (a[n]'(by omega)) x = true
      · have hcn : c = n := by
          refine Classical.byContradiction fun hne => ?_
          have h1 := h c (by omega) (by omega)
          have h2 := ha c n (by omega) (by omega)
          have := h1.2 (less_trans h2 hl)
          omega
        refine ⟨n + 1, Nat.le_refl _, fun k hk hkn => ?_⟩
        rcases Nat.lt_or_ge k n with hlt | hge
        · exact ⟨fun _ => (h k hk hlt).1 (by omega), fun _ => by omega⟩
        · obtain rfl : k = n := by omega
          exact ⟨fun _ => hl, fun _ => by omega⟩
      · refine ⟨c, by omega, fun k hk hkn => ?_⟩
        rcases Nat.lt_or_ge k n with hlt | hge
        · exact h k hk hlt
        · obtain rfl : k = n := by omega
          exact ⟨fun _ => by omega, fun h => (hl h).elim⟩
  obtain ⟨c, hc, h⟩ := this a.length (Nat.le_refl _)
  exact ⟨c, hc, fun k hk => h k hk hk⟩
theorem Part.mem {a : List (List UInt8)} (ha : Asc a) {x : List UInt8} {c : Nat} (h : Part a x c) : a[c]? = some x ↔ x ∈ a := by
  constructor
  · exact List.mem_of_getElem?
  · intro hx
    obtain ⟨k, hk, rfl⟩ := List.mem_iff_getElem.1 hx
    have h1 : ¬ k < c := fun hlt => by
      have := (h.2 k hk).1 hlt
      rw [less_irr] at this
      cases this
    have h2 : k = c := by
      refine Classical.byContradiction fun hne => ?_
      have hlt : c < k := by omega
      have := (h.2 c (by omega)).2 (ha c k hk hlt)
      omega
    subst h2
    exact get_some hk
theorem mid_eq {i j : Nat} (h : i + j < 2 ^ 62) : w64 (bitI .shr .u64 (IntKind.u64.wrap (w64 ((i : Int) + (j : Int)))) 1) = (((i + j) / 2 : Nat) : Int) := by
  rw [w64_id (x := (i : Int) + (j : Int)) (by omega) (by omega)]
  have h1 : IntKind.u64.wrap ((i : Int) + (j : Int)) = (i : Int) + (j : Int) := by unfold IntKind.wrap; simp [IntKind.bits, IntKind.signed]; omega
  rw [h1]
  have h2 : bitI .shr .u64 ((i : Int) + (j : Int)) 1 = (((i + j) / 2 : Nat) : Int) := by
    show Int.fdiv _ (2 ^ (min (1 : Int).toNat IntKind.u64.bits)) = _
    rw [show min (1 : Int).toNat IntKind.u64.bits = 1 from rfl, Int.fdiv_eq_ediv_of_nonneg _ (by decide)]
    omega
  rw [h2, w64_id (by omega) (by omega)]
def valB (v : GValue) : Bool := decide (shV 5 v = true ∧ (ptV v : Int) <= 40)
/- sorting -/
def Le (x y : List UInt8) : Prop := Op.bytesLess y x = false
theorem less_total : ∀ a b : List UInt8, Op.bytesLess a b = true ∨ a = b ∨ Op.bytesLess b a = true
  | [], [] => .inr (.inl rfl)
  | [], _ :: _ => .inl rfl
  | _ :: _, [] => .inr (.inr rfl)
  | x :: a, y :: b => by
    simp only [Op.bytesLess, Bool.or_eq_true, decide_eq_true_eq, Bool.and_eq_true, beq_iff_eq]
    by_cases h1 : x < y
    · exact .inl (.inl h1)
    by_cases h2 : y < x
    · exact .inr (.inr (.inl h2))
    · have h3 : x = y := UInt8.le_antisymm (UInt8.not_lt.1 h2) (UInt8.not_lt.1 h1)
      subst h3
      rcases less_total a b with h | h | h
      · exact .inl (.inr ⟨rfl, h⟩)
      · exact .inr (.inl (by rw [h]))
      · exact .inr (.inr (.inr ⟨rfl, h⟩))
theorem Le.refl (x : List UInt8) : Le x x := less_irr x
theorem Le.of_less {x y : List UInt8} (h : Op.bytesLess x y = true) : Le x y := by
  unfold Le
  cases h2 : Op.bytesLess y x with
  | false => rfl
  | true => have := less_trans h h2; rw [less_irr] at this; cases this
theorem Le.cases {x y : List UInt8} (h : Le x y) : x = y ∨ Op.bytesLess x y = true := by
  rcases less_total x y with g | g | g
  · exact .inr g
  · exact .inl g
  · unfold Le at h; rw [h] at g; cases g
theorem Le.trans {x y z : List UInt8} (h : Le x y) (g : Le y z) : Le x z := by
  rcases h.cases with rfl | h
  · exact g
  · rcases g.cases with rfl | g
    · exact Le.of_less h
    · exact Le.of_less (less_trans h g)
def gt (d : List (List UInt8)) (i : Nat) : List UInt8 := (d[i]?).getD []
structure Rg (a b : Nat) (d d' : List (List UInt8)) : Prop where
  len : d'.length = d.length
  perm : d'.Perm d
  out : ∀ i, (i < a ∨ b <= i) → gt d' i = gt d i
  all : ∀ Q : List UInt8 → Prop, (∀ i, a <= i → i < b → Q (gt d i)) → ∀ i, a <= i → i < b → Q (gt d' i)
theorem Rg.refl (a b : Nat) (d : List (List UInt8)) : Rg a b d d := ⟨rfl, .refl _, fun _ _ => rfl, fun _ h => h⟩
theorem Rg.trans {a b : Nat} {d d' d'' : List (List UInt8)} (h : Rg a b d d') (g : Rg a b d' d'') : Rg a b d d'' :=
  ⟨g.len.trans h.len, g.perm.trans h.perm, fun i hi => (g.out i hi).trans (h.out i hi), fun Q hq => g.all Q (h.all Q hq)⟩
theorem Rg.mono {a b a' b' : Nat} {d d' : List (List UInt8)} (h : Rg a b d d') (ha : a' <= a) (hb : b <= b') : Rg a' b' d d' :=
  ⟨h.len, h.perm, fun i hi => h.out i (by omega), fun Q hq i h1 h2 => by
    by_cases hin : a <= i ∧ i < b
    · exact h.all Q (fun k k1 k2 => hq k (by omega) (by omega)) i hin.1 hin.2
    · rw [h.out i (by omega)]; exact hq i h1 h2⟩
/- values as expressions -/
mutual
def knV : GValue → Bool
  | .mk k _ _ _ l => decide (k ≠ 6) && knVs l
def knVs : List GValue → Bool
  | [] => true
  | v :: l => knV v && knVs l
end
theorem knV_eq (v : GValue) : knV v = (decide (v.Kind ≠ 6) && knVs v.L) := by cases v; rw [knV]; rfl
/- expressions renamed -/
/- marks -/
theorem get_mid {α : Type} (p : List α) (x : α) (l : List α) : (p ++ x :: l)[p.length]? = some x := by simp
theorem w64_len {α : Type} (p : List α) (x : α) (h : p.length < 2 ^ 62) : w64 (((p.length : Nat) : Int) + 1) = (((p ++ [x]).length : Nat) : Int) := by rw [w64_succ h]; simp
theorem nlt_end {α : Type} (p : List α) : ¬ ((p.length : Nat) : Int) < (((p ++ []).length : Nat) : Int) := by simp
theorem room_ok {n m : Nat} (hn : n <= 2 ^ 7) (hm : m <= 2 ^ 40) : roomP n m := by
  have : m * n <= 2 ^ 40 * 2 ^ 7 := Nat.mul_le_mul hm hn
  unfold roomP
  exact ⟨by rw [show maxBytes = 2 ^ 47 from rfl]; omega, by omega⟩
def mB : Int → List UInt8 → List UInt8
  | _, [] => []
  | k, _ :: l => b8 k :: mB (k + 1) l
def cB (k : List (List UInt8)) : Nat := (k.map List.length).sum
def mBB : Int → List (List UInt8) → List (List UInt8)
  | _, [] => []
  | k, x :: l => mB k x :: mBB (k + x.length) l
theorem mB_len (l : List UInt8) (k : Int) : (mB k l).length = l.length := by
  induction l generalizing k with
  | nil => rfl
  | cons x l ih => simp only [mB, List.length_cons, ih]
theorem mB_idem (l : List UInt8) (k : Int) : mB k (mB k l) = mB k l := by
  induction l generalizing k with
  | nil => rfl
  | cons x l ih => simp only [mB, ih]
theorem mBB_idem (l : List (List UInt8)) (k : Int) : mBB k (mBB k l) = mBB k l := by
  induction l generalizing k with
  | nil => rfl
  | cons x l ih => simp only [mBB, mB_idem, mB_len, ih]
theorem cB_mBB (l : List (List UInt8)) (k : Int) : cB (mBB k l) = cB l := by
  induction l generalizing k with
  | nil => rfl
  | cons x l ih => unfold cB at ih ⊢; simp only [mBB, List.map_cons, List.sum_cons, mB_len, ih]
theorem bsz_cB (l : List (List UInt8)) : bsz l = l.length + cB l := rfl
theorem bsz_mBB (l : List (List UInt8)) (k : Int) : bsz (mBB k l) = bsz l := by
  rw [bsz_cB, bsz_cB, cB_mBB]
  congr 1
  induction l generalizing k with
  | nil => rfl
  | cons x l ih => simp only [mBB, List.length_cons, ih]
mutual
def cV : GValue → Nat
  | .mk _ _ s k l => 2 + (s.length + (cB k + cVs l))
def cVs : List GValue → Nat
  | [] => 0
  | v :: l => cV v + cVs l
end
mutual
def mV : Int → GValue → GValue
  | i, .mk _ _ s k l => .mk i (i + 1) (mB (i + 1 + 1) s) (mBB (i + 1 + 1 + s.length) k) (mVs (i + 1 + 1 + s.length + cB k) l)
def mVs : Int → List GValue → List GValue
  | _, [] => []
  | i, v :: l => mV i v :: mVs (i + cV v) l
end
mutual
theorem cV_m : ∀ (i : Int) (v : GValue), cV (mV i v) = cV v
  | i, .mk _ _ s k l => by simp only [mV, cV, mB_len, cB_mBB, cVs_m]
theorem cVs_m : ∀ (i : Int) (l : List GValue), cVs (mVs i l) = cVs l
  | _, [] => rfl
  | i, v :: l => by simp only [mVs, cVs, cV_m i v, cVs_m _ l]
end
mutual
theorem mV_idem : ∀ (i : Int) (v : GValue), mV i (mV i v) = mV i v
  | i, .mk _ _ s k l => by simp only [mV, mB_len, cB_mBB, mB_idem, mBB_idem, mVs_idem]
theorem mVs_idem : ∀ (i : Int) (l : List GValue), mVs i (mVs i l) = mVs i l
  | _, [] => rfl
  | i, v :: l => by simp only [mVs, cV_m, mV_idem i v, mVs_idem _ l]
end
mutual
theorem vsz_m : ∀ (i : Int) (v : GValue), vsz (mV i v) = vsz v
  | i, .mk _ _ s k l => by simp only [mV, vsz, mB_len, bsz_mBB, vszs_m]
theorem vszs_m : ∀ (i : Int) (l : List GValue), vszs (mVs i l) = vszs l
  | _, [] => rfl
  | i, v :: l => by simp only [mVs, vszs, vsz_m i v, vszs_m _ l]
end
mutual
theorem cV_le : ∀ v : GValue, cV v <= 2 + 2 * vsz v
  | .mk _ _ s k l => by have := cVs_le l; have := bsz_cB k; simp only [cV, vsz]; omega
theorem cVs_le : ∀ l : List GValue, cVs l <= 2 * vszs l
  | [] => by simp [cVs, vszs]
  | v :: l => by have := cV_le v; have := cVs_le l; simp only [cVs, vszs]; omega
end
/- addresses -/
theorem cut_to {α : Type} {l : List α} {i : Nat} (h : i <= l.length) : cutO l none (some i) = some (l.take i) := by
  unfold cutO bound; rw [if_pos ⟨by simp, by simpa using h⟩]; simp
theorem cut_from {α : Type} {l : List α} {i : Nat} (h : i <= l.length) : cutO l (some i) none = some (l.drop i) := by
  unfold cutO bound; rw [if_pos ⟨by simpa using h, by simp⟩]; simp
theorem cut_mid {α : Type} {l : List α} (h : 2 <= l.length) : cutO l (some 1) (some (l.length - 1)) = some ((l.drop 1).dropLast) := by
  unfold cutO bound
  rw [if_pos ⟨by simp; omega, by simp⟩]
  simp only [Option.getD_some, Option.map_some, List.dropLast_eq_take, List.length_drop, List.drop_take]
theorem last_get {α : Type} {l : List α} (h : 0 < l.length) : l[l.length - 1]? = l.getLast? := by rw [List.getLast?_eq_getElem?]
def itoaL (n : Nat) : List UInt8 := if n < 10 then [UInt8.ofNat (48 + n)] else [UInt8.ofNat (48 + n / 10), UInt8.ofNat (48 + n % 10)]
def digB (l : List UInt8) : Bool := decide (1 <= l.length ∧ l.length <= 2) && !(decide (l.length = 2) && decide (l[0]? = some 48)) && l.all (inB 48 57)
def insB (l : List UInt8) : Bool := if l[0]? = some 34 then (if (l.drop 1).getLast? = some 34 then nameB (l.drop 1).dropLast else false) else digB l
def nm91 (b : List UInt8) : List UInt8 := b.takeWhile fun x => decide (x ≠ 91)
def rs91 (b : List UInt8) : List UInt8 := b.dropWhile fun x => decide (x ≠ 91)
theorem nm_rs (b : List UInt8) : nm91 b ++ rs91 b = b := List.takeWhile_append_dropWhile
theorem nm_take (b : List UInt8) : b.take (nm91 b).length = nm91 b := by
  conv => lhs; arg 2; rw [<- nm_rs b]
  exact List.take_left
theorem nm_drop (b : List UInt8) : b.drop (nm91 b).length = rs91 b := by
  conv => lhs; arg 2; rw [<- nm_rs b]
  exact List.drop_left
theorem nm_len (b : List UInt8) : (nm91 b).length + (rs91 b).length = b.length := by
  rw [<- List.length_append, nm_rs]
theorem rs_head {b : List UInt8} (h : rs91 b ≠ []) : ∃ t, rs91 b = 91 :: t := by
  unfold rs91 at h ⊢
  induction b with
  | nil => exact (h rfl).elim
  | cons x b ih =>
    rw [List.dropWhile_cons] at h ⊢
    by_cases hx : x = 91
    · subst hx
      exact ⟨b, by rw [if_neg (by simp)]⟩
    · rw [if_pos (by simpa using hx)] at h ⊢
      exact ih h
def addrB (b : List UInt8) : Bool := nameB (nm91 b) && (if rs91 b = [] then true else if ((rs91 b).drop 1).getLast? = some 93 then insB ((rs91 b).drop 1).dropLast else false)
def gOk {α : Type} (p : α → Bool) (key : α → List UInt8) (l : List α) (j : Nat) : Bool := match l[j]? with
  | some b => p b && (decide (j = 0) || match l[j - 1]? with | some a => Op.bytesLess (key a) (key b) | none => false)
  | none => false
def gAll {α : Type} (p : α → Bool) (key : α → List UInt8) (l : List α) (i d : Nat) : Bool := (List.range' i d).all (gOk p key l)
theorem gAll_succ {α : Type} (p : α → Bool) (key : α → List UInt8) (l : List α) (i d : Nat) : gAll p key l i (d + 1) = (gOk p key l i && gAll p key l (i + 1) d) := by
  unfold gAll; rw [List.range'_succ, List.all_cons]
theorem gOk_eq {α : Type} {p : α → Bool} {key : α → List UInt8} {l : List α} {i : Nat} (h : i < l.length) (h0 : 0 < i) : gOk p key l i = (p l[i] && Op.bytesLess (key (l[i - 1]'(by omega))) (key l[i])) := by
  unfold gOk
  rw [get_some h]
  simp only
  rw [get_some (show i - 1 < l.length by omega)]
  simp [show i ≠ 0 by omega]
theorem gOk_zero {α : Type} {p : α → Bool} {key : α → List UInt8} {l : List α} (h : 0 < l.length) : gOk p key l 0 = p l[0] := by
  unfold gOk
  rw [get_some h]
  simp
theorem gAll_at {α : Type} {p : α → Bool} {key : α → List UInt8} {l : List α} (h : gAll p key l 0 l.length = true) {j : Nat} (hj : j < l.length) : gOk p key l j = true := by
  unfold gAll at h
  exact List.all_eq_true.1 h j (List.mem_range'_1.2 ⟨by omega, by omega⟩)
theorem gAll_asc {α : Type} {p : α → Bool} {key : α → List UInt8} {l : List α} (h : gAll p key l 0 l.length = true) : Asc (l.map key) := by
  intro i j
  induction j with
  | zero => intro _ h; omega
  | succ j ih =>
    intro hj hij
    rw [List.length_map] at hj
    have hk := gAll_at h hj
    rw [gOk_eq hj (by omega), Bool.and_eq_true] at hk
    have h1 := hk.2
    rw [List.getElem_map, List.getElem_map]
    rcases Nat.lt_or_ge i j with hlt | hge
    · have := ih (by rw [List.length_map]; omega) hlt
      rw [List.getElem_map, List.getElem_map] at this
      exact less_trans this h1
    · obtain rfl : i = j := by omega
      exact h1
def addrsB (l : List (List UInt8)) : Bool := decide (l.length <= 8) && gAll addrB id l 0 l.length
def kmapB (v : GValue) : Bool := decide (v.Kind = 5) && valB v && knV v
def esz (e : GEntry) : Nat := e.Addr.length + vsz e.Val + bsz e.Deps
def eszs : List GEntry → Nat
  | [] => 0
  | v :: l => 1 + esz v + eszs l
theorem eszs_mem {l : List GEntry} {v : GEntry} (h : v ∈ l) : 1 + esz v <= eszs l := by
  induction l with
  | nil => cases h
  | cons x l ih =>
    simp only [eszs]
    rcases List.mem_cons.1 h with rfl | h
    · omega
    · have := ih h; omega
theorem eszs_len (l : List GEntry) : l.length <= eszs l := by
  induction l with
  | nil => simp
  | cons x l ih => simp only [eszs, List.length_cons]; omega
def entB (ser : Int) (e : GEntry) : Bool := addrB e.Addr && kmapB e.Val && addrsB e.Deps && decide (1 <= e.Turned ∧ e.Turned <= ser)
def evsz (e : GEvent) : Nat := e.Addr.length + vsz e.Val + bsz e.Deps
def evszs : List GEvent → Nat
  | [] => 0
  | v :: l => 1 + evsz v + evszs l
theorem evszs_mem {l : List GEvent} {v : GEvent} (h : v ∈ l) : 1 + evsz v <= evszs l := by
  induction l with
  | nil => cases h
  | cons x l ih =>
    simp only [evszs]
    rcases List.mem_cons.1 h with rfl | h
    · omega
    · have := ih h; omega
theorem evszs_len (l : List GEvent) : l.length <= evszs l := by
  induction l with
  | nil => simp
  | cons x l ih => simp only [evszs, List.length_cons]; omega
def ssz (s : GState) : Nat := s.Pending.length + eszs s.Entries
def hasB (l : List GEntry) (a : List UInt8) : Bool := l.any fun e => decide (e.Addr = a)
def pendB (s : GState) : Bool := if s.Pending = [] then decide (s.Act = 0) else s.Open && addrB s.Pending && decide (1 <= s.Act ∧ s.Act <= 4) && (hasB s.Entries s.Pending == decide (s.Act ≠ 1))
def entsB (s : GState) : Bool := gAll (entB s.Serial) GEntry.Addr s.Entries 0 s.Entries.length
def stB (s : GState) : Bool := decide (0 <= s.Serial ∧ s.Serial <= 1000000 ∧ s.Entries.length <= 16) && entsB s && pendB s
theorem fn_of {f : FuncId} {fn : Func} (h : Tryz.prog.funcs[f]? = some fn) (hu : usedT.contains f = true := by kernel_rfl) (hb : fn.body.isSome = true := by kernel_rfl) : cfg.funcs f = some (Am.bodyOf fn, fn.ntmps, fn.results.toList) := by
  rw [cfg_funcs]
  unfold fnsT fnsOf
  rw [hu, h]
  obtain ⟨c, hc⟩ := Option.isSome_iff_exists.1 hb
  simp only [Option.bind_some, Am.bodyOf, hc, Option.map_some, cond_true]
abbrev Oc {α : Type} (o : Option α) (f : FuncId) (st : List Entry) (xs : List V) (enc : α → V × List Entry) : Prop := OkC cfg o f st xs enc
abbrev Ol {α : Type} (o : Option α) (f : FuncId) (b : Code) (s : S) (enc : α → Ex × S) : Prop := OkL cfg o f b s enc
def S_internal_bytealg_Compare (a b : List UInt8) : Option Int := some (Lib.compareBytes a b)
def S_internal_bytealg_IndexByte (a : List UInt8) (b : UInt8) : Option Int := some (Lib.indexByte a b)
def S_slices_Insert_Entry (a0 : Int) (e0 : List GEntry) : List GEntry → Option (List GEntry)
  | [x] => if 0 <= a0 ∧ a0 <= (e0.length : Int) ∧ e0.length <= 1048576 then some (insL e0 a0.toNat x) else none
  | _ => none
def S_slices_Delete_Entry (a0 a1 : Int) (e0 : List GEntry) : Option (List GEntry) := if 0 <= a0 ∧ a0 < (e0.length : Int) ∧ a1 = a0 + 1 ∧ e0.length <= 1048576 then some (delL e0 a0.toNat) else none
theorem eL_ins {α : Type} (e : α → List C) (l : List α) (i : Nat) (x : α) : insL (eL e l) i (e x) = eL e (insL l i x) := by simp [insL, eL]
theorem eL_del {α : Type} (e : α → List C) (l : List α) (i : Nat) : delL (eL e l) i = eL e (delL l i) := by simp [delL, eL]
def S_strconv_Atoi (a : List UInt8) : Option (Int × Bool) := if a.length <= 2 ^ 40 then some (atoiR a) else none
theorem ok_slices_Insert_Entry (a0 : Int) (e0 e1 : List GEntry) : Oc (S_slices_Insert_Entry a0 e0 e1) 140 [.obj 9 (eL o_GEntry e0), .obj 9 (eL o_GEntry e1)] [vr 0, vi a0, vr 1] fun r => (.val false [.own 9 (eL o_GEntry r)], [.dead, .dead]) := by
  intro r h
  match e1, h with
  | [x], h =>
    simp only [S_slices_Insert_Entry] at h
    split at h
    · rename_i hc
      obtain rfl := Option.some.inj h
      refine mach_X ?_
      show (if 0 <= a0 ∧ a0 <= ((eL o_GEntry e0).length : Int) ∧ (eL o_GEntry e0).length <= 1048576 then some ((V.val false [.own 9 (insL (eL o_GEntry e0) a0.toNat (o_GEntry x))], [.dead, .dead]) : V × List Entry) else none) = _
      rw [if_pos (by simpa [eL] using hc), eL_ins]
    · cases h
theorem ok_slices_Delete_Entry (a0 a1 : Int) (e0 : List GEntry) : Oc (S_slices_Delete_Entry a0 a1 e0) 141 [.obj 9 (eL o_GEntry e0)] [vr 0, vi a0, vi a1] fun r => (.val false [.own 9 (eL o_GEntry r)], [.dead]) := by
  intro r h
  simp only [S_slices_Delete_Entry] at h
  split at h
  · rename_i hc
    obtain rfl := Option.some.inj h
    refine mach_X ?_
    show (if 0 <= a0 ∧ a0 < ((eL o_GEntry e0).length : Int) ∧ a1 = a0 + 1 ∧ (eL o_GEntry e0).length <= 1048576 then some ((V.val false [.own 9 (delL (eL o_GEntry e0) a0.toNat)], [.dead]) : V × List Entry) else none) = _
    rw [if_pos (by simpa [eL] using hc), eL_del]
  · cases h
theorem ok_internal_bytealg_Compare (a b : List UInt8) : Oc (S_internal_bytealg_Compare a b) 166 [] [vq e_u8 a, vq e_u8 b] fun r => (vi r, []) := by
  intro r h
  obtain rfl := Option.some.inj h
  refine mach_X ?_
  show ((bytesOf (eL e_u8 a)).bind fun x => (bytesOf (eL e_u8 b)).map fun y => ((V.val false [C.int .i64 (Lib.compareBytes x y)], []) : V × List Entry)) = _
  rw [bytes_eL, bytes_eL]; rfl
theorem ok_strconv_Atoi (a : List UInt8) : Oc (S_strconv_Atoi a) 173 [] [vs a] fun r => (.tup [(false, [ci r.1]), (false, [eErr r.2])], []) := by
  intro r h
  unfold S_strconv_Atoi at h
  by_cases ha : a.length <= 2 ^ 40
  · rw [if_pos ha] at h
    obtain rfl := Option.some.inj h
    refine mach_X ?_
    show (if a.length <= 2 ^ 40 then some ((V.tup [(false, [.int .i64 (atoiR a).1]), (false, [eErr (atoiR a).2])], []) : V × List Entry) else none) = _
    rw [if_pos ha]
    rfl
  · rw [if_neg ha] at h; cases h
theorem ok_internal_bytealg_IndexByte (a : List UInt8) (b : UInt8) : Oc (S_internal_bytealg_IndexByte a b) 227 [] [vq e_u8 a, .val false [.int .u8 ((b.toNat : Nat) : Int)]] fun r => (vi r, []) := by
  intro r h
  obtain rfl := Option.some.inj h
  refine mach_X ?_
  show ((bytesOf (eL e_u8 a)).map fun x => ((V.val false [C.int .i64 (Lib.indexByte x ((b.toNat : Nat) : Int).toNat.toUInt8)], []) : V × List Entry)) = _
  rw [bytes_eL, Int.toNat_natCast, show b.toNat.toUInt8 = b from UInt8.ofNat_toNat]; rfl
end
end Go.Am.Try
