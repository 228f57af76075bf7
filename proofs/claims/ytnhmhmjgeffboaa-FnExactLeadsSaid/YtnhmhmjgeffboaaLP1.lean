/- The functions of the program in plain Lean, and that the machine answers as they do; conditions at each theorem. -/
import Derived.Test.YtnhmhmjgeffboaaLS2
import Derived.Test.YtnhmhmjgeffboaaLAmC
set_option linter.unusedVariables false
set_option linter.unusedSimpArgs false
namespace Go.Am.Try
open Go.Am Go.Proofs
set_option linter.unusedVariables false
noncomputable section
inductive GEdge where
  | mk (From : Int) (To : Int)
def GEdge.From : GEdge → Int
  | .mk x _ => x
def GEdge.To : GEdge → Int
  | .mk _ x => x
theorem GEdge.eta (x : GEdge) : GEdge.mk x.From x.To = x := by cases x; rfl
def e_GEdge (x : GEdge) : List C := [.int .i64 x.From, .int .i64 x.To]
theorem eq_GEdge (x : GEdge) : e_GEdge x = [.int .i64 x.From, .int .i64 x.To] := rfl
theorem E_GEdge : Enc 2 e_GEdge := ⟨fun x => by rw [eq_GEdge]; rfl, fun x => by rw [eq_GEdge]; rfl, fun x => by rw [eq_GEdge]; rfl⟩
inductive GGraph where
  | mk (N : Int) (Edges : (List GEdge))
def GGraph.N : GGraph → Int
  | .mk x _ => x
def GGraph.Edges : GGraph → (List GEdge)
  | .mk _ x => x
theorem GGraph.eta (x : GGraph) : GGraph.mk x.N x.Edges = x := by cases x; rfl
def e_GGraph (x : GGraph) : List C := [.int .i64 x.N, .seq (eL e_GEdge x.Edges)]
theorem eq_GGraph (x : GGraph) : e_GGraph x = [.int .i64 x.N, .seq (eL e_GEdge x.Edges)] := rfl
theorem E_GGraph : Enc 2 e_GGraph := ⟨fun x => by rw [eq_GGraph]; rfl, fun x => by rw [eq_GGraph]; rfl, fun x => by rw [eq_GGraph]; rfl⟩
/-- How much a text, texts, a value, values hold: as the law counts. -/
def bsz (k : List (List UInt8)) : Nat := k.length + (k.map List.length).sum
theorem bsz_mem {k : List (List UInt8)} {b : List UInt8} (h : b ∈ k) : 1 + b.length ≤ bsz k := by
  unfold bsz
  induction k with
  | nil => cases h
  | cons x k ih =>
    simp only [List.length_cons, List.map_cons, List.sum_cons]
    rcases List.mem_cons.1 h with rfl | h
    · omega
    · have := ih h; omega
theorem bsz_len (k : List (List UInt8)) : k.length ≤ bsz k := by unfold bsz; omega
theorem bsz_cons (b : List UInt8) (k : List (List UInt8)) : bsz (b :: k) = 1 + b.length + bsz k := by unfold bsz; simp; omega
def textB (a : List UInt8) : Bool := decide (a.length ≤ 20) && a.all (inB 32 126)
def nameB (a : List UInt8) : Bool := decide (1 ≤ a.length ∧ a.length ≤ 8) && a.all (inB 97 122)
/-- A key that is a name, above the one ahead of it. -/
def kOk (k : List (List UInt8)) (j : Nat) : Bool := match k[j]? with
  | some b => nameB b && (decide (j = 0) || match k[j - 1]? with | some a => Op.bytesLess a b | none => false)
  | none => false
def kAll (k : List (List UInt8)) (i d : Nat) : Bool := (List.range' i d).all (kOk k)
theorem kAll_succ (k : List (List UInt8)) (i d : Nat) : kAll k i (d + 1) = (kOk k i && kAll k (i + 1) d) := by
  unfold kAll; rw [List.range'_succ, List.all_cons]
theorem kOk_eq {k : List (List UInt8)} {i : Nat} (h : i < k.length) (h0 : 0 < i) : kOk k i = (nameB k[i] && Op.bytesLess (k[i - 1]'(by omega)) k[i]) := by
  unfold kOk
  rw [get_some h]
  simp only
  rw [get_some (show i - 1 < k.length by omega)]
  simp [show i ≠ 0 by omega]
theorem kOk_zero {k : List (List UInt8)} (h : 0 < k.length) : kOk k 0 = nameB k[0] := by
  unfold kOk
  rw [get_some h]
  simp
theorem less_cmp (a b : List UInt8) : (0 ≤ Lib.compareBytes a b) = ¬ (Op.bytesLess a b = true) := by
  induction a generalizing b with
  | nil => cases b <;> simp [Lib.compareBytes, Op.bytesLess]
  | cons x a ih =>
    cases b with
    | nil => simp [Lib.compareBytes, Op.bytesLess]
    | cons y b =>
      simp only [Lib.compareBytes, Op.bytesLess]
      by_cases h1 : x < y
      · simp [h1]
      · by_cases h2 : y < x
        · have h3 : ¬ x = y := fun e => by subst e; exact h1 h2
          simp [h1, h2, h3]
        · have h3 : x = y := UInt8.le_antisymm (UInt8.not_lt.1 h2) (UInt8.not_lt.1 h1)
          subst h3
          simp [h1, ih]
def leftV (s : Nat) (n : Int) : Int := if (s : Int) ≤ n then n - s else -1
def eLess (a b : GEdge) : Bool := decide (a.From < b.From ∨ (a.From = b.From ∧ a.To < b.To))
def eIn (K : Int) (e : GEdge) : Bool := decide (0 ≤ e.From ∧ e.From ≤ K ∧ 0 ≤ e.To ∧ e.To ≤ K)
/-- An edge whose ends are there, above the one ahead of it. -/
def eOk (K : Int) (E : List GEdge) (i : Nat) : Bool := match E[i]? with
  | some e => eIn K e && (decide (i = 0) || match E[i - 1]? with | some p => eLess p e | none => false)
  | none => false
def eAll (K : Int) (E : List GEdge) (i d : Nat) : Bool := (List.range' i d).all (eOk K E)
theorem eAll_succ (K : Int) (E : List GEdge) (i d : Nat) : eAll K E i (d + 1) = (eOk K E i && eAll K E (i + 1) d) := by
  unfold eAll; rw [List.range'_succ, List.all_cons]
theorem eOk_eq {K : Int} {E : List GEdge} {i : Nat} (h : i < E.length) (h0 : 0 < i) : eOk K E i = (eIn K E[i] && eLess (E[i - 1]'(by omega)) E[i]) := by
  unfold eOk
  rw [get_some h]
  simp only
  rw [get_some (show i - 1 < E.length by omega)]
  simp [show i ≠ 0 by omega]
theorem eOk_zero {K : Int} {E : List GEdge} (h : 0 < E.length) : eOk K E 0 = eIn K E[0] := by
  unfold eOk
  rw [get_some h]
  simp
def gok (g : GGraph) : Bool := decide (0 ≤ g.N ∧ g.N ≤ 20 ∧ g.Edges.length ≤ 400) && eAll (g.N - 1) g.Edges 0 g.Edges.length
def Es (E : List GEdge) (v w : Int) : Prop := ∃ e ∈ E, e.From = v ∧ e.To = w
/-- A way of one edge or more. -/
inductive Way (E : List GEdge) : Int → Int → Prop
  | one {v w} (h : Es E v w) : Way E v w
  | more {v u w} (h : Way E v u) (g : Es E u w) : Way E v w
/-- Edges between so many. -/
def GB (N : Int) (E : List GEdge) : Prop := ∀ e ∈ E, 0 ≤ e.From ∧ e.From < N ∧ 0 ≤ e.To ∧ e.To < N
theorem gok_GB {g : GGraph} (h : gok g = true) : 0 ≤ g.N ∧ g.N ≤ 20 ∧ g.Edges.length ≤ 400 ∧ GB g.N g.Edges := by
  unfold gok at h
  rw [Bool.and_eq_true, decide_eq_true_eq] at h
  obtain ⟨⟨h1, h2, h3⟩, h4⟩ := h
  refine ⟨h1, h2, h3, fun e he => ?_⟩
  obtain ⟨i, hi, rfl⟩ := List.mem_iff_getElem.1 he
  unfold eAll at h4
  have := List.all_eq_true.1 h4 i (List.mem_range'_1.2 ⟨by omega, by omega⟩)
  unfold eOk at this
  rw [get_some hi] at this
  simp only [Bool.and_eq_true] at this
  have := this.1
  unfold eIn at this
  have := of_decide_eq_true this
  omega
theorem Way.bound {N : Int} {E : List GEdge} (hE : GB N E) {v w : Int} (h : Way E v w) : 0 ≤ w ∧ w < N := by
  cases h with
  | one h => obtain ⟨e, he, _, rfl⟩ := h; have := hE e he; omega
  | more _ h => obtain ⟨e, he, _, rfl⟩ := h; have := hE e he; omega
/-- How many of the first ones. -/
def cnt (p : Nat → Bool) : Nat → Nat
  | 0 => 0
  | k + 1 => cnt p k + (if p k = true then 1 else 0)
theorem cnt_le (p : Nat → Bool) (k : Nat) : cnt p k ≤ k := by
  induction k with
  | zero => simp [cnt]
  | succ k ih => simp only [cnt]; split <;> omega
theorem cnt_mono {p q : Nat → Bool} {k : Nat} (h : ∀ j, j < k → p j = true → q j = true) : cnt p k ≤ cnt q k := by
  induction k with
  | zero => simp [cnt]
  | succ k ih =>
    have := ih fun j hj => h j (by omega)
    have hk := h k (by omega)
    simp only [cnt]
    by_cases hp : p k = true
    · rw [if_pos hp, if_pos (hk hp)]; omega
    · rw [if_neg hp]; omega
theorem cnt_lt {p q : Nat → Bool} {k j : Nat} (h : ∀ j, j < k → p j = true → q j = true) (hj : j < k) (hp : p j = false) (hq : q j = true) : cnt p k < cnt q k := by
  induction k with
  | zero => omega
  | succ k ih =>
    have hm := cnt_mono (p := p) (q := q) (k := k) fun j hj => h j (by omega)
    have hk := h k (by omega)
    simp only [cnt]
    rcases Nat.lt_or_ge j k with hlt | hge
    · have := ih (fun j hj => h j (by omega)) hlt
      by_cases hp : p k = true
      · rw [if_pos hp, if_pos (hk hp)]; omega
      · rw [if_neg hp]; omega
    · obtain rfl : j = k := by omega
      rw [if_neg (by rw [hp]; simp), if_pos hq]; omega
theorem cnt_all {p : Nat → Bool} {k : Nat} (h : k ≤ cnt p k) : ∀ j, j < k → p j = true := by
  induction k with
  | zero => intro j hj; omega
  | succ k ih =>
    have hc := cnt_le p k
    simp only [cnt] at h
    intro j hj
    split at h
    · rename_i hp
      rcases Nat.lt_or_ge j k with hlt | hge
      · exact ih (by omega) j hlt
      · obtain rfl : j = k := by omega
        exact hp
    · omega
theorem cnt_upd {p : Nat → Bool} {k i : Nat} (hi : i < k) (hp : p i = false) : cnt (updA p i true) k = cnt p k + 1 := by
  induction k with
  | zero => omega
  | succ k ih =>
    simp only [cnt]
    rcases Nat.lt_or_ge i k with hlt | hge
    · rw [ih hlt]
      have : updA p i true k = p k := by unfold updA; rw [if_neg (by omega)]
      rw [this]; omega
    · obtain rfl : i = k := by omega
      have h1 : updA p i true i = true := by unfold updA; simp
      have h2 : ∀ m, m ≤ i → cnt (updA p i true) m = cnt p m := by
        intro m
        induction m with
        | zero => intro _; rfl
        | succ m ih =>
          intro hm
          simp only [cnt]
          rw [ih (by omega)]
          have : updA p i true m = p m := by unfold updA; rw [if_neg (by omega)]
          rw [this]
      rw [h2 i (Nat.le_refl _), h1, hp]; simp
/-- So many truths in a row. -/
def mkL (k : Nat) (p : Nat → Bool) : List Bool := (List.range k).map p
theorem mkL_get {k i : Nat} {p : Nat → Bool} (h : i < k) : (mkL k p)[i]? = some (p i) := by
  unfold mkL; rw [List.getElem?_map, List.getElem?_range h]; rfl
theorem mkL_set {k i : Nat} {p : Nat → Bool} {x : Bool} : (mkL k p).set i x = mkL k (updA p i x) := by
  refine List.ext_getElem? fun j => ?_
  unfold mkL updA
  rw [List.getElem?_set, List.getElem?_map, List.getElem?_map]
  by_cases hj : j < k
  · rw [List.getElem?_range hj]
    by_cases e : i = j
    · subst e; simp [hj]
    · rw [if_neg e]; simp; intro h; exact (e h.symm).elim
  · have h1 : (List.range k)[j]? = none := List.getElem?_eq_none (by simp; omega)
    rw [h1]
    by_cases e : i = j
    · subst e; simp [hj]
    · rw [if_neg e]; rfl
theorem mkL_rep (k : Nat) : List.replicate k false = mkL k fun _ => false := by
  unfold mkL
  refine List.ext_getElem? fun j => ?_
  rw [List.getElem?_map, List.getElem?_replicate]
  by_cases hj : j < k
  · rw [if_pos hj, List.getElem?_range hj]; rfl
  · rw [if_neg hj, List.getElem?_eq_none (by simp; omega)]; rfl
theorem natO_pos {z : Int} (h : 0 ≤ z) : natO z = some z.toNat := by unfold natO; rw [if_pos h]

theorem fn_of {f : FuncId} {fn : Func} (h : Try.prog.funcs[f]? = some fn) (hu : usedT.contains f = true) (hb : fn.body.isSome = true) : cfg.funcs f = some (Am.bodyOf fn, fn.ntmps, fn.results.toList) := by
  rw [cfg_funcs]
  unfold fnsT fnsOf
  rw [hu, h]
  obtain ⟨c, hc⟩ := Option.isSome_iff_exists.1 hb
  simp only [Option.bind_some, Am.bodyOf, hc, Option.map_some, cond_true]
def S_internal_bytealg_Compare (a b : List UInt8) : Option Int := some (Lib.compareBytes a b)
theorem ok_internal_bytealg_Compare (a b : List UInt8) (r : Int) (h : S_internal_bytealg_Compare a b = some r) : (mach cfg).call 112 [] [.val false [.seq (eL e_u8 a)], .val false [.seq (eL e_u8 b)]] = some (.val false [.int .i64 r], []) := by
  obtain rfl := Option.some.inj h
  refine mach_X ?_
  show ((bytesOf (eL e_u8 a)).bind fun x => (bytesOf (eL e_u8 b)).map fun y => ((V.val false [C.int .i64 (Lib.compareBytes x y)], []) : V × List Entry)) = _
  rw [bytes_eL, bytes_eL]; rfl
end
end Go.Am.Try
