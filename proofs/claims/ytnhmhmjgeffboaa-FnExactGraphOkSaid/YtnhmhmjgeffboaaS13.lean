/- Equations of functions of the program, as the machine answers them; conditions at each theorem. -/
import Derived.Test.YtnhmhmjgeffboaaS12
namespace Go.Am.Try
open Go.Am Go.Proofs
set_option maxHeartbeats 2000000
def less2 (a c : Int × Int) : Bool := decide (a.1 < c.1 ∨ (a.1 = c.1 ∧ a.2 < c.2))
def okS (N : Int) (l : List (Int × Int)) (i : Nat) : Bool := match l[i]? with
  | some e => decide (0 ≤ e.1) && decide (e.1 < N) && decide (0 ≤ e.2) && decide (e.2 < N) && (decide (i = 0) || match l[i - 1]? with | some e0 => less2 e0 e | none => false)
  | none => true
variable {add : IntKind → Int → Int → Int}
variable {sub : IntKind → Int → Int → Int}
variable {mul : IntKind → Int → Int → Int}
variable {quo : IntKind → Int → Int → Int}
variable {rem : Int → Int → Int}
variable {neg : IntKind → Int → Int}
variable {conv : IntKind → Int → Int}
variable {nz : Int → Bool}
variable {eqI : Int → Int → Bool}
variable {ltI : Int → Int → Bool}
variable {leI : Int → Int → Bool}
variable {maxI : Int → Int → Int}
variable {minI : Int → Int → Int}
variable {eqB : Bool → Bool → Bool}
variable {notB : Bool → Bool}
variable {eqS : List UInt8 → List UInt8 → Bool}
variable {fits : List UInt8 → List UInt8 → Bool}
variable {catS : List UInt8 → List UInt8 → List UInt8}
variable {len : List (List C) → Int}
variable {lenS : List UInt8 → Int}
variable {nat : Int → Option Nat}
variable {idx : List (List C) → Nat → Option (List C)}
variable {idxS : List UInt8 → Nat → Option UInt8}
variable {byteI : UInt8 → Int}
variable {setL : List (List C) → Nat → List C → List (List C)}
variable {app : List (List C) → List (List C) → List (List C)}
variable {cut : List (List C) → Option Nat → Option Nat → Option (List (List C))}
variable {cutS : List UInt8 → Option Nat → Option Nat → Option (List UInt8)}
variable {rep : Nat → List C → List (List C)}
variable {view : List (List C) → List (List C)}
variable {pl : List (List C) → Bool}
variable {uni : Nat → List (List C) → Bool}
variable {room : Nat → List (List C) → List (List C) → Bool}
variable {made : Nat → Int → Option Nat}
variable {bytes : List (List C) → Option (List UInt8)}
variable {ofStr : List UInt8 → List (List C)}
variable {cln : List (List C) → Bool}
variable {call : Orc}
variable {loop : Lp}
variable (L : Lk cfg add sub mul quo rem neg conv nz eqI ltI leI maxI minI eqB notB eqS fits catS len lenS nat idx idxS byteI setL app cut cutS rep view pl uni room made bytes ofStr cln call loop)

include L
set_option maxRecDepth 20000 in
theorem l9 (b : Code) (hb : nthLoop Try.f9 0 = some b) (l : List (Int × Int)) (hl : l.length < 2 ^ 62) (N : Int) (X : List (List C)) (hX : X = encE l) (m : Int) (hm : m = l.length) (d : Nat) :
    ∀ (i : Nat) (z : Int), i + d = l.length → z = i →
      ((∀ j, i ≤ j → okS N l j = true) → loop 9 b ⟨[(1, .val false [.ptr 0 0]), (3, .val false [.int .i64 z])], [.var [.int .i64 N, .seq X]], 0⟩ =
          some (.exit 0, ⟨[(1, .val false [.ptr 0 0]), (3, .val false [.int .i64 m]), (23, .val false [.bool false])], [.var [.int .i64 N, .seq X]], 0⟩)) ∧
      ((∃ j, i ≤ j ∧ okS N l j = false) → Rets (loop 9 b ⟨[(1, .val false [.ptr 0 0]), (3, .val false [.int .i64 z])], [.var [.int .i64 N, .seq X]], 0⟩)) := by
  cbv at hb
  injection hb with hb
  subst hb
  have hXl : X.length = l.length := by rw [hX, encE_len]
  have e0 : len X = m := by rw [L.hlen, hXl, hm]
  induction d with
  | zero =>
    intro i z hi hz
    have hall : ∀ j, i ≤ j → okS N l j = true := fun j hj => by
      unfold okS; rw [List.getElem?_eq_none (by omega)]
    refine ⟨fun _ => ?_, fun ⟨j, h1, h2⟩ => (by rw [hall j h1] at h2; cases h2)⟩
    have e1 : ltI z m = false := by rw [L.hltI, hm, hz]; simp; omega
    have hz' : z = m := by rw [hz, hm]; congr 1
    subst hz'
    rw [L.hloop]
    cbv; rw [e0]; cbv; rw [e1]; cbv
  | succ d ih =>
    intro i z hi hz
    have hil : i < l.length := by omega
    have e1 : ltI z m = true := by rw [L.hltI, hm, hz]; simp; omega
    have e2 : nat z = some i := by rw [L.hnat, hz]; simp
    obtain ⟨a, c, hac, e3⟩ : ∃ a c, l[i]? = some (a, c) ∧ idx X i = some [C.int .i64 a, C.int .i64 c] := ⟨l[i].1, l[i].2, by simp [hil], by rw [L.hidx, hX, encE_get]⟩
    have hok : okS N l i = (decide (0 ≤ a) && decide (a < N) && decide (0 ≤ c) && decide (c < N) && (decide (i = 0) || match l[i - 1]? with | some e0 => less2 e0 (a, c) | none => false)) := by unfold okS; rw [hac]
    have bad : okS N l i = false → ∀ {p : Prop} {q : Prop}, q → ((∀ j, i ≤ j → okS N l j = true) → p) ∧ ((∃ j, i ≤ j ∧ okS N l j = false) → q) := fun hb p q hq => ⟨fun hall => (by rw [hall i (Nat.le_refl _)] at hb; cases hb), fun _ => hq⟩
    have p1 : ltI a 0 = !decide (0 ≤ a) := by rw [L.hltI, ← decide_not]; simp
    have p2 : leI N a = !decide (a < N) := by rw [L.hleI, ← decide_not]; simp
    have p3 : ltI c 0 = !decide (0 ≤ c) := by rw [L.hltI, ← decide_not]; simp
    have p4 : leI N c = !decide (c < N) := by rw [L.hleI, ← decide_not]; simp
    cases h1 : decide (0 ≤ a) with
    | false =>
      rw [h1] at p1 hok
      refine bad (by rw [hok]; rfl) ?_
      rw [L.hloop]
      cbv; rw [e0]; cbv; rw [e1]; cbv; rw [e2]; cbv; rw [e3]; cbv; rw [p1]; cbv
      exact Rets.mk _
    | true =>
    cases h2 : decide (a < N) with
    | false =>
      rw [h1] at p1 hok; rw [h2] at p2 hok
      refine bad (by rw [hok]; rfl) ?_
      rw [L.hloop]
      cbv; rw [e0]; cbv; rw [e1]; cbv; rw [e2]; cbv; rw [e3]; cbv; rw [p1]; cbv; rw [p2]; cbv
      exact Rets.mk _
    | true =>
    cases h3 : decide (0 ≤ c) with
    | false =>
      rw [h1] at p1 hok; rw [h2] at p2 hok; rw [h3] at p3 hok
      refine bad (by rw [hok]; rfl) ?_
      rw [L.hloop]
      cbv; rw [e0]; cbv; rw [e1]; cbv; rw [e2]; cbv; rw [e3]; cbv; rw [p1]; cbv; rw [p2]; cbv; rw [p3]; cbv
      exact Rets.mk _
    | true =>
    cases h4 : decide (c < N) with
    | false =>
      rw [h1] at p1 hok; rw [h2] at p2 hok; rw [h3] at p3 hok; rw [h4] at p4 hok
      refine bad (by rw [hok]; rfl) ?_
      rw [L.hloop]
      cbv; rw [e0]; cbv; rw [e1]; cbv; rw [e2]; cbv; rw [e3]; cbv; rw [p1]; cbv; rw [p2]; cbv; rw [p3]; cbv; rw [p4]; cbv
      exact Rets.mk _
    | true =>
    rw [h1] at p1 hok; rw [h2] at p2 hok; rw [h3] at p3 hok; rw [h4] at p4 hok
    have hz0 : z.toNat = i := by rw [hz]; simp
    have hz1 : 0 ≤ z := by rw [hz]; simp
    have e5 : add .i64 z 1 = z + 1 := by rw [L.hadd]; exact wrap_id (by omega) (by omega)
    have IH := ih (i + 1) (z + 1) (by omega) (by rw [hz]; simp)
    have good : okS N l i = true → ((∀ j, i ≤ j → okS N l j = true) → (∀ j, i + 1 ≤ j → okS N l j = true)) ∧ ((∃ j, i ≤ j ∧ okS N l j = false) → ∃ j, i + 1 ≤ j ∧ okS N l j = false) := fun hg => ⟨fun h j hj => h j (by omega), fun ⟨j, h1, h2⟩ => ⟨j, by
      by_cases hji : j = i
      · subst hji; rw [hg] at h2; cases h2
      · omega, h2⟩⟩
    by_cases hi0 : i = 0
    · have g0 : ltI 0 z = false := by rw [L.hltI, hz, hi0]; rfl
      have hgood := good (by rw [hok]; simp [hi0])
      refine ⟨fun h => ?_, fun h => ?_⟩
      · have IH := IH.1 (hgood.1 h)
        generalize (some (Ex.exit 0, (⟨[(1, .val false [.ptr 0 0]), (3, .val false [.int .i64 m]), (23, .val false [.bool false])], [.var [.int .i64 N, .seq X]], 0⟩ : S))) = r at IH ⊢
        rw [L.hloop]
        cbv; rw [e0]; cbv; rw [e1]; cbv; rw [e2]; cbv; rw [e3]; cbv; rw [p1]; cbv; rw [p2]; cbv; rw [p3]; cbv; rw [p4]; cbv; rw [g0]; cbv; rw [e5]; cbv
        exact IH
      · have IH := IH.2 (hgood.2 h)
        rw [L.hloop]
        cbv; rw [e0]; cbv; rw [e1]; cbv; rw [e2]; cbv; rw [e3]; cbv; rw [p1]; cbv; rw [p2]; cbv; rw [p3]; cbv; rw [p4]; cbv; rw [g0]; cbv; rw [e5]; cbv
        exact IH
    · have g0 : ltI 0 z = true := by rw [L.hltI, hz]; simp; omega
      have s1 : sub .i64 z 1 = z - 1 := by rw [L.hsub]; exact wrap_id (by omega) (by omega)
      obtain ⟨o, ho⟩ : ∃ o, i - 1 = o := ⟨_, rfl⟩
      have n1 : nat (z - 1) = some o := by rw [L.hnat, if_pos (by omega)]; congr 1; omega
      obtain ⟨⟨p, q⟩, hpq⟩ : ∃ e, l[i - 1]? = some e := ⟨l[i - 1]'(by omega), by simp [show i - 1 < l.length by omega]⟩
      have e4 : idx X o = some [C.int .i64 p, C.int .i64 q] := by rw [L.hidx, hX, ← ho]; simp [encE, hpq]
      have kk : call 33 [] [.val true [.int .i64 p, .int .i64 q], .val true [.int .i64 a, .int .i64 c]] = some (.val false [.bool (less2 (p, q) (a, c))], []) := by rw [L.hcall]; exact c33 p q a c
      rw [hpq] at hok
      have hok : okS N l i = less2 (p, q) (a, c) := by rw [hok]; simp [hi0]
      have nT : notB true = false := by rw [L.hnotB]; rfl
      have nF : notB false = true := by rw [L.hnotB]; rfl
      cases ht : less2 (p, q) (a, c) with
      | true =>
        rw [ht] at kk hok
        have hgood := good hok
        refine ⟨fun h => ?_, fun h => ?_⟩
        · have IH := IH.1 (hgood.1 h)
          generalize (some (Ex.exit 0, (⟨[(1, .val false [.ptr 0 0]), (3, .val false [.int .i64 m]), (23, .val false [.bool false])], [.var [.int .i64 N, .seq X]], 0⟩ : S))) = r at IH ⊢
          rw [L.hloop]
          cbv; rw [e0]; cbv; rw [e1]; cbv; rw [e2]; cbv; rw [e3]; cbv; rw [p1]; cbv; rw [p2]; cbv; rw [p3]; cbv; rw [p4]; cbv; rw [g0]; cbv; rw [s1]; cbv; rw [n1]; cbv; rw [e4]; cbv; rw [kk]; cbv; rw [nT]; cbv; rw [e5]; cbv
          exact IH
        · have IH := IH.2 (hgood.2 h)
          rw [L.hloop]
          cbv; rw [e0]; cbv; rw [e1]; cbv; rw [e2]; cbv; rw [e3]; cbv; rw [p1]; cbv; rw [p2]; cbv; rw [p3]; cbv; rw [p4]; cbv; rw [g0]; cbv; rw [s1]; cbv; rw [n1]; cbv; rw [e4]; cbv; rw [kk]; cbv; rw [nT]; cbv; rw [e5]; cbv
          exact IH
      | false =>
        rw [ht] at kk hok
        refine bad hok ?_
        rw [L.hloop]
        cbv; rw [e0]; cbv; rw [e1]; cbv; rw [e2]; cbv; rw [e3]; cbv; rw [p1]; cbv; rw [p2]; cbv; rw [p3]; cbv; rw [p4]; cbv; rw [g0]; cbv; rw [s1]; cbv; rw [n1]; cbv; rw [e4]; cbv; rw [kk]; cbv; rw [nF]; cbv
        exact Rets.mk _
omit L
open Classical in
theorem c9 (N : Int) (l : List (Int × Int)) (hl : l.length < 2 ^ 62) (B : Bool) (hB : B = decide (0 ≤ N ∧ N ≤ 20 ∧ l.length ≤ 400 ∧ ∀ j, okS N l j = true)) :
    (mach cfg).call 9 [] [.val true [.int .i64 N, .seq (encE l)]] = some (.val false [.bool B], []) := by
  refine call_intro rfl (fn_of Try.func9 rfl rfl) ?_
  intro add sub mul quo rem neg conv nz eqI ltI leI maxI minI eqB notB eqS fits catS len lenS nat idx idxS byteI setL app cut cutS rep view pl uni room made bytes ofStr cln call loop L
  generalize hX : encE l = X
  obtain ⟨m, hm⟩ : ∃ m : Int, m = l.length := ⟨_, rfl⟩
  have hXl : X.length = l.length := by rw [← hX, encE_len]
  have e0 : len X = m := by rw [L.hlen, hXl, hm]
  have LO := fun (b : Code) (hb : nthLoop Try.f9 0 = some b) => l9 L b hb l hl N X hX.symm m hm l.length 0 0 (by omega) rfl
  have p1 : ltI N 0 = !decide (0 ≤ N) := by rw [L.hltI, ← decide_not]; simp
  have p2 : ltI 20 N = !decide (N ≤ 20) := by rw [L.hltI, ← decide_not]; simp
  have p3 : ltI 400 m = !decide (l.length ≤ 400) := by rw [L.hltI, ← decide_not, hm]; simp; omega
  by_cases h1 : 0 ≤ N
  · by_cases h2 : N ≤ 20
    · by_cases h3 : l.length ≤ 400
      · simp only [h1, h2, h3, decide_true, Bool.not_true] at p1 p2 p3
        by_cases hall : ∀ j, okS N l j = true
        · have LO := fun b hb => (LO b hb).1 fun j _ => hall j
          have hB' : B = true := by rw [hB]; simp only [decide_eq_true_eq]; exact ⟨h1, h2, h3, hall⟩
          rw [hB']
          cbv; rw [p1]; cbv; rw [p2]; cbv; rw [e0]; cbv; rw [p3]; cbv
          rw [LO _ (by cbv)]
          cbv
        · obtain ⟨j, hj⟩ : ∃ j, okS N l j = false := by
            obtain ⟨j, hj⟩ := Classical.not_forall.1 hall
            exact ⟨j, by simpa using hj⟩
          have hB' : B = false := by rw [hB]; simp only [decide_eq_false_iff_not]; exact fun h => hall h.2.2.2
          rw [hB']
          have LO := fun b hb => ((LO b hb).2 ⟨j, Nat.zero_le _, hj⟩).eq
          cbv; rw [p1]; cbv; rw [p2]; cbv; rw [e0]; cbv; rw [p3]; cbv
          obtain ⟨st, h⟩ := LO _ (by cbv)
          rw [h]
          cbv
      · have hB' : B = false := by rw [hB]; simp only [decide_eq_false_iff_not]; exact fun h => h3 h.2.2.1
        rw [hB']
        simp only [h1, h2, h3, decide_true, decide_false, Bool.not_true, Bool.not_false] at p1 p2 p3
        cbv; rw [p1]; cbv; rw [p2]; cbv; rw [e0]; cbv; rw [p3]; cbv
    · have hB' : B = false := by rw [hB]; simp only [decide_eq_false_iff_not]; exact fun h => h2 h.2.1
      rw [hB']
      simp only [h1, h2, decide_true, decide_false, Bool.not_true, Bool.not_false] at p1 p2
      cbv; rw [p1]; cbv; rw [p2]; cbv
  · have hB' : B = false := by rw [hB]; simp only [decide_eq_false_iff_not]; exact fun h => h1 h.1
    rw [hB']
    simp only [h1, decide_false, Bool.not_false] at p1
    cbv; rw [p1]; cbv
end Go.Am.Try
