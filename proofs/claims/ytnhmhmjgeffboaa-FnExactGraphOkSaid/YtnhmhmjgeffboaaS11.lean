/- Equations of functions of the program, as the machine answers them; conditions at each theorem. -/
import Derived.Test.YtnhmhmjgeffboaaS10
namespace Go.Am.Try
open Go.Am Go.Proofs
set_option maxHeartbeats 2000000

/-- What isGraph asks of an edge. -/
def inI (a b c : Int) : Bool := decide (b ≤ a ∧ a ≤ c)
def cmpE (x y : Int × Int) : Int := if cmpI x.1 y.1 = 0 then cmpI x.2 y.2 else cmpI x.1 y.1
def okI (M : Int) (l : List (Int × Int)) (i : Nat) : Bool := match l[i]? with
  | some e => inI e.1 0 M && inI e.2 0 M && (decide (i = 0) || match l[i - 1]? with | some e0 => decide (cmpE e0 e < 0) | none => false)
  | none => true
/-- The call goes back with 'false'. -/
inductive Rets : Option (Ex × S) → Prop
  | mk (st : List Entry) : Rets (some (.ret, ⟨[(2, .val false [.bool false])], st, 0⟩))
variable {add : IntKind → Int → Int → Int}
variable {sub : IntKind → Int → Int → Int}
variable {mul : IntKind → Int → Int → Int}
variable {quo : IntKind → Int → Int → Int}
variable {rem : Int → Int → Int}
variable {neg : IntKind → Int → Int}
variable {conv : IntKind → Int → Int}
variable {nz : Int → Bool}
variable {eqI : Int → Int → Bool}
variable {ltI : Int → Int → Bool}
variable {leI : Int → Int → Bool}
variable {maxI : Int → Int → Int}
variable {minI : Int → Int → Int}
variable {eqB : Bool → Bool → Bool}
variable {notB : Bool → Bool}
variable {eqS : List UInt8 → List UInt8 → Bool}
variable {fits : List UInt8 → List UInt8 → Bool}
variable {catS : List UInt8 → List UInt8 → List UInt8}
variable {len : List (List C) → Int}
variable {lenS : List UInt8 → Int}
variable {nat : Int → Option Nat}
variable {idx : List (List C) → Nat → Option (List C)}
variable {idxS : List UInt8 → Nat → Option UInt8}
variable {byteI : UInt8 → Int}
variable {setL : List (List C) → Nat → List C → List (List C)}
variable {app : List (List C) → List (List C) → List (List C)}
variable {cut : List (List C) → Option Nat → Option Nat → Option (List (List C))}
variable {cutS : List UInt8 → Option Nat → Option Nat → Option (List UInt8)}
variable {rep : Nat → List C → List (List C)}
variable {view : List (List C) → List (List C)}
variable {pl : List (List C) → Bool}
variable {uni : Nat → List (List C) → Bool}
variable {room : Nat → List (List C) → List (List C) → Bool}
variable {made : Nat → Int → Option Nat}
variable {bytes : List (List C) → Option (List UInt8)}
variable {ofStr : List UInt8 → List (List C)}
variable {cln : List (List C) → Bool}
variable {call : Orc}
variable {loop : Lp}
variable (L : Lk cfg add sub mul quo rem neg conv nz eqI ltI leI maxI minI eqB notB eqS fits catS len lenS nat idx idxS byteI setL app cut cutS rep view pl uni room made bytes ofStr cln call loop)

include L
set_option maxRecDepth 20000 in
theorem l35 (b : Code) (hb : nthLoop Try.f35 0 = some b) (l : List (Int × Int)) (hl : l.length < 2 ^ 62) (N M : Int) (hM : sub .i64 N 1 = M) (X : List (List C)) (hX : X = encE l) (m : Int) (hm : m = l.length) (d : Nat) :
    ∀ (i : Nat) (z : Int), i + d = l.length → z = i →
      ((∀ j, i ≤ j → okI M l j = true) → loop 35 b ⟨[(1, .val false [.ptr 0 0]), (6, .val false [.seq X]), (7, .val false [.int .i64 m]), (8, .val false [.int .i64 z])], [.var [.int .i64 N, .seq X]], 0⟩ =
          some (.exit 0, ⟨[(1, .val false [.ptr 0 0]), (6, .val false [.seq X]), (7, .val false [.int .i64 m]), (8, .val false [.int .i64 m]), (9, .val false [.bool false])], [.var [.int .i64 N, .seq X]], 0⟩)) ∧
      ((∃ j, i ≤ j ∧ okI M l j = false) → Rets (loop 35 b ⟨[(1, .val false [.ptr 0 0]), (6, .val false [.seq X]), (7, .val false [.int .i64 m]), (8, .val false [.int .i64 z])], [.var [.int .i64 N, .seq X]], 0⟩)) := by
  cbv at hb
  injection hb with hb
  subst hb
  have hXl : X.length = l.length := by rw [hX, encE_len]
  induction d with
  | zero =>
    intro i z hi hz
    have hall : ∀ j, i ≤ j → okI M l j = true := fun j hj => by
      unfold okI; rw [List.getElem?_eq_none (by omega)]
    refine ⟨fun _ => ?_, fun ⟨j, h1, h2⟩ => (by rw [hall j h1] at h2; cases h2)⟩
    have e1 : ltI z m = false := by rw [L.hltI, hm, hz]; simp; omega
    have hz' : z = m := by rw [hz, hm]; congr 1
    subst hz'
    rw [L.hloop]
    cbv
    rw [e1]
    cbv
  | succ d ih =>
    intro i z hi hz
    have hil : i < l.length := by omega
    have e1 : ltI z m = true := by rw [L.hltI, hm, hz]; simp; omega
    have e2 : nat z = some i := by rw [L.hnat, hz]; simp
    obtain ⟨a, c, hac, e3⟩ : ∃ a c, l[i]? = some (a, c) ∧ idx X i = some [C.int .i64 a, C.int .i64 c] := ⟨l[i].1, l[i].2, by simp [hil], by rw [L.hidx, hX, encE_get]⟩
    have ka : call 38 [] [.val false [.int .i64 a], .val false [.int .i64 0], .val false [.int .i64 M]] = some (.val false [.bool (inI a 0 M)], []) := by rw [L.hcall, c38]; rfl
    have kc : call 38 [] [.val false [.int .i64 c], .val false [.int .i64 0], .val false [.int .i64 M]] = some (.val false [.bool (inI c 0 M)], []) := by rw [L.hcall, c38]; rfl
    have nT : notB true = false := by rw [L.hnotB]; rfl
    have nF : notB false = true := by rw [L.hnotB]; rfl
    cases ha : inI a 0 M with
    | false =>
      have hbad : okI M l i = false := by unfold okI; rw [hac]; simp [ha]
      refine ⟨fun hall => (by rw [hall i (Nat.le_refl _)] at hbad; cases hbad), fun _ => ?_⟩
      rw [ha] at ka
      rw [L.hloop]
      cbv
      rw [e1]
      cbv
      rw [e2]
      cbv
      rw [e3]
      cbv
      rw [hM]
      cbv
      rw [ka]
      cbv
      rw [nF]
      cbv
      exact Rets.mk _
    | true =>
      rw [ha] at ka
      cases hc : inI c 0 M with
      | false =>
        have hbad : okI M l i = false := by unfold okI; rw [hac]; simp [ha, hc]
        refine ⟨fun hall => (by rw [hall i (Nat.le_refl _)] at hbad; cases hbad), fun _ => ?_⟩
        rw [hc] at kc
        rw [L.hloop]
        cbv; rw [e1]; cbv; rw [e2]; cbv; rw [e3]; cbv; rw [hM]; cbv; rw [ka]; cbv; rw [nT]; cbv; rw [hM]; cbv; rw [kc]; cbv; rw [nF]; cbv
        exact Rets.mk _
      | true =>
        rw [hc] at kc
        have hz0 : z.toNat = i := by rw [hz]; simp
        have hz1 : 0 ≤ z := by rw [hz]; simp
        have e5 : add .i64 z 1 = z + 1 := by rw [L.hadd]; exact wrap_id (by omega) (by omega)
        have IH := ih (i + 1) (z + 1) (by omega) (by rw [hz]; simp)
        by_cases hi0 : i = 0
        · have g0 : ltI 0 z = false := by rw [L.hltI, hz, hi0]; rfl
          have hgood : okI M l i = true := by unfold okI; rw [hac]; simp [ha, hc, hi0]
          refine ⟨fun h => ?_, fun ⟨j, h1, h2⟩ => ?_⟩
          · have IH := IH.1 fun j hj => h j (by omega)
            generalize (some (Ex.exit 0, (⟨[(1, .val false [.ptr 0 0]), (6, .val false [.seq X]), (7, .val false [.int .i64 m]), (8, .val false [.int .i64 m]), (9, .val false [.bool false])], [.var [.int .i64 N, .seq X]], 0⟩ : S))) = r at IH ⊢
            rw [L.hloop]
            cbv; rw [e1]; cbv; rw [e2]; cbv; rw [e3]; cbv; rw [hM]; cbv; rw [ka]; cbv; rw [nT]; cbv; rw [hM]; cbv; rw [kc]; cbv; rw [nT]; cbv; rw [g0]; cbv; rw [e5]; cbv
            exact IH
          · have IH := IH.2 ⟨j, by
              by_cases hji : j = i
              · subst hji; rw [hgood] at h2; cases h2
              · omega, h2⟩
            rw [L.hloop]
            cbv; rw [e1]; cbv; rw [e2]; cbv; rw [e3]; cbv; rw [hM]; cbv; rw [ka]; cbv; rw [nT]; cbv; rw [hM]; cbv; rw [kc]; cbv; rw [nT]; cbv; rw [g0]; cbv; rw [e5]; cbv
            exact IH
        · have g0 : ltI 0 z = true := by rw [L.hltI, hz]; simp; omega
          have s1 : sub .i64 z 1 = z - 1 := by rw [L.hsub]; exact wrap_id (by omega) (by omega)
          obtain ⟨o, ho⟩ : ∃ o, i - 1 = o := ⟨_, rfl⟩
          have n1 : nat (z - 1) = some o := by rw [L.hnat, if_pos (by omega)]; congr 1; omega
          obtain ⟨⟨p, q⟩, hpq⟩ : ∃ e, l[i - 1]? = some e := ⟨l[i - 1]'(by omega), by simp [show i - 1 < l.length by omega]⟩
          have e4 : idx X o = some [C.int .i64 p, C.int .i64 q] := by rw [L.hidx, hX, ← ho]; simp [encE, hpq]
          have kk : call 71 [] [.val true [.int .i64 p, .int .i64 q], .val true [.int .i64 a, .int .i64 c]] = some (.val false [.int .i64 (cmpE (p, q) (a, c))], []) := by rw [L.hcall]; exact c71 p q a c
          have hok : okI M l i = decide (cmpE (p, q) (a, c) < 0) := by unfold okI; rw [hac]; simp [ha, hc, hi0, hpq]
          generalize cmpE (p, q) (a, c) = t at kk hok
          by_cases ht : t < 0
          · have g1 : leI 0 t = false := by rw [L.hleI]; simp; omega
            have hgood : okI M l i = true := by rw [hok]; simp [ht]
            refine ⟨fun h => ?_, fun ⟨j, h1, h2⟩ => ?_⟩
            · have IH := IH.1 fun j hj => h j (by omega)
              generalize (some (Ex.exit 0, (⟨[(1, .val false [.ptr 0 0]), (6, .val false [.seq X]), (7, .val false [.int .i64 m]), (8, .val false [.int .i64 m]), (9, .val false [.bool false])], [.var [.int .i64 N, .seq X]], 0⟩ : S))) = r at IH ⊢
              rw [L.hloop]
              cbv; rw [e1]; cbv; rw [e2]; cbv; rw [e3]; cbv; rw [hM]; cbv; rw [ka]; cbv; rw [nT]; cbv; rw [hM]; cbv; rw [kc]; cbv; rw [nT]; cbv; rw [g0]; cbv; rw [s1]; cbv; rw [n1]; cbv; rw [e4]; cbv; rw [kk]; cbv; rw [g1]; cbv; rw [e5]; cbv
              exact IH
            · have IH := IH.2 ⟨j, by
                by_cases hji : j = i
                · subst hji; rw [hgood] at h2; cases h2
                · omega, h2⟩
              rw [L.hloop]
              cbv; rw [e1]; cbv; rw [e2]; cbv; rw [e3]; cbv; rw [hM]; cbv; rw [ka]; cbv; rw [nT]; cbv; rw [hM]; cbv; rw [kc]; cbv; rw [nT]; cbv; rw [g0]; cbv; rw [s1]; cbv; rw [n1]; cbv; rw [e4]; cbv; rw [kk]; cbv; rw [g1]; cbv; rw [e5]; cbv
              exact IH
          · have g1 : leI 0 t = true := by rw [L.hleI]; simp; omega
            have hbad : okI M l i = false := by rw [hok]; simp [ht]
            refine ⟨fun hall => (by rw [hall i (Nat.le_refl _)] at hbad; cases hbad), fun _ => ?_⟩
            rw [L.hloop]
            cbv; rw [e1]; cbv; rw [e2]; cbv; rw [e3]; cbv; rw [hM]; cbv; rw [ka]; cbv; rw [nT]; cbv; rw [hM]; cbv; rw [kc]; cbv; rw [nT]; cbv; rw [g0]; cbv; rw [s1]; cbv; rw [n1]; cbv; rw [e4]; cbv; rw [kk]; cbv; rw [g1]; cbv
            exact Rets.mk _
end Go.Am.Try
