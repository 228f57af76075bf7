/- Equations of functions of the program, as the machine answers them; conditions at each theorem. -/
import Derived.Test.YtnhmhmjgeffboaaS7
namespace Go.Am.Try
open Go.Am Go.Proofs
set_option maxHeartbeats 1000000
variable {add : IntKind → Int → Int → Int}
variable {sub : IntKind → Int → Int → Int}
variable {mul : IntKind → Int → Int → Int}
variable {quo : IntKind → Int → Int → Int}
variable {rem : Int → Int → Int}
variable {neg : IntKind → Int → Int}
variable {conv : IntKind → Int → Int}
variable {nz : Int → Bool}
variable {eqI : Int → Int → Bool}
variable {ltI : Int → Int → Bool}
variable {leI : Int → Int → Bool}
variable {maxI : Int → Int → Int}
variable {minI : Int → Int → Int}
variable {eqB : Bool → Bool → Bool}
variable {notB : Bool → Bool}
variable {eqS : List UInt8 → List UInt8 → Bool}
variable {fits : List UInt8 → List UInt8 → Bool}
variable {catS : List UInt8 → List UInt8 → List UInt8}
variable {len : List (List C) → Int}
variable {lenS : List UInt8 → Int}
variable {nat : Int → Option Nat}
variable {idx : List (List C) → Nat → Option (List C)}
variable {idxS : List UInt8 → Nat → Option UInt8}
variable {byteI : UInt8 → Int}
variable {setL : List (List C) → Nat → List C → List (List C)}
variable {app : List (List C) → List (List C) → List (List C)}
variable {cut : List (List C) → Option Nat → Option Nat → Option (List (List C))}
variable {cutS : List UInt8 → Option Nat → Option Nat → Option (List UInt8)}
variable {rep : Nat → List C → List (List C)}
variable {view : List (List C) → List (List C)}
variable {pl : List (List C) → Bool}
variable {uni : Nat → List (List C) → Bool}
variable {room : Nat → List (List C) → List (List C) → Bool}
variable {made : Nat → Int → Option Nat}
variable {bytes : List (List C) → Option (List UInt8)}
variable {ofStr : List UInt8 → List (List C)}
variable {cln : List (List C) → Bool}
variable {call : Orc}
variable {loop : Lp}
variable (L : Lk cfg add sub mul quo rem neg conv nz eqI ltI leI maxI minI eqB notB eqS fits catS len lenS nat idx idxS byteI setL app cut cutS rep view pl uni room made bytes ofStr cln call loop)

include L
theorem l36 (b : Code) (hb : nthLoop Try.f36 0 = some b) (l : List (Int × Int)) (hl : l.length < 2 ^ 62) (X : List (List C)) (hX : X = encE l) (m : Int) (hm : m = l.length) (d : Nat) :
    ∀ (i : Nat) (z : Int), i + d = l.length → z = i →
      loop 36 b ⟨[(0, .val false [.seq X]), (1, .val false [.seq X]), (5, .val false [.int .i64 z])], [], 0⟩ =
        some (.exit 0, ⟨[(0, .val false [.seq X]), (1, .val false [.seq X]), (5, .val false [.int .i64 m]), (14, .val false [.bool false])], [], 0⟩) := by
  cbv at hb
  injection hb with hb
  subst hb
  have hXl : X.length = l.length := by rw [hX, encE_len]
  induction d with
  | zero =>
    intro i z hi hz
    have e1 : ltI z (len X) = false := by rw [L.hltI, L.hlen, hXl, hz]; simp; omega
    have hz' : z = m := by rw [hz, hm]; congr 1
    subst hz'
    rw [L.hloop]
    cbv
    rw [e1]
    cbv
  | succ d ih =>
    intro i z hi hz
    have hil : i < l.length := by omega
    have e1 : ltI z (len X) = true := by rw [L.hltI, L.hlen, hXl, hz]; simp; omega
    have e2 : nat z = some i := by rw [L.hnat, hz]; simp
    obtain ⟨a, c, e3⟩ : ∃ a c, idx X i = some [C.int .i64 a, C.int .i64 c] := ⟨l[i].1, l[i].2, by rw [L.hidx, hX, encE_get]⟩
    have k72 : call 72 [] [.val true [.int .i64 a, .int .i64 c], .val true [.int .i64 a, .int .i64 c]] = some (.val false [.bool true], []) := by rw [L.hcall, c72]; simp
    have hz0 : z.toNat = i := by rw [hz]; simp
    have hz1 : 0 ≤ z := by rw [hz]; simp
    have e5 : add .i64 z 1 = z + 1 := by rw [L.hadd]; exact wrap_id (by omega) (by omega)
    have e6 : notB true = false := by rw [L.hnotB]; rfl
    have IH := ih (i + 1) (z + 1) (by omega) (by rw [hz]; simp)
    rw [L.hloop]
    cbv
    rw [e1]
    cbv
    rw [e2]
    cbv
    rw [e3]
    cbv
    rw [e2]
    cbv
    rw [e3]
    cbv
    rw [k72]
    cbv
    rw [e6]
    cbv
    rw [e5]
    exact IH
omit L
theorem c36 (l : List (Int × Int)) (hl : l.length < 2 ^ 62) : (mach cfg).call 36 [] [.val false [.seq (encE l)], .val false [.seq (encE l)]] = some (.val false [.bool true], []) := by
  refine call_intro rfl (fn_of Try.func36 rfl rfl) ?_
  intro add sub mul quo rem neg conv nz eqI ltI leI maxI minI eqB notB eqS fits catS len lenS nat idx idxS byteI setL app cut cutS rep view pl uni room made bytes ofStr cln call loop L
  generalize hX : encE l = X
  obtain ⟨m, hm⟩ : ∃ m : Int, m = l.length := ⟨_, rfl⟩
  have LO := fun (b : Code) (hb : nthLoop Try.f36 0 = some b) => l36 L b hb l hl X hX.symm m hm l.length 0 0 (by omega) rfl
  have e0 : notB (eqI (len X) (len X)) = false := by rw [L.hnotB, L.heqI]; simp
  cbv
  rw [e0]
  cbv
  rw [LO _ (by cbv)]
  cbv

theorem c12 (N : Int) (l : List (Int × Int)) (hl : l.length < 2 ^ 62) : (mach cfg).call 12 [] [.val true [.int .i64 N, .seq (encE l)], .val true [.int .i64 N, .seq (encE l)]] = some (.val false [.bool true], []) := by
  refine call_intro rfl (fn_of Try.func12 rfl rfl) ?_
  intro add sub mul quo rem neg conv nz eqI ltI leI maxI minI eqB notB eqS fits catS len lenS nat idx idxS byteI setL app cut cutS rep view pl uni room made bytes ofStr cln call loop L
  have k36 : call 36 [] [.val false [.seq (encE l)], .val false [.seq (encE l)]] = some (.val false [.bool true], []) := by rw [L.hcall]; exact c36 l hl
  generalize encE l = X at *
  have e0 : notB (eqI N N) = false := by rw [L.hnotB, L.heqI]; simp
  have e6 : notB true = false := by rw [L.hnotB]; rfl
  cbv
  rw [e0]
  cbv
  rw [k36]
  cbv
  rw [e6]
  cbv
end Go.Am.Try
