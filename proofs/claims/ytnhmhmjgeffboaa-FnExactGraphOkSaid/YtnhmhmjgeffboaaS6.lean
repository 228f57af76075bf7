/- Equations of functions of the program, as the machine answers them; conditions at each theorem. -/
import Derived.Test.YtnhmhmjgeffboaaS4
import Derived.Test.YtnhmhmjgeffboaaS5
namespace Go.Am.Try
open Go.Am Go.Proofs
set_option maxHeartbeats 1000000
theorem wrap_id {x : Int} (h1 : -9223372036854775808 ≤ x) (h2 : x < 9223372036854775808) : IntKind.i64.wrap x = x := by unfold IntKind.wrap; simp [IntKind.bits, IntKind.signed]; omega
variable {add : IntKind → Int → Int → Int}
variable {sub : IntKind → Int → Int → Int}
variable {mul : IntKind → Int → Int → Int}
variable {quo : IntKind → Int → Int → Int}
variable {rem : Int → Int → Int}
variable {neg : IntKind → Int → Int}
variable {conv : IntKind → Int → Int}
variable {nz : Int → Bool}
variable {eqI : Int → Int → Bool}
variable {ltI : Int → Int → Bool}
variable {leI : Int → Int → Bool}
variable {maxI : Int → Int → Int}
variable {minI : Int → Int → Int}
variable {eqB : Bool → Bool → Bool}
variable {notB : Bool → Bool}
variable {eqS : List UInt8 → List UInt8 → Bool}
variable {fits : List UInt8 → List UInt8 → Bool}
variable {catS : List UInt8 → List UInt8 → List UInt8}
variable {len : List (List C) → Int}
variable {lenS : List UInt8 → Int}
variable {nat : Int → Option Nat}
variable {idx : List (List C) → Nat → Option (List C)}
variable {idxS : List UInt8 → Nat → Option UInt8}
variable {byteI : UInt8 → Int}
variable {setL : List (List C) → Nat → List C → List (List C)}
variable {app : List (List C) → List (List C) → List (List C)}
variable {cut : List (List C) → Option Nat → Option Nat → Option (List (List C))}
variable {cutS : List UInt8 → Option Nat → Option Nat → Option (List UInt8)}
variable {rep : Nat → List C → List (List C)}
variable {view : List (List C) → List (List C)}
variable {pl : List (List C) → Bool}
variable {uni : Nat → List (List C) → Bool}
variable {room : Nat → List (List C) → List (List C) → Bool}
variable {made : Nat → Int → Option Nat}
variable {bytes : List (List C) → Option (List UInt8)}
variable {ofStr : List UInt8 → List (List C)}
variable {cln : List (List C) → Bool}
variable {call : Orc}
variable {loop : Lp}
variable (L : Lk cfg add sub mul quo rem neg conv nz eqI ltI leI maxI minI eqB notB eqS fits catS len lenS nat idx idxS byteI setL app cut cutS rep view pl uni room made bytes ofStr cln call loop)

include L
theorem l34 (b : Code) (hb : nthLoop Try.f34 0 = some b) (l : List (Int × Int)) (hl : l.length < 2 ^ 62) (X : List (List C)) (hX : X = encE l) (m : Int) (hm : m = l.length) (d : Nat) :
    ∀ (i : Nat) (z : Int) (Y : List (List C)), i + d = l.length → z = i → Y.length = l.length → (∀ e ∈ Y, e.length = 2) → (∀ j, j < i → Y[j]? = X[j]?) →
      loop 34 b ⟨[(0, .val false [.seq X]), (3, .val false [.ref 0]), (4, .val false [.int .i64 z])], [.obj 2 Y], 0⟩ =
        some (.exit 0, ⟨[(0, .val false [.seq X]), (3, .val false [.ref 0]), (4, .val false [.int .i64 m]), (11, .val false [.bool false])], [.obj 2 X], 0⟩) := by
  cbv at hb
  injection hb with hb
  subst hb
  have hXl : X.length = l.length := by rw [hX, encE_len]
  induction d with
  | zero =>
    intro i z Y hi hz hY hu hj
    have e1 : ltI z (len X) = false := by rw [L.hltI, L.hlen, hXl, hz]; simp; omega
    have hYX : Y = X := by
      refine List.ext_getElem? fun j => ?_
      rcases Nat.lt_or_ge j i with h | h
      · exact hj j h
      · rw [List.getElem?_eq_none (by omega), List.getElem?_eq_none (by omega)]
    subst hYX
    have hz' : z = m := by rw [hz, hm]; congr 1
    subst hz'
    rw [L.hloop]
    cbv
    rw [e1]
    cbv
  | succ d ih =>
    intro i z Y hi hz hY hu hj
    have hil : i < l.length := by omega
    have e1 : ltI z (len X) = true := by rw [L.hltI, L.hlen, hXl, hz]; simp; omega
    have e2 : nat z = some i := by rw [L.hnat, hz]; simp
    obtain ⟨a, c, e3⟩ : ∃ a c, idx X i = some [C.int .i64 a, C.int .i64 c] := ⟨l[i].1, l[i].2, by rw [L.hidx, hX, encE_get]⟩
    have k70 : call 70 [] [.val true [.int .i64 a, .int .i64 c]] = some (.val true [.int .i64 a, .int .i64 c], []) := by rw [L.hcall]; exact c70 a c
    obtain ⟨p, q, e4⟩ : ∃ p q, idx Y i = some [p, q] := by
      have h1 : i < Y.length := by omega
      have h2 := hu _ (List.getElem_mem h1)
      rw [L.hidx, List.getElem?_eq_getElem h1]
      generalize Y[i] = e at h2
      match e, h2 with
      | [p, q], _ => exact ⟨p, q, rfl⟩
    have hz0 : z.toNat = i := by rw [hz]; simp
    have hz1 : 0 ≤ z := by rw [hz]; simp
    have e5 : add .i64 z 1 = z + 1 := by rw [L.hadd]; exact wrap_id (by omega) (by omega)
    have hset : setL Y i [C.int .i64 a, C.int .i64 c] = Y.set i [C.int .i64 a, C.int .i64 c] := L.hsetL _ _ _
    rw [L.hidx] at e3
    have e3' : idx X i = some [C.int .i64 a, C.int .i64 c] := by rw [L.hidx]; exact e3
    have IH := ih (i + 1) (z + 1) (Y.set i [C.int .i64 a, C.int .i64 c]) (by omega) (by rw [hz]; simp) (by simp [hY]) (fun e he => by
      rcases List.mem_or_eq_of_mem_set he with he | rfl
      · exact hu e he
      · rfl) (fun j hjlt => by
      by_cases h : j = i
      · subst h; rw [List.getElem?_set_self (by omega), e3]
      · rw [List.getElem?_set_ne (by omega)]; exact hj j (by omega))
    rw [← hset] at IH
    rw [L.hloop]
    cbv
    rw [e1]
    cbv
    rw [e2]
    cbv
    rw [e3']
    cbv
    rw [k70]
    cbv
    rw [e2]
    cbv
    rw [e4]
    cbv
    rw [e4]
    cbv
    rw [e5]
    exact IH
end Go.Am.Try
