/- Equations of functions of the program, as the machine answers them; conditions at each theorem. -/
import Derived.Test.YtnhmhmjgeffboaaS3
namespace Go.Am.Try
open Go.Am Go.Proofs
set_option maxHeartbeats 1000000

/-- Edges as the machine has them. -/
def encE (l : List (Int × Int)) : List (List C) := l.map fun e => [C.int .i64 e.1, C.int .i64 e.2]

theorem encE_len (l : List (Int × Int)) : (encE l).length = l.length := by simp [encE]
theorem encE_get (l : List (Int × Int)) (i : Nat) (h : i < l.length) : (encE l)[i]? = some [C.int .i64 l[i].1, C.int .i64 l[i].2] := by simp [encE, h]

theorem c32 (X : List (List C)) (n : Int) (h1 : -2 ^ 63 ≤ n - X.length) (h2 : n < 2 ^ 63) : (mach cfg).call 32 [] [.val false [.seq X], .val false [.int .i64 n]] = some (.val false [.int .i64 (if n - X.length < 0 then -1 else n - X.length)], []) := by
  refine call_intro rfl (fn_of Try.func32 rfl rfl) ?_
  intro add sub mul quo rem neg conv nz eqI ltI leI maxI minI eqB notB eqS fits catS len lenS nat idx idxS byteI setL app cut cutS rep view pl uni room made bytes ofStr cln call loop L
  have hw : IntKind.i64.wrap (n - X.length) = n - X.length := by unfold IntKind.wrap; simp [IntKind.bits, IntKind.signed]; omega
  have e0 : sub .i64 n (len X) = n - X.length := by rw [L.hsub, L.hlen, hw]
  generalize n - (X.length : Int) = m at *
  by_cases h : m < 0
  · rw [if_pos h]
    have e1 : ltI m 0 = true := by rw [L.hltI]; simp [h]
    cbv; rw [e0]; cbv; rw [e1]; cbv
  · rw [if_neg h]
    have e1 : ltI m 0 = false := by rw [L.hltI]; simp [h]
    cbv; rw [e0]; cbv; rw [e1]; cbv

theorem c8 (a : Int) (X : List (List C)) (n : Int) (h1 : -2 ^ 63 ≤ n - X.length) (h2 : n < 2 ^ 63) : (mach cfg).call 8 [] [.val true [.int .i64 a, .seq X], .val false [.int .i64 n]] = some (.val false [.int .i64 (if n - X.length < 0 then -1 else n - X.length)], []) := by
  refine call_intro rfl (fn_of Try.func8 rfl rfl) ?_
  intro add sub mul quo rem neg conv nz eqI ltI leI maxI minI eqB notB eqS fits catS len lenS nat idx idxS byteI setL app cut cutS rep view pl uni room made bytes ofStr cln call loop L
  have k32 : call 32 [] [.val false [.seq X], .val false [.int .i64 n]] = some (.val false [.int .i64 (if n - X.length < 0 then -1 else n - X.length)], []) := by rw [L.hcall]; exact c32 X n h1 h2
  by_cases h : n - (X.length : Int) < 0
  · rw [if_pos h] at k32 ⊢
    have e1 : ltI (-1) 0 = true := by rw [L.hltI]; rfl
    cbv; rw [k32]; cbv; rw [e1]; cbv
  · rw [if_neg h] at k32 ⊢
    generalize n - (X.length : Int) = m at *
    have e1 : ltI m 0 = false := by rw [L.hltI]; simp [h]
    cbv; rw [k32]; cbv; rw [e1]; cbv
end Go.Am.Try
