/- Equations of functions of the program, as the machine answers them; conditions at each theorem. -/
import Derived.Test.YtnhmhmjgeffboaaS8
import Derived.Test.YtnhmhmjgeffboaaS9
namespace Go.Am.Try
open Go.Am Go.Proofs
set_option maxHeartbeats 1000000

def cmpI (a b : Int) : Int := if a < b then -1 else if b < a then 1 else 0

theorem c71 (a b c d : Int) : (mach cfg).call 71 [] [.val true [.int .i64 a, .int .i64 b], .val true [.int .i64 c, .int .i64 d]] = some (.val false [.int .i64 (if cmpI a c = 0 then cmpI b d else cmpI a c)], []) := by
  refine call_intro rfl (fn_of Try.func71 rfl rfl) ?_
  intro add sub mul quo rem neg conv nz eqI ltI leI maxI minI eqB notB eqS fits catS len lenS nat idx idxS byteI setL app cut cutS rep view pl uni room made bytes ofStr cln call loop L
  have k98 : ∀ x y, call 98 [] [.val false [.int .i64 x], .val false [.int .i64 y]] = some (.val false [.int .i64 (cmpI x y)], []) := fun x y => by rw [L.hcall]; exact c98 x y
  have h1 := k98 a c
  have h2 := k98 b d
  have k97 : ∀ p q, call 97 [] [.val false [.seq [[.int .i64 p], [.int .i64 q]]]] = some (.val false [.int .i64 (if p = 0 then q else p)], []) := fun p q => by rw [L.hcall]; exact c97 p q
  generalize cmpI a c = p at *
  generalize cmpI b d = q at *
  have v : view [[.int .i64 p], [.int .i64 q]] = [[.int .i64 p], [.int .i64 q]] := by rw [L.hview]; rfl
  have k := k97 p q
  generalize (if p = 0 then q else p) = r at *
  cbv
  rw [h1]
  cbv
  rw [h2]
  cbv
  rw [v]
  cbv
  rw [k]
  cbv
end Go.Am.Try
