/- Equations of functions of the program, as the machine answers them; conditions at each theorem. -/
import Derived.Test.YtnhmhmjgeffboaaS2
import Derived.Test.YtnhmhmjgeffboaaAmA
namespace Go.Am.Try
open Go.Am Go.Proofs
variable {add : IntKind → Int → Int → Int}
variable {sub : IntKind → Int → Int → Int}
variable {mul : IntKind → Int → Int → Int}
variable {quo : IntKind → Int → Int → Int}
variable {rem : Int → Int → Int}
variable {neg : IntKind → Int → Int}
variable {conv : IntKind → Int → Int}
variable {nz : Int → Bool}
variable {eqI : Int → Int → Bool}
variable {ltI : Int → Int → Bool}
variable {leI : Int → Int → Bool}
variable {maxI : Int → Int → Int}
variable {minI : Int → Int → Int}
variable {eqB : Bool → Bool → Bool}
variable {notB : Bool → Bool}
variable {eqS : List UInt8 → List UInt8 → Bool}
variable {fits : List UInt8 → List UInt8 → Bool}
variable {catS : List UInt8 → List UInt8 → List UInt8}
variable {len : List (List C) → Int}
variable {lenS : List UInt8 → Int}
variable {nat : Int → Option Nat}
variable {idx : List (List C) → Nat → Option (List C)}
variable {idxS : List UInt8 → Nat → Option UInt8}
variable {byteI : UInt8 → Int}
variable {setL : List (List C) → Nat → List C → List (List C)}
variable {app : List (List C) → List (List C) → List (List C)}
variable {cut : List (List C) → Option Nat → Option Nat → Option (List (List C))}
variable {cutS : List UInt8 → Option Nat → Option Nat → Option (List UInt8)}
variable {rep : Nat → List C → List (List C)}
variable {view : List (List C) → List (List C)}
variable {pl : List (List C) → Bool}
variable {uni : Nat → List (List C) → Bool}
variable {room : Nat → List (List C) → List (List C) → Bool}
variable {made : Nat → Int → Option Nat}
variable {bytes : List (List C) → Option (List UInt8)}
variable {ofStr : List UInt8 → List (List C)}
variable {cln : List (List C) → Bool}
variable {call : Orc}
variable {loop : Lp}
variable (L : Lk cfg add sub mul quo rem neg conv nz eqI ltI leI maxI minI eqB notB eqS fits catS len lenS nat idx idxS byteI setL app cut cutS rep view pl uni room made bytes ofStr cln call loop)
set_option maxHeartbeats 1000000
theorem fn_of {f : FuncId} {fn : Func} {c : Code} (h : Try.prog.funcs[f]? = some fn) (hu : usedT.contains f = true) (hb : fn.body = some c) : cfg.funcs f = some (c, fn.ntmps, fn.results.toList) := by
  rw [cfg_funcs]
  unfold fnsT fnsOf
  rw [hu, h]
  simp only [Option.bind_some, hb, Option.map_some, cond_true]
theorem c113 (n : Int) : (mach cfg).call 113 [] [.val false [.int .i64 n]] = some (.val false [.bool false], []) := by
  refine call_intro rfl (fn_of Try.func113 rfl rfl) ?_
  intro add sub mul quo rem neg conv nz eqI ltI leI maxI minI eqB notB eqS fits catS len lenS nat idx idxS byteI setL app cut cutS rep view pl uni room made bytes ofStr cln call loop L
  cbv
  have e : eqI n n = true := by rw [L.heqI]; simp
  have e2 : notB true = false := by rw [L.hnotB]; rfl
  rw [e, e2]
end Go.Am.Try
