/- The functions of the program in plain Lean, and that the machine answers as they do; conditions at each theorem. -/
import Derived.Test.YtfbfbebalpnkbaaDoorEAmC
import Derived.Test.YtfbfbebalpnkbaaDoorEAmT
import Derived.Test.YtfbfbebalpnkbaaDoorRows
set_option linter.unusedVariables false
set_option linter.unusedSimpArgs false
namespace Go.Am.Try
open Go.Am Go.Proofs
theorem Br : tl.all (J0 Tryd.prog) = true := by kernel_rfl
theorem Ax : Tryd.prog.funcs.toList.all (fun fn => !(fn.name == "runtime.NumGoroutine")) = true := by kernel_rfl
theorem mixOk : Tryd.prog.follows .mixedOrders = true := by kernel_rfl
end Go.Am.Try
