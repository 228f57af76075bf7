/- The functions of the program in plain Lean, and that the machine answers as they do; conditions at each theorem. -/
import Derived.Test.YtfbfbebalpnkbaaJAmC
import Derived.Test.YtfbfbebalpnkbaaJAmT
import Derived.Test.YtfbfbebalpnkbaaRows
set_option linter.unusedVariables false
set_option linter.unusedSimpArgs false
namespace Go.Am.Try
open Go.Am Go.Proofs
theorem EB : tl.all (QY Try.prog) = true := by kernel_rfl
theorem D2 : Try.prog.funcs.toList.all (fun fn => !(fn.name == "runtime.NumGoroutine")) = true := by kernel_rfl
theorem mixOk : Try.prog.follows .mixedOrders = true := by kernel_rfl
end Go.Am.Try
