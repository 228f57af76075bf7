/- The functions of the program in plain Lean, and that the machine answers as they do; conditions at each theorem. -/
import Derived.Test.YtfbfbebalpnkbaaIAmC
import Derived.Test.YtfbfbebalpnkbaaIAmT
import Derived.Test.YtfbfbebalpnkbaaRows
set_option linter.unusedVariables false
set_option linter.unusedSimpArgs false
namespace Go.Am.Try
open Go.Am Go.Proofs
theorem Ht : tl.all (WU Try.prog) = true := by kernel_rfl
theorem Ei : Try.prog.funcs.toList.all (fun fn => !(fn.name == "runtime.NumGoroutine")) = true := by kernel_rfl
theorem mixOk : Try.prog.follows .mixedOrders = true := by kernel_rfl
end Go.Am.Try
