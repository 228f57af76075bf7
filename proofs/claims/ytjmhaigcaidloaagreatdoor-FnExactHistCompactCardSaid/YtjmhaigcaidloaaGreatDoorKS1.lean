
/- The functions of the program in plain Lean, and that the machine answers as they do; conditions at each theorem. -/
import Derived.Test.YtjmhaigcaidloaaGreatDoorKAmC
import Derived.Test.YtjmhaigcaidloaaGreatDoorKAmT
import Derived.Test.YtjmhaigcaidloaaGreatDoorRows
set_option linter.unusedVariables false
set_option linter.unusedSimpArgs false
namespace Go.Am.Try
open Go.Am Go.Proofs
theorem ze2 : tl.all (Rm Tryz.prog) = true := by kernel_rfl
theorem zfd : Tryz.prog.funcs.toList.all (fun fn => !(fn.name == "runtime.NumGoroutine")) = true := by kernel_rfl
theorem mixOk : Tryz.prog.follows .mixedOrders = true := by kernel_rfl
end Go.Am.Try
