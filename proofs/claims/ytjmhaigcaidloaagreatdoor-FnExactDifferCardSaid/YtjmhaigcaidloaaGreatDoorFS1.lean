/- The functions of the program in plain Lean, and that the machine answers as they do; conditions at each theorem. -/
import Derived.Test.YtjmhaigcaidloaaGreatDoorFAmC
import Derived.Test.YtjmhaigcaidloaaGreatDoorFAmT
import Derived.Test.YtjmhaigcaidloaaGreatDoorRows
set_option linter.unusedVariables false
set_option linter.unusedSimpArgs false
namespace Go.Am.Try
open Go.Am Go.Proofs
theorem Bi : tl.all (J9 Tryz.prog) = true := by kernel_rfl
theorem BU : Tryz.prog.funcs.toList.all (fun fn => !(fn.name == "runtime.NumGoroutine")) = true := by kernel_rfl
theorem mixOk : Tryz.prog.follows .mixedOrders = true := by kernel_rfl
end Go.Am.Try
