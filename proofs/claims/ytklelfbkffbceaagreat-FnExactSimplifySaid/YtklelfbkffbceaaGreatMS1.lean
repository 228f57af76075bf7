/- The functions of the program in plain Lean, and that the machine answers as they do; conditions at each theorem. -/
import Derived.Test.YtklelfbkffbceaaGreatMAmC
import Derived.Test.YtklelfbkffbceaaGreatMAmT
import Derived.Test.YtklelfbkffbceaaGreatRows
set_option linter.unusedVariables false
set_option linter.unusedSimpArgs false
namespace Go.Am.Try
open Go.Am Go.Proofs
theorem zg9 : tl.all (R7 Tryz.prog) = true := by kernel_rfl
theorem zik : Tryz.prog.funcs.toList.all (fun fn => !(fn.name == "runtime.NumGoroutine")) = true := by kernel_rfl
theorem mixOk : Tryz.prog.follows .mixedOrders = true := by kernel_rfl
end Go.Am.Try
