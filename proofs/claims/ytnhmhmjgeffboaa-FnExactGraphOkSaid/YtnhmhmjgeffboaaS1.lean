/- Equations of functions of the program, as the machine answers them; conditions at each theorem. -/
import Derived.Test.YtnhmhmjgeffboaaAmC
import Derived.Test.YtnhmhmjgeffboaaT
import Derived.Test.YtnhmhmjgeffboaaRows
namespace Go.Am.Try
open Go.Am Go.Proofs
theorem tblOk : tl.all (typeOkB Try.prog) = true := by kernel_rfl
theorem namesOk : Try.prog.funcs.toList.all (fun fn => !(fn.name == "runtime.NumGoroutine")) = true := by kernel_rfl
theorem mixOk : Try.prog.follows .mixedOrders = true := by kernel_rfl
end Go.Am.Try
