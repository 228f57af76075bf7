/- Equations of functions of the program, as the machine answers them; conditions at each theorem. -/
import Derived.Test.YtnhmhmjgeffboaaS2
namespace Go.Am.Try
open Go.Am Go.Proofs
theorem fnsGood : FnsOk Try.prog cfg := fns_used (used := usedT) (fun f => by rw [cfg_funcs]; delta fnsT; with_reducible rfl) (by kernel_rfl)
theorem tblGood : TOk Try.prog cfg := tok_of (tr := tl) (by delta cfg; funext t; delta tblT; with_reducible rfl) tblOk
end Go.Am.Try
