/- The functions of the program in plain Lean, and that the machine answers as they do; conditions at each theorem. -/
import Derived.Test.YtoopljdbjefgoaaCS2
set_option linter.unusedVariables false
set_option linter.unusedSimpArgs false
namespace Go.Am.Try
open Go.Am Go.Proofs
theorem fnsGood : FnsOk Try.prog cfg := fns_used (used := usedT) (fun f => by rw [cfg_funcs]; delta fnsT; with_reducible rfl) (by kernel_rfl)
theorem tblGood : TOk Try.prog cfg := tok_of (tr := tl) (by delta cfg; funext t; delta tblT; with_reducible rfl) tblOk
theorem xGood (f : FuncId) (st : List Entry) (xs : List V) (r : V × List Entry) (h : cfg.X f st xs = some r) : CallOk Try.prog f st xs r := by
  have h' : (bif Nat.beq f 130 then cmpX st xs else none) = some r := h
  cases hb : Nat.beq f 130 with
  | false => rw [hb] at h'; cases h'
  | true =>
    rw [hb] at h'
    obtain rfl := Nat.eq_of_beq_eq_true hb
    exact cmp_ok Try.func130 (by kernel_rfl) (by kernel_rfl) (by kernel_rfl) (by kernel_rfl) h'
end Go.Am.Try
