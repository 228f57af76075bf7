/-
  NARROWER THAN 'FOR EVERY INPUT', by the rows' own cells (each row's printed sentence says how): FnExactEnvOk: loops · FnExactExprParts: loops.
  DERIVED. THE GIVEN ROWS OF THIS SEAT. 5 by the template 'for every input the law returns true; each argument reads behind the call as it read before'; 0 by the template 'total and deterministic' (their statements: YtnhmhmjgeffboaaTotals.lean).
  GIVEN WITH THE SEED: the statements are not yours to turn. If you find one false, say at which input.
  Laid BY PROGRAM, IN A SANDBOX (cutbox-rows.mjs): the forced cells as the released guide's own fill.sh prints them over the translation 90a15b6a6c53d7b9… (all of the seat's roots in one cut). By AI agents, Wed Nov 11 2026. No macro, syntax, notation, axiom, sorry.
-/
import Derived.Test.YtnhmhmjgeffboaaChecked
import GoSem.Claim
import GoSem.ClaimJoined
import GoSem.ClaimMapViews
import Derived.JoinedTies
import Derived.KernelRfl
namespace Go.Proofs.Ytnhmhmjgeffboaa
/- THE CELL 'sum', in the pinned program and in every row, IS THE sha256 OF THE DUMP (.gsa) THAT YtnhmhmjgeffboaaProg.lean LOADS. Nothing in Lean hashes anything: it is a label: what it is worth is what the hold of that sum in a sandbox is worth. -/
noncomputable def Try.pinned : Pinned := { name := "ytnhmhmjgeffboaa", sum := "90a15b6a6c53d7b95217dd86b079565379516ad7c7fc4df0ed748620bf32ece8", checked := Try.checked }
namespace Rows
def none {H : Type} : Left H := { results := [], args := [] }

/-- 'laws.FnExactGraphOk': WHATEVER THE INPUT: true; the input reads as it did. -/
def fnExactGraphOkSpec : ChangeSpec := { name := "fnExactGraphOk", fn := fun _ => fun
  | [d] => { results := [.lit (.bool true)], args := [d] }
  | _ => none }
def fnExactGraphOkRow : OpenClaim := { program := "ytnhmhmjgeffboaa", sum := "90a15b6a6c53d7b95217dd86b079565379516ad7c7fc4df0ed748620bf32ece8", func := "loop.example/g00407/laws.FnExactGraphOk", spec := "fnExactGraphOk", apart := false }
def FnExactGraphOkSaid : Prop := fnExactGraphOkRow.holds Try.pinned (OpenSpec.ofChange fnExactGraphOkSpec)

/-- ITS FALSE NEIGHBOUR: 'it returns false'. Refute it at one input. -/
def fnExactGraphOkWrong : ChangeSpec := { name := "fnExactGraphOk", fn := fun _ => fun
  | [d] => { results := [.lit (.bool false)], args := [d] }
  | _ => none }
def FnExactGraphOkWrongFalsely : Prop := fnExactGraphOkRow.holds Try.pinned (OpenSpec.ofChange fnExactGraphOkWrong)

/-- 'laws.FnExactLeads': WHATEVER THE INPUT: true; the input reads as it did. -/
def fnExactLeadsSpec : ChangeSpec := { name := "fnExactLeads", fn := fun _ => fun
  | [d1, d2, d3] => { results := [.lit (.bool true)], args := [d1, d2, d3] }
  | _ => none }
def fnExactLeadsRow : OpenClaim := { program := "ytnhmhmjgeffboaa", sum := "90a15b6a6c53d7b95217dd86b079565379516ad7c7fc4df0ed748620bf32ece8", func := "loop.example/g00407/laws.FnExactLeads", spec := "fnExactLeads", apart := false }
def FnExactLeadsSaid : Prop := fnExactLeadsRow.holds Try.pinned (OpenSpec.ofChange fnExactLeadsSpec)

/-- ITS FALSE NEIGHBOUR: 'it returns false'. Refute it at one input. -/
def fnExactLeadsWrong : ChangeSpec := { name := "fnExactLeads", fn := fun _ => fun
  | [d1, d2, d3] => { results := [.lit (.bool false)], args := [d1, d2, d3] }
  | _ => none }
def FnExactLeadsWrongFalsely : Prop := fnExactLeadsRow.holds Try.pinned (OpenSpec.ofChange fnExactLeadsWrong)

/-- 'laws.FnExactEnvOk': WHATEVER THE INPUT: true; the input reads as it did. -/
def fnExactEnvOkSpec : ChangeSpec := { name := "fnExactEnvOk", fn := fun _ => fun
  | [d] => { results := [.lit (.bool true)], args := [d] }
  | _ => none }
def fnExactEnvOkRow : OpenClaim := { program := "ytnhmhmjgeffboaa", sum := "90a15b6a6c53d7b95217dd86b079565379516ad7c7fc4df0ed748620bf32ece8", func := "loop.example/g00407/laws.FnExactEnvOk", spec := "fnExactEnvOk", inPlace := ["internal/bytealg.Compare"], unfollowed := true, recurses := true, loops := true, apart := false }
def FnExactEnvOkSaid : Prop := fnExactEnvOkRow.holds Try.pinned (OpenSpec.ofChange fnExactEnvOkSpec)

/-- ITS FALSE NEIGHBOUR: 'it returns false'. Refute it at one input. -/
def fnExactEnvOkWrong : ChangeSpec := { name := "fnExactEnvOk", fn := fun _ => fun
  | [d] => { results := [.lit (.bool false)], args := [d] }
  | _ => none }
def FnExactEnvOkWrongFalsely : Prop := fnExactEnvOkRow.holds Try.pinned (OpenSpec.ofChange fnExactEnvOkWrong)

/-- 'laws.FnExactExprParts': WHATEVER THE INPUT: true; the input reads as it did. -/
def fnExactExprPartsSpec : ChangeSpec := { name := "fnExactExprParts", fn := fun _ => fun
  | [d] => { results := [.lit (.bool true)], args := [d] }
  | _ => none }
def fnExactExprPartsRow : OpenClaim := { program := "ytnhmhmjgeffboaa", sum := "90a15b6a6c53d7b95217dd86b079565379516ad7c7fc4df0ed748620bf32ece8", func := "loop.example/g00407/laws.FnExactExprParts", spec := "fnExactExprParts", inPlace := ["internal/bytealg.Compare"], unfollowed := true, recurses := true, loops := true, apart := false }
def FnExactExprPartsSaid : Prop := fnExactExprPartsRow.holds Try.pinned (OpenSpec.ofChange fnExactExprPartsSpec)

/-- ITS FALSE NEIGHBOUR: 'it returns false'. Refute it at one input. -/
def fnExactExprPartsWrong : ChangeSpec := { name := "fnExactExprParts", fn := fun _ => fun
  | [d] => { results := [.lit (.bool false)], args := [d] }
  | _ => none }
def FnExactExprPartsWrongFalsely : Prop := fnExactExprPartsRow.holds Try.pinned (OpenSpec.ofChange fnExactExprPartsWrong)

/-- 'laws.FnCalls': WHATEVER THE INPUT: true; the input reads as it did. -/
def fnCallsSpec : ChangeSpec := { name := "fnCalls", fn := fun _ => fun
  | [d] => { results := [.lit (.bool true)], args := [d] }
  | _ => none }
def fnCallsRow : OpenClaim := { program := "ytnhmhmjgeffboaa", sum := "90a15b6a6c53d7b95217dd86b079565379516ad7c7fc4df0ed748620bf32ece8", func := "loop.example/g00407/laws.FnCalls", spec := "fnCalls", inPlace := ["internal/bytealg.Compare"], unfollowed := true, recurses := true, apart := false }
def FnCallsSaid : Prop := fnCallsRow.holds Try.pinned (OpenSpec.ofChange fnCallsSpec)

/-- ITS FALSE NEIGHBOUR: 'it returns false'. Refute it at one input. -/
def fnCallsWrong : ChangeSpec := { name := "fnCalls", fn := fun _ => fun
  | [d] => { results := [.lit (.bool false)], args := [d] }
  | _ => none }
def FnCallsWrongFalsely : Prop := fnCallsRow.holds Try.pinned (OpenSpec.ofChange fnCallsWrong)

/- THE SECOND FORM. 'bulk': how many values and letters a reading holds, each counted each time it is reached (what is shared counts as often as it is met; a slice's spare places count too). A statement '..UptoSaid' is the law's where the arguments, and the package variables that the reading takes, are together of bulk at most 1048576: NARROWER than '..Said'. Prove '..Said' where nothing that the law and all that it calls make is longer than what came in: it says more and counts as full. Else prove '..UptoSaid'. A law counts once. -/
mutual
def uptoBulk {H : Type} : DataW H → Nat
  | .lit (.string bytes) => bytes.length + 1
  | .lit _ => 1
  | .nil => 1
  | .ptr d => uptoBulk d + 1
  | .slice elems spare => uptoBulkAll elems + uptoBulkAll spare + 1
  | .agg parts => uptoBulkAll parts + 1
  | .iface _ d => uptoBulk d + 1
  | .map entries => uptoBulkEntries entries + 1
  | .held _ => 1
def uptoBulkAll {H : Type} : List (DataW H) → Nat
  | [] => 0
  | d :: r => uptoBulk d + uptoBulkAll r
def uptoBulkEntries {H : Type} : List (Lit × DataW H) → Nat
  | [] => 0
  | x :: r => uptoBulkEntry x + uptoBulkEntries r
def uptoBulkEntry {H : Type} : Lit × DataW H → Nat
  | (.string bytes, d) => bytes.length + uptoBulk d + 1
  | (_, d) => uptoBulk d + 1
 end
def uptoSmall : (H : Type) → List (DataW H) → Bool := fun _ ds => decide (uptoBulkAll ds ≤ 1048576)
def OpenSpec.upto (s : _root_.Go.ChangeSpec) : _root_.Go.OpenSpec := { _root_.Go.OpenSpec.ofChange s with cond := some uptoSmall }

/-- 'laws.FnExactGraphOk', WHERE WHAT IT READS IS OF BULK AT MOST 1048576: true; the input reads as it did. -/
def fnExactGraphOkUptoRow : OpenClaim := { program := "ytnhmhmjgeffboaa", sum := "90a15b6a6c53d7b95217dd86b079565379516ad7c7fc4df0ed748620bf32ece8", func := "loop.example/g00407/laws.FnExactGraphOk", spec := "fnExactGraphOk", apart := false, narrowed := true }
def FnExactGraphOkUptoSaid : Prop := fnExactGraphOkUptoRow.holds Try.pinned (OpenSpec.upto fnExactGraphOkSpec)

/-- 'laws.FnExactLeads', WHERE WHAT IT READS IS OF BULK AT MOST 1048576: true; the input reads as it did. -/
def fnExactLeadsUptoRow : OpenClaim := { program := "ytnhmhmjgeffboaa", sum := "90a15b6a6c53d7b95217dd86b079565379516ad7c7fc4df0ed748620bf32ece8", func := "loop.example/g00407/laws.FnExactLeads", spec := "fnExactLeads", apart := false, narrowed := true }
def FnExactLeadsUptoSaid : Prop := fnExactLeadsUptoRow.holds Try.pinned (OpenSpec.upto fnExactLeadsSpec)

/-- 'laws.FnExactEnvOk', WHERE WHAT IT READS IS OF BULK AT MOST 1048576: true; the input reads as it did. -/
def fnExactEnvOkUptoRow : OpenClaim := { program := "ytnhmhmjgeffboaa", sum := "90a15b6a6c53d7b95217dd86b079565379516ad7c7fc4df0ed748620bf32ece8", func := "loop.example/g00407/laws.FnExactEnvOk", spec := "fnExactEnvOk", inPlace := ["internal/bytealg.Compare"], unfollowed := true, recurses := true, loops := true, apart := false, narrowed := true }
def FnExactEnvOkUptoSaid : Prop := fnExactEnvOkUptoRow.holds Try.pinned (OpenSpec.upto fnExactEnvOkSpec)

/-- 'laws.FnExactExprParts', WHERE WHAT IT READS IS OF BULK AT MOST 1048576: true; the input reads as it did. -/
def fnExactExprPartsUptoRow : OpenClaim := { program := "ytnhmhmjgeffboaa", sum := "90a15b6a6c53d7b95217dd86b079565379516ad7c7fc4df0ed748620bf32ece8", func := "loop.example/g00407/laws.FnExactExprParts", spec := "fnExactExprParts", inPlace := ["internal/bytealg.Compare"], unfollowed := true, recurses := true, loops := true, apart := false, narrowed := true }
def FnExactExprPartsUptoSaid : Prop := fnExactExprPartsUptoRow.holds Try.pinned (OpenSpec.upto fnExactExprPartsSpec)

/-- 'laws.FnCalls', WHERE WHAT IT READS IS OF BULK AT MOST 1048576: true; the input reads as it did. -/
def fnCallsUptoRow : OpenClaim := { program := "ytnhmhmjgeffboaa", sum := "90a15b6a6c53d7b95217dd86b079565379516ad7c7fc4df0ed748620bf32ece8", func := "loop.example/g00407/laws.FnCalls", spec := "fnCalls", inPlace := ["internal/bytealg.Compare"], unfollowed := true, recurses := true, apart := false, narrowed := true }
def FnCallsUptoSaid : Prop := fnCallsUptoRow.holds Try.pinned (OpenSpec.upto fnCallsSpec)

end Rows
end Go.Proofs.Ytnhmhmjgeffboaa
