/-
  NARROWER THAN 'FOR EVERY INPUT', by the rows' own cells (each row's printed sentence says how): FnExactExprOf: loops · FnExactRename: loops · FnExactCall: loops.
  DERIVED. THE GIVEN ROWS OF THIS SEAT. 4 by the template 'for every input the law returns true; each argument reads behind the call as it read before'; 0 by the template 'total and deterministic' (their statements: YtoopljdbjefgoaaTotals.lean).
  GIVEN WITH THE SEED: the statements are not yours to turn. If you find one false, say at which input.
  Laid BY PROGRAM, IN A SANDBOX (cutbox-rows.mjs): the forced cells as the released guide's own fill.sh prints them over the translation 0e2da5a2494cea1b… (all of the seat's roots in one cut). By AI agents, Wed Nov 11 2026. No macro, syntax, notation, axiom, sorry.
-/
import Derived.Test.YtoopljdbjefgoaaChecked
import GoSem.Claim
import GoSem.ClaimJoined
import GoSem.ClaimMapViews
import Derived.JoinedTies
import Derived.KernelRfl
namespace Go.Proofs.Ytoopljdbjefgoaa
/- THE CELL 'sum', in the pinned program and in every row, IS THE sha256 OF THE DUMP (.gsa) THAT YtoopljdbjefgoaaProg.lean LOADS. Nothing in Lean hashes anything: it is a label: what it is worth is what the hold of that sum in a sandbox is worth. -/
noncomputable def Try.pinned : Pinned := { name := "ytoopljdbjefgoaa", sum := "0e2da5a2494cea1b9dee35de77fc292af3aecfd049ad9f7b55ce94bd7ac454c6", checked := Try.checked }
namespace Rows
def none {H : Type} : Left H := { results := [], args := [] }

/-- 'laws.FnExactExprOf': WHATEVER THE INPUT: true; the input reads as it did. -/
def fnExactExprOfSpec : ChangeSpec := { name := "fnExactExprOf", fn := fun _ => fun
  | [d] => { results := [.lit (.bool true)], args := [d] }
  | _ => none }
def fnExactExprOfRow : OpenClaim := { program := "ytoopljdbjefgoaa", sum := "0e2da5a2494cea1b9dee35de77fc292af3aecfd049ad9f7b55ce94bd7ac454c6", func := "loop.example/g00407/laws.FnExactExprOf", spec := "fnExactExprOf", inPlace := ["internal/bytealg.Compare"], unfollowed := true, recurses := true, loops := true, apart := false }
def FnExactExprOfSaid : Prop := fnExactExprOfRow.holds Try.pinned (OpenSpec.ofChange fnExactExprOfSpec)

/-- ITS FALSE NEIGHBOUR: 'it returns false'. Refute it at one input. -/
def fnExactExprOfWrong : ChangeSpec := { name := "fnExactExprOf", fn := fun _ => fun
  | [d] => { results := [.lit (.bool false)], args := [d] }
  | _ => none }
def FnExactExprOfWrongFalsely : Prop := fnExactExprOfRow.holds Try.pinned (OpenSpec.ofChange fnExactExprOfWrong)

/-- 'laws.FnExactRename': WHATEVER THE INPUT: true; the input reads as it did. -/
def fnExactRenameSpec : ChangeSpec := { name := "fnExactRename", fn := fun _ => fun
  | [d1, d2, d3] => { results := [.lit (.bool true)], args := [d1, d2, d3] }
  | _ => none }
def fnExactRenameRow : OpenClaim := { program := "ytoopljdbjefgoaa", sum := "0e2da5a2494cea1b9dee35de77fc292af3aecfd049ad9f7b55ce94bd7ac454c6", func := "loop.example/g00407/laws.FnExactRename", spec := "fnExactRename", inPlace := ["internal/bytealg.Compare"], unfollowed := true, recurses := true, loops := true, apart := false }
def FnExactRenameSaid : Prop := fnExactRenameRow.holds Try.pinned (OpenSpec.ofChange fnExactRenameSpec)

/-- ITS FALSE NEIGHBOUR: 'it returns false'. Refute it at one input. -/
def fnExactRenameWrong : ChangeSpec := { name := "fnExactRename", fn := fun _ => fun
  | [d1, d2, d3] => { results := [.lit (.bool false)], args := [d1, d2, d3] }
  | _ => none }
def FnExactRenameWrongFalsely : Prop := fnExactRenameRow.holds Try.pinned (OpenSpec.ofChange fnExactRenameWrong)

/-- 'laws.FnExactCall': WHATEVER THE INPUT: true; the input reads as it did. -/
def fnExactCallSpec : ChangeSpec := { name := "fnExactCall", fn := fun _ => fun
  | [d1, d2] => { results := [.lit (.bool true)], args := [d1, d2] }
  | _ => none }
def fnExactCallRow : OpenClaim := { program := "ytoopljdbjefgoaa", sum := "0e2da5a2494cea1b9dee35de77fc292af3aecfd049ad9f7b55ce94bd7ac454c6", func := "loop.example/g00407/laws.FnExactCall", spec := "fnExactCall", inPlace := ["internal/bytealg.Compare"], unfollowed := true, recurses := true, loops := true, apart := false }
def FnExactCallSaid : Prop := fnExactCallRow.holds Try.pinned (OpenSpec.ofChange fnExactCallSpec)

/-- ITS FALSE NEIGHBOUR: 'it returns false'. Refute it at one input. -/
def fnExactCallWrong : ChangeSpec := { name := "fnExactCall", fn := fun _ => fun
  | [d1, d2] => { results := [.lit (.bool false)], args := [d1, d2] }
  | _ => none }
def FnExactCallWrongFalsely : Prop := fnExactCallRow.holds Try.pinned (OpenSpec.ofChange fnExactCallWrong)

/-- 'laws.FnExprOf': WHATEVER THE INPUT: true; the input reads as it did. -/
def fnExprOfSpec : ChangeSpec := { name := "fnExprOf", fn := fun _ => fun
  | [d] => { results := [.lit (.bool true)], args := [d] }
  | _ => none }
def fnExprOfRow : OpenClaim := { program := "ytoopljdbjefgoaa", sum := "0e2da5a2494cea1b9dee35de77fc292af3aecfd049ad9f7b55ce94bd7ac454c6", func := "loop.example/g00407/laws.FnExprOf", spec := "fnExprOf", inPlace := ["internal/bytealg.Compare"], unfollowed := true, recurses := true, apart := false }
def FnExprOfSaid : Prop := fnExprOfRow.holds Try.pinned (OpenSpec.ofChange fnExprOfSpec)

/-- ITS FALSE NEIGHBOUR: 'it returns false'. Refute it at one input. -/
def fnExprOfWrong : ChangeSpec := { name := "fnExprOf", fn := fun _ => fun
  | [d] => { results := [.lit (.bool false)], args := [d] }
  | _ => none }
def FnExprOfWrongFalsely : Prop := fnExprOfRow.holds Try.pinned (OpenSpec.ofChange fnExprOfWrong)

/- THE SECOND FORM. 'bulk': how many values and letters a reading holds, each counted each time it is reached (what is shared counts as often as it is met; a slice's spare places count too). A statement '..UptoSaid' is the law's where the arguments, and the package variables that the reading takes, are together of bulk at most 1048576: NARROWER than '..Said'. Prove '..Said' where nothing that the law and all that it calls make is longer than what came in: it says more and counts as full. Else prove '..UptoSaid'. A law counts once. -/
mutual
def uptoBulk {H : Type} : DataW H → Nat
  | .lit (.string bytes) => bytes.length + 1
  | .lit _ => 1
  | .nil => 1
  | .ptr d => uptoBulk d + 1
  | .slice elems spare => uptoBulkAll elems + uptoBulkAll spare + 1
  | .agg parts => uptoBulkAll parts + 1
  | .iface _ d => uptoBulk d + 1
  | .map entries => uptoBulkEntries entries + 1
  | .held _ => 1
def uptoBulkAll {H : Type} : List (DataW H) → Nat
  | [] => 0
  | d :: r => uptoBulk d + uptoBulkAll r
def uptoBulkEntries {H : Type} : List (Lit × DataW H) → Nat
  | [] => 0
  | x :: r => uptoBulkEntry x + uptoBulkEntries r
def uptoBulkEntry {H : Type} : Lit × DataW H → Nat
  | (.string bytes, d) => bytes.length + uptoBulk d + 1
  | (_, d) => uptoBulk d + 1
 end
def uptoSmall : (H : Type) → List (DataW H) → Bool := fun _ ds => decide (uptoBulkAll ds ≤ 1048576)
def OpenSpec.upto (s : _root_.Go.ChangeSpec) : _root_.Go.OpenSpec := { _root_.Go.OpenSpec.ofChange s with cond := some uptoSmall }

/-- 'laws.FnExactExprOf', WHERE WHAT IT READS IS OF BULK AT MOST 1048576: true; the input reads as it did. -/
def fnExactExprOfUptoRow : OpenClaim := { program := "ytoopljdbjefgoaa", sum := "0e2da5a2494cea1b9dee35de77fc292af3aecfd049ad9f7b55ce94bd7ac454c6", func := "loop.example/g00407/laws.FnExactExprOf", spec := "fnExactExprOf", inPlace := ["internal/bytealg.Compare"], unfollowed := true, recurses := true, loops := true, apart := false, narrowed := true }
def FnExactExprOfUptoSaid : Prop := fnExactExprOfUptoRow.holds Try.pinned (OpenSpec.upto fnExactExprOfSpec)

/-- 'laws.FnExactRename', WHERE WHAT IT READS IS OF BULK AT MOST 1048576: true; the input reads as it did. -/
def fnExactRenameUptoRow : OpenClaim := { program := "ytoopljdbjefgoaa", sum := "0e2da5a2494cea1b9dee35de77fc292af3aecfd049ad9f7b55ce94bd7ac454c6", func := "loop.example/g00407/laws.FnExactRename", spec := "fnExactRename", inPlace := ["internal/bytealg.Compare"], unfollowed := true, recurses := true, loops := true, apart := false, narrowed := true }
def FnExactRenameUptoSaid : Prop := fnExactRenameUptoRow.holds Try.pinned (OpenSpec.upto fnExactRenameSpec)

/-- 'laws.FnExactCall', WHERE WHAT IT READS IS OF BULK AT MOST 1048576: true; the input reads as it did. -/
def fnExactCallUptoRow : OpenClaim := { program := "ytoopljdbjefgoaa", sum := "0e2da5a2494cea1b9dee35de77fc292af3aecfd049ad9f7b55ce94bd7ac454c6", func := "loop.example/g00407/laws.FnExactCall", spec := "fnExactCall", inPlace := ["internal/bytealg.Compare"], unfollowed := true, recurses := true, loops := true, apart := false, narrowed := true }
def FnExactCallUptoSaid : Prop := fnExactCallUptoRow.holds Try.pinned (OpenSpec.upto fnExactCallSpec)

/-- 'laws.FnExprOf', WHERE WHAT IT READS IS OF BULK AT MOST 1048576: true; the input reads as it did. -/
def fnExprOfUptoRow : OpenClaim := { program := "ytoopljdbjefgoaa", sum := "0e2da5a2494cea1b9dee35de77fc292af3aecfd049ad9f7b55ce94bd7ac454c6", func := "loop.example/g00407/laws.FnExprOf", spec := "fnExprOf", inPlace := ["internal/bytealg.Compare"], unfollowed := true, recurses := true, apart := false, narrowed := true }
def FnExprOfUptoSaid : Prop := fnExprOfUptoRow.holds Try.pinned (OpenSpec.upto fnExprOfSpec)

end Rows
end Go.Proofs.Ytoopljdbjefgoaa
