/-
  NARROWER THAN 'FOR EVERY INPUT', by the rows' own cells (each row's printed sentence says how): FnExactSimplify: loops · FnExactPatch: loops · FnExactLocalsOf: loops.
  DERIVED. THE GIVEN ROWS OF THIS SEAT. 3 by the template 'for every input the law returns true; each argument reads behind the call as it read before'; 0 by the template 'total and deterministic' (their statements: YtklelfbkffbceaaGreatTotals.lean).
  GIVEN WITH THE SEED: the statements are not yours to turn. If you find one false, say at which input.
  Laid BY PROGRAM, IN A SANDBOX (cutbox-rows.mjs): the forced cells as the released guide's own fill.sh prints them over the translation ee6bf2735669eb40… (all of the seat's roots in one cut). By AI agents, Wed Nov 11 2026. No macro, syntax, notation, axiom, sorry.
-/
import Derived.Test.YtklelfbkffbceaaGreatChecked
import GoSem.Claim
import GoSem.ClaimJoined
import GoSem.ClaimMapViews
import Derived.JoinedTies
import Derived.KernelRfl
namespace Go.Proofs.YtklelfbkffbceaaGreat
/- THE CELL 'sum', in the pinned program and in every row, IS THE sha256 OF THE DUMP (.gsa) THAT YtklelfbkffbceaaGreatProg.lean LOADS. Nothing in Lean hashes anything: it is a label: what it is worth is what the hold of that sum in a sandbox is worth. -/
noncomputable def Tryz.pinned : Pinned := { name := "ytklelfbkffbceaagreat", sum := "ee6bf2735669eb400ac55e70bcc73719d0ddda8daa312dd43fe14b1b8580dc3d", checked := Tryz.checked }
namespace Rows
def none {H : Type} : Left H := { results := [], args := [] }

/-- 'laws.FnExactSimplify': WHATEVER THE INPUT: true; the input reads as it did. -/
def fnExactSimplifySpec : ChangeSpec := { name := "fnExactSimplify", fn := fun _ => fun
  | [d] => { results := [.lit (.bool true)], args := [d] }
  | _ => none }
def fnExactSimplifyRow : OpenClaim := { program := "ytklelfbkffbceaagreat", sum := "ee6bf2735669eb400ac55e70bcc73719d0ddda8daa312dd43fe14b1b8580dc3d", func := "loop.example/g00407/laws.FnExactSimplify", spec := "fnExactSimplify", inPlace := ["internal/bytealg.Compare"], unfollowed := true, recurses := true, loops := true, apart := false }
def FnExactSimplifySaid : Prop := fnExactSimplifyRow.holds Tryz.pinned (OpenSpec.ofChange fnExactSimplifySpec)

/-- ITS FALSE NEIGHBOUR: 'it returns false'. Refute it at one input. -/
def fnExactSimplifyWrong : ChangeSpec := { name := "fnExactSimplify", fn := fun _ => fun
  | [d] => { results := [.lit (.bool false)], args := [d] }
  | _ => none }
def FnExactSimplifyWrongFalsely : Prop := fnExactSimplifyRow.holds Tryz.pinned (OpenSpec.ofChange fnExactSimplifyWrong)

/-- 'laws.FnExactPatch': WHATEVER THE INPUT: true; the input reads as it did. -/
def fnExactPatchSpec : ChangeSpec := { name := "fnExactPatch", fn := fun _ => fun
  | [d1, d2] => { results := [.lit (.bool true)], args := [d1, d2] }
  | _ => none }
def fnExactPatchRow : OpenClaim := { program := "ytklelfbkffbceaagreat", sum := "ee6bf2735669eb400ac55e70bcc73719d0ddda8daa312dd43fe14b1b8580dc3d", func := "loop.example/g00407/laws.FnExactPatch", spec := "fnExactPatch", inPlace := ["internal/bytealg.Compare", "slices.overlaps[[]byte]", "slices.overlaps[loop.example/g00407/impl.Value]"], unfollowed := true, recurses := true, loops := true, apart := false }
def FnExactPatchSaid : Prop := fnExactPatchRow.holds Tryz.pinned (OpenSpec.ofChange fnExactPatchSpec)

/-- ITS FALSE NEIGHBOUR: 'it returns false'. Refute it at one input. -/
def fnExactPatchWrong : ChangeSpec := { name := "fnExactPatch", fn := fun _ => fun
  | [d1, d2] => { results := [.lit (.bool false)], args := [d1, d2] }
  | _ => none }
def FnExactPatchWrongFalsely : Prop := fnExactPatchRow.holds Tryz.pinned (OpenSpec.ofChange fnExactPatchWrong)

/-- 'laws.FnExactLocalsOf': WHATEVER THE INPUT: true; the input reads as it did. -/
def fnExactLocalsOfSpec : ChangeSpec := { name := "fnExactLocalsOf", fn := fun _ => fun
  | [d] => { results := [.lit (.bool true)], args := [d] }
  | _ => none }
def fnExactLocalsOfRow : OpenClaim := { program := "ytklelfbkffbceaagreat", sum := "ee6bf2735669eb400ac55e70bcc73719d0ddda8daa312dd43fe14b1b8580dc3d", func := "loop.example/g00407/laws.FnExactLocalsOf", spec := "fnExactLocalsOf", inPlace := ["internal/bytealg.Compare", "slices.overlaps[[]byte]", "slices.overlaps[loop.example/g00407/impl.Value]"], unfollowed := true, recurses := true, loops := true, apart := false }
def FnExactLocalsOfSaid : Prop := fnExactLocalsOfRow.holds Tryz.pinned (OpenSpec.ofChange fnExactLocalsOfSpec)

/-- ITS FALSE NEIGHBOUR: 'it returns false'. Refute it at one input. -/
def fnExactLocalsOfWrong : ChangeSpec := { name := "fnExactLocalsOf", fn := fun _ => fun
  | [d] => { results := [.lit (.bool false)], args := [d] }
  | _ => none }
def FnExactLocalsOfWrongFalsely : Prop := fnExactLocalsOfRow.holds Tryz.pinned (OpenSpec.ofChange fnExactLocalsOfWrong)

/- THE SECOND FORM. 'bulk': how many values and letters a reading holds, each counted each time it is reached (what is shared counts as often as it is met; a slice's spare places count too). A statement '..UptoSaid' is the law's where the arguments, and the package variables that the reading takes, are together of bulk at most 1048576: NARROWER than '..Said'. Prove '..Said' where nothing that the law and all that it calls make is longer than what came in: it says more and counts as full. Else prove '..UptoSaid'. A law counts once. -/
mutual
def uptoBulk {H : Type} : DataW H → Nat
  | .lit (.string bytes) => bytes.length + 1
  | .lit _ => 1
  | .nil => 1
  | .ptr d => uptoBulk d + 1
  | .slice elems spare => uptoBulkAll elems + uptoBulkAll spare + 1
  | .agg parts => uptoBulkAll parts + 1
  | .iface _ d => uptoBulk d + 1
  | .map entries => uptoBulkEntries entries + 1
  | .held _ => 1
def uptoBulkAll {H : Type} : List (DataW H) → Nat
  | [] => 0
  | d :: r => uptoBulk d + uptoBulkAll r
def uptoBulkEntries {H : Type} : List (Lit × DataW H) → Nat
  | [] => 0
  | x :: r => uptoBulkEntry x + uptoBulkEntries r
def uptoBulkEntry {H : Type} : Lit × DataW H → Nat
  | (.string bytes, d) => bytes.length + uptoBulk d + 1
  | (_, d) => uptoBulk d + 1
 end
def uptoSmall : (H : Type) → List (DataW H) → Bool := fun _ ds => decide (uptoBulkAll ds ≤ 1048576)
def OpenSpec.upto (s : _root_.Go.ChangeSpec) : _root_.Go.OpenSpec := { _root_.Go.OpenSpec.ofChange s with cond := some uptoSmall }

/-- 'laws.FnExactSimplify', WHERE WHAT IT READS IS OF BULK AT MOST 1048576: true; the input reads as it did. -/
def fnExactSimplifyUptoRow : OpenClaim := { program := "ytklelfbkffbceaagreat", sum := "ee6bf2735669eb400ac55e70bcc73719d0ddda8daa312dd43fe14b1b8580dc3d", func := "loop.example/g00407/laws.FnExactSimplify", spec := "fnExactSimplify", inPlace := ["internal/bytealg.Compare"], unfollowed := true, recurses := true, loops := true, apart := false, narrowed := true }
def FnExactSimplifyUptoSaid : Prop := fnExactSimplifyUptoRow.holds Tryz.pinned (OpenSpec.upto fnExactSimplifySpec)

/-- 'laws.FnExactPatch', WHERE WHAT IT READS IS OF BULK AT MOST 1048576: true; the input reads as it did. -/
def fnExactPatchUptoRow : OpenClaim := { program := "ytklelfbkffbceaagreat", sum := "ee6bf2735669eb400ac55e70bcc73719d0ddda8daa312dd43fe14b1b8580dc3d", func := "loop.example/g00407/laws.FnExactPatch", spec := "fnExactPatch", inPlace := ["internal/bytealg.Compare", "slices.overlaps[[]byte]", "slices.overlaps[loop.example/g00407/impl.Value]"], unfollowed := true, recurses := true, loops := true, apart := false, narrowed := true }
def FnExactPatchUptoSaid : Prop := fnExactPatchUptoRow.holds Tryz.pinned (OpenSpec.upto fnExactPatchSpec)

/-- 'laws.FnExactLocalsOf', WHERE WHAT IT READS IS OF BULK AT MOST 1048576: true; the input reads as it did. -/
def fnExactLocalsOfUptoRow : OpenClaim := { program := "ytklelfbkffbceaagreat", sum := "ee6bf2735669eb400ac55e70bcc73719d0ddda8daa312dd43fe14b1b8580dc3d", func := "loop.example/g00407/laws.FnExactLocalsOf", spec := "fnExactLocalsOf", inPlace := ["internal/bytealg.Compare", "slices.overlaps[[]byte]", "slices.overlaps[loop.example/g00407/impl.Value]"], unfollowed := true, recurses := true, loops := true, apart := false, narrowed := true }
def FnExactLocalsOfUptoSaid : Prop := fnExactLocalsOfUptoRow.holds Tryz.pinned (OpenSpec.upto fnExactLocalsOfSpec)

end Rows
end Go.Proofs.YtklelfbkffbceaaGreat
