/-
  NARROWER THAN 'FOR EVERY INPUT', by the rows' own cells (each row's printed sentence says how): FnExactStateOk: loops, laid · FnExactTainted: loops, laid · FnExactNeeds: loops, laid · FnExactEntryOf: loops, laid · FnExactEventBytes: loops, laid · FnExactDo: loops, laid · FnExactDiffer: loops, laid · FnExactHistOk: loops, laid · FnExactHistHead: loops, laid · FnExactTouches: loops, laid.
  DERIVED. THE GIVEN ROWS OF THIS SEAT. 10 by the template 'for every input the law returns true; each argument reads behind the call as it read before'; 0 by the template 'total and deterministic' (their statements: YtabecknjhcjpfaaGreatDoorTotals.lean).
  GIVEN WITH THE SEED: the statements are not yours to turn. If you find one false, say at which input.
  Laid BY PROGRAM, IN A SANDBOX (cutbox-rows.mjs): the forced cells as the released guide's own fill.sh prints them over the translation 0f94152cd2679037… (all of the seat's roots in one cut). By AI agents, Wed Nov 11 2026. No macro, syntax, notation, axiom, sorry.
-/
import Derived.Test.YtabecknjhcjpfaaGreatDoorChecked
import GoSem.Claim
import GoSem.ClaimJoined
import GoSem.ClaimMapViews
import Derived.JoinedTies
import Derived.KernelRfl
namespace Go.Proofs.YtabecknjhcjpfaaGreatDoor
/- THE CELL 'sum', in the pinned program and in every row, IS THE sha256 OF THE DUMP (.gsa) THAT YtabecknjhcjpfaaGreatDoorProg.lean LOADS. Nothing in Lean hashes anything: it is a label: what it is worth is what the hold of that sum in a sandbox is worth. -/
noncomputable def Tryz.pinned : Pinned := { name := "ytabecknjhcjpfaagreatdoor", sum := "0f94152cd2679037f5e7b3eb7b156f07f47ad8bb366daaf059b66d47764d2096", checked := Tryz.checked }
namespace Rows
def none {H : Type} : Left H := { results := [], args := [] }

/- WHAT THE LISTED PACKAGE-LEVEL VARIABLES READ AS WHEN THE CALL BEGINS. Each datum BY PROGRAM (the guide's laid-datum.mjs) off the statement by which the dump's own 'gosem.cut.vars' lays the variable. In a bare row this is a premise. The card (YtabecknjhcjpfaaGreatDoorCards.lean) ties it to the program's text. -/
def laid_math_bits_deBruijn32tab {H : Type} : DataW H := .agg [.lit (.int .u8 0), .lit (.int .u8 1), .lit (.int .u8 28), .lit (.int .u8 2), .lit (.int .u8 29), .lit (.int .u8 14), .lit (.int .u8 24), .lit (.int .u8 3), .lit (.int .u8 30), .lit (.int .u8 22), .lit (.int .u8 20), .lit (.int .u8 15), .lit (.int .u8 25), .lit (.int .u8 17), .lit (.int .u8 4), .lit (.int .u8 8), .lit (.int .u8 31), .lit (.int .u8 27), .lit (.int .u8 13), .lit (.int .u8 23), .lit (.int .u8 21), .lit (.int .u8 19), .lit (.int .u8 16), .lit (.int .u8 7), .lit (.int .u8 26), .lit (.int .u8 12), .lit (.int .u8 18), .lit (.int .u8 6), .lit (.int .u8 11), .lit (.int .u8 5), .lit (.int .u8 10), .lit (.int .u8 9)]
def laid_math_bits_deBruijn64tab {H : Type} : DataW H := .agg [.lit (.int .u8 0), .lit (.int .u8 1), .lit (.int .u8 56), .lit (.int .u8 2), .lit (.int .u8 57), .lit (.int .u8 49), .lit (.int .u8 28), .lit (.int .u8 3), .lit (.int .u8 61), .lit (.int .u8 58), .lit (.int .u8 42), .lit (.int .u8 50), .lit (.int .u8 38), .lit (.int .u8 29), .lit (.int .u8 17), .lit (.int .u8 4), .lit (.int .u8 62), .lit (.int .u8 47), .lit (.int .u8 59), .lit (.int .u8 36), .lit (.int .u8 45), .lit (.int .u8 43), .lit (.int .u8 51), .lit (.int .u8 22), .lit (.int .u8 53), .lit (.int .u8 39), .lit (.int .u8 33), .lit (.int .u8 30), .lit (.int .u8 24), .lit (.int .u8 18), .lit (.int .u8 12), .lit (.int .u8 5), .lit (.int .u8 63), .lit (.int .u8 55), .lit (.int .u8 48), .lit (.int .u8 27), .lit (.int .u8 60), .lit (.int .u8 41), .lit (.int .u8 37), .lit (.int .u8 16), .lit (.int .u8 46), .lit (.int .u8 35), .lit (.int .u8 44), .lit (.int .u8 21), .lit (.int .u8 52), .lit (.int .u8 32), .lit (.int .u8 23), .lit (.int .u8 11), .lit (.int .u8 54), .lit (.int .u8 26), .lit (.int .u8 40), .lit (.int .u8 15), .lit (.int .u8 34), .lit (.int .u8 20), .lit (.int .u8 31), .lit (.int .u8 10), .lit (.int .u8 25), .lit (.int .u8 14), .lit (.int .u8 19), .lit (.int .u8 9), .lit (.int .u8 13), .lit (.int .u8 8), .lit (.int .u8 7), .lit (.int .u8 6)]
def laid_internal_strconv_uint64pow10 {H : Type} : DataW H := .agg [.lit (.int .u64 1), .lit (.int .u64 10), .lit (.int .u64 100), .lit (.int .u64 1000), .lit (.int .u64 10000), .lit (.int .u64 100000), .lit (.int .u64 1000000), .lit (.int .u64 10000000), .lit (.int .u64 100000000), .lit (.int .u64 1000000000), .lit (.int .u64 10000000000), .lit (.int .u64 100000000000), .lit (.int .u64 1000000000000), .lit (.int .u64 10000000000000), .lit (.int .u64 100000000000000), .lit (.int .u64 1000000000000000), .lit (.int .u64 10000000000000000), .lit (.int .u64 100000000000000000), .lit (.int .u64 1000000000000000000), .lit (.int .u64 10000000000000000000)]
def laid_strconv_ErrRange {H : Type} : DataW H := .iface "*errors.errorString" (.ptr (.agg [.lit (.string [118, 97, 108, 117, 101, 32, 111, 117, 116, 32, 111, 102, 32, 114, 97, 110, 103, 101])]))
def laid_strconv_ErrSyntax {H : Type} : DataW H := .iface "*errors.errorString" (.ptr (.agg [.lit (.string [105, 110, 118, 97, 108, 105, 100, 32, 115, 121, 110, 116, 97, 120])]))

/-- 'laws.FnExactStateOk': WHATEVER THE INPUT: true; the input reads as it did. -/
def fnExactStateOkSpec : ChangeSpec := { name := "fnExactStateOk", fn := fun _ => fun
  | [d] => { results := [.lit (.bool true)], args := [d] }
  | _ => none }
def fnExactStateOkRow : OpenClaim := { program := "ytabecknjhcjpfaagreatdoor", sum := "0f94152cd2679037f5e7b3eb7b156f07f47ad8bb366daaf059b66d47764d2096", func := "loop.example/g00407/laws.FnExactStateOk", spec := "fnExactStateOk", inPlace := ["internal/bytealg.IndexByte", "internal/bytealg.Index", "internal/bytealg.Compare"], unfollowed := true, recurses := true, named := ["internal/bytealg.MaxLen", "strconv.ErrSyntax", "strconv.ErrRange", "internal/strconv.uint64pow10", "math/bits.deBruijn32tab", "math/bits.deBruijn64tab"], loops := true, apart := false, laid := [("math/bits.deBruijn32tab", laid_math_bits_deBruijn32tab), ("math/bits.deBruijn64tab", laid_math_bits_deBruijn64tab), ("internal/strconv.uint64pow10", laid_internal_strconv_uint64pow10), ("strconv.ErrRange", laid_strconv_ErrRange), ("strconv.ErrSyntax", laid_strconv_ErrSyntax)] }
def FnExactStateOkSaid : Prop := fnExactStateOkRow.holds Tryz.pinned (OpenSpec.ofChange fnExactStateOkSpec)

/-- ITS FALSE NEIGHBOUR: 'it returns false'. Refute it at one input. -/
def fnExactStateOkWrong : ChangeSpec := { name := "fnExactStateOk", fn := fun _ => fun
  | [d] => { results := [.lit (.bool false)], args := [d] }
  | _ => none }
def FnExactStateOkWrongFalsely : Prop := fnExactStateOkRow.holds Tryz.pinned (OpenSpec.ofChange fnExactStateOkWrong)

/-- 'laws.FnExactTainted': WHATEVER THE INPUT: true; the input reads as it did. -/
def fnExactTaintedSpec : ChangeSpec := { name := "fnExactTainted", fn := fun _ => fun
  | [d] => { results := [.lit (.bool true)], args := [d] }
  | _ => none }
def fnExactTaintedRow : OpenClaim := { program := "ytabecknjhcjpfaagreatdoor", sum := "0f94152cd2679037f5e7b3eb7b156f07f47ad8bb366daaf059b66d47764d2096", func := "loop.example/g00407/laws.FnExactTainted", spec := "fnExactTainted", inPlace := ["internal/bytealg.IndexByte", "internal/bytealg.Index", "internal/bytealg.Compare"], unfollowed := true, recurses := true, named := ["internal/bytealg.MaxLen", "strconv.ErrSyntax", "strconv.ErrRange", "internal/strconv.uint64pow10", "math/bits.deBruijn32tab", "math/bits.deBruijn64tab"], loops := true, apart := false, laid := [("math/bits.deBruijn32tab", laid_math_bits_deBruijn32tab), ("math/bits.deBruijn64tab", laid_math_bits_deBruijn64tab), ("internal/strconv.uint64pow10", laid_internal_strconv_uint64pow10), ("strconv.ErrRange", laid_strconv_ErrRange), ("strconv.ErrSyntax", laid_strconv_ErrSyntax)] }
def FnExactTaintedSaid : Prop := fnExactTaintedRow.holds Tryz.pinned (OpenSpec.ofChange fnExactTaintedSpec)

/-- ITS FALSE NEIGHBOUR: 'it returns false'. Refute it at one input. -/
def fnExactTaintedWrong : ChangeSpec := { name := "fnExactTainted", fn := fun _ => fun
  | [d] => { results := [.lit (.bool false)], args := [d] }
  | _ => none }
def FnExactTaintedWrongFalsely : Prop := fnExactTaintedRow.holds Tryz.pinned (OpenSpec.ofChange fnExactTaintedWrong)

/-- 'laws.FnExactNeeds': WHATEVER THE INPUT: true; the input reads as it did. -/
def fnExactNeedsSpec : ChangeSpec := { name := "fnExactNeeds", fn := fun _ => fun
  | [d1, d2] => { results := [.lit (.bool true)], args := [d1, d2] }
  | _ => none }
def fnExactNeedsRow : OpenClaim := { program := "ytabecknjhcjpfaagreatdoor", sum := "0f94152cd2679037f5e7b3eb7b156f07f47ad8bb366daaf059b66d47764d2096", func := "loop.example/g00407/laws.FnExactNeeds", spec := "fnExactNeeds", inPlace := ["internal/bytealg.IndexByte", "internal/bytealg.Index", "internal/bytealg.Compare"], unfollowed := true, recurses := true, named := ["internal/bytealg.MaxLen", "strconv.ErrSyntax", "strconv.ErrRange", "internal/strconv.uint64pow10", "math/bits.deBruijn32tab", "math/bits.deBruijn64tab"], loops := true, apart := false, laid := [("math/bits.deBruijn32tab", laid_math_bits_deBruijn32tab), ("math/bits.deBruijn64tab", laid_math_bits_deBruijn64tab), ("internal/strconv.uint64pow10", laid_internal_strconv_uint64pow10), ("strconv.ErrRange", laid_strconv_ErrRange), ("strconv.ErrSyntax", laid_strconv_ErrSyntax)] }
def FnExactNeedsSaid : Prop := fnExactNeedsRow.holds Tryz.pinned (OpenSpec.ofChange fnExactNeedsSpec)

/-- ITS FALSE NEIGHBOUR: 'it returns false'. Refute it at one input. -/
def fnExactNeedsWrong : ChangeSpec := { name := "fnExactNeeds", fn := fun _ => fun
  | [d1, d2] => { results := [.lit (.bool false)], args := [d1, d2] }
  | _ => none }
def FnExactNeedsWrongFalsely : Prop := fnExactNeedsRow.holds Tryz.pinned (OpenSpec.ofChange fnExactNeedsWrong)

/-- 'laws.FnExactEntryOf': WHATEVER THE INPUT: true; the input reads as it did. -/
def fnExactEntryOfSpec : ChangeSpec := { name := "fnExactEntryOf", fn := fun _ => fun
  | [d1, d2] => { results := [.lit (.bool true)], args := [d1, d2] }
  | _ => none }
def fnExactEntryOfRow : OpenClaim := { program := "ytabecknjhcjpfaagreatdoor", sum := "0f94152cd2679037f5e7b3eb7b156f07f47ad8bb366daaf059b66d47764d2096", func := "loop.example/g00407/laws.FnExactEntryOf", spec := "fnExactEntryOf", inPlace := ["internal/bytealg.Compare", "internal/bytealg.IndexByte", "internal/bytealg.Index"], unfollowed := true, recurses := true, named := ["internal/bytealg.MaxLen", "strconv.ErrSyntax", "strconv.ErrRange", "internal/strconv.uint64pow10", "math/bits.deBruijn32tab", "math/bits.deBruijn64tab"], loops := true, apart := false, laid := [("math/bits.deBruijn32tab", laid_math_bits_deBruijn32tab), ("math/bits.deBruijn64tab", laid_math_bits_deBruijn64tab), ("internal/strconv.uint64pow10", laid_internal_strconv_uint64pow10), ("strconv.ErrRange", laid_strconv_ErrRange), ("strconv.ErrSyntax", laid_strconv_ErrSyntax)] }
def FnExactEntryOfSaid : Prop := fnExactEntryOfRow.holds Tryz.pinned (OpenSpec.ofChange fnExactEntryOfSpec)

/-- ITS FALSE NEIGHBOUR: 'it returns false'. Refute it at one input. -/
def fnExactEntryOfWrong : ChangeSpec := { name := "fnExactEntryOf", fn := fun _ => fun
  | [d1, d2] => { results := [.lit (.bool false)], args := [d1, d2] }
  | _ => none }
def FnExactEntryOfWrongFalsely : Prop := fnExactEntryOfRow.holds Tryz.pinned (OpenSpec.ofChange fnExactEntryOfWrong)

/-- 'laws.FnExactEventBytes': WHATEVER THE INPUT: true; the input reads as it did. -/
def fnExactEventBytesSpec : ChangeSpec := { name := "fnExactEventBytes", fn := fun _ => fun
  | [d] => { results := [.lit (.bool true)], args := [d] }
  | _ => none }
def fnExactEventBytesRow : OpenClaim := { program := "ytabecknjhcjpfaagreatdoor", sum := "0f94152cd2679037f5e7b3eb7b156f07f47ad8bb366daaf059b66d47764d2096", func := "loop.example/g00407/laws.FnExactEventBytes", spec := "fnExactEventBytes", inPlace := ["internal/bytealg.IndexByte", "internal/bytealg.Index", "internal/bytealg.Compare"], unfollowed := true, recurses := true, named := ["internal/bytealg.MaxLen", "strconv.ErrSyntax", "strconv.ErrRange", "internal/strconv.uint64pow10", "math/bits.deBruijn32tab", "math/bits.deBruijn64tab"], loops := true, apart := false, laid := [("math/bits.deBruijn32tab", laid_math_bits_deBruijn32tab), ("math/bits.deBruijn64tab", laid_math_bits_deBruijn64tab), ("internal/strconv.uint64pow10", laid_internal_strconv_uint64pow10), ("strconv.ErrRange", laid_strconv_ErrRange), ("strconv.ErrSyntax", laid_strconv_ErrSyntax)] }
def FnExactEventBytesSaid : Prop := fnExactEventBytesRow.holds Tryz.pinned (OpenSpec.ofChange fnExactEventBytesSpec)

/-- ITS FALSE NEIGHBOUR: 'it returns false'. Refute it at one input. -/
def fnExactEventBytesWrong : ChangeSpec := { name := "fnExactEventBytes", fn := fun _ => fun
  | [d] => { results := [.lit (.bool false)], args := [d] }
  | _ => none }
def FnExactEventBytesWrongFalsely : Prop := fnExactEventBytesRow.holds Tryz.pinned (OpenSpec.ofChange fnExactEventBytesWrong)

/-- 'laws.FnExactDo': WHATEVER THE INPUT: true; the input reads as it did. -/
def fnExactDoSpec : ChangeSpec := { name := "fnExactDo", fn := fun _ => fun
  | [d1, d2] => { results := [.lit (.bool true)], args := [d1, d2] }
  | _ => none }
def fnExactDoRow : OpenClaim := { program := "ytabecknjhcjpfaagreatdoor", sum := "0f94152cd2679037f5e7b3eb7b156f07f47ad8bb366daaf059b66d47764d2096", func := "loop.example/g00407/laws.FnExactDo", spec := "fnExactDo", inPlace := ["internal/bytealg.IndexByte", "internal/bytealg.Index", "internal/bytealg.Compare", "slices.overlaps[loop.example/g00407/impl.Entry]"], unfollowed := true, recurses := true, named := ["internal/bytealg.MaxLen", "strconv.ErrSyntax", "strconv.ErrRange", "internal/strconv.uint64pow10", "math/bits.deBruijn32tab", "math/bits.deBruijn64tab"], loops := true, apart := false, laid := [("math/bits.deBruijn32tab", laid_math_bits_deBruijn32tab), ("math/bits.deBruijn64tab", laid_math_bits_deBruijn64tab), ("internal/strconv.uint64pow10", laid_internal_strconv_uint64pow10), ("strconv.ErrRange", laid_strconv_ErrRange), ("strconv.ErrSyntax", laid_strconv_ErrSyntax)] }
def FnExactDoSaid : Prop := fnExactDoRow.holds Tryz.pinned (OpenSpec.ofChange fnExactDoSpec)

/-- ITS FALSE NEIGHBOUR: 'it returns false'. Refute it at one input. -/
def fnExactDoWrong : ChangeSpec := { name := "fnExactDo", fn := fun _ => fun
  | [d1, d2] => { results := [.lit (.bool false)], args := [d1, d2] }
  | _ => none }
def FnExactDoWrongFalsely : Prop := fnExactDoRow.holds Tryz.pinned (OpenSpec.ofChange fnExactDoWrong)

/-- 'laws.FnExactDiffer': WHATEVER THE INPUT: true; the input reads as it did. -/
def fnExactDifferSpec : ChangeSpec := { name := "fnExactDiffer", fn := fun _ => fun
  | [d1, d2] => { results := [.lit (.bool true)], args := [d1, d2] }
  | _ => none }
def fnExactDifferRow : OpenClaim := { program := "ytabecknjhcjpfaagreatdoor", sum := "0f94152cd2679037f5e7b3eb7b156f07f47ad8bb366daaf059b66d47764d2096", func := "loop.example/g00407/laws.FnExactDiffer", spec := "fnExactDiffer", inPlace := ["internal/bytealg.IndexByte", "internal/bytealg.Index", "internal/bytealg.Compare"], unfollowed := true, recurses := true, named := ["internal/bytealg.MaxLen", "strconv.ErrSyntax", "strconv.ErrRange", "internal/strconv.uint64pow10", "math/bits.deBruijn32tab", "math/bits.deBruijn64tab"], loops := true, apart := false, laid := [("math/bits.deBruijn32tab", laid_math_bits_deBruijn32tab), ("math/bits.deBruijn64tab", laid_math_bits_deBruijn64tab), ("internal/strconv.uint64pow10", laid_internal_strconv_uint64pow10), ("strconv.ErrRange", laid_strconv_ErrRange), ("strconv.ErrSyntax", laid_strconv_ErrSyntax)] }
def FnExactDifferSaid : Prop := fnExactDifferRow.holds Tryz.pinned (OpenSpec.ofChange fnExactDifferSpec)

/-- ITS FALSE NEIGHBOUR: 'it returns false'. Refute it at one input. -/
def fnExactDifferWrong : ChangeSpec := { name := "fnExactDiffer", fn := fun _ => fun
  | [d1, d2] => { results := [.lit (.bool false)], args := [d1, d2] }
  | _ => none }
def FnExactDifferWrongFalsely : Prop := fnExactDifferRow.holds Tryz.pinned (OpenSpec.ofChange fnExactDifferWrong)

/-- 'laws.FnExactHistOk': WHATEVER THE INPUT: true; the input reads as it did. -/
def fnExactHistOkSpec : ChangeSpec := { name := "fnExactHistOk", fn := fun _ => fun
  | [d] => { results := [.lit (.bool true)], args := [d] }
  | _ => none }
def fnExactHistOkRow : OpenClaim := { program := "ytabecknjhcjpfaagreatdoor", sum := "0f94152cd2679037f5e7b3eb7b156f07f47ad8bb366daaf059b66d47764d2096", func := "loop.example/g00407/laws.FnExactHistOk", spec := "fnExactHistOk", inPlace := ["internal/bytealg.IndexByte", "internal/bytealg.Index", "internal/bytealg.Compare", "slices.overlaps[loop.example/g00407/impl.Entry]"], unfollowed := true, recurses := true, named := ["internal/bytealg.MaxLen", "strconv.ErrSyntax", "strconv.ErrRange", "internal/strconv.uint64pow10", "math/bits.deBruijn32tab", "math/bits.deBruijn64tab"], loops := true, apart := false, laid := [("math/bits.deBruijn32tab", laid_math_bits_deBruijn32tab), ("math/bits.deBruijn64tab", laid_math_bits_deBruijn64tab), ("internal/strconv.uint64pow10", laid_internal_strconv_uint64pow10), ("strconv.ErrRange", laid_strconv_ErrRange), ("strconv.ErrSyntax", laid_strconv_ErrSyntax)] }
def FnExactHistOkSaid : Prop := fnExactHistOkRow.holds Tryz.pinned (OpenSpec.ofChange fnExactHistOkSpec)

/-- ITS FALSE NEIGHBOUR: 'it returns false'. Refute it at one input. -/
def fnExactHistOkWrong : ChangeSpec := { name := "fnExactHistOk", fn := fun _ => fun
  | [d] => { results := [.lit (.bool false)], args := [d] }
  | _ => none }
def FnExactHistOkWrongFalsely : Prop := fnExactHistOkRow.holds Tryz.pinned (OpenSpec.ofChange fnExactHistOkWrong)

/-- 'laws.FnExactHistHead': WHATEVER THE INPUT: true; the input reads as it did. -/
def fnExactHistHeadSpec : ChangeSpec := { name := "fnExactHistHead", fn := fun _ => fun
  | [d] => { results := [.lit (.bool true)], args := [d] }
  | _ => none }
def fnExactHistHeadRow : OpenClaim := { program := "ytabecknjhcjpfaagreatdoor", sum := "0f94152cd2679037f5e7b3eb7b156f07f47ad8bb366daaf059b66d47764d2096", func := "loop.example/g00407/laws.FnExactHistHead", spec := "fnExactHistHead", inPlace := ["internal/bytealg.IndexByte", "internal/bytealg.Index", "internal/bytealg.Compare", "slices.overlaps[loop.example/g00407/impl.Entry]"], unfollowed := true, recurses := true, named := ["internal/bytealg.MaxLen", "strconv.ErrSyntax", "strconv.ErrRange", "internal/strconv.uint64pow10", "math/bits.deBruijn32tab", "math/bits.deBruijn64tab"], loops := true, apart := false, laid := [("math/bits.deBruijn32tab", laid_math_bits_deBruijn32tab), ("math/bits.deBruijn64tab", laid_math_bits_deBruijn64tab), ("internal/strconv.uint64pow10", laid_internal_strconv_uint64pow10), ("strconv.ErrRange", laid_strconv_ErrRange), ("strconv.ErrSyntax", laid_strconv_ErrSyntax)] }
def FnExactHistHeadSaid : Prop := fnExactHistHeadRow.holds Tryz.pinned (OpenSpec.ofChange fnExactHistHeadSpec)

/-- ITS FALSE NEIGHBOUR: 'it returns false'. Refute it at one input. -/
def fnExactHistHeadWrong : ChangeSpec := { name := "fnExactHistHead", fn := fun _ => fun
  | [d] => { results := [.lit (.bool false)], args := [d] }
  | _ => none }
def FnExactHistHeadWrongFalsely : Prop := fnExactHistHeadRow.holds Tryz.pinned (OpenSpec.ofChange fnExactHistHeadWrong)

/-- 'laws.FnExactTouches': WHATEVER THE INPUT: true; the input reads as it did. -/
def fnExactTouchesSpec : ChangeSpec := { name := "fnExactTouches", fn := fun _ => fun
  | [d1, d2] => { results := [.lit (.bool true)], args := [d1, d2] }
  | _ => none }
def fnExactTouchesRow : OpenClaim := { program := "ytabecknjhcjpfaagreatdoor", sum := "0f94152cd2679037f5e7b3eb7b156f07f47ad8bb366daaf059b66d47764d2096", func := "loop.example/g00407/laws.FnExactTouches", spec := "fnExactTouches", inPlace := ["internal/bytealg.IndexByte", "internal/bytealg.Index", "internal/bytealg.Compare", "slices.overlaps[loop.example/g00407/impl.Entry]"], unfollowed := true, recurses := true, named := ["internal/bytealg.MaxLen", "strconv.ErrSyntax", "strconv.ErrRange", "internal/strconv.uint64pow10", "math/bits.deBruijn32tab", "math/bits.deBruijn64tab"], loops := true, apart := false, laid := [("math/bits.deBruijn32tab", laid_math_bits_deBruijn32tab), ("math/bits.deBruijn64tab", laid_math_bits_deBruijn64tab), ("internal/strconv.uint64pow10", laid_internal_strconv_uint64pow10), ("strconv.ErrRange", laid_strconv_ErrRange), ("strconv.ErrSyntax", laid_strconv_ErrSyntax)] }
def FnExactTouchesSaid : Prop := fnExactTouchesRow.holds Tryz.pinned (OpenSpec.ofChange fnExactTouchesSpec)

/-- ITS FALSE NEIGHBOUR: 'it returns false'. Refute it at one input. -/
def fnExactTouchesWrong : ChangeSpec := { name := "fnExactTouches", fn := fun _ => fun
  | [d1, d2] => { results := [.lit (.bool false)], args := [d1, d2] }
  | _ => none }
def FnExactTouchesWrongFalsely : Prop := fnExactTouchesRow.holds Tryz.pinned (OpenSpec.ofChange fnExactTouchesWrong)

/- THE SECOND FORM. 'bulk': how many values and letters a reading holds, each counted each time it is reached (what is shared counts as often as it is met; a slice's spare places count too). A statement '..UptoSaid' is the law's where the arguments, and the package variables that the reading takes, are together of bulk at most 1048576: NARROWER than '..Said'. Prove '..Said' where nothing that the law and all that it calls make is longer than what came in: it says more and counts as full. Else prove '..UptoSaid'. A law counts once. -/
mutual
def uptoBulk {H : Type} : DataW H → Nat
  | .lit (.string bytes) => bytes.length + 1
  | .lit _ => 1
  | .nil => 1
  | .ptr d => uptoBulk d + 1
  | .slice elems spare => uptoBulkAll elems + uptoBulkAll spare + 1
  | .agg parts => uptoBulkAll parts + 1
  | .iface _ d => uptoBulk d + 1
  | .map entries => uptoBulkEntries entries + 1
  | .held _ => 1
def uptoBulkAll {H : Type} : List (DataW H) → Nat
  | [] => 0
  | d :: r => uptoBulk d + uptoBulkAll r
def uptoBulkEntries {H : Type} : List (Lit × DataW H) → Nat
  | [] => 0
  | x :: r => uptoBulkEntry x + uptoBulkEntries r
def uptoBulkEntry {H : Type} : Lit × DataW H → Nat
  | (.string bytes, d) => bytes.length + uptoBulk d + 1
  | (_, d) => uptoBulk d + 1
 end
def uptoSmall : (H : Type) → List (DataW H) → Bool := fun _ ds => decide (uptoBulkAll ds ≤ 1048576)
def OpenSpec.upto (s : _root_.Go.ChangeSpec) : _root_.Go.OpenSpec := { _root_.Go.OpenSpec.ofChange s with cond := some uptoSmall }

/-- 'laws.FnExactStateOk', WHERE WHAT IT READS IS OF BULK AT MOST 1048576: true; the input reads as it did. -/
def fnExactStateOkUptoRow : OpenClaim := { program := "ytabecknjhcjpfaagreatdoor", sum := "0f94152cd2679037f5e7b3eb7b156f07f47ad8bb366daaf059b66d47764d2096", func := "loop.example/g00407/laws.FnExactStateOk", spec := "fnExactStateOk", inPlace := ["internal/bytealg.IndexByte", "internal/bytealg.Index", "internal/bytealg.Compare"], unfollowed := true, recurses := true, named := ["internal/bytealg.MaxLen", "strconv.ErrSyntax", "strconv.ErrRange", "internal/strconv.uint64pow10", "math/bits.deBruijn32tab", "math/bits.deBruijn64tab"], loops := true, apart := false, laid := [("math/bits.deBruijn32tab", laid_math_bits_deBruijn32tab), ("math/bits.deBruijn64tab", laid_math_bits_deBruijn64tab), ("internal/strconv.uint64pow10", laid_internal_strconv_uint64pow10), ("strconv.ErrRange", laid_strconv_ErrRange), ("strconv.ErrSyntax", laid_strconv_ErrSyntax)], narrowed := true }
def FnExactStateOkUptoSaid : Prop := fnExactStateOkUptoRow.holds Tryz.pinned (OpenSpec.upto fnExactStateOkSpec)

/-- 'laws.FnExactTainted', WHERE WHAT IT READS IS OF BULK AT MOST 1048576: true; the input reads as it did. -/
def fnExactTaintedUptoRow : OpenClaim := { program := "ytabecknjhcjpfaagreatdoor", sum := "0f94152cd2679037f5e7b3eb7b156f07f47ad8bb366daaf059b66d47764d2096", func := "loop.example/g00407/laws.FnExactTainted", spec := "fnExactTainted", inPlace := ["internal/bytealg.IndexByte", "internal/bytealg.Index", "internal/bytealg.Compare"], unfollowed := true, recurses := true, named := ["internal/bytealg.MaxLen", "strconv.ErrSyntax", "strconv.ErrRange", "internal/strconv.uint64pow10", "math/bits.deBruijn32tab", "math/bits.deBruijn64tab"], loops := true, apart := false, laid := [("math/bits.deBruijn32tab", laid_math_bits_deBruijn32tab), ("math/bits.deBruijn64tab", laid_math_bits_deBruijn64tab), ("internal/strconv.uint64pow10", laid_internal_strconv_uint64pow10), ("strconv.ErrRange", laid_strconv_ErrRange), ("strconv.ErrSyntax", laid_strconv_ErrSyntax)], narrowed := true }
def FnExactTaintedUptoSaid : Prop := fnExactTaintedUptoRow.holds Tryz.pinned (OpenSpec.upto fnExactTaintedSpec)

/-- 'laws.FnExactNeeds', WHERE WHAT IT READS IS OF BULK AT MOST 1048576: true; the input reads as it did. -/
def fnExactNeedsUptoRow : OpenClaim := { program := "ytabecknjhcjpfaagreatdoor", sum := "0f94152cd2679037f5e7b3eb7b156f07f47ad8bb366daaf059b66d47764d2096", func := "loop.example/g00407/laws.FnExactNeeds", spec := "fnExactNeeds", inPlace := ["internal/bytealg.IndexByte", "internal/bytealg.Index", "internal/bytealg.Compare"], unfollowed := true, recurses := true, named := ["internal/bytealg.MaxLen", "strconv.ErrSyntax", "strconv.ErrRange", "internal/strconv.uint64pow10", "math/bits.deBruijn32tab", "math/bits.deBruijn64tab"], loops := true, apart := false, laid := [("math/bits.deBruijn32tab", laid_math_bits_deBruijn32tab), ("math/bits.deBruijn64tab", laid_math_bits_deBruijn64tab), ("internal/strconv.uint64pow10", laid_internal_strconv_uint64pow10), ("strconv.ErrRange", laid_strconv_ErrRange), ("strconv.ErrSyntax", laid_strconv_ErrSyntax)], narrowed := true }
def FnExactNeedsUptoSaid : Prop := fnExactNeedsUptoRow.holds Tryz.pinned (OpenSpec.upto fnExactNeedsSpec)

/-- 'laws.FnExactEntryOf', WHERE WHAT IT READS IS OF BULK AT MOST 1048576: true; the input reads as it did. -/
def fnExactEntryOfUptoRow : OpenClaim := { program := "ytabecknjhcjpfaagreatdoor", sum := "0f94152cd2679037f5e7b3eb7b156f07f47ad8bb366daaf059b66d47764d2096", func := "loop.example/g00407/laws.FnExactEntryOf", spec := "fnExactEntryOf", inPlace := ["internal/bytealg.Compare", "internal/bytealg.IndexByte", "internal/bytealg.Index"], unfollowed := true, recurses := true, named := ["internal/bytealg.MaxLen", "strconv.ErrSyntax", "strconv.ErrRange", "internal/strconv.uint64pow10", "math/bits.deBruijn32tab", "math/bits.deBruijn64tab"], loops := true, apart := false, laid := [("math/bits.deBruijn32tab", laid_math_bits_deBruijn32tab), ("math/bits.deBruijn64tab", laid_math_bits_deBruijn64tab), ("internal/strconv.uint64pow10", laid_internal_strconv_uint64pow10), ("strconv.ErrRange", laid_strconv_ErrRange), ("strconv.ErrSyntax", laid_strconv_ErrSyntax)], narrowed := true }
def FnExactEntryOfUptoSaid : Prop := fnExactEntryOfUptoRow.holds Tryz.pinned (OpenSpec.upto fnExactEntryOfSpec)

/-- 'laws.FnExactEventBytes', WHERE WHAT IT READS IS OF BULK AT MOST 1048576: true; the input reads as it did. -/
def fnExactEventBytesUptoRow : OpenClaim := { program := "ytabecknjhcjpfaagreatdoor", sum := "0f94152cd2679037f5e7b3eb7b156f07f47ad8bb366daaf059b66d47764d2096", func := "loop.example/g00407/laws.FnExactEventBytes", spec := "fnExactEventBytes", inPlace := ["internal/bytealg.IndexByte", "internal/bytealg.Index", "internal/bytealg.Compare"], unfollowed := true, recurses := true, named := ["internal/bytealg.MaxLen", "strconv.ErrSyntax", "strconv.ErrRange", "internal/strconv.uint64pow10", "math/bits.deBruijn32tab", "math/bits.deBruijn64tab"], loops := true, apart := false, laid := [("math/bits.deBruijn32tab", laid_math_bits_deBruijn32tab), ("math/bits.deBruijn64tab", laid_math_bits_deBruijn64tab), ("internal/strconv.uint64pow10", laid_internal_strconv_uint64pow10), ("strconv.ErrRange", laid_strconv_ErrRange), ("strconv.ErrSyntax", laid_strconv_ErrSyntax)], narrowed := true }
def FnExactEventBytesUptoSaid : Prop := fnExactEventBytesUptoRow.holds Tryz.pinned (OpenSpec.upto fnExactEventBytesSpec)

/-- 'laws.FnExactDo', WHERE WHAT IT READS IS OF BULK AT MOST 1048576: true; the input reads as it did. -/
def fnExactDoUptoRow : OpenClaim := { program := "ytabecknjhcjpfaagreatdoor", sum := "0f94152cd2679037f5e7b3eb7b156f07f47ad8bb366daaf059b66d47764d2096", func := "loop.example/g00407/laws.FnExactDo", spec := "fnExactDo", inPlace := ["internal/bytealg.IndexByte", "internal/bytealg.Index", "internal/bytealg.Compare", "slices.overlaps[loop.example/g00407/impl.Entry]"], unfollowed := true, recurses := true, named := ["internal/bytealg.MaxLen", "strconv.ErrSyntax", "strconv.ErrRange", "internal/strconv.uint64pow10", "math/bits.deBruijn32tab", "math/bits.deBruijn64tab"], loops := true, apart := false, laid := [("math/bits.deBruijn32tab", laid_math_bits_deBruijn32tab), ("math/bits.deBruijn64tab", laid_math_bits_deBruijn64tab), ("internal/strconv.uint64pow10", laid_internal_strconv_uint64pow10), ("strconv.ErrRange", laid_strconv_ErrRange), ("strconv.ErrSyntax", laid_strconv_ErrSyntax)], narrowed := true }
def FnExactDoUptoSaid : Prop := fnExactDoUptoRow.holds Tryz.pinned (OpenSpec.upto fnExactDoSpec)

/-- 'laws.FnExactDiffer', WHERE WHAT IT READS IS OF BULK AT MOST 1048576: true; the input reads as it did. -/
def fnExactDifferUptoRow : OpenClaim := { program := "ytabecknjhcjpfaagreatdoor", sum := "0f94152cd2679037f5e7b3eb7b156f07f47ad8bb366daaf059b66d47764d2096", func := "loop.example/g00407/laws.FnExactDiffer", spec := "fnExactDiffer", inPlace := ["internal/bytealg.IndexByte", "internal/bytealg.Index", "internal/bytealg.Compare"], unfollowed := true, recurses := true, named := ["internal/bytealg.MaxLen", "strconv.ErrSyntax", "strconv.ErrRange", "internal/strconv.uint64pow10", "math/bits.deBruijn32tab", "math/bits.deBruijn64tab"], loops := true, apart := false, laid := [("math/bits.deBruijn32tab", laid_math_bits_deBruijn32tab), ("math/bits.deBruijn64tab", laid_math_bits_deBruijn64tab), ("internal/strconv.uint64pow10", laid_internal_strconv_uint64pow10), ("strconv.ErrRange", laid_strconv_ErrRange), ("strconv.ErrSyntax", laid_strconv_ErrSyntax)], narrowed := true }
def FnExactDifferUptoSaid : Prop := fnExactDifferUptoRow.holds Tryz.pinned (OpenSpec.upto fnExactDifferSpec)

/-- 'laws.FnExactHistOk', WHERE WHAT IT READS IS OF BULK AT MOST 1048576: true; the input reads as it did. -/
def fnExactHistOkUptoRow : OpenClaim := { program := "ytabecknjhcjpfaagreatdoor", sum := "0f94152cd2679037f5e7b3eb7b156f07f47ad8bb366daaf059b66d47764d2096", func := "loop.example/g00407/laws.FnExactHistOk", spec := "fnExactHistOk", inPlace := ["internal/bytealg.IndexByte", "internal/bytealg.Index", "internal/bytealg.Compare", "slices.overlaps[loop.example/g00407/impl.Entry]"], unfollowed := true, recurses := true, named := ["internal/bytealg.MaxLen", "strconv.ErrSyntax", "strconv.ErrRange", "internal/strconv.uint64pow10", "math/bits.deBruijn32tab", "math/bits.deBruijn64tab"], loops := true, apart := false, laid := [("math/bits.deBruijn32tab", laid_math_bits_deBruijn32tab), ("math/bits.deBruijn64tab", laid_math_bits_deBruijn64tab), ("internal/strconv.uint64pow10", laid_internal_strconv_uint64pow10), ("strconv.ErrRange", laid_strconv_ErrRange), ("strconv.ErrSyntax", laid_strconv_ErrSyntax)], narrowed := true }
def FnExactHistOkUptoSaid : Prop := fnExactHistOkUptoRow.holds Tryz.pinned (OpenSpec.upto fnExactHistOkSpec)

/-- 'laws.FnExactHistHead', WHERE WHAT IT READS IS OF BULK AT MOST 1048576: true; the input reads as it did. -/
def fnExactHistHeadUptoRow : OpenClaim := { program := "ytabecknjhcjpfaagreatdoor", sum := "0f94152cd2679037f5e7b3eb7b156f07f47ad8bb366daaf059b66d47764d2096", func := "loop.example/g00407/laws.FnExactHistHead", spec := "fnExactHistHead", inPlace := ["internal/bytealg.IndexByte", "internal/bytealg.Index", "internal/bytealg.Compare", "slices.overlaps[loop.example/g00407/impl.Entry]"], unfollowed := true, recurses := true, named := ["internal/bytealg.MaxLen", "strconv.ErrSyntax", "strconv.ErrRange", "internal/strconv.uint64pow10", "math/bits.deBruijn32tab", "math/bits.deBruijn64tab"], loops := true, apart := false, laid := [("math/bits.deBruijn32tab", laid_math_bits_deBruijn32tab), ("math/bits.deBruijn64tab", laid_math_bits_deBruijn64tab), ("internal/strconv.uint64pow10", laid_internal_strconv_uint64pow10), ("strconv.ErrRange", laid_strconv_ErrRange), ("strconv.ErrSyntax", laid_strconv_ErrSyntax)], narrowed := true }
def FnExactHistHeadUptoSaid : Prop := fnExactHistHeadUptoRow.holds Tryz.pinned (OpenSpec.upto fnExactHistHeadSpec)

/-- 'laws.FnExactTouches', WHERE WHAT IT READS IS OF BULK AT MOST 1048576: true; the input reads as it did. -/
def fnExactTouchesUptoRow : OpenClaim := { program := "ytabecknjhcjpfaagreatdoor", sum := "0f94152cd2679037f5e7b3eb7b156f07f47ad8bb366daaf059b66d47764d2096", func := "loop.example/g00407/laws.FnExactTouches", spec := "fnExactTouches", inPlace := ["internal/bytealg.IndexByte", "internal/bytealg.Index", "internal/bytealg.Compare", "slices.overlaps[loop.example/g00407/impl.Entry]"], unfollowed := true, recurses := true, named := ["internal/bytealg.MaxLen", "strconv.ErrSyntax", "strconv.ErrRange", "internal/strconv.uint64pow10", "math/bits.deBruijn32tab", "math/bits.deBruijn64tab"], loops := true, apart := false, laid := [("math/bits.deBruijn32tab", laid_math_bits_deBruijn32tab), ("math/bits.deBruijn64tab", laid_math_bits_deBruijn64tab), ("internal/strconv.uint64pow10", laid_internal_strconv_uint64pow10), ("strconv.ErrRange", laid_strconv_ErrRange), ("strconv.ErrSyntax", laid_strconv_ErrSyntax)], narrowed := true }
def FnExactTouchesUptoSaid : Prop := fnExactTouchesUptoRow.holds Tryz.pinned (OpenSpec.upto fnExactTouchesSpec)

end Rows
end Go.Proofs.YtabecknjhcjpfaaGreatDoor
