/- The functions of the program in plain Lean, and that the machine answers as they do; conditions at each theorem. -/
import Derived.Shelf.SlGeneric
import Derived.Shelf.SlLaysF
import Derived.Shelf.SlSortCmp.Whole1
import Derived.Shelf.SlSortCmp.NoneTotal
import Derived.Test.YtfbfbebalpnkbaaProg
set_option linter.unusedVariables false
set_option linter.unusedSimpArgs false
set_option linter.unusedVariables false
set_option linter.unusedSimpArgs false
namespace Go.Am
open Go.Proofs Go.Shelf
def XK : Go.Shelf.Ren :=
{
 f := fun x =>
  match x with
  | 6 => 67
  | 15 => 97
  | 14 => 96
  | 28 => 120
  | 29 => 121
  | 20 => 112
  | 21 => 113
  | 22 => 114
  | 23 => 115
  | 24 => 116
  | 25 => 117
  | 26 => 118
  | 27 => 119
  | 46 => 126
  | 47 => 127
  | 48 => 128
  | 49 => 129
  | 50 => 130
  | 57 => 131
  | n => n,
 t := fun x =>
  match x with
  | 22 => 23
  | 24 => 22
  | 25 => 94
  | 3 => 3
  | 39 => 114
  | 0 => 0
  | 53 => 134
  | 55 => 136
  | 4 => 4
  | 46 => 128
  | 45 => 127
  | 50 => 104
  | 5 => 5
  | 9 => 9
  | 66 => 140
  | 70 => 144
  | 76 => 146
  | 77 => 147
  | n => n,
 g := fun n => n }
theorem Mo : SlLaysF.n6 Try.prog XK where
 mixed := by decide
 f6 := ⟨"slices.SortFunc[[][]byte,[]byte]", by decide, Eq.trans Try.func67 (congrArg some (by kernel_rfl))⟩
 f14 := ⟨"slices.pdqsortCmpFunc[[]byte]", by decide, Eq.trans Try.func96 (congrArg some (by kernel_rfl))⟩
 f15 := Eq.trans Try.func97 (congrArg some (by kernel_rfl))
 f20 := ⟨"slices.insertionSortCmpFunc[[]byte]", by decide, Eq.trans Try.func112 (congrArg some (by kernel_rfl))⟩
 f21 := ⟨"slices.heapSortCmpFunc[[]byte]", by decide, Eq.trans Try.func113 (congrArg some (by kernel_rfl))⟩
 f22 := ⟨"slices.breakPatternsCmpFunc[[]byte]", by decide, Eq.trans Try.func114 (congrArg some (by kernel_rfl))⟩
 f23 := ⟨"slices.choosePivotCmpFunc[[]byte]", by decide, Eq.trans Try.func115 (congrArg some (by kernel_rfl))⟩
 f24 := ⟨"slices.reverseRangeCmpFunc[[]byte]", by decide, Eq.trans Try.func116 (congrArg some (by kernel_rfl))⟩
 f25 := ⟨"slices.partialInsertionSortCmpFunc[[]byte]", by decide, Eq.trans Try.func117 (congrArg some (by kernel_rfl))⟩
 f26 := ⟨"slices.partitionEqualCmpFunc[[]byte]", by decide, Eq.trans Try.func118 (congrArg some (by kernel_rfl))⟩
 f27 := ⟨"slices.partitionCmpFunc[[]byte]", by decide, Eq.trans Try.func119 (congrArg some (by kernel_rfl))⟩
 f28 := Eq.trans Try.func120 (congrArg some (by kernel_rfl))
 f29 := Eq.trans Try.func121 (congrArg some (by kernel_rfl))
 f46 := ⟨"slices.siftDownCmpFunc[[]byte]", by decide, Eq.trans Try.func126 (congrArg some (by kernel_rfl))⟩
 f47 := Eq.trans Try.func127 (congrArg some (by kernel_rfl))
 f48 := Eq.trans Try.func128 (congrArg some (by kernel_rfl))
 f49 := ⟨"slices.medianAdjacentCmpFunc[[]byte]", by decide, Eq.trans Try.func129 (congrArg some (by kernel_rfl))⟩
 f50 := ⟨"slices.medianCmpFunc[[]byte]", by decide, Eq.trans Try.func130 (congrArg some (by kernel_rfl))⟩
 f57 := ⟨"slices.order2CmpFunc[[]byte]", by decide, Eq.trans Try.func131 (congrArg some (by kernel_rfl))⟩
 t0 := Try.underlying0
 a0 := Try.isAgg0
 z0 := Try.sizeOf0
 v0 := Try.zeroValue0
 t3 := Try.underlying3
 a3 := Try.isAgg3
 z3 := Try.sizeOf3
 v3 := Try.zeroValue3
 t4 := Try.underlying4
 a4 := Try.isAgg4
 z4 := Try.sizeOf4
 v4 := Try.zeroValue4
 t5 := Try.underlying5
 a5 := Try.isAgg5
 z5 := Try.sizeOf5
 v5 := Try.zeroValue5
 t9 := Try.underlying9
 a9 := Try.isAgg9
 z9 := Try.sizeOf9
 v9 := Try.zeroValue9
 t22 := Try.underlying23
 a22 := Try.isAgg23
 z22 := Try.sizeOf23
 v22 := Try.zeroValue23
 a24 := Try.isAgg22
 z24 := Try.sizeOf22
 t25 := Try.underlying94
 a25 := Try.isAgg94
 z25 := Try.sizeOf94
 v25 := Try.zeroValue94
 t39 := Try.underlying114
 a39 := Try.isAgg114
 z39 := Try.sizeOf114
 v39 := Try.zeroValue114
 t45 := Try.underlying127
 a45 := Try.isAgg127
 z45 := Try.sizeOf127
 v45 := Try.zeroValue127
 t46 := Try.underlying128
 a46 := Try.isAgg128
 z46 := Try.sizeOf128
 v46 := Try.zeroValue128
 t50 := Try.underlying104
 a50 := Try.isAgg104
 z50 := Try.sizeOf104
 v50 := Try.zeroValue104
 t53 := Try.underlying134
 a53 := Try.isAgg134
 z53 := Try.sizeOf134
 v53 := Try.zeroValue134
 t55 := Try.underlying136
 a55 := Try.isAgg136
 z55 := Try.sizeOf136
 v55 := Try.zeroValue136
 t66 := Try.underlying140
 a66 := Try.isAgg140
 z66 := Try.sizeOf140
 v66 := Try.zeroValue140
 t70 := Try.underlying144
 a70 := Try.isAgg144
 z70 := Try.sizeOf144
 v70 := Try.zeroValue144
 t76 := Try.underlying146
 a76 := Try.isAgg146
 z76 := Try.sizeOf146
 v76 := Try.zeroValue146
 t77 := Try.underlying147
 a77 := Try.isAgg147
 z77 := Try.sizeOf147
 v77 := Try.zeroValue147
end Go.Am
