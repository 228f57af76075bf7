/- The functions of the program in plain Lean, and that the machine answers as they do; conditions at each theorem. -/
import Derived.Shelf.SlGeneric
import Derived.Shelf.SlLaysF
import Derived.Shelf.SlSortCmp.Whole1
import Derived.Shelf.SlSortCmp.NoneTotal
import Derived.Test.YtjmhaigcaidloaaGreatDoorProg
set_option linter.unusedVariables false
set_option linter.unusedSimpArgs false
set_option linter.unusedVariables false
set_option linter.unusedSimpArgs false
namespace Go.Am
open Go.Proofs Go.Shelf
def Wq : Go.Shelf.Ren :=
{
 f := fun x =>
  match x with
  | 6 => 120
  | 15 => 165
  | 14 => 164
  | 28 => 192
  | 29 => 193
  | 20 => 184
  | 21 => 185
  | 22 => 186
  | 23 => 187
  | 24 => 188
  | 25 => 189
  | 26 => 190
  | 27 => 191
  | 46 => 207
  | 47 => 208
  | 48 => 209
  | 49 => 210
  | 50 => 211
  | 57 => 226
  | n => n,
 t := fun x =>
  match x with
  | 22 => 26
  | 24 => 22
  | 25 => 140
  | 3 => 3
  | 39 => 171
  | 0 => 0
  | 53 => 195
  | 55 => 197
  | 4 => 4
  | 46 => 189
  | 45 => 188
  | 50 => 84
  | 5 => 5
  | 9 => 9
  | 66 => 201
  | 70 => 205
  | 76 => 220
  | 77 => 221
  | n => n,
 g := fun n => n }
theorem Ny : SlLaysF.n6 Tryz.prog Wq where
 mixed := by decide
 f6 := ⟨"slices.SortFunc[[][]byte,[]byte]", by decide, Eq.trans Tryz.func120 (congrArg some (by kernel_rfl))⟩
 f14 := ⟨"slices.pdqsortCmpFunc[[]byte]", by decide, Eq.trans Tryz.func164 (congrArg some (by kernel_rfl))⟩
 f15 := Eq.trans Tryz.func165 (congrArg some (by kernel_rfl))
 f20 := ⟨"slices.insertionSortCmpFunc[[]byte]", by decide, Eq.trans Tryz.func184 (congrArg some (by kernel_rfl))⟩
 f21 := ⟨"slices.heapSortCmpFunc[[]byte]", by decide, Eq.trans Tryz.func185 (congrArg some (by kernel_rfl))⟩
 f22 := ⟨"slices.breakPatternsCmpFunc[[]byte]", by decide, Eq.trans Tryz.func186 (congrArg some (by kernel_rfl))⟩
 f23 := ⟨"slices.choosePivotCmpFunc[[]byte]", by decide, Eq.trans Tryz.func187 (congrArg some (by kernel_rfl))⟩
 f24 := ⟨"slices.reverseRangeCmpFunc[[]byte]", by decide, Eq.trans Tryz.func188 (congrArg some (by kernel_rfl))⟩
 f25 := ⟨"slices.partialInsertionSortCmpFunc[[]byte]", by decide, Eq.trans Tryz.func189 (congrArg some (by kernel_rfl))⟩
 f26 := ⟨"slices.partitionEqualCmpFunc[[]byte]", by decide, Eq.trans Tryz.func190 (congrArg some (by kernel_rfl))⟩
 f27 := ⟨"slices.partitionCmpFunc[[]byte]", by decide, Eq.trans Tryz.func191 (congrArg some (by kernel_rfl))⟩
 f28 := Eq.trans Tryz.func192 (congrArg some (by kernel_rfl))
 f29 := Eq.trans Tryz.func193 (congrArg some (by kernel_rfl))
 f46 := ⟨"slices.siftDownCmpFunc[[]byte]", by decide, Eq.trans Tryz.func207 (congrArg some (by kernel_rfl))⟩
 f47 := Eq.trans Tryz.func208 (congrArg some (by kernel_rfl))
 f48 := Eq.trans Tryz.func209 (congrArg some (by kernel_rfl))
 f49 := ⟨"slices.medianAdjacentCmpFunc[[]byte]", by decide, Eq.trans Tryz.func210 (congrArg some (by kernel_rfl))⟩
 f50 := ⟨"slices.medianCmpFunc[[]byte]", by decide, Eq.trans Tryz.func211 (congrArg some (by kernel_rfl))⟩
 f57 := ⟨"slices.order2CmpFunc[[]byte]", by decide, Eq.trans Tryz.func226 (congrArg some (by kernel_rfl))⟩
 t0 := Tryz.underlying0
 a0 := Tryz.isAgg0
 z0 := Tryz.sizeOf0
 v0 := Tryz.zeroValue0
 t3 := Tryz.underlying3
 a3 := Tryz.isAgg3
 z3 := Tryz.sizeOf3
 v3 := Tryz.zeroValue3
 t4 := Tryz.underlying4
 a4 := Tryz.isAgg4
 z4 := Tryz.sizeOf4
 v4 := Tryz.zeroValue4
 t5 := Tryz.underlying5
 a5 := Tryz.isAgg5
 z5 := Tryz.sizeOf5
 v5 := Tryz.zeroValue5
 t9 := Tryz.underlying9
 a9 := Tryz.isAgg9
 z9 := Tryz.sizeOf9
 v9 := Tryz.zeroValue9
 t22 := Tryz.underlying26
 a22 := Tryz.isAgg26
 z22 := Tryz.sizeOf26
 v22 := Tryz.zeroValue26
 a24 := Tryz.isAgg22
 z24 := Tryz.sizeOf22
 t25 := Tryz.underlying140
 a25 := Tryz.isAgg140
 z25 := Tryz.sizeOf140
 v25 := Tryz.zeroValue140
 t39 := Tryz.underlying171
 a39 := Tryz.isAgg171
 z39 := Tryz.sizeOf171
 v39 := Tryz.zeroValue171
 t45 := Tryz.underlying188
 a45 := Tryz.isAgg188
 z45 := Tryz.sizeOf188
 v45 := Tryz.zeroValue188
 t46 := Tryz.underlying189
 a46 := Tryz.isAgg189
 z46 := Tryz.sizeOf189
 v46 := Tryz.zeroValue189
 t50 := Tryz.underlying84
 a50 := Tryz.isAgg84
 z50 := Tryz.sizeOf84
 v50 := Tryz.zeroValue84
 t53 := Tryz.underlying195
 a53 := Tryz.isAgg195
 z53 := Tryz.sizeOf195
 v53 := Tryz.zeroValue195
 t55 := Tryz.underlying197
 a55 := Tryz.isAgg197
 z55 := Tryz.sizeOf197
 v55 := Tryz.zeroValue197
 t66 := Tryz.underlying201
 a66 := Tryz.isAgg201
 z66 := Tryz.sizeOf201
 v66 := Tryz.zeroValue201
 t70 := Tryz.underlying205
 a70 := Tryz.isAgg205
 z70 := Tryz.sizeOf205
 v70 := Tryz.zeroValue205
 t76 := Tryz.underlying220
 a76 := Tryz.isAgg220
 z76 := Tryz.sizeOf220
 v76 := Tryz.zeroValue220
 t77 := Tryz.underlying221
 a77 := Tryz.isAgg221
 z77 := Tryz.sizeOf221
 v77 := Tryz.zeroValue221
end Go.Am
