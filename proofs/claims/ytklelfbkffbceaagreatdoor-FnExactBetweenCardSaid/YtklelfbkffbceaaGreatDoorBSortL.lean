
/- The functions of the program in plain Lean, and that the machine answers as they do; conditions at each theorem. -/
import Derived.Shelf.SlGeneric
import Derived.Shelf.SlLaysF
import Derived.Shelf.SlSortCmp.Whole1
import Derived.Shelf.SlSortCmp.NoneTotal
import Derived.Test.YtklelfbkffbceaaGreatDoorProg
set_option linter.unusedVariables false
set_option linter.unusedSimpArgs false
set_option linter.unusedVariables false
set_option linter.unusedSimpArgs false
namespace Go.Am
open Go.Proofs Go.Shelf
def VC:Go.Shelf.Ren:=
{
 f:=fun x=>
  match x with
  |6=>93
  |15=>147
  |14=>146
  |28=>210
  |29=>211
  |20=>202
  |21=>203
  |22=>204
  |23=>205
  |24=>206
  |25=>207
  |26=>208
  |27=>209
  |46=>262
  |47=>263
  |48=>264
  |49=>265
  |50=>266
  |57=>298
  |n=>n,
 t:=fun x=>
  match x with
  |22=>50
  |24=>22
  |25=>143
  |3=>3
  |39=>198
  |0=>0
  |53=>249
  |55=>251
  |4=>4
  |46=>243
  |45=>242
  |50=>150
  |5=>5
  |9=>9
  |66=>278
  |70=>282
  |76=>309
  |77=>165
  |n=>n,
 g:=fun n=>n }
theorem zci:SlLaysF.n6 Tryz.prog VC where
 mixed:=by decide
 f6:=⟨"slices.SortFunc[[][]byte,[]byte]",by decide,Eq.trans Tryz.func93 (congrArg some (by kernel_rfl))⟩
 f14:=⟨"slices.pdqsortCmpFunc[[]byte]",by decide,Eq.trans Tryz.func146 (congrArg some (by kernel_rfl))⟩
 f15:=Eq.trans Tryz.func147 (congrArg some (by kernel_rfl))
 f20:=⟨"slices.insertionSortCmpFunc[[]byte]",by decide,Eq.trans Tryz.func202 (congrArg some (by kernel_rfl))⟩
 f21:=⟨"slices.heapSortCmpFunc[[]byte]",by decide,Eq.trans Tryz.func203 (congrArg some (by kernel_rfl))⟩
 f22:=⟨"slices.breakPatternsCmpFunc[[]byte]",by decide,Eq.trans Tryz.func204 (congrArg some (by kernel_rfl))⟩
 f23:=⟨"slices.choosePivotCmpFunc[[]byte]",by decide,Eq.trans Tryz.func205 (congrArg some (by kernel_rfl))⟩
 f24:=⟨"slices.reverseRangeCmpFunc[[]byte]",by decide,Eq.trans Tryz.func206 (congrArg some (by kernel_rfl))⟩
 f25:=⟨"slices.partialInsertionSortCmpFunc[[]byte]",by decide,Eq.trans Tryz.func207 (congrArg some (by kernel_rfl))⟩
 f26:=⟨"slices.partitionEqualCmpFunc[[]byte]",by decide,Eq.trans Tryz.func208 (congrArg some (by kernel_rfl))⟩
 f27:=⟨"slices.partitionCmpFunc[[]byte]",by decide,Eq.trans Tryz.func209 (congrArg some (by kernel_rfl))⟩
 f28:=Eq.trans Tryz.func210 (congrArg some (by kernel_rfl))
 f29:=Eq.trans Tryz.func211 (congrArg some (by kernel_rfl))
 f46:=⟨"slices.siftDownCmpFunc[[]byte]",by decide,Eq.trans Tryz.func262 (congrArg some (by kernel_rfl))⟩
 f47:=Eq.trans Tryz.func263 (congrArg some (by kernel_rfl))
 f48:=Eq.trans Tryz.func264 (congrArg some (by kernel_rfl))
 f49:=⟨"slices.medianAdjacentCmpFunc[[]byte]",by decide,Eq.trans Tryz.func265 (congrArg some (by kernel_rfl))⟩
 f50:=⟨"slices.medianCmpFunc[[]byte]",by decide,Eq.trans Tryz.func266 (congrArg some (by kernel_rfl))⟩
 f57:=⟨"slices.order2CmpFunc[[]byte]",by decide,Eq.trans Tryz.func298 (congrArg some (by kernel_rfl))⟩
 t0:=Tryz.underlying0
 a0:=Tryz.isAgg0
 z0:=Tryz.sizeOf0
 v0:=Tryz.zeroValue0
 t3:=Tryz.underlying3
 a3:=Tryz.isAgg3
 z3:=Tryz.sizeOf3
 v3:=Tryz.zeroValue3
 t4:=Tryz.underlying4
 a4:=Tryz.isAgg4
 z4:=Tryz.sizeOf4
 v4:=Tryz.zeroValue4
 t5:=Tryz.underlying5
 a5:=Tryz.isAgg5
 z5:=Tryz.sizeOf5
 v5:=Tryz.zeroValue5
 t9:=Tryz.underlying9
 a9:=Tryz.isAgg9
 z9:=Tryz.sizeOf9
 v9:=Tryz.zeroValue9
 t22:=Tryz.underlying50
 a22:=Tryz.isAgg50
 z22:=Tryz.sizeOf50
 v22:=Tryz.zeroValue50
 a24:=Tryz.isAgg22
 z24:=Tryz.sizeOf22
 t25:=Tryz.underlying143
 a25:=Tryz.isAgg143
 z25:=Tryz.sizeOf143
 v25:=Tryz.zeroValue143
 t39:=Tryz.underlying198
 a39:=Tryz.isAgg198
 z39:=Tryz.sizeOf198
 v39:=Tryz.zeroValue198
 t45:=Tryz.underlying242
 a45:=Tryz.isAgg242
 z45:=Tryz.sizeOf242
 v45:=Tryz.zeroValue242
 t46:=Tryz.underlying243
 a46:=Tryz.isAgg243
 z46:=Tryz.sizeOf243
 v46:=Tryz.zeroValue243
 t50:=Tryz.underlying150
 a50:=Tryz.isAgg150
 z50:=Tryz.sizeOf150
 v50:=Tryz.zeroValue150
 t53:=Tryz.underlying249
 a53:=Tryz.isAgg249
 z53:=Tryz.sizeOf249
 v53:=Tryz.zeroValue249
 t55:=Tryz.underlying251
 a55:=Tryz.isAgg251
 z55:=Tryz.sizeOf251
 v55:=Tryz.zeroValue251
 t66:=Tryz.underlying278
 a66:=Tryz.isAgg278
 z66:=Tryz.sizeOf278
 v66:=Tryz.zeroValue278
 t70:=Tryz.underlying282
 a70:=Tryz.isAgg282
 z70:=Tryz.sizeOf282
 v70:=Tryz.zeroValue282
 t76:=Tryz.underlying309
 a76:=Tryz.isAgg309
 z76:=Tryz.sizeOf309
 v76:=Tryz.zeroValue309
 t77:=Tryz.underlying165
 a77:=Tryz.isAgg165
 z77:=Tryz.sizeOf165
 v77:=Tryz.zeroValue165
end Go.Am
