/- The functions of the program in plain Lean, and that the machine answers as they do; conditions at each theorem. -/
import Derived.Test.YtegcaaobpbocfaaGreatDoorRS2
import Derived.Shelf.Strconv.AtoiAll
import Derived.Lib.AtoiErrMem
import Derived.KernelRfl
set_option linter.unusedVariables false
set_option linter.unusedSimpArgs false
namespace Go.Am.Try
open Go.Am Go.Proofs Go.RowKit
theorem used_3 : ∃ fn, Tryz.prog.funcs[3]? = some fn ∧ usedB cfg 3 fn = true := ⟨Tryz.f3, Tryz.func3, by kernel_rfl⟩
theorem used_4 : ∃ fn, Tryz.prog.funcs[4]? = some fn ∧ usedB cfg 4 fn = true := ⟨Tryz.f4, Tryz.func4, by kernel_rfl⟩
theorem used_5 : ∃ fn, Tryz.prog.funcs[5]? = some fn ∧ usedB cfg 5 fn = true := ⟨Tryz.f5, Tryz.func5, by kernel_rfl⟩
theorem used_6 : ∃ fn, Tryz.prog.funcs[6]? = some fn ∧ usedB cfg 6 fn = true := ⟨Tryz.f6, Tryz.func6, by kernel_rfl⟩
theorem used_7 : ∃ fn, Tryz.prog.funcs[7]? = some fn ∧ usedB cfg 7 fn = true := ⟨Tryz.f7, Tryz.func7, by kernel_rfl⟩
theorem used_8 : ∃ fn, Tryz.prog.funcs[8]? = some fn ∧ usedB cfg 8 fn = true := ⟨Tryz.f8, Tryz.func8, by kernel_rfl⟩
theorem used_9 : ∃ fn, Tryz.prog.funcs[9]? = some fn ∧ usedB cfg 9 fn = true := ⟨Tryz.f9, Tryz.func9, by kernel_rfl⟩
theorem used_10 : ∃ fn, Tryz.prog.funcs[10]? = some fn ∧ usedB cfg 10 fn = true := ⟨Tryz.f10, Tryz.func10, by kernel_rfl⟩
theorem used_11 : ∃ fn, Tryz.prog.funcs[11]? = some fn ∧ usedB cfg 11 fn = true := ⟨Tryz.f11, Tryz.func11, by kernel_rfl⟩
theorem used_12 : ∃ fn, Tryz.prog.funcs[12]? = some fn ∧ usedB cfg 12 fn = true := ⟨Tryz.f12, Tryz.func12, by kernel_rfl⟩
theorem used_13 : ∃ fn, Tryz.prog.funcs[13]? = some fn ∧ usedB cfg 13 fn = true := ⟨Tryz.f13, Tryz.func13, by kernel_rfl⟩
theorem used_14 : ∃ fn, Tryz.prog.funcs[14]? = some fn ∧ usedB cfg 14 fn = true := ⟨Tryz.f14, Tryz.func14, by kernel_rfl⟩
theorem used_15 : ∃ fn, Tryz.prog.funcs[15]? = some fn ∧ usedB cfg 15 fn = true := ⟨Tryz.f15, Tryz.func15, by kernel_rfl⟩
theorem used_16 : ∃ fn, Tryz.prog.funcs[16]? = some fn ∧ usedB cfg 16 fn = true := ⟨Tryz.f16, Tryz.func16, by kernel_rfl⟩
theorem used_17 : ∃ fn, Tryz.prog.funcs[17]? = some fn ∧ usedB cfg 17 fn = true := ⟨Tryz.f17, Tryz.func17, by kernel_rfl⟩
theorem used_18 : ∃ fn, Tryz.prog.funcs[18]? = some fn ∧ usedB cfg 18 fn = true := ⟨Tryz.f18, Tryz.func18, by kernel_rfl⟩
theorem used_19 : ∃ fn, Tryz.prog.funcs[19]? = some fn ∧ usedB cfg 19 fn = true := ⟨Tryz.f19, Tryz.func19, by kernel_rfl⟩
theorem used_20 : ∃ fn, Tryz.prog.funcs[20]? = some fn ∧ usedB cfg 20 fn = true := ⟨Tryz.f20, Tryz.func20, by kernel_rfl⟩
theorem used_21 : ∃ fn, Tryz.prog.funcs[21]? = some fn ∧ usedB cfg 21 fn = true := ⟨Tryz.f21, Tryz.func21, by kernel_rfl⟩
theorem used_22 : ∃ fn, Tryz.prog.funcs[22]? = some fn ∧ usedB cfg 22 fn = true := ⟨Tryz.f22, Tryz.func22, by kernel_rfl⟩
theorem used_23 : ∃ fn, Tryz.prog.funcs[23]? = some fn ∧ usedB cfg 23 fn = true := ⟨Tryz.f23, Tryz.func23, by kernel_rfl⟩
theorem used_24 : ∃ fn, Tryz.prog.funcs[24]? = some fn ∧ usedB cfg 24 fn = true := ⟨Tryz.f24, Tryz.func24, by kernel_rfl⟩
theorem used_25 : ∃ fn, Tryz.prog.funcs[25]? = some fn ∧ usedB cfg 25 fn = true := ⟨Tryz.f25, Tryz.func25, by kernel_rfl⟩
theorem used_26 : ∃ fn, Tryz.prog.funcs[26]? = some fn ∧ usedB cfg 26 fn = true := ⟨Tryz.f26, Tryz.func26, by kernel_rfl⟩
theorem used_27 : ∃ fn, Tryz.prog.funcs[27]? = some fn ∧ usedB cfg 27 fn = true := ⟨Tryz.f27, Tryz.func27, by kernel_rfl⟩
theorem used_28 : ∃ fn, Tryz.prog.funcs[28]? = some fn ∧ usedB cfg 28 fn = true := ⟨Tryz.f28, Tryz.func28, by kernel_rfl⟩
theorem used_29 : ∃ fn, Tryz.prog.funcs[29]? = some fn ∧ usedB cfg 29 fn = true := ⟨Tryz.f29, Tryz.func29, by kernel_rfl⟩
theorem used_30 : ∃ fn, Tryz.prog.funcs[30]? = some fn ∧ usedB cfg 30 fn = true := ⟨Tryz.f30, Tryz.func30, by kernel_rfl⟩
theorem used_31 : ∃ fn, Tryz.prog.funcs[31]? = some fn ∧ usedB cfg 31 fn = true := ⟨Tryz.f31, Tryz.func31, by kernel_rfl⟩
theorem used_32 : ∃ fn, Tryz.prog.funcs[32]? = some fn ∧ usedB cfg 32 fn = true := ⟨Tryz.f32, Tryz.func32, by kernel_rfl⟩
theorem used_33 : ∃ fn, Tryz.prog.funcs[33]? = some fn ∧ usedB cfg 33 fn = true := ⟨Tryz.f33, Tryz.func33, by kernel_rfl⟩
theorem used_34 : ∃ fn, Tryz.prog.funcs[34]? = some fn ∧ usedB cfg 34 fn = true := ⟨Tryz.f34, Tryz.func34, by kernel_rfl⟩
theorem used_35 : ∃ fn, Tryz.prog.funcs[35]? = some fn ∧ usedB cfg 35 fn = true := ⟨Tryz.f35, Tryz.func35, by kernel_rfl⟩
theorem used_36 : ∃ fn, Tryz.prog.funcs[36]? = some fn ∧ usedB cfg 36 fn = true := ⟨Tryz.f36, Tryz.func36, by kernel_rfl⟩
theorem used_37 : ∃ fn, Tryz.prog.funcs[37]? = some fn ∧ usedB cfg 37 fn = true := ⟨Tryz.f37, Tryz.func37, by kernel_rfl⟩
theorem used_38 : ∃ fn, Tryz.prog.funcs[38]? = some fn ∧ usedB cfg 38 fn = true := ⟨Tryz.f38, Tryz.func38, by kernel_rfl⟩
theorem used_39 : ∃ fn, Tryz.prog.funcs[39]? = some fn ∧ usedB cfg 39 fn = true := ⟨Tryz.f39, Tryz.func39, by kernel_rfl⟩
theorem used_40 : ∃ fn, Tryz.prog.funcs[40]? = some fn ∧ usedB cfg 40 fn = true := ⟨Tryz.f40, Tryz.func40, by kernel_rfl⟩
theorem used_41 : ∃ fn, Tryz.prog.funcs[41]? = some fn ∧ usedB cfg 41 fn = true := ⟨Tryz.f41, Tryz.func41, by kernel_rfl⟩
theorem used_42 : ∃ fn, Tryz.prog.funcs[42]? = some fn ∧ usedB cfg 42 fn = true := ⟨Tryz.f42, Tryz.func42, by kernel_rfl⟩
theorem used_43 : ∃ fn, Tryz.prog.funcs[43]? = some fn ∧ usedB cfg 43 fn = true := ⟨Tryz.f43, Tryz.func43, by kernel_rfl⟩
theorem used_44 : ∃ fn, Tryz.prog.funcs[44]? = some fn ∧ usedB cfg 44 fn = true := ⟨Tryz.f44, Tryz.func44, by kernel_rfl⟩
theorem used_45 : ∃ fn, Tryz.prog.funcs[45]? = some fn ∧ usedB cfg 45 fn = true := ⟨Tryz.f45, Tryz.func45, by kernel_rfl⟩
theorem used_46 : ∃ fn, Tryz.prog.funcs[46]? = some fn ∧ usedB cfg 46 fn = true := ⟨Tryz.f46, Tryz.func46, by kernel_rfl⟩
theorem used_47 : ∃ fn, Tryz.prog.funcs[47]? = some fn ∧ usedB cfg 47 fn = true := ⟨Tryz.f47, Tryz.func47, by kernel_rfl⟩
theorem used_48 : ∃ fn, Tryz.prog.funcs[48]? = some fn ∧ usedB cfg 48 fn = true := ⟨Tryz.f48, Tryz.func48, by kernel_rfl⟩
theorem used_49 : ∃ fn, Tryz.prog.funcs[49]? = some fn ∧ usedB cfg 49 fn = true := ⟨Tryz.f49, Tryz.func49, by kernel_rfl⟩
theorem used_50 : ∃ fn, Tryz.prog.funcs[50]? = some fn ∧ usedB cfg 50 fn = true := ⟨Tryz.f50, Tryz.func50, by kernel_rfl⟩
theorem used_51 : ∃ fn, Tryz.prog.funcs[51]? = some fn ∧ usedB cfg 51 fn = true := ⟨Tryz.f51, Tryz.func51, by kernel_rfl⟩
theorem used_52 : ∃ fn, Tryz.prog.funcs[52]? = some fn ∧ usedB cfg 52 fn = true := ⟨Tryz.f52, Tryz.func52, by kernel_rfl⟩
theorem used_53 : ∃ fn, Tryz.prog.funcs[53]? = some fn ∧ usedB cfg 53 fn = true := ⟨Tryz.f53, Tryz.func53, by kernel_rfl⟩
theorem used_54 : ∃ fn, Tryz.prog.funcs[54]? = some fn ∧ usedB cfg 54 fn = true := ⟨Tryz.f54, Tryz.func54, by kernel_rfl⟩
theorem used_55 : ∃ fn, Tryz.prog.funcs[55]? = some fn ∧ usedB cfg 55 fn = true := ⟨Tryz.f55, Tryz.func55, by kernel_rfl⟩
theorem used_56 : ∃ fn, Tryz.prog.funcs[56]? = some fn ∧ usedB cfg 56 fn = true := ⟨Tryz.f56, Tryz.func56, by kernel_rfl⟩
theorem used_57 : ∃ fn, Tryz.prog.funcs[57]? = some fn ∧ usedB cfg 57 fn = true := ⟨Tryz.f57, Tryz.func57, by kernel_rfl⟩
theorem used_58 : ∃ fn, Tryz.prog.funcs[58]? = some fn ∧ usedB cfg 58 fn = true := ⟨Tryz.f58, Tryz.func58, by kernel_rfl⟩
theorem used_59 : ∃ fn, Tryz.prog.funcs[59]? = some fn ∧ usedB cfg 59 fn = true := ⟨Tryz.f59, Tryz.func59, by kernel_rfl⟩
theorem used_60 : ∃ fn, Tryz.prog.funcs[60]? = some fn ∧ usedB cfg 60 fn = true := ⟨Tryz.f60, Tryz.func60, by kernel_rfl⟩
theorem used_61 : ∃ fn, Tryz.prog.funcs[61]? = some fn ∧ usedB cfg 61 fn = true := ⟨Tryz.f61, Tryz.func61, by kernel_rfl⟩
theorem used_62 : ∃ fn, Tryz.prog.funcs[62]? = some fn ∧ usedB cfg 62 fn = true := ⟨Tryz.f62, Tryz.func62, by kernel_rfl⟩
theorem used_63 : ∃ fn, Tryz.prog.funcs[63]? = some fn ∧ usedB cfg 63 fn = true := ⟨Tryz.f63, Tryz.func63, by kernel_rfl⟩
theorem used_64 : ∃ fn, Tryz.prog.funcs[64]? = some fn ∧ usedB cfg 64 fn = true := ⟨Tryz.f64, Tryz.func64, by kernel_rfl⟩
theorem used_65 : ∃ fn, Tryz.prog.funcs[65]? = some fn ∧ usedB cfg 65 fn = true := ⟨Tryz.f65, Tryz.func65, by kernel_rfl⟩
theorem used_67 : ∃ fn, Tryz.prog.funcs[67]? = some fn ∧ usedB cfg 67 fn = true := ⟨Tryz.f67, Tryz.func67, by kernel_rfl⟩
theorem used_68 : ∃ fn, Tryz.prog.funcs[68]? = some fn ∧ usedB cfg 68 fn = true := ⟨Tryz.f68, Tryz.func68, by kernel_rfl⟩
theorem used_69 : ∃ fn, Tryz.prog.funcs[69]? = some fn ∧ usedB cfg 69 fn = true := ⟨Tryz.f69, Tryz.func69, by kernel_rfl⟩
theorem used_70 : ∃ fn, Tryz.prog.funcs[70]? = some fn ∧ usedB cfg 70 fn = true := ⟨Tryz.f70, Tryz.func70, by kernel_rfl⟩
theorem used_71 : ∃ fn, Tryz.prog.funcs[71]? = some fn ∧ usedB cfg 71 fn = true := ⟨Tryz.f71, Tryz.func71, by kernel_rfl⟩
theorem used_72 : ∃ fn, Tryz.prog.funcs[72]? = some fn ∧ usedB cfg 72 fn = true := ⟨Tryz.f72, Tryz.func72, by kernel_rfl⟩
theorem used_73 : ∃ fn, Tryz.prog.funcs[73]? = some fn ∧ usedB cfg 73 fn = true := ⟨Tryz.f73, Tryz.func73, by kernel_rfl⟩
theorem used_76 : ∃ fn, Tryz.prog.funcs[76]? = some fn ∧ usedB cfg 76 fn = true := ⟨Tryz.f76, Tryz.func76, by kernel_rfl⟩
theorem used_77 : ∃ fn, Tryz.prog.funcs[77]? = some fn ∧ usedB cfg 77 fn = true := ⟨Tryz.f77, Tryz.func77, by kernel_rfl⟩
theorem used_78 : ∃ fn, Tryz.prog.funcs[78]? = some fn ∧ usedB cfg 78 fn = true := ⟨Tryz.f78, Tryz.func78, by kernel_rfl⟩
theorem used_79 : ∃ fn, Tryz.prog.funcs[79]? = some fn ∧ usedB cfg 79 fn = true := ⟨Tryz.f79, Tryz.func79, by kernel_rfl⟩
theorem used_81 : ∃ fn, Tryz.prog.funcs[81]? = some fn ∧ usedB cfg 81 fn = true := ⟨Tryz.f81, Tryz.func81, by kernel_rfl⟩
theorem used_90 : ∃ fn, Tryz.prog.funcs[90]? = some fn ∧ usedB cfg 90 fn = true := ⟨Tryz.f90, Tryz.func90, by kernel_rfl⟩
theorem used_91 : ∃ fn, Tryz.prog.funcs[91]? = some fn ∧ usedB cfg 91 fn = true := ⟨Tryz.f91, Tryz.func91, by kernel_rfl⟩
theorem used_92 : ∃ fn, Tryz.prog.funcs[92]? = some fn ∧ usedB cfg 92 fn = true := ⟨Tryz.f92, Tryz.func92, by kernel_rfl⟩
theorem used_93 : ∃ fn, Tryz.prog.funcs[93]? = some fn ∧ usedB cfg 93 fn = true := ⟨Tryz.f93, Tryz.func93, by kernel_rfl⟩
theorem used_99 : ∃ fn, Tryz.prog.funcs[99]? = some fn ∧ usedB cfg 99 fn = true := ⟨Tryz.f99, Tryz.func99, by kernel_rfl⟩
theorem used_102 : ∃ fn, Tryz.prog.funcs[102]? = some fn ∧ usedB cfg 102 fn = true := ⟨Tryz.f102, Tryz.func102, by kernel_rfl⟩
theorem used_103 : ∃ fn, Tryz.prog.funcs[103]? = some fn ∧ usedB cfg 103 fn = true := ⟨Tryz.f103, Tryz.func103, by kernel_rfl⟩
theorem used_104 : ∃ fn, Tryz.prog.funcs[104]? = some fn ∧ usedB cfg 104 fn = true := ⟨Tryz.f104, Tryz.func104, by kernel_rfl⟩
theorem fnsGood : FnsOk Tryz.prog cfg := fns_used2 (used := usedT) (fun f => by rw [cfg_funcs]; delta fnsT; with_reducible rfl) ⟨used_3, used_4, used_5, used_6, used_7, used_8, used_9, used_10, used_11, used_12, used_13, used_14, used_15, used_16, used_17, used_18, used_19, used_20, used_21, used_22, used_23, used_24, used_25, used_26, used_27, used_28, used_29, used_30, used_31, used_32, used_33, used_34, used_35, used_36, used_37, used_38, used_39, used_40, used_41, used_42, used_43, used_44, used_45, used_46, used_47, used_48, used_49, used_50, used_51, used_52, used_53, used_54, used_55, used_56, used_57, used_58, used_59, used_60, used_61, used_62, used_63, used_64, used_65, used_67, used_68, used_69, used_70, used_71, used_72, used_73, used_76, used_77, used_78, used_79, used_81, used_90, used_91, used_92, used_93, used_99, used_102, used_103, used_104, trivial⟩
theorem tblGood : TOk Tryz.prog cfg := tok_of (tr := tl) (by delta cfg; funext t; delta tblT; with_reducible rfl) tblOk
def laysRen : Go.Shelf.Ren :=
{
  f := fun x =>
    match x with
    | 172 => 66
    | 244 => 74
    | 245 => 75
    | 247 => 85
    | 279 => 86
    | 280 => 87
    | 281 => 88
    | 282 => 89
    | 287 => 96
    | 316 => 97
    | 171 => 67
    | 205 => 98
    | 321 => 105
    | 322 => 106
    | 243 => 76
    | 246 => 90
    | 283 => 99
    | 284 => 100
    | 285 => 101
    | 286 => 102
    | 129 => 108
    | 317 => 107
    | 318 => 109
    | 319 => 110
    | 320 => 111
    | 337 => 112
    | 338 => 113
    | n => n,
  t := fun x =>
    match x with
    | 9 => 9
    | 3 => 3
    | 75 => 74
    | 76 => 75
    | 4 => 4
    | 5 => 5
    | 167 => 84
    | 37 => 22
    | 0 => 0
    | 85 => 85
    | 2 => 2
    | 168 => 87
    | 53 => 97
    | 175 => 98
    | 46 => 83
    | 210 => 102
    | 127 => 111
    | 145 => 114
    | 143 => 112
    | 21 => 21
    | 171 => 104
    | 173 => 107
    | 212 => 116
    | 51 => 94
    | 20 => 20
    | 213 => 117
    | 232 => 120
    | 233 => 121
    | 80 => 122
    | n => n,
  g := fun x =>
    match x with
    | 15 => 1
    | 16 => 2
    | 17 => 3
    | 18 => 4
    | 19 => 5
    | n => n }
theorem laysAtoi : LaysC.n172 Tryz.prog laysRen :=
  { mixed := by kernel_rfl,
    f129 := Tryz.func108.trans (by kernel_rfl),
    f171 := Tryz.func67.trans (by kernel_rfl),
    f172 := Tryz.func66.trans (by kernel_rfl),
    f205 := Tryz.func98.trans (by kernel_rfl),
    f243 := Tryz.func76.trans (by kernel_rfl),
    f244 := Tryz.func74.trans (by kernel_rfl),
    f245 := Tryz.func75.trans (by kernel_rfl),
    f246 := Tryz.func90.trans (by kernel_rfl),
    f247 := Tryz.func85.trans (by kernel_rfl),
    f279 := Tryz.func86.trans (by kernel_rfl),
    f280 := Tryz.func87.trans (by kernel_rfl),
    f281 := Tryz.func88.trans (by kernel_rfl),
    f282 := Tryz.func89.trans (by kernel_rfl),
    f283 := Tryz.func99.trans (by kernel_rfl),
    f284 := Tryz.func100.trans (by kernel_rfl),
    f285 := Tryz.func101.trans (by kernel_rfl),
    f286 := Tryz.func102.trans (by kernel_rfl),
    f287 := Tryz.func96.trans (by kernel_rfl),
    f316 := Tryz.func97.trans (by kernel_rfl),
    f317 := Tryz.func107.trans (by kernel_rfl),
    f318 := Tryz.func109.trans (by kernel_rfl),
    f319 := Tryz.func110.trans (by kernel_rfl),
    f320 := Tryz.func111.trans (by kernel_rfl),
    f321 := Tryz.func105.trans (by kernel_rfl),
    f322 := Tryz.func106.trans (by kernel_rfl),
    f337 := Tryz.func112.trans (by kernel_rfl),
    f338 := Tryz.func113.trans (by kernel_rfl),
    t0 := Tryz.underlying0,
    a0 := Tryz.isAgg0,
    z0 := Tryz.sizeOf0,
    v0 := Tryz.zeroValue0,
    t2 := Tryz.underlying2,
    a2 := Tryz.isAgg2,
    z2 := Tryz.sizeOf2,
    v2 := Tryz.zeroValue2,
    t3 := Tryz.underlying3,
    a3 := Tryz.isAgg3,
    z3 := Tryz.sizeOf3,
    v3 := Tryz.zeroValue3,
    t4 := Tryz.underlying4,
    a4 := Tryz.isAgg4,
    z4 := Tryz.sizeOf4,
    v4 := Tryz.zeroValue4,
    t5 := Tryz.underlying5,
    a5 := Tryz.isAgg5,
    z5 := Tryz.sizeOf5,
    v5 := Tryz.zeroValue5,
    t9 := Tryz.underlying9,
    a9 := Tryz.isAgg9,
    z9 := Tryz.sizeOf9,
    v9 := Tryz.zeroValue9,
    t20 := Tryz.underlying20,
    a20 := Tryz.isAgg20,
    z20 := Tryz.sizeOf20,
    v20 := Tryz.zeroValue20,
    t21 := Tryz.underlying21,
    a21 := Tryz.isAgg21,
    z21 := Tryz.sizeOf21,
    v21 := Tryz.zeroValue21,
    t37 := Tryz.underlying22,
    a37 := Tryz.isAgg22,
    z37 := Tryz.sizeOf22,
    v37 := Tryz.zeroValue22,
    t46 := Tryz.underlying83,
    a46 := Tryz.isAgg83,
    z46 := Tryz.sizeOf83,
    v46 := Tryz.zeroValue83,
    t51 := Tryz.underlying94,
    a51 := Tryz.isAgg94,
    z51 := Tryz.sizeOf94,
    v51 := Tryz.zeroValue94,
    t53 := Tryz.underlying97,
    a53 := Tryz.isAgg97,
    z53 := Tryz.sizeOf97,
    v53 := Tryz.zeroValue97,
    t75 := Tryz.underlying74,
    a75 := Tryz.isAgg74,
    z75 := Tryz.sizeOf74,
    v75 := Tryz.zeroValue74,
    t76 := Tryz.underlying75,
    a76 := Tryz.isAgg75,
    z76 := Tryz.sizeOf75,
    v76 := Tryz.zeroValue75,
    t85 := Tryz.underlying85,
    a85 := Tryz.isAgg85,
    z85 := Tryz.sizeOf85,
    v85 := Tryz.zeroValue85,
    t127 := Tryz.underlying111,
    a127 := Tryz.isAgg111,
    z127 := Tryz.sizeOf111,
    v127 := Tryz.zeroValue111,
    t143 := Tryz.underlying112,
    a143 := Tryz.isAgg112,
    z143 := Tryz.sizeOf112,
    v143 := Tryz.zeroValue112,
    t145 := Tryz.underlying114,
    a145 := Tryz.isAgg114,
    z145 := Tryz.sizeOf114,
    v145 := Tryz.zeroValue114,
    t167 := Tryz.underlying84,
    a167 := Tryz.isAgg84,
    z167 := Tryz.sizeOf84,
    v167 := Tryz.zeroValue84,
    t168 := Tryz.underlying87,
    a168 := Tryz.isAgg87,
    z168 := Tryz.sizeOf87,
    v168 := Tryz.zeroValue87,
    t171 := Tryz.underlying104,
    a171 := Tryz.isAgg104,
    z171 := Tryz.sizeOf104,
    v171 := Tryz.zeroValue104,
    t173 := Tryz.underlying107,
    a173 := Tryz.isAgg107,
    z173 := Tryz.sizeOf107,
    v173 := Tryz.zeroValue107,
    t175 := Tryz.underlying98,
    a175 := Tryz.isAgg98,
    z175 := Tryz.sizeOf98,
    v175 := Tryz.zeroValue98,
    t210 := Tryz.underlying102,
    a210 := Tryz.isAgg102,
    z210 := Tryz.sizeOf102,
    v210 := Tryz.zeroValue102,
    t212 := Tryz.underlying116,
    a212 := Tryz.isAgg116,
    z212 := Tryz.sizeOf116,
    v212 := Tryz.zeroValue116,
    t213 := Tryz.underlying117,
    a213 := Tryz.isAgg117,
    z213 := Tryz.sizeOf117,
    t232 := Tryz.underlying120,
    a232 := Tryz.isAgg120,
    z232 := Tryz.sizeOf120,
    v232 := Tryz.zeroValue120,
    t233 := Tryz.underlying121,
    a233 := Tryz.isAgg121,
    z233 := Tryz.sizeOf121,
    v233 := Tryz.zeroValue121,
    g15 := by kernel_rfl,
    g16 := by kernel_rfl,
    g17 := by kernel_rfl,
    g18 := by kernel_rfl,
    g19 := by kernel_rfl,
    t80 := Tryz.underlying122,
    a80 := Tryz.isAgg122,
    z80 := Tryz.sizeOf122,
    v80 := Tryz.zeroValue122,
    i0 := by kernel_rfl,
    i2 := by kernel_rfl,
    i3 := by kernel_rfl,
    i4 := by kernel_rfl,
    i5 := by kernel_rfl,
    i9 := by kernel_rfl,
    i20 := by kernel_rfl,
    i21 := by kernel_rfl,
    i37 := by kernel_rfl,
    i46 := by kernel_rfl,
    i51 := by kernel_rfl,
    i53 := by kernel_rfl,
    i75 := by kernel_rfl,
    i76 := by kernel_rfl,
    i80 := by kernel_rfl,
    i85 := by kernel_rfl,
    i127 := by kernel_rfl,
    i143 := by kernel_rfl,
    i145 := by kernel_rfl,
    i167 := by kernel_rfl,
    i168 := by kernel_rfl,
    i171 := by kernel_rfl,
    i173 := by kernel_rfl,
    i175 := by kernel_rfl,
    i210 := by kernel_rfl,
    i212 := by kernel_rfl,
    i232 := by kernel_rfl,
    i233 := by kernel_rfl,
    m15 := by kernel_rfl,
    m16 := by kernel_rfl,
    m17 := by kernel_rfl,
    m18 := by kernel_rfl,
    m19 := by kernel_rfl,
    c0 := by kernel_rfl,
    c2 := by kernel_rfl,
    c3 := by kernel_rfl,
    c4 := by kernel_rfl,
    c5 := by kernel_rfl,
    c9 := by kernel_rfl,
    c20 := by kernel_rfl,
    c21 := by kernel_rfl,
    c37 := by kernel_rfl,
    c46 := by kernel_rfl,
    c51 := by kernel_rfl,
    c53 := by kernel_rfl,
    c75 := by kernel_rfl,
    c76 := by kernel_rfl,
    c80 := by kernel_rfl,
    c85 := by kernel_rfl,
    c127 := by kernel_rfl,
    c143 := by kernel_rfl,
    c145 := by kernel_rfl,
    c167 := by kernel_rfl,
    c168 := by kernel_rfl,
    c171 := by kernel_rfl,
    c173 := by kernel_rfl,
    c175 := by kernel_rfl,
    c210 := by kernel_rfl,
    c212 := by kernel_rfl,
    c213 := by kernel_rfl,
    c232 := by kernel_rfl,
    c233 := by kernel_rfl }
theorem gES : Tryz.prog.globalNamed "strconv.ErrSyntax" = some (laysRen.g 15) := laysAtoi.m15
theorem gER : Tryz.prog.globalNamed "strconv.ErrRange" = some (laysRen.g 16) := laysAtoi.m16
theorem atoiGood {st : List Entry} {xs : List V} {r : V × List Entry} (h : atoiX st xs = some r) : CallOk Tryz.prog 66 st xs r :=
  atoi_ok (f := laysRen.f 172) (ge := laysRen.g 15) (gr := laysRen.g 16) (Go.Proofs.enters_of laysAtoi.f172 (by kernel_rfl) rfl)
    (fun s hs v ha w => (Any.strconv_Atoi_ok laysAtoi s (by omega) v ha w).mono fun e w' he => ⟨he.1, by
      rcases he.2 with rfl | ⟨t, rfl⟩
      · exact Below.refl _ _
      · exact Lib.bytesWorld_below _ _ _⟩)
    (fun s hs h1 h2 te pe w hc => by
      have hall : ∀ x, Lib.atoiAll s.data.toList = x → Calls Tryz.prog (laysRen.f 172) #[.string s] w fun e w' => (∃ T z, e = .returned (.tuple #[.int .i64 0, .iface T z])) ∧ Below w.heap.size w w' := by
        intro x hx
        cases x with
        | ok v => exact (h1 v hx).elim
        | range => exact (h2 hx).elim
        | _ =>
          refine (Any.strconv_Atoi_syntax laysAtoi s (by omega) hx (.iface te pe) w hc (Or.inr ⟨te, pe, rfl⟩)).mono fun e w' he => ?_
          obtain ⟨N, he, _, _, hb⟩ := he
          exact ⟨⟨_, _, he⟩, hb⟩
      exact hall _ rfl)
    (fun s hs ha te pe w hc => (Any.strconv_Atoi_range laysAtoi s (by omega) ha (.iface te pe) w hc (Or.inr ⟨te, pe, rfl⟩)).mono fun e w' he => by
      obtain ⟨N, he, _, _, hb⟩ := he
      exact ⟨⟨_, _, he⟩, hb⟩)
    gES gER h
theorem cmpGood {st : List Entry} {xs : List V} {r : V × List Entry} (h : cmpX st xs = some r) : CallOk Tryz.prog 80 st xs r :=
  cmp_ok Tryz.func80 (by kernel_rfl) (by kernel_rfl) (by kernel_rfl) (by kernel_rfl) h
theorem idxGood {st : List Entry} {xs : List V} {r : V × List Entry} (h : idxX st xs = some r) : CallOk Tryz.prog 94 st xs r :=
  idx_ok Tryz.func94 (by kernel_rfl) (by kernel_rfl) (by kernel_rfl) (by kernel_rfl) h
theorem xGood (f : FuncId) (st : List Entry) (xs : List V) (r : V × List Entry) (h : cfg.X f st xs = some r) : CallOk Tryz.prog f st xs r := by
  have h : (bif Nat.beq f 66 then atoiX st xs else bif Nat.beq f 80 then cmpX st xs else bif Nat.beq f 94 then idxX st xs else none) = some r := h
  cases h0 : Nat.beq f 66 with
  | true =>
    rw [h0] at h
    obtain rfl := Nat.eq_of_beq_eq_true h0
    exact atoiGood h
  | false =>
  rw [h0] at h
  simp only [cond_false] at h
  cases h1 : Nat.beq f 80 with
  | true =>
    rw [h1] at h
    obtain rfl := Nat.eq_of_beq_eq_true h1
    exact cmpGood h
  | false =>
  rw [h1] at h
  simp only [cond_false] at h
  cases h2 : Nat.beq f 94 with
  | true =>
    rw [h2] at h
    obtain rfl := Nat.eq_of_beq_eq_true h2
    exact idxGood h
  | false =>
  rw [h2] at h
  simp only [cond_false] at h
  cases h
end Go.Am.Try
