/- The functions of the program in plain Lean, and that the machine answers as they do; conditions at each theorem. -/
import Derived.Test.YtabecknjhcjpfaaDoorES2
import Derived.Shelf.Strconv.AtoiAll
import Derived.Lib.AtoiErrMem
import Derived.KernelRfl
set_option linter.unusedVariables false
set_option linter.unusedSimpArgs false
namespace Go.Am.Try
open Go.Am Go.Proofs Go.RowKit
theorem used_3 : ∃ fn, Tryd.prog.funcs[3]? = some fn ∧ usedB cfg 3 fn = true := ⟨Tryd.f3, Tryd.func3, by kernel_rfl⟩
theorem used_4 : ∃ fn, Tryd.prog.funcs[4]? = some fn ∧ usedB cfg 4 fn = true := ⟨Tryd.f4, Tryd.func4, by kernel_rfl⟩
theorem used_5 : ∃ fn, Tryd.prog.funcs[5]? = some fn ∧ usedB cfg 5 fn = true := ⟨Tryd.f5, Tryd.func5, by kernel_rfl⟩
theorem used_6 : ∃ fn, Tryd.prog.funcs[6]? = some fn ∧ usedB cfg 6 fn = true := ⟨Tryd.f6, Tryd.func6, by kernel_rfl⟩
theorem used_7 : ∃ fn, Tryd.prog.funcs[7]? = some fn ∧ usedB cfg 7 fn = true := ⟨Tryd.f7, Tryd.func7, by kernel_rfl⟩
theorem used_8 : ∃ fn, Tryd.prog.funcs[8]? = some fn ∧ usedB cfg 8 fn = true := ⟨Tryd.f8, Tryd.func8, by kernel_rfl⟩
theorem used_9 : ∃ fn, Tryd.prog.funcs[9]? = some fn ∧ usedB cfg 9 fn = true := ⟨Tryd.f9, Tryd.func9, by kernel_rfl⟩
theorem used_10 : ∃ fn, Tryd.prog.funcs[10]? = some fn ∧ usedB cfg 10 fn = true := ⟨Tryd.f10, Tryd.func10, by kernel_rfl⟩
theorem used_11 : ∃ fn, Tryd.prog.funcs[11]? = some fn ∧ usedB cfg 11 fn = true := ⟨Tryd.f11, Tryd.func11, by kernel_rfl⟩
theorem used_12 : ∃ fn, Tryd.prog.funcs[12]? = some fn ∧ usedB cfg 12 fn = true := ⟨Tryd.f12, Tryd.func12, by kernel_rfl⟩
theorem used_13 : ∃ fn, Tryd.prog.funcs[13]? = some fn ∧ usedB cfg 13 fn = true := ⟨Tryd.f13, Tryd.func13, by kernel_rfl⟩
theorem used_14 : ∃ fn, Tryd.prog.funcs[14]? = some fn ∧ usedB cfg 14 fn = true := ⟨Tryd.f14, Tryd.func14, by kernel_rfl⟩
theorem used_15 : ∃ fn, Tryd.prog.funcs[15]? = some fn ∧ usedB cfg 15 fn = true := ⟨Tryd.f15, Tryd.func15, by kernel_rfl⟩
theorem used_16 : ∃ fn, Tryd.prog.funcs[16]? = some fn ∧ usedB cfg 16 fn = true := ⟨Tryd.f16, Tryd.func16, by kernel_rfl⟩
theorem used_17 : ∃ fn, Tryd.prog.funcs[17]? = some fn ∧ usedB cfg 17 fn = true := ⟨Tryd.f17, Tryd.func17, by kernel_rfl⟩
theorem used_18 : ∃ fn, Tryd.prog.funcs[18]? = some fn ∧ usedB cfg 18 fn = true := ⟨Tryd.f18, Tryd.func18, by kernel_rfl⟩
theorem used_19 : ∃ fn, Tryd.prog.funcs[19]? = some fn ∧ usedB cfg 19 fn = true := ⟨Tryd.f19, Tryd.func19, by kernel_rfl⟩
theorem used_20 : ∃ fn, Tryd.prog.funcs[20]? = some fn ∧ usedB cfg 20 fn = true := ⟨Tryd.f20, Tryd.func20, by kernel_rfl⟩
theorem used_21 : ∃ fn, Tryd.prog.funcs[21]? = some fn ∧ usedB cfg 21 fn = true := ⟨Tryd.f21, Tryd.func21, by kernel_rfl⟩
theorem used_22 : ∃ fn, Tryd.prog.funcs[22]? = some fn ∧ usedB cfg 22 fn = true := ⟨Tryd.f22, Tryd.func22, by kernel_rfl⟩
theorem used_23 : ∃ fn, Tryd.prog.funcs[23]? = some fn ∧ usedB cfg 23 fn = true := ⟨Tryd.f23, Tryd.func23, by kernel_rfl⟩
theorem used_24 : ∃ fn, Tryd.prog.funcs[24]? = some fn ∧ usedB cfg 24 fn = true := ⟨Tryd.f24, Tryd.func24, by kernel_rfl⟩
theorem used_25 : ∃ fn, Tryd.prog.funcs[25]? = some fn ∧ usedB cfg 25 fn = true := ⟨Tryd.f25, Tryd.func25, by kernel_rfl⟩
theorem used_26 : ∃ fn, Tryd.prog.funcs[26]? = some fn ∧ usedB cfg 26 fn = true := ⟨Tryd.f26, Tryd.func26, by kernel_rfl⟩
theorem used_27 : ∃ fn, Tryd.prog.funcs[27]? = some fn ∧ usedB cfg 27 fn = true := ⟨Tryd.f27, Tryd.func27, by kernel_rfl⟩
theorem used_28 : ∃ fn, Tryd.prog.funcs[28]? = some fn ∧ usedB cfg 28 fn = true := ⟨Tryd.f28, Tryd.func28, by kernel_rfl⟩
theorem used_29 : ∃ fn, Tryd.prog.funcs[29]? = some fn ∧ usedB cfg 29 fn = true := ⟨Tryd.f29, Tryd.func29, by kernel_rfl⟩
theorem used_30 : ∃ fn, Tryd.prog.funcs[30]? = some fn ∧ usedB cfg 30 fn = true := ⟨Tryd.f30, Tryd.func30, by kernel_rfl⟩
theorem used_31 : ∃ fn, Tryd.prog.funcs[31]? = some fn ∧ usedB cfg 31 fn = true := ⟨Tryd.f31, Tryd.func31, by kernel_rfl⟩
theorem used_32 : ∃ fn, Tryd.prog.funcs[32]? = some fn ∧ usedB cfg 32 fn = true := ⟨Tryd.f32, Tryd.func32, by kernel_rfl⟩
theorem used_33 : ∃ fn, Tryd.prog.funcs[33]? = some fn ∧ usedB cfg 33 fn = true := ⟨Tryd.f33, Tryd.func33, by kernel_rfl⟩
theorem used_34 : ∃ fn, Tryd.prog.funcs[34]? = some fn ∧ usedB cfg 34 fn = true := ⟨Tryd.f34, Tryd.func34, by kernel_rfl⟩
theorem used_35 : ∃ fn, Tryd.prog.funcs[35]? = some fn ∧ usedB cfg 35 fn = true := ⟨Tryd.f35, Tryd.func35, by kernel_rfl⟩
theorem used_36 : ∃ fn, Tryd.prog.funcs[36]? = some fn ∧ usedB cfg 36 fn = true := ⟨Tryd.f36, Tryd.func36, by kernel_rfl⟩
theorem used_37 : ∃ fn, Tryd.prog.funcs[37]? = some fn ∧ usedB cfg 37 fn = true := ⟨Tryd.f37, Tryd.func37, by kernel_rfl⟩
theorem used_38 : ∃ fn, Tryd.prog.funcs[38]? = some fn ∧ usedB cfg 38 fn = true := ⟨Tryd.f38, Tryd.func38, by kernel_rfl⟩
theorem used_39 : ∃ fn, Tryd.prog.funcs[39]? = some fn ∧ usedB cfg 39 fn = true := ⟨Tryd.f39, Tryd.func39, by kernel_rfl⟩
theorem used_40 : ∃ fn, Tryd.prog.funcs[40]? = some fn ∧ usedB cfg 40 fn = true := ⟨Tryd.f40, Tryd.func40, by kernel_rfl⟩
theorem used_41 : ∃ fn, Tryd.prog.funcs[41]? = some fn ∧ usedB cfg 41 fn = true := ⟨Tryd.f41, Tryd.func41, by kernel_rfl⟩
theorem used_42 : ∃ fn, Tryd.prog.funcs[42]? = some fn ∧ usedB cfg 42 fn = true := ⟨Tryd.f42, Tryd.func42, by kernel_rfl⟩
theorem used_43 : ∃ fn, Tryd.prog.funcs[43]? = some fn ∧ usedB cfg 43 fn = true := ⟨Tryd.f43, Tryd.func43, by kernel_rfl⟩
theorem used_44 : ∃ fn, Tryd.prog.funcs[44]? = some fn ∧ usedB cfg 44 fn = true := ⟨Tryd.f44, Tryd.func44, by kernel_rfl⟩
theorem used_46 : ∃ fn, Tryd.prog.funcs[46]? = some fn ∧ usedB cfg 46 fn = true := ⟨Tryd.f46, Tryd.func46, by kernel_rfl⟩
theorem used_47 : ∃ fn, Tryd.prog.funcs[47]? = some fn ∧ usedB cfg 47 fn = true := ⟨Tryd.f47, Tryd.func47, by kernel_rfl⟩
theorem used_48 : ∃ fn, Tryd.prog.funcs[48]? = some fn ∧ usedB cfg 48 fn = true := ⟨Tryd.f48, Tryd.func48, by kernel_rfl⟩
theorem used_49 : ∃ fn, Tryd.prog.funcs[49]? = some fn ∧ usedB cfg 49 fn = true := ⟨Tryd.f49, Tryd.func49, by kernel_rfl⟩
theorem used_50 : ∃ fn, Tryd.prog.funcs[50]? = some fn ∧ usedB cfg 50 fn = true := ⟨Tryd.f50, Tryd.func50, by kernel_rfl⟩
theorem used_51 : ∃ fn, Tryd.prog.funcs[51]? = some fn ∧ usedB cfg 51 fn = true := ⟨Tryd.f51, Tryd.func51, by kernel_rfl⟩
theorem used_52 : ∃ fn, Tryd.prog.funcs[52]? = some fn ∧ usedB cfg 52 fn = true := ⟨Tryd.f52, Tryd.func52, by kernel_rfl⟩
theorem used_55 : ∃ fn, Tryd.prog.funcs[55]? = some fn ∧ usedB cfg 55 fn = true := ⟨Tryd.f55, Tryd.func55, by kernel_rfl⟩
theorem used_56 : ∃ fn, Tryd.prog.funcs[56]? = some fn ∧ usedB cfg 56 fn = true := ⟨Tryd.f56, Tryd.func56, by kernel_rfl⟩
theorem used_57 : ∃ fn, Tryd.prog.funcs[57]? = some fn ∧ usedB cfg 57 fn = true := ⟨Tryd.f57, Tryd.func57, by kernel_rfl⟩
theorem used_58 : ∃ fn, Tryd.prog.funcs[58]? = some fn ∧ usedB cfg 58 fn = true := ⟨Tryd.f58, Tryd.func58, by kernel_rfl⟩
theorem used_60 : ∃ fn, Tryd.prog.funcs[60]? = some fn ∧ usedB cfg 60 fn = true := ⟨Tryd.f60, Tryd.func60, by kernel_rfl⟩
theorem used_61 : ∃ fn, Tryd.prog.funcs[61]? = some fn ∧ usedB cfg 61 fn = true := ⟨Tryd.f61, Tryd.func61, by kernel_rfl⟩
theorem used_70 : ∃ fn, Tryd.prog.funcs[70]? = some fn ∧ usedB cfg 70 fn = true := ⟨Tryd.f70, Tryd.func70, by kernel_rfl⟩
theorem used_71 : ∃ fn, Tryd.prog.funcs[71]? = some fn ∧ usedB cfg 71 fn = true := ⟨Tryd.f71, Tryd.func71, by kernel_rfl⟩
theorem used_72 : ∃ fn, Tryd.prog.funcs[72]? = some fn ∧ usedB cfg 72 fn = true := ⟨Tryd.f72, Tryd.func72, by kernel_rfl⟩
theorem used_73 : ∃ fn, Tryd.prog.funcs[73]? = some fn ∧ usedB cfg 73 fn = true := ⟨Tryd.f73, Tryd.func73, by kernel_rfl⟩
theorem used_79 : ∃ fn, Tryd.prog.funcs[79]? = some fn ∧ usedB cfg 79 fn = true := ⟨Tryd.f79, Tryd.func79, by kernel_rfl⟩
theorem used_82 : ∃ fn, Tryd.prog.funcs[82]? = some fn ∧ usedB cfg 82 fn = true := ⟨Tryd.f82, Tryd.func82, by kernel_rfl⟩
theorem used_83 : ∃ fn, Tryd.prog.funcs[83]? = some fn ∧ usedB cfg 83 fn = true := ⟨Tryd.f83, Tryd.func83, by kernel_rfl⟩
theorem used_84 : ∃ fn, Tryd.prog.funcs[84]? = some fn ∧ usedB cfg 84 fn = true := ⟨Tryd.f84, Tryd.func84, by kernel_rfl⟩
theorem fnsGood : FnsOk Tryd.prog cfg := fns_used2 (used := usedT) (fun f => by rw [cfg_funcs]; delta fnsT; with_reducible rfl) ⟨used_3, used_4, used_5, used_6, used_7, used_8, used_9, used_10, used_11, used_12, used_13, used_14, used_15, used_16, used_17, used_18, used_19, used_20, used_21, used_22, used_23, used_24, used_25, used_26, used_27, used_28, used_29, used_30, used_31, used_32, used_33, used_34, used_35, used_36, used_37, used_38, used_39, used_40, used_41, used_42, used_43, used_44, used_46, used_47, used_48, used_49, used_50, used_51, used_52, used_55, used_56, used_57, used_58, used_60, used_61, used_70, used_71, used_72, used_73, used_79, used_82, used_83, used_84, trivial⟩
theorem tblGood : TOk Tryd.prog cfg := tok_of (tr := tl) (by delta cfg; funext t; delta tblT; with_reducible rfl) tblOk
def laysRen : Go.Shelf.Ren :=
{
  f := fun x =>
    match x with
    | 172 => 45
    | 244 => 53
    | 245 => 54
    | 247 => 65
    | 279 => 66
    | 280 => 67
    | 281 => 68
    | 282 => 69
    | 287 => 76
    | 316 => 77
    | 171 => 46
    | 205 => 78
    | 321 => 85
    | 322 => 86
    | 243 => 55
    | 246 => 70
    | 283 => 79
    | 284 => 80
    | 285 => 81
    | 286 => 82
    | 129 => 88
    | 317 => 87
    | 318 => 89
    | 319 => 90
    | 320 => 91
    | 337 => 92
    | 338 => 93
    | n => n,
  t := fun x =>
    match x with
    | 9 => 9
    | 3 => 3
    | 75 => 66
    | 76 => 67
    | 4 => 4
    | 5 => 5
    | 167 => 76
    | 37 => 22
    | 0 => 0
    | 85 => 77
    | 2 => 2
    | 168 => 79
    | 53 => 89
    | 175 => 90
    | 46 => 75
    | 210 => 94
    | 127 => 103
    | 145 => 106
    | 143 => 104
    | 21 => 21
    | 171 => 96
    | 173 => 99
    | 212 => 108
    | 51 => 86
    | 20 => 20
    | 213 => 109
    | 232 => 112
    | 233 => 113
    | 80 => 114
    | n => n,
  g := fun x =>
    match x with
    | 15 => 1
    | 16 => 2
    | 17 => 3
    | 18 => 4
    | 19 => 5
    | n => n }
theorem laysAtoi : LaysC.n172 Tryd.prog laysRen :=
  { mixed := by kernel_rfl,
    f129 := Tryd.func88.trans (by kernel_rfl),
    f171 := Tryd.func46.trans (by kernel_rfl),
    f172 := Tryd.func45.trans (by kernel_rfl),
    f205 := Tryd.func78.trans (by kernel_rfl),
    f243 := Tryd.func55.trans (by kernel_rfl),
    f244 := Tryd.func53.trans (by kernel_rfl),
    f245 := Tryd.func54.trans (by kernel_rfl),
    f246 := Tryd.func70.trans (by kernel_rfl),
    f247 := Tryd.func65.trans (by kernel_rfl),
    f279 := Tryd.func66.trans (by kernel_rfl),
    f280 := Tryd.func67.trans (by kernel_rfl),
    f281 := Tryd.func68.trans (by kernel_rfl),
    f282 := Tryd.func69.trans (by kernel_rfl),
    f283 := Tryd.func79.trans (by kernel_rfl),
    f284 := Tryd.func80.trans (by kernel_rfl),
    f285 := Tryd.func81.trans (by kernel_rfl),
    f286 := Tryd.func82.trans (by kernel_rfl),
    f287 := Tryd.func76.trans (by kernel_rfl),
    f316 := Tryd.func77.trans (by kernel_rfl),
    f317 := Tryd.func87.trans (by kernel_rfl),
    f318 := Tryd.func89.trans (by kernel_rfl),
    f319 := Tryd.func90.trans (by kernel_rfl),
    f320 := Tryd.func91.trans (by kernel_rfl),
    f321 := Tryd.func85.trans (by kernel_rfl),
    f322 := Tryd.func86.trans (by kernel_rfl),
    f337 := Tryd.func92.trans (by kernel_rfl),
    f338 := Tryd.func93.trans (by kernel_rfl),
    t0 := Tryd.underlying0,
    a0 := Tryd.isAgg0,
    z0 := Tryd.sizeOf0,
    v0 := Tryd.zeroValue0,
    t2 := Tryd.underlying2,
    a2 := Tryd.isAgg2,
    z2 := Tryd.sizeOf2,
    v2 := Tryd.zeroValue2,
    t3 := Tryd.underlying3,
    a3 := Tryd.isAgg3,
    z3 := Tryd.sizeOf3,
    v3 := Tryd.zeroValue3,
    t4 := Tryd.underlying4,
    a4 := Tryd.isAgg4,
    z4 := Tryd.sizeOf4,
    v4 := Tryd.zeroValue4,
    t5 := Tryd.underlying5,
    a5 := Tryd.isAgg5,
    z5 := Tryd.sizeOf5,
    v5 := Tryd.zeroValue5,
    t9 := Tryd.underlying9,
    a9 := Tryd.isAgg9,
    z9 := Tryd.sizeOf9,
    v9 := Tryd.zeroValue9,
    t20 := Tryd.underlying20,
    a20 := Tryd.isAgg20,
    z20 := Tryd.sizeOf20,
    v20 := Tryd.zeroValue20,
    t21 := Tryd.underlying21,
    a21 := Tryd.isAgg21,
    z21 := Tryd.sizeOf21,
    v21 := Tryd.zeroValue21,
    t37 := Tryd.underlying22,
    a37 := Tryd.isAgg22,
    z37 := Tryd.sizeOf22,
    v37 := Tryd.zeroValue22,
    t46 := Tryd.underlying75,
    a46 := Tryd.isAgg75,
    z46 := Tryd.sizeOf75,
    v46 := Tryd.zeroValue75,
    t51 := Tryd.underlying86,
    a51 := Tryd.isAgg86,
    z51 := Tryd.sizeOf86,
    v51 := Tryd.zeroValue86,
    t53 := Tryd.underlying89,
    a53 := Tryd.isAgg89,
    z53 := Tryd.sizeOf89,
    v53 := Tryd.zeroValue89,
    t75 := Tryd.underlying66,
    a75 := Tryd.isAgg66,
    z75 := Tryd.sizeOf66,
    v75 := Tryd.zeroValue66,
    t76 := Tryd.underlying67,
    a76 := Tryd.isAgg67,
    z76 := Tryd.sizeOf67,
    v76 := Tryd.zeroValue67,
    t85 := Tryd.underlying77,
    a85 := Tryd.isAgg77,
    z85 := Tryd.sizeOf77,
    v85 := Tryd.zeroValue77,
    t127 := Tryd.underlying103,
    a127 := Tryd.isAgg103,
    z127 := Tryd.sizeOf103,
    v127 := Tryd.zeroValue103,
    t143 := Tryd.underlying104,
    a143 := Tryd.isAgg104,
    z143 := Tryd.sizeOf104,
    v143 := Tryd.zeroValue104,
    t145 := Tryd.underlying106,
    a145 := Tryd.isAgg106,
    z145 := Tryd.sizeOf106,
    v145 := Tryd.zeroValue106,
    t167 := Tryd.underlying76,
    a167 := Tryd.isAgg76,
    z167 := Tryd.sizeOf76,
    v167 := Tryd.zeroValue76,
    t168 := Tryd.underlying79,
    a168 := Tryd.isAgg79,
    z168 := Tryd.sizeOf79,
    v168 := Tryd.zeroValue79,
    t171 := Tryd.underlying96,
    a171 := Tryd.isAgg96,
    z171 := Tryd.sizeOf96,
    v171 := Tryd.zeroValue96,
    t173 := Tryd.underlying99,
    a173 := Tryd.isAgg99,
    z173 := Tryd.sizeOf99,
    v173 := Tryd.zeroValue99,
    t175 := Tryd.underlying90,
    a175 := Tryd.isAgg90,
    z175 := Tryd.sizeOf90,
    v175 := Tryd.zeroValue90,
    t210 := Tryd.underlying94,
    a210 := Tryd.isAgg94,
    z210 := Tryd.sizeOf94,
    v210 := Tryd.zeroValue94,
    t212 := Tryd.underlying108,
    a212 := Tryd.isAgg108,
    z212 := Tryd.sizeOf108,
    v212 := Tryd.zeroValue108,
    t213 := Tryd.underlying109,
    a213 := Tryd.isAgg109,
    z213 := Tryd.sizeOf109,
    t232 := Tryd.underlying112,
    a232 := Tryd.isAgg112,
    z232 := Tryd.sizeOf112,
    v232 := Tryd.zeroValue112,
    t233 := Tryd.underlying113,
    a233 := Tryd.isAgg113,
    z233 := Tryd.sizeOf113,
    v233 := Tryd.zeroValue113,
    g15 := by kernel_rfl,
    g16 := by kernel_rfl,
    g17 := by kernel_rfl,
    g18 := by kernel_rfl,
    g19 := by kernel_rfl,
    t80 := Tryd.underlying114,
    a80 := Tryd.isAgg114,
    z80 := Tryd.sizeOf114,
    v80 := Tryd.zeroValue114,
    i0 := by kernel_rfl,
    i2 := by kernel_rfl,
    i3 := by kernel_rfl,
    i4 := by kernel_rfl,
    i5 := by kernel_rfl,
    i9 := by kernel_rfl,
    i20 := by kernel_rfl,
    i21 := by kernel_rfl,
    i37 := by kernel_rfl,
    i46 := by kernel_rfl,
    i51 := by kernel_rfl,
    i53 := by kernel_rfl,
    i75 := by kernel_rfl,
    i76 := by kernel_rfl,
    i80 := by kernel_rfl,
    i85 := by kernel_rfl,
    i127 := by kernel_rfl,
    i143 := by kernel_rfl,
    i145 := by kernel_rfl,
    i167 := by kernel_rfl,
    i168 := by kernel_rfl,
    i171 := by kernel_rfl,
    i173 := by kernel_rfl,
    i175 := by kernel_rfl,
    i210 := by kernel_rfl,
    i212 := by kernel_rfl,
    i232 := by kernel_rfl,
    i233 := by kernel_rfl,
    m15 := by kernel_rfl,
    m16 := by kernel_rfl,
    m17 := by kernel_rfl,
    m18 := by kernel_rfl,
    m19 := by kernel_rfl,
    c0 := by kernel_rfl,
    c2 := by kernel_rfl,
    c3 := by kernel_rfl,
    c4 := by kernel_rfl,
    c5 := by kernel_rfl,
    c9 := by kernel_rfl,
    c20 := by kernel_rfl,
    c21 := by kernel_rfl,
    c37 := by kernel_rfl,
    c46 := by kernel_rfl,
    c51 := by kernel_rfl,
    c53 := by kernel_rfl,
    c75 := by kernel_rfl,
    c76 := by kernel_rfl,
    c80 := by kernel_rfl,
    c85 := by kernel_rfl,
    c127 := by kernel_rfl,
    c143 := by kernel_rfl,
    c145 := by kernel_rfl,
    c167 := by kernel_rfl,
    c168 := by kernel_rfl,
    c171 := by kernel_rfl,
    c173 := by kernel_rfl,
    c175 := by kernel_rfl,
    c210 := by kernel_rfl,
    c212 := by kernel_rfl,
    c213 := by kernel_rfl,
    c232 := by kernel_rfl,
    c233 := by kernel_rfl }
theorem gES : Tryd.prog.globalNamed "strconv.ErrSyntax" = some (laysRen.g 15) := laysAtoi.m15
theorem gER : Tryd.prog.globalNamed "strconv.ErrRange" = some (laysRen.g 16) := laysAtoi.m16
theorem atoiGood {st : List Entry} {xs : List V} {r : V × List Entry} (h : atoiX st xs = some r) : CallOk Tryd.prog 45 st xs r :=
  atoi_ok (f := laysRen.f 172) (ge := laysRen.g 15) (gr := laysRen.g 16) (Go.Proofs.enters_of laysAtoi.f172 (by kernel_rfl) rfl)
    (fun s hs v ha w => (Any.strconv_Atoi_ok laysAtoi s (by omega) v ha w).mono fun e w' he => ⟨he.1, by
      rcases he.2 with rfl | ⟨t, rfl⟩
      · exact Below.refl _ _
      · exact Lib.bytesWorld_below _ _ _⟩)
    (fun s hs h1 h2 te pe w hc => by
      have hall : ∀ x, Lib.atoiAll s.data.toList = x → Calls Tryd.prog (laysRen.f 172) #[.string s] w fun e w' => (∃ T z, e = .returned (.tuple #[.int .i64 0, .iface T z])) ∧ Below w.heap.size w w' := by
        intro x hx
        cases x with
        | ok v => exact (h1 v hx).elim
        | range => exact (h2 hx).elim
        | _ =>
          refine (Any.strconv_Atoi_syntax laysAtoi s (by omega) hx (.iface te pe) w hc (Or.inr ⟨te, pe, rfl⟩)).mono fun e w' he => ?_
          obtain ⟨N, he, _, _, hb⟩ := he
          exact ⟨⟨_, _, he⟩, hb⟩
      exact hall _ rfl)
    (fun s hs ha te pe w hc => (Any.strconv_Atoi_range laysAtoi s (by omega) ha (.iface te pe) w hc (Or.inr ⟨te, pe, rfl⟩)).mono fun e w' he => by
      obtain ⟨N, he, _, _, hb⟩ := he
      exact ⟨⟨_, _, he⟩, hb⟩)
    gES gER h
theorem cmpGood {st : List Entry} {xs : List V} {r : V × List Entry} (h : cmpX st xs = some r) : CallOk Tryd.prog 59 st xs r :=
  cmp_ok Tryd.func59 (by kernel_rfl) (by kernel_rfl) (by kernel_rfl) (by kernel_rfl) h
theorem idxGood {st : List Entry} {xs : List V} {r : V × List Entry} (h : idxX st xs = some r) : CallOk Tryd.prog 74 st xs r :=
  idx_ok Tryd.func74 (by kernel_rfl) (by kernel_rfl) (by kernel_rfl) (by kernel_rfl) h
theorem xGood (f : FuncId) (st : List Entry) (xs : List V) (r : V × List Entry) (h : cfg.X f st xs = some r) : CallOk Tryd.prog f st xs r := by
  have h : (bif Nat.beq f 45 then atoiX st xs else bif Nat.beq f 59 then cmpX st xs else bif Nat.beq f 74 then idxX st xs else none) = some r := h
  cases h0 : Nat.beq f 45 with
  | true =>
    rw [h0] at h
    obtain rfl := Nat.eq_of_beq_eq_true h0
    exact atoiGood h
  | false =>
  rw [h0] at h
  simp only [cond_false] at h
  cases h1 : Nat.beq f 59 with
  | true =>
    rw [h1] at h
    obtain rfl := Nat.eq_of_beq_eq_true h1
    exact cmpGood h
  | false =>
  rw [h1] at h
  simp only [cond_false] at h
  cases h2 : Nat.beq f 74 with
  | true =>
    rw [h2] at h
    obtain rfl := Nat.eq_of_beq_eq_true h2
    exact idxGood h
  | false =>
  rw [h2] at h
  simp only [cond_false] at h
  cases h
end Go.Am.Try
