/- The functions of the program in plain Lean, and that the machine answers as they do; conditions at each theorem. -/
import Derived.Test.YtabecknjhcjpfaaGreatDoorBS2
import Derived.Shelf.Strconv.AtoiAll
import Derived.Lib.AtoiErrMem
import Derived.KernelRfl
set_option linter.unusedVariables false
set_option linter.unusedSimpArgs false
namespace Go.Am.Try
open Go.Am Go.Proofs Go.RowKit
theorem used_7 : ∃ fn, Tryz.prog.funcs[7]? = some fn ∧ usedB cfg 7 fn = true := ⟨Tryz.f7, Tryz.func7, by kernel_rfl⟩
theorem used_20 : ∃ fn, Tryz.prog.funcs[20]? = some fn ∧ usedB cfg 20 fn = true := ⟨Tryz.f20, Tryz.func20, by kernel_rfl⟩
theorem used_22 : ∃ fn, Tryz.prog.funcs[22]? = some fn ∧ usedB cfg 22 fn = true := ⟨Tryz.f22, Tryz.func22, by kernel_rfl⟩
theorem used_25 : ∃ fn, Tryz.prog.funcs[25]? = some fn ∧ usedB cfg 25 fn = true := ⟨Tryz.f25, Tryz.func25, by kernel_rfl⟩
theorem used_27 : ∃ fn, Tryz.prog.funcs[27]? = some fn ∧ usedB cfg 27 fn = true := ⟨Tryz.f27, Tryz.func27, by kernel_rfl⟩
theorem used_28 : ∃ fn, Tryz.prog.funcs[28]? = some fn ∧ usedB cfg 28 fn = true := ⟨Tryz.f28, Tryz.func28, by kernel_rfl⟩
theorem used_34 : ∃ fn, Tryz.prog.funcs[34]? = some fn ∧ usedB cfg 34 fn = true := ⟨Tryz.f34, Tryz.func34, by kernel_rfl⟩
theorem used_35 : ∃ fn, Tryz.prog.funcs[35]? = some fn ∧ usedB cfg 35 fn = true := ⟨Tryz.f35, Tryz.func35, by kernel_rfl⟩
theorem used_36 : ∃ fn, Tryz.prog.funcs[36]? = some fn ∧ usedB cfg 36 fn = true := ⟨Tryz.f36, Tryz.func36, by kernel_rfl⟩
theorem used_37 : ∃ fn, Tryz.prog.funcs[37]? = some fn ∧ usedB cfg 37 fn = true := ⟨Tryz.f37, Tryz.func37, by kernel_rfl⟩
theorem used_38 : ∃ fn, Tryz.prog.funcs[38]? = some fn ∧ usedB cfg 38 fn = true := ⟨Tryz.f38, Tryz.func38, by kernel_rfl⟩
theorem used_39 : ∃ fn, Tryz.prog.funcs[39]? = some fn ∧ usedB cfg 39 fn = true := ⟨Tryz.f39, Tryz.func39, by kernel_rfl⟩
theorem used_40 : ∃ fn, Tryz.prog.funcs[40]? = some fn ∧ usedB cfg 40 fn = true := ⟨Tryz.f40, Tryz.func40, by kernel_rfl⟩
theorem used_59 : ∃ fn, Tryz.prog.funcs[59]? = some fn ∧ usedB cfg 59 fn = true := ⟨Tryz.f59, Tryz.func59, by kernel_rfl⟩
theorem used_61 : ∃ fn, Tryz.prog.funcs[61]? = some fn ∧ usedB cfg 61 fn = true := ⟨Tryz.f61, Tryz.func61, by kernel_rfl⟩
theorem used_63 : ∃ fn, Tryz.prog.funcs[63]? = some fn ∧ usedB cfg 63 fn = true := ⟨Tryz.f63, Tryz.func63, by kernel_rfl⟩
theorem used_64 : ∃ fn, Tryz.prog.funcs[64]? = some fn ∧ usedB cfg 64 fn = true := ⟨Tryz.f64, Tryz.func64, by kernel_rfl⟩
theorem used_72 : ∃ fn, Tryz.prog.funcs[72]? = some fn ∧ usedB cfg 72 fn = true := ⟨Tryz.f72, Tryz.func72, by kernel_rfl⟩
theorem used_76 : ∃ fn, Tryz.prog.funcs[76]? = some fn ∧ usedB cfg 76 fn = true := ⟨Tryz.f76, Tryz.func76, by kernel_rfl⟩
theorem used_77 : ∃ fn, Tryz.prog.funcs[77]? = some fn ∧ usedB cfg 77 fn = true := ⟨Tryz.f77, Tryz.func77, by kernel_rfl⟩
theorem used_79 : ∃ fn, Tryz.prog.funcs[79]? = some fn ∧ usedB cfg 79 fn = true := ⟨Tryz.f79, Tryz.func79, by kernel_rfl⟩
theorem used_80 : ∃ fn, Tryz.prog.funcs[80]? = some fn ∧ usedB cfg 80 fn = true := ⟨Tryz.f80, Tryz.func80, by kernel_rfl⟩
theorem used_81 : ∃ fn, Tryz.prog.funcs[81]? = some fn ∧ usedB cfg 81 fn = true := ⟨Tryz.f81, Tryz.func81, by kernel_rfl⟩
theorem used_82 : ∃ fn, Tryz.prog.funcs[82]? = some fn ∧ usedB cfg 82 fn = true := ⟨Tryz.f82, Tryz.func82, by kernel_rfl⟩
theorem used_83 : ∃ fn, Tryz.prog.funcs[83]? = some fn ∧ usedB cfg 83 fn = true := ⟨Tryz.f83, Tryz.func83, by kernel_rfl⟩
theorem used_84 : ∃ fn, Tryz.prog.funcs[84]? = some fn ∧ usedB cfg 84 fn = true := ⟨Tryz.f84, Tryz.func84, by kernel_rfl⟩
theorem used_85 : ∃ fn, Tryz.prog.funcs[85]? = some fn ∧ usedB cfg 85 fn = true := ⟨Tryz.f85, Tryz.func85, by kernel_rfl⟩
theorem used_86 : ∃ fn, Tryz.prog.funcs[86]? = some fn ∧ usedB cfg 86 fn = true := ⟨Tryz.f86, Tryz.func86, by kernel_rfl⟩
theorem used_92 : ∃ fn, Tryz.prog.funcs[92]? = some fn ∧ usedB cfg 92 fn = true := ⟨Tryz.f92, Tryz.func92, by kernel_rfl⟩
theorem used_97 : ∃ fn, Tryz.prog.funcs[97]? = some fn ∧ usedB cfg 97 fn = true := ⟨Tryz.f97, Tryz.func97, by kernel_rfl⟩
theorem used_106 : ∃ fn, Tryz.prog.funcs[106]? = some fn ∧ usedB cfg 106 fn = true := ⟨Tryz.f106, Tryz.func106, by kernel_rfl⟩
theorem used_107 : ∃ fn, Tryz.prog.funcs[107]? = some fn ∧ usedB cfg 107 fn = true := ⟨Tryz.f107, Tryz.func107, by kernel_rfl⟩
theorem used_108 : ∃ fn, Tryz.prog.funcs[108]? = some fn ∧ usedB cfg 108 fn = true := ⟨Tryz.f108, Tryz.func108, by kernel_rfl⟩
theorem used_110 : ∃ fn, Tryz.prog.funcs[110]? = some fn ∧ usedB cfg 110 fn = true := ⟨Tryz.f110, Tryz.func110, by kernel_rfl⟩
theorem used_111 : ∃ fn, Tryz.prog.funcs[111]? = some fn ∧ usedB cfg 111 fn = true := ⟨Tryz.f111, Tryz.func111, by kernel_rfl⟩
theorem used_112 : ∃ fn, Tryz.prog.funcs[112]? = some fn ∧ usedB cfg 112 fn = true := ⟨Tryz.f112, Tryz.func112, by kernel_rfl⟩
theorem used_113 : ∃ fn, Tryz.prog.funcs[113]? = some fn ∧ usedB cfg 113 fn = true := ⟨Tryz.f113, Tryz.func113, by kernel_rfl⟩
theorem used_114 : ∃ fn, Tryz.prog.funcs[114]? = some fn ∧ usedB cfg 114 fn = true := ⟨Tryz.f114, Tryz.func114, by kernel_rfl⟩
theorem used_121 : ∃ fn, Tryz.prog.funcs[121]? = some fn ∧ usedB cfg 121 fn = true := ⟨Tryz.f121, Tryz.func121, by kernel_rfl⟩
theorem used_123 : ∃ fn, Tryz.prog.funcs[123]? = some fn ∧ usedB cfg 123 fn = true := ⟨Tryz.f123, Tryz.func123, by kernel_rfl⟩
theorem used_124 : ∃ fn, Tryz.prog.funcs[124]? = some fn ∧ usedB cfg 124 fn = true := ⟨Tryz.f124, Tryz.func124, by kernel_rfl⟩
theorem used_125 : ∃ fn, Tryz.prog.funcs[125]? = some fn ∧ usedB cfg 125 fn = true := ⟨Tryz.f125, Tryz.func125, by kernel_rfl⟩
theorem used_126 : ∃ fn, Tryz.prog.funcs[126]? = some fn ∧ usedB cfg 126 fn = true := ⟨Tryz.f126, Tryz.func126, by kernel_rfl⟩
theorem used_127 : ∃ fn, Tryz.prog.funcs[127]? = some fn ∧ usedB cfg 127 fn = true := ⟨Tryz.f127, Tryz.func127, by kernel_rfl⟩
theorem used_128 : ∃ fn, Tryz.prog.funcs[128]? = some fn ∧ usedB cfg 128 fn = true := ⟨Tryz.f128, Tryz.func128, by kernel_rfl⟩
theorem used_129 : ∃ fn, Tryz.prog.funcs[129]? = some fn ∧ usedB cfg 129 fn = true := ⟨Tryz.f129, Tryz.func129, by kernel_rfl⟩
theorem used_130 : ∃ fn, Tryz.prog.funcs[130]? = some fn ∧ usedB cfg 130 fn = true := ⟨Tryz.f130, Tryz.func130, by kernel_rfl⟩
theorem used_131 : ∃ fn, Tryz.prog.funcs[131]? = some fn ∧ usedB cfg 131 fn = true := ⟨Tryz.f131, Tryz.func131, by kernel_rfl⟩
theorem used_132 : ∃ fn, Tryz.prog.funcs[132]? = some fn ∧ usedB cfg 132 fn = true := ⟨Tryz.f132, Tryz.func132, by kernel_rfl⟩
theorem used_139 : ∃ fn, Tryz.prog.funcs[139]? = some fn ∧ usedB cfg 139 fn = true := ⟨Tryz.f139, Tryz.func139, by kernel_rfl⟩
theorem used_140 : ∃ fn, Tryz.prog.funcs[140]? = some fn ∧ usedB cfg 140 fn = true := ⟨Tryz.f140, Tryz.func140, by kernel_rfl⟩
theorem used_146 : ∃ fn, Tryz.prog.funcs[146]? = some fn ∧ usedB cfg 146 fn = true := ⟨Tryz.f146, Tryz.func146, by kernel_rfl⟩
theorem used_147 : ∃ fn, Tryz.prog.funcs[147]? = some fn ∧ usedB cfg 147 fn = true := ⟨Tryz.f147, Tryz.func147, by kernel_rfl⟩
theorem used_148 : ∃ fn, Tryz.prog.funcs[148]? = some fn ∧ usedB cfg 148 fn = true := ⟨Tryz.f148, Tryz.func148, by kernel_rfl⟩
theorem used_149 : ∃ fn, Tryz.prog.funcs[149]? = some fn ∧ usedB cfg 149 fn = true := ⟨Tryz.f149, Tryz.func149, by kernel_rfl⟩
theorem used_150 : ∃ fn, Tryz.prog.funcs[150]? = some fn ∧ usedB cfg 150 fn = true := ⟨Tryz.f150, Tryz.func150, by kernel_rfl⟩
theorem used_151 : ∃ fn, Tryz.prog.funcs[151]? = some fn ∧ usedB cfg 151 fn = true := ⟨Tryz.f151, Tryz.func151, by kernel_rfl⟩
theorem used_153 : ∃ fn, Tryz.prog.funcs[153]? = some fn ∧ usedB cfg 153 fn = true := ⟨Tryz.f153, Tryz.func153, by kernel_rfl⟩
theorem used_154 : ∃ fn, Tryz.prog.funcs[154]? = some fn ∧ usedB cfg 154 fn = true := ⟨Tryz.f154, Tryz.func154, by kernel_rfl⟩
theorem used_155 : ∃ fn, Tryz.prog.funcs[155]? = some fn ∧ usedB cfg 155 fn = true := ⟨Tryz.f155, Tryz.func155, by kernel_rfl⟩
theorem used_169 : ∃ fn, Tryz.prog.funcs[169]? = some fn ∧ usedB cfg 169 fn = true := ⟨Tryz.f169, Tryz.func169, by kernel_rfl⟩
theorem used_170 : ∃ fn, Tryz.prog.funcs[170]? = some fn ∧ usedB cfg 170 fn = true := ⟨Tryz.f170, Tryz.func170, by kernel_rfl⟩
theorem used_171 : ∃ fn, Tryz.prog.funcs[171]? = some fn ∧ usedB cfg 171 fn = true := ⟨Tryz.f171, Tryz.func171, by kernel_rfl⟩
theorem used_172 : ∃ fn, Tryz.prog.funcs[172]? = some fn ∧ usedB cfg 172 fn = true := ⟨Tryz.f172, Tryz.func172, by kernel_rfl⟩
theorem used_173 : ∃ fn, Tryz.prog.funcs[173]? = some fn ∧ usedB cfg 173 fn = true := ⟨Tryz.f173, Tryz.func173, by kernel_rfl⟩
theorem used_176 : ∃ fn, Tryz.prog.funcs[176]? = some fn ∧ usedB cfg 176 fn = true := ⟨Tryz.f176, Tryz.func176, by kernel_rfl⟩
theorem used_177 : ∃ fn, Tryz.prog.funcs[177]? = some fn ∧ usedB cfg 177 fn = true := ⟨Tryz.f177, Tryz.func177, by kernel_rfl⟩
theorem used_178 : ∃ fn, Tryz.prog.funcs[178]? = some fn ∧ usedB cfg 178 fn = true := ⟨Tryz.f178, Tryz.func178, by kernel_rfl⟩
theorem used_179 : ∃ fn, Tryz.prog.funcs[179]? = some fn ∧ usedB cfg 179 fn = true := ⟨Tryz.f179, Tryz.func179, by kernel_rfl⟩
theorem used_186 : ∃ fn, Tryz.prog.funcs[186]? = some fn ∧ usedB cfg 186 fn = true := ⟨Tryz.f186, Tryz.func186, by kernel_rfl⟩
theorem used_195 : ∃ fn, Tryz.prog.funcs[195]? = some fn ∧ usedB cfg 195 fn = true := ⟨Tryz.f195, Tryz.func195, by kernel_rfl⟩
theorem used_196 : ∃ fn, Tryz.prog.funcs[196]? = some fn ∧ usedB cfg 196 fn = true := ⟨Tryz.f196, Tryz.func196, by kernel_rfl⟩
theorem used_197 : ∃ fn, Tryz.prog.funcs[197]? = some fn ∧ usedB cfg 197 fn = true := ⟨Tryz.f197, Tryz.func197, by kernel_rfl⟩
theorem used_198 : ∃ fn, Tryz.prog.funcs[198]? = some fn ∧ usedB cfg 198 fn = true := ⟨Tryz.f198, Tryz.func198, by kernel_rfl⟩
theorem used_206 : ∃ fn, Tryz.prog.funcs[206]? = some fn ∧ usedB cfg 206 fn = true := ⟨Tryz.f206, Tryz.func206, by kernel_rfl⟩
theorem used_209 : ∃ fn, Tryz.prog.funcs[209]? = some fn ∧ usedB cfg 209 fn = true := ⟨Tryz.f209, Tryz.func209, by kernel_rfl⟩
theorem used_210 : ∃ fn, Tryz.prog.funcs[210]? = some fn ∧ usedB cfg 210 fn = true := ⟨Tryz.f210, Tryz.func210, by kernel_rfl⟩
theorem used_211 : ∃ fn, Tryz.prog.funcs[211]? = some fn ∧ usedB cfg 211 fn = true := ⟨Tryz.f211, Tryz.func211, by kernel_rfl⟩
theorem fnsGood : FnsOk Tryz.prog cfg := fns_used2 (used := usedT) (fun f => by rw [cfg_funcs]; delta fnsT; with_reducible rfl) ⟨used_7, used_20, used_22, used_25, used_27, used_28, used_34, used_35, used_36, used_37, used_38, used_39, used_40, used_59, used_61, used_63, used_64, used_72, used_76, used_77, used_79, used_80, used_81, used_82, used_83, used_84, used_85, used_86, used_92, used_97, used_106, used_107, used_108, used_110, used_111, used_112, used_113, used_114, used_121, used_123, used_124, used_125, used_126, used_127, used_128, used_129, used_130, used_131, used_132, used_139, used_140, used_146, used_147, used_148, used_149, used_150, used_151, used_153, used_154, used_155, used_169, used_170, used_171, used_172, used_173, used_176, used_177, used_178, used_179, used_186, used_195, used_196, used_197, used_198, used_206, used_209, used_210, used_211, trivial⟩
theorem tblGood : TOk Tryz.prog cfg := tok_of (tr := tl) (by delta cfg; funext t; delta tblT; with_reducible rfl) tblOk
theorem cmpGood {st : List Entry} {xs : List V} {r : V × List Entry} (h : cmpX st xs = some r) : CallOk Tryz.prog 145 st xs r :=
  cmp_ok Tryz.func145 (by kernel_rfl) (by kernel_rfl) (by kernel_rfl) (by kernel_rfl) h
def laysRen : Go.Shelf.Ren :=
{
  f := fun x =>
    match x with
    | 172 => 152
    | 244 => 174
    | 245 => 175
    | 247 => 190
    | 279 => 191
    | 280 => 192
    | 281 => 193
    | 282 => 194
    | 287 => 203
    | 316 => 204
    | 171 => 153
    | 205 => 205
    | 321 => 212
    | 322 => 213
    | 243 => 176
    | 246 => 195
    | 283 => 206
    | 284 => 207
    | 285 => 208
    | 286 => 209
    | 129 => 168
    | 317 => 214
    | 318 => 215
    | 319 => 216
    | 320 => 217
    | 337 => 218
    | 338 => 219
    | n => n,
  t := fun x =>
    match x with
    | 9 => 9
    | 3 => 3
    | 75 => 157
    | 76 => 158
    | 4 => 4
    | 5 => 5
    | 167 => 185
    | 37 => 22
    | 0 => 0
    | 85 => 186
    | 2 => 2
    | 168 => 188
    | 53 => 174
    | 175 => 201
    | 46 => 152
    | 210 => 205
    | 127 => 213
    | 145 => 216
    | 143 => 214
    | 21 => 21
    | 171 => 207
    | 173 => 209
    | 212 => 218
    | 51 => 172
    | 20 => 20
    | 213 => 219
    | 232 => 220
    | 233 => 221
    | 80 => 222
    | n => n,
  g := fun x =>
    match x with
    | 15 => 1
    | 16 => 2
    | 17 => 3
    | 18 => 4
    | 19 => 5
    | n => n }
theorem laysAtoi : LaysC.n172 Tryz.prog laysRen :=
  { mixed := by kernel_rfl,
    f129 := Tryz.func168.trans (by kernel_rfl),
    f171 := Tryz.func153.trans (by kernel_rfl),
    f172 := Tryz.func152.trans (by kernel_rfl),
    f205 := Tryz.func205.trans (by kernel_rfl),
    f243 := Tryz.func176.trans (by kernel_rfl),
    f244 := Tryz.func174.trans (by kernel_rfl),
    f245 := Tryz.func175.trans (by kernel_rfl),
    f246 := Tryz.func195.trans (by kernel_rfl),
    f247 := Tryz.func190.trans (by kernel_rfl),
    f279 := Tryz.func191.trans (by kernel_rfl),
    f280 := Tryz.func192.trans (by kernel_rfl),
    f281 := Tryz.func193.trans (by kernel_rfl),
    f282 := Tryz.func194.trans (by kernel_rfl),
    f283 := Tryz.func206.trans (by kernel_rfl),
    f284 := Tryz.func207.trans (by kernel_rfl),
    f285 := Tryz.func208.trans (by kernel_rfl),
    f286 := Tryz.func209.trans (by kernel_rfl),
    f287 := Tryz.func203.trans (by kernel_rfl),
    f316 := Tryz.func204.trans (by kernel_rfl),
    f317 := Tryz.func214.trans (by kernel_rfl),
    f318 := Tryz.func215.trans (by kernel_rfl),
    f319 := Tryz.func216.trans (by kernel_rfl),
    f320 := Tryz.func217.trans (by kernel_rfl),
    f321 := Tryz.func212.trans (by kernel_rfl),
    f322 := Tryz.func213.trans (by kernel_rfl),
    f337 := Tryz.func218.trans (by kernel_rfl),
    f338 := Tryz.func219.trans (by kernel_rfl),
    t0 := Tryz.underlying0,
    a0 := Tryz.isAgg0,
    z0 := Tryz.sizeOf0,
    v0 := Tryz.zeroValue0,
    t2 := Tryz.underlying2,
    a2 := Tryz.isAgg2,
    z2 := Tryz.sizeOf2,
    v2 := Tryz.zeroValue2,
    t3 := Tryz.underlying3,
    a3 := Tryz.isAgg3,
    z3 := Tryz.sizeOf3,
    v3 := Tryz.zeroValue3,
    t4 := Tryz.underlying4,
    a4 := Tryz.isAgg4,
    z4 := Tryz.sizeOf4,
    v4 := Tryz.zeroValue4,
    t5 := Tryz.underlying5,
    a5 := Tryz.isAgg5,
    z5 := Tryz.sizeOf5,
    v5 := Tryz.zeroValue5,
    t9 := Tryz.underlying9,
    a9 := Tryz.isAgg9,
    z9 := Tryz.sizeOf9,
    v9 := Tryz.zeroValue9,
    t20 := Tryz.underlying20,
    a20 := Tryz.isAgg20,
    z20 := Tryz.sizeOf20,
    v20 := Tryz.zeroValue20,
    t21 := Tryz.underlying21,
    a21 := Tryz.isAgg21,
    z21 := Tryz.sizeOf21,
    v21 := Tryz.zeroValue21,
    t37 := Tryz.underlying22,
    a37 := Tryz.isAgg22,
    z37 := Tryz.sizeOf22,
    v37 := Tryz.zeroValue22,
    t46 := Tryz.underlying152,
    a46 := Tryz.isAgg152,
    z46 := Tryz.sizeOf152,
    v46 := Tryz.zeroValue152,
    t51 := Tryz.underlying172,
    a51 := Tryz.isAgg172,
    z51 := Tryz.sizeOf172,
    v51 := Tryz.zeroValue172,
    t53 := Tryz.underlying174,
    a53 := Tryz.isAgg174,
    z53 := Tryz.sizeOf174,
    v53 := Tryz.zeroValue174,
    t75 := Tryz.underlying157,
    a75 := Tryz.isAgg157,
    z75 := Tryz.sizeOf157,
    v75 := Tryz.zeroValue157,
    t76 := Tryz.underlying158,
    a76 := Tryz.isAgg158,
    z76 := Tryz.sizeOf158,
    v76 := Tryz.zeroValue158,
    t85 := Tryz.underlying186,
    a85 := Tryz.isAgg186,
    z85 := Tryz.sizeOf186,
    v85 := Tryz.zeroValue186,
    t127 := Tryz.underlying213,
    a127 := Tryz.isAgg213,
    z127 := Tryz.sizeOf213,
    v127 := Tryz.zeroValue213,
    t143 := Tryz.underlying214,
    a143 := Tryz.isAgg214,
    z143 := Tryz.sizeOf214,
    v143 := Tryz.zeroValue214,
    t145 := Tryz.underlying216,
    a145 := Tryz.isAgg216,
    z145 := Tryz.sizeOf216,
    v145 := Tryz.zeroValue216,
    t167 := Tryz.underlying185,
    a167 := Tryz.isAgg185,
    z167 := Tryz.sizeOf185,
    v167 := Tryz.zeroValue185,
    t168 := Tryz.underlying188,
    a168 := Tryz.isAgg188,
    z168 := Tryz.sizeOf188,
    v168 := Tryz.zeroValue188,
    t171 := Tryz.underlying207,
    a171 := Tryz.isAgg207,
    z171 := Tryz.sizeOf207,
    v171 := Tryz.zeroValue207,
    t173 := Tryz.underlying209,
    a173 := Tryz.isAgg209,
    z173 := Tryz.sizeOf209,
    v173 := Tryz.zeroValue209,
    t175 := Tryz.underlying201,
    a175 := Tryz.isAgg201,
    z175 := Tryz.sizeOf201,
    v175 := Tryz.zeroValue201,
    t210 := Tryz.underlying205,
    a210 := Tryz.isAgg205,
    z210 := Tryz.sizeOf205,
    v210 := Tryz.zeroValue205,
    t212 := Tryz.underlying218,
    a212 := Tryz.isAgg218,
    z212 := Tryz.sizeOf218,
    v212 := Tryz.zeroValue218,
    t213 := Tryz.underlying219,
    a213 := Tryz.isAgg219,
    z213 := Tryz.sizeOf219,
    t232 := Tryz.underlying220,
    a232 := Tryz.isAgg220,
    z232 := Tryz.sizeOf220,
    v232 := Tryz.zeroValue220,
    t233 := Tryz.underlying221,
    a233 := Tryz.isAgg221,
    z233 := Tryz.sizeOf221,
    v233 := Tryz.zeroValue221,
    g15 := by kernel_rfl,
    g16 := by kernel_rfl,
    g17 := by kernel_rfl,
    g18 := by kernel_rfl,
    g19 := by kernel_rfl,
    t80 := Tryz.underlying222,
    a80 := Tryz.isAgg222,
    z80 := Tryz.sizeOf222,
    v80 := Tryz.zeroValue222,
    i0 := by kernel_rfl,
    i2 := by kernel_rfl,
    i3 := by kernel_rfl,
    i4 := by kernel_rfl,
    i5 := by kernel_rfl,
    i9 := by kernel_rfl,
    i20 := by kernel_rfl,
    i21 := by kernel_rfl,
    i37 := by kernel_rfl,
    i46 := by kernel_rfl,
    i51 := by kernel_rfl,
    i53 := by kernel_rfl,
    i75 := by kernel_rfl,
    i76 := by kernel_rfl,
    i80 := by kernel_rfl,
    i85 := by kernel_rfl,
    i127 := by kernel_rfl,
    i143 := by kernel_rfl,
    i145 := by kernel_rfl,
    i167 := by kernel_rfl,
    i168 := by kernel_rfl,
    i171 := by kernel_rfl,
    i173 := by kernel_rfl,
    i175 := by kernel_rfl,
    i210 := by kernel_rfl,
    i212 := by kernel_rfl,
    i232 := by kernel_rfl,
    i233 := by kernel_rfl,
    m15 := by kernel_rfl,
    m16 := by kernel_rfl,
    m17 := by kernel_rfl,
    m18 := by kernel_rfl,
    m19 := by kernel_rfl,
    c0 := by kernel_rfl,
    c2 := by kernel_rfl,
    c3 := by kernel_rfl,
    c4 := by kernel_rfl,
    c5 := by kernel_rfl,
    c9 := by kernel_rfl,
    c20 := by kernel_rfl,
    c21 := by kernel_rfl,
    c37 := by kernel_rfl,
    c46 := by kernel_rfl,
    c51 := by kernel_rfl,
    c53 := by kernel_rfl,
    c75 := by kernel_rfl,
    c76 := by kernel_rfl,
    c80 := by kernel_rfl,
    c85 := by kernel_rfl,
    c127 := by kernel_rfl,
    c143 := by kernel_rfl,
    c145 := by kernel_rfl,
    c167 := by kernel_rfl,
    c168 := by kernel_rfl,
    c171 := by kernel_rfl,
    c173 := by kernel_rfl,
    c175 := by kernel_rfl,
    c210 := by kernel_rfl,
    c212 := by kernel_rfl,
    c213 := by kernel_rfl,
    c232 := by kernel_rfl,
    c233 := by kernel_rfl }
theorem gES : Tryz.prog.globalNamed "strconv.ErrSyntax" = some (laysRen.g 15) := laysAtoi.m15
theorem gER : Tryz.prog.globalNamed "strconv.ErrRange" = some (laysRen.g 16) := laysAtoi.m16
theorem atoiGood {st : List Entry} {xs : List V} {r : V × List Entry} (h : atoiX st xs = some r) : CallOk Tryz.prog 152 st xs r :=
  atoi_ok (f := laysRen.f 172) (ge := laysRen.g 15) (gr := laysRen.g 16) (Go.Proofs.enters_of laysAtoi.f172 (by kernel_rfl) rfl)
    (fun s hs v ha w => (Any.strconv_Atoi_ok laysAtoi s (by omega) v ha w).mono fun e w' he => ⟨he.1, by
      rcases he.2 with rfl | ⟨t, rfl⟩
      · exact Below.refl _ _
      · exact Lib.bytesWorld_below _ _ _⟩)
    (fun s hs h1 h2 te pe w hc => by
      have hall : ∀ x, Lib.atoiAll s.data.toList = x → Calls Tryz.prog (laysRen.f 172) #[.string s] w fun e w' => (∃ T z, e = .returned (.tuple #[.int .i64 0, .iface T z])) ∧ Below w.heap.size w w' := by
        intro x hx
        cases x with
        | ok v => exact (h1 v hx).elim
        | range => exact (h2 hx).elim
        | _ =>
          refine (Any.strconv_Atoi_syntax laysAtoi s (by omega) hx (.iface te pe) w hc (Or.inr ⟨te, pe, rfl⟩)).mono fun e w' he => ?_
          obtain ⟨N, he, _, _, hb⟩ := he
          exact ⟨⟨_, _, he⟩, hb⟩
      exact hall _ rfl)
    (fun s hs ha te pe w hc => (Any.strconv_Atoi_range laysAtoi s (by omega) ha (.iface te pe) w hc (Or.inr ⟨te, pe, rfl⟩)).mono fun e w' he => by
      obtain ⟨N, he, _, _, hb⟩ := he
      exact ⟨⟨_, _, he⟩, hb⟩)
    gES gER h
theorem idxGood {st : List Entry} {xs : List V} {r : V × List Entry} (h : idxX st xs = some r) : CallOk Tryz.prog 201 st xs r :=
  idx_ok Tryz.func201 (by kernel_rfl) (by kernel_rfl) (by kernel_rfl) (by kernel_rfl) h
theorem xGood (f : FuncId) (st : List Entry) (xs : List V) (r : V × List Entry) (h : cfg.X f st xs = some r) : CallOk Tryz.prog f st xs r := by
  have h : (bif Nat.beq f 145 then cmpX st xs else bif Nat.beq f 152 then atoiX st xs else bif Nat.beq f 201 then idxX st xs else none) = some r := h
  cases h0 : Nat.beq f 145 with
  | true =>
    rw [h0] at h
    obtain rfl := Nat.eq_of_beq_eq_true h0
    exact cmpGood h
  | false =>
  rw [h0] at h
  simp only [cond_false] at h
  cases h1 : Nat.beq f 152 with
  | true =>
    rw [h1] at h
    obtain rfl := Nat.eq_of_beq_eq_true h1
    exact atoiGood h
  | false =>
  rw [h1] at h
  simp only [cond_false] at h
  cases h2 : Nat.beq f 201 with
  | true =>
    rw [h2] at h
    obtain rfl := Nat.eq_of_beq_eq_true h2
    exact idxGood h
  | false =>
  rw [h2] at h
  simp only [cond_false] at h
  cases h
end Go.Am.Try
