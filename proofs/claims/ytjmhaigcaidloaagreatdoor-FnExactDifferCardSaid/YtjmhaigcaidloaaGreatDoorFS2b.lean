/- The functions of the program in plain Lean, and that the machine answers as they do; conditions at each theorem. -/
import Derived.Test.YtjmhaigcaidloaaGreatDoorFS2
import Derived.Test.YtjmhaigcaidloaaGreatDoorFSortX
import Derived.Shelf.Strconv.AtoiAll
import Derived.Lib.AtoiErrMem
import Derived.KernelRfl
set_option linter.unusedVariables false
set_option linter.unusedSimpArgs false
namespace Go.Am.Try
open Go.Am Go.Proofs Go.RowKit
theorem EM : ∃ fn, Tryz.prog.funcs[14]? = some fn ∧ zi cfg 14 fn = true := ⟨Tryz.f14, Tryz.func14, by kernel_rfl⟩
theorem EN : ∃ fn, Tryz.prog.funcs[15]? = some fn ∧ zi cfg 15 fn = true := ⟨Tryz.f15, Tryz.func15, by kernel_rfl⟩
theorem EO : ∃ fn, Tryz.prog.funcs[18]? = some fn ∧ zi cfg 18 fn = true := ⟨Tryz.f18, Tryz.func18, by kernel_rfl⟩
theorem EP : ∃ fn, Tryz.prog.funcs[21]? = some fn ∧ zi cfg 21 fn = true := ⟨Tryz.f21, Tryz.func21, by kernel_rfl⟩
theorem EQ : ∃ fn, Tryz.prog.funcs[23]? = some fn ∧ zi cfg 23 fn = true := ⟨Tryz.f23, Tryz.func23, by kernel_rfl⟩
theorem ER : ∃ fn, Tryz.prog.funcs[38]? = some fn ∧ zi cfg 38 fn = true := ⟨Tryz.f38, Tryz.func38, by kernel_rfl⟩
theorem ES : ∃ fn, Tryz.prog.funcs[39]? = some fn ∧ zi cfg 39 fn = true := ⟨Tryz.f39, Tryz.func39, by kernel_rfl⟩
theorem ET : ∃ fn, Tryz.prog.funcs[40]? = some fn ∧ zi cfg 40 fn = true := ⟨Tryz.f40, Tryz.func40, by kernel_rfl⟩
theorem EU : ∃ fn, Tryz.prog.funcs[51]? = some fn ∧ zi cfg 51 fn = true := ⟨Tryz.f51, Tryz.func51, by kernel_rfl⟩
theorem EV : ∃ fn, Tryz.prog.funcs[61]? = some fn ∧ zi cfg 61 fn = true := ⟨Tryz.f61, Tryz.func61, by kernel_rfl⟩
theorem EW : ∃ fn, Tryz.prog.funcs[62]? = some fn ∧ zi cfg 62 fn = true := ⟨Tryz.f62, Tryz.func62, by kernel_rfl⟩
theorem EX : ∃ fn, Tryz.prog.funcs[63]? = some fn ∧ zi cfg 63 fn = true := ⟨Tryz.f63, Tryz.func63, by kernel_rfl⟩
theorem EY : ∃ fn, Tryz.prog.funcs[64]? = some fn ∧ zi cfg 64 fn = true := ⟨Tryz.f64, Tryz.func64, by kernel_rfl⟩
theorem EZ : ∃ fn, Tryz.prog.funcs[65]? = some fn ∧ zi cfg 65 fn = true := ⟨Tryz.f65, Tryz.func65, by kernel_rfl⟩
theorem Da : ∃ fn, Tryz.prog.funcs[66]? = some fn ∧ zi cfg 66 fn = true := ⟨Tryz.f66, Tryz.func66, by kernel_rfl⟩
theorem Db : ∃ fn, Tryz.prog.funcs[67]? = some fn ∧ zi cfg 67 fn = true := ⟨Tryz.f67, Tryz.func67, by kernel_rfl⟩
theorem Dc : ∃ fn, Tryz.prog.funcs[68]? = some fn ∧ zi cfg 68 fn = true := ⟨Tryz.f68, Tryz.func68, by kernel_rfl⟩
theorem Dd : ∃ fn, Tryz.prog.funcs[69]? = some fn ∧ zi cfg 69 fn = true := ⟨Tryz.f69, Tryz.func69, by kernel_rfl⟩
theorem De : ∃ fn, Tryz.prog.funcs[70]? = some fn ∧ zi cfg 70 fn = true := ⟨Tryz.f70, Tryz.func70, by kernel_rfl⟩
theorem Df : ∃ fn, Tryz.prog.funcs[75]? = some fn ∧ zi cfg 75 fn = true := ⟨Tryz.f75, Tryz.func75, by kernel_rfl⟩
theorem Dg : ∃ fn, Tryz.prog.funcs[76]? = some fn ∧ zi cfg 76 fn = true := ⟨Tryz.f76, Tryz.func76, by kernel_rfl⟩
theorem Dh : ∃ fn, Tryz.prog.funcs[77]? = some fn ∧ zi cfg 77 fn = true := ⟨Tryz.f77, Tryz.func77, by kernel_rfl⟩
theorem Di : ∃ fn, Tryz.prog.funcs[78]? = some fn ∧ zi cfg 78 fn = true := ⟨Tryz.f78, Tryz.func78, by kernel_rfl⟩
theorem Dj : ∃ fn, Tryz.prog.funcs[81]? = some fn ∧ zi cfg 81 fn = true := ⟨Tryz.f81, Tryz.func81, by kernel_rfl⟩
theorem Dk : ∃ fn, Tryz.prog.funcs[82]? = some fn ∧ zi cfg 82 fn = true := ⟨Tryz.f82, Tryz.func82, by kernel_rfl⟩
theorem Dl : ∃ fn, Tryz.prog.funcs[83]? = some fn ∧ zi cfg 83 fn = true := ⟨Tryz.f83, Tryz.func83, by kernel_rfl⟩
theorem Dm : ∃ fn, Tryz.prog.funcs[94]? = some fn ∧ zi cfg 94 fn = true := ⟨Tryz.f94, Tryz.func94, by kernel_rfl⟩
theorem GF : ∃ fn, Tryz.prog.funcs[105]? = some fn ∧ zi cfg 105 fn = true := ⟨Tryz.f105, Tryz.func105, by kernel_rfl⟩
theorem GG : ∃ fn, Tryz.prog.funcs[109]? = some fn ∧ zi cfg 109 fn = true := ⟨Tryz.f109, Tryz.func109, by kernel_rfl⟩
theorem GH : ∃ fn, Tryz.prog.funcs[113]? = some fn ∧ zi cfg 113 fn = true := ⟨Tryz.f113, Tryz.func113, by kernel_rfl⟩
theorem GI : ∃ fn, Tryz.prog.funcs[115]? = some fn ∧ zi cfg 115 fn = true := ⟨Tryz.f115, Tryz.func115, by kernel_rfl⟩
theorem GJ : ∃ fn, Tryz.prog.funcs[116]? = some fn ∧ zi cfg 116 fn = true := ⟨Tryz.f116, Tryz.func116, by kernel_rfl⟩
theorem GK : ∃ fn, Tryz.prog.funcs[117]? = some fn ∧ zi cfg 117 fn = true := ⟨Tryz.f117, Tryz.func117, by kernel_rfl⟩
theorem GL : ∃ fn, Tryz.prog.funcs[118]? = some fn ∧ zi cfg 118 fn = true := ⟨Tryz.f118, Tryz.func118, by kernel_rfl⟩
theorem GM : ∃ fn, Tryz.prog.funcs[119]? = some fn ∧ zi cfg 119 fn = true := ⟨Tryz.f119, Tryz.func119, by kernel_rfl⟩
theorem GN : ∃ fn, Tryz.prog.funcs[121]? = some fn ∧ zi cfg 121 fn = true := ⟨Tryz.f121, Tryz.func121, by kernel_rfl⟩
theorem GO : ∃ fn, Tryz.prog.funcs[122]? = some fn ∧ zi cfg 122 fn = true := ⟨Tryz.f122, Tryz.func122, by kernel_rfl⟩
theorem GP : ∃ fn, Tryz.prog.funcs[123]? = some fn ∧ zi cfg 123 fn = true := ⟨Tryz.f123, Tryz.func123, by kernel_rfl⟩
theorem GQ : ∃ fn, Tryz.prog.funcs[124]? = some fn ∧ zi cfg 124 fn = true := ⟨Tryz.f124, Tryz.func124, by kernel_rfl⟩
theorem GR : ∃ fn, Tryz.prog.funcs[125]? = some fn ∧ zi cfg 125 fn = true := ⟨Tryz.f125, Tryz.func125, by kernel_rfl⟩
theorem GS : ∃ fn, Tryz.prog.funcs[126]? = some fn ∧ zi cfg 126 fn = true := ⟨Tryz.f126, Tryz.func126, by kernel_rfl⟩
theorem GT : ∃ fn, Tryz.prog.funcs[127]? = some fn ∧ zi cfg 127 fn = true := ⟨Tryz.f127, Tryz.func127, by kernel_rfl⟩
theorem GU : ∃ fn, Tryz.prog.funcs[131]? = some fn ∧ zi cfg 131 fn = true := ⟨Tryz.f131, Tryz.func131, by kernel_rfl⟩
theorem GV : ∃ fn, Tryz.prog.funcs[132]? = some fn ∧ zi cfg 132 fn = true := ⟨Tryz.f132, Tryz.func132, by kernel_rfl⟩
theorem GW : ∃ fn, Tryz.prog.funcs[133]? = some fn ∧ zi cfg 133 fn = true := ⟨Tryz.f133, Tryz.func133, by kernel_rfl⟩
theorem GX : ∃ fn, Tryz.prog.funcs[134]? = some fn ∧ zi cfg 134 fn = true := ⟨Tryz.f134, Tryz.func134, by kernel_rfl⟩
theorem GY : ∃ fn, Tryz.prog.funcs[135]? = some fn ∧ zi cfg 135 fn = true := ⟨Tryz.f135, Tryz.func135, by kernel_rfl⟩
theorem GZ : ∃ fn, Tryz.prog.funcs[143]? = some fn ∧ zi cfg 143 fn = true := ⟨Tryz.f143, Tryz.func143, by kernel_rfl⟩
theorem Ha : ∃ fn, Tryz.prog.funcs[144]? = some fn ∧ zi cfg 144 fn = true := ⟨Tryz.f144, Tryz.func144, by kernel_rfl⟩
theorem Hb : ∃ fn, Tryz.prog.funcs[145]? = some fn ∧ zi cfg 145 fn = true := ⟨Tryz.f145, Tryz.func145, by kernel_rfl⟩
theorem Hc : ∃ fn, Tryz.prog.funcs[152]? = some fn ∧ zi cfg 152 fn = true := ⟨Tryz.f152, Tryz.func152, by kernel_rfl⟩
theorem Hd : ∃ fn, Tryz.prog.funcs[154]? = some fn ∧ zi cfg 154 fn = true := ⟨Tryz.f154, Tryz.func154, by kernel_rfl⟩
theorem He : ∃ fn, Tryz.prog.funcs[155]? = some fn ∧ zi cfg 155 fn = true := ⟨Tryz.f155, Tryz.func155, by kernel_rfl⟩
theorem Hf : ∃ fn, Tryz.prog.funcs[158]? = some fn ∧ zi cfg 158 fn = true := ⟨Tryz.f158, Tryz.func158, by kernel_rfl⟩
theorem Hg : ∃ fn, Tryz.prog.funcs[160]? = some fn ∧ zi cfg 160 fn = true := ⟨Tryz.f160, Tryz.func160, by kernel_rfl⟩
theorem Hh : ∃ fn, Tryz.prog.funcs[161]? = some fn ∧ zi cfg 161 fn = true := ⟨Tryz.f161, Tryz.func161, by kernel_rfl⟩
theorem Hi : ∃ fn, Tryz.prog.funcs[162]? = some fn ∧ zi cfg 162 fn = true := ⟨Tryz.f162, Tryz.func162, by kernel_rfl⟩
theorem Hj : ∃ fn, Tryz.prog.funcs[163]? = some fn ∧ zi cfg 163 fn = true := ⟨Tryz.f163, Tryz.func163, by kernel_rfl⟩
theorem Hk : ∃ fn, Tryz.prog.funcs[167]? = some fn ∧ zi cfg 167 fn = true := ⟨Tryz.f167, Tryz.func167, by kernel_rfl⟩
theorem Hl : ∃ fn, Tryz.prog.funcs[168]? = some fn ∧ zi cfg 168 fn = true := ⟨Tryz.f168, Tryz.func168, by kernel_rfl⟩
theorem Hm : ∃ fn, Tryz.prog.funcs[169]? = some fn ∧ zi cfg 169 fn = true := ⟨Tryz.f169, Tryz.func169, by kernel_rfl⟩
theorem Hn : ∃ fn, Tryz.prog.funcs[170]? = some fn ∧ zi cfg 170 fn = true := ⟨Tryz.f170, Tryz.func170, by kernel_rfl⟩
theorem Ho : ∃ fn, Tryz.prog.funcs[171]? = some fn ∧ zi cfg 171 fn = true := ⟨Tryz.f171, Tryz.func171, by kernel_rfl⟩
theorem Hp : ∃ fn, Tryz.prog.funcs[172]? = some fn ∧ zi cfg 172 fn = true := ⟨Tryz.f172, Tryz.func172, by kernel_rfl⟩
theorem Hq : ∃ fn, Tryz.prog.funcs[174]? = some fn ∧ zi cfg 174 fn = true := ⟨Tryz.f174, Tryz.func174, by kernel_rfl⟩
theorem Hr : ∃ fn, Tryz.prog.funcs[175]? = some fn ∧ zi cfg 175 fn = true := ⟨Tryz.f175, Tryz.func175, by kernel_rfl⟩
theorem Hs : ∃ fn, Tryz.prog.funcs[176]? = some fn ∧ zi cfg 176 fn = true := ⟨Tryz.f176, Tryz.func176, by kernel_rfl⟩
theorem Ht : ∃ fn, Tryz.prog.funcs[183]? = some fn ∧ zi cfg 183 fn = true := ⟨Tryz.f183, Tryz.func183, by kernel_rfl⟩
theorem Hu : ∃ fn, Tryz.prog.funcs[194]? = some fn ∧ zi cfg 194 fn = true := ⟨Tryz.f194, Tryz.func194, by kernel_rfl⟩
theorem Hv : ∃ fn, Tryz.prog.funcs[195]? = some fn ∧ zi cfg 195 fn = true := ⟨Tryz.f195, Tryz.func195, by kernel_rfl⟩
theorem Hw : ∃ fn, Tryz.prog.funcs[196]? = some fn ∧ zi cfg 196 fn = true := ⟨Tryz.f196, Tryz.func196, by kernel_rfl⟩
theorem Hx : ∃ fn, Tryz.prog.funcs[197]? = some fn ∧ zi cfg 197 fn = true := ⟨Tryz.f197, Tryz.func197, by kernel_rfl⟩
theorem Hy : ∃ fn, Tryz.prog.funcs[198]? = some fn ∧ zi cfg 198 fn = true := ⟨Tryz.f198, Tryz.func198, by kernel_rfl⟩
theorem Hz : ∃ fn, Tryz.prog.funcs[201]? = some fn ∧ zi cfg 201 fn = true := ⟨Tryz.f201, Tryz.func201, by kernel_rfl⟩
theorem H0 : ∃ fn, Tryz.prog.funcs[202]? = some fn ∧ zi cfg 202 fn = true := ⟨Tryz.f202, Tryz.func202, by kernel_rfl⟩
theorem H1 : ∃ fn, Tryz.prog.funcs[203]? = some fn ∧ zi cfg 203 fn = true := ⟨Tryz.f203, Tryz.func203, by kernel_rfl⟩
theorem H2 : ∃ fn, Tryz.prog.funcs[204]? = some fn ∧ zi cfg 204 fn = true := ⟨Tryz.f204, Tryz.func204, by kernel_rfl⟩
theorem H3 : ∃ fn, Tryz.prog.funcs[212]? = some fn ∧ zi cfg 212 fn = true := ⟨Tryz.f212, Tryz.func212, by kernel_rfl⟩
theorem H4 : ∃ fn, Tryz.prog.funcs[221]? = some fn ∧ zi cfg 221 fn = true := ⟨Tryz.f221, Tryz.func221, by kernel_rfl⟩
theorem H5 : ∃ fn, Tryz.prog.funcs[222]? = some fn ∧ zi cfg 222 fn = true := ⟨Tryz.f222, Tryz.func222, by kernel_rfl⟩
theorem H6 : ∃ fn, Tryz.prog.funcs[223]? = some fn ∧ zi cfg 223 fn = true := ⟨Tryz.f223, Tryz.func223, by kernel_rfl⟩
theorem H7 : ∃ fn, Tryz.prog.funcs[224]? = some fn ∧ zi cfg 224 fn = true := ⟨Tryz.f224, Tryz.func224, by kernel_rfl⟩
theorem H8 : ∃ fn, Tryz.prog.funcs[232]? = some fn ∧ zi cfg 232 fn = true := ⟨Tryz.f232, Tryz.func232, by kernel_rfl⟩
theorem H9 : ∃ fn, Tryz.prog.funcs[235]? = some fn ∧ zi cfg 235 fn = true := ⟨Tryz.f235, Tryz.func235, by kernel_rfl⟩
theorem HA : ∃ fn, Tryz.prog.funcs[236]? = some fn ∧ zi cfg 236 fn = true := ⟨Tryz.f236, Tryz.func236, by kernel_rfl⟩
theorem HB : ∃ fn, Tryz.prog.funcs[237]? = some fn ∧ zi cfg 237 fn = true := ⟨Tryz.f237, Tryz.func237, by kernel_rfl⟩
theorem fnsGood : W7 Tryz.prog cfg := ME (used := LZ) (fun f => by rw [TO]; delta Ma; with_reducible rfl) ⟨EM, EN, EO, EP, EQ, ER, ES, ET, EU, EV, EW, EX, EY, EZ, Da, Db, Dc, Dd, De, Df, Dg, Dh, Di, Dj, Dk, Dl, Dm, GF, GG, GH, GI, GJ, GK, GL, GM, GN, GO, GP, GQ, GR, GS, GT, GU, GV, GW, GX, GY, GZ, Ha, Hb, Hc, Hd, He, Hf, Hg, Hh, Hi, Hj, Hk, Hl, Hm, Hn, Ho, Hp, Hq, Hr, Hs, Ht, Hu, Hv, Hw, Hx, Hy, Hz, H0, H1, H2, H3, H4, H5, H6, H7, H8, H9, HA, HB, trivial⟩
theorem tblGood : TOk Tryz.prog cfg := D6 (tr := tl) (by delta cfg; funext t; delta XR; with_reducible rfl) Bi
theorem Dn {st : List Entry} {xs : List V} {r : V × List Entry} (h : Py st xs = some r) : xb Tryz.prog 166 st xs r :=
 Pz Tryz.func166 (by kernel_rfl) (by kernel_rfl) (by kernel_rfl) (by kernel_rfl) h
def ZF : Go.Shelf.Ren :=
{
 f := fun x =>
  match x with
  | 172 => 173
  | 244 => 199
  | 245 => 200
  | 247 => 216
  | 279 => 217
  | 280 => 218
  | 281 => 219
  | 282 => 220
  | 287 => 229
  | 316 => 230
  | 171 => 174
  | 205 => 231
  | 321 => 238
  | 322 => 239
  | 243 => 201
  | 246 => 221
  | 283 => 232
  | 284 => 233
  | 285 => 234
  | 286 => 235
  | 129 => 193
  | 317 => 240
  | 318 => 241
  | 319 => 242
  | 320 => 243
  | 337 => 244
  | 338 => 245
  | n => n,
 t := fun x =>
  match x with
  | 9 => 9
  | 3 => 3
  | 75 => 178
  | 76 => 179
  | 4 => 4
  | 5 => 5
  | 167 => 209
  | 37 => 22
  | 0 => 0
  | 85 => 210
  | 2 => 2
  | 168 => 212
  | 53 => 197
  | 175 => 225
  | 46 => 171
  | 210 => 229
  | 127 => 237
  | 145 => 240
  | 143 => 238
  | 21 => 21
  | 171 => 231
  | 173 => 233
  | 212 => 242
  | 51 => 195
  | 20 => 20
  | 213 => 243
  | 232 => 244
  | 233 => 245
  | 80 => 246
  | n => n,
 g := fun x =>
  match x with
  | 15 => 1
  | 16 => 2
  | 17 => 3
  | 18 => 4
  | 19 => 5
  | n => n }
theorem ZG : LaysC.n172 Tryz.prog ZF :=
 {mixed := by kernel_rfl,
  f129 := Tryz.func193.trans (by kernel_rfl),
  f171 := Tryz.func174.trans (by kernel_rfl),
  f172 := Tryz.func173.trans (by kernel_rfl),
  f205 := Tryz.func231.trans (by kernel_rfl),
  f243 := Tryz.func201.trans (by kernel_rfl),
  f244 := Tryz.func199.trans (by kernel_rfl),
  f245 := Tryz.func200.trans (by kernel_rfl),
  f246 := Tryz.func221.trans (by kernel_rfl),
  f247 := Tryz.func216.trans (by kernel_rfl),
  f279 := Tryz.func217.trans (by kernel_rfl),
  f280 := Tryz.func218.trans (by kernel_rfl),
  f281 := Tryz.func219.trans (by kernel_rfl),
  f282 := Tryz.func220.trans (by kernel_rfl),
  f283 := Tryz.func232.trans (by kernel_rfl),
  f284 := Tryz.func233.trans (by kernel_rfl),
  f285 := Tryz.func234.trans (by kernel_rfl),
  f286 := Tryz.func235.trans (by kernel_rfl),
  f287 := Tryz.func229.trans (by kernel_rfl),
  f316 := Tryz.func230.trans (by kernel_rfl),
  f317 := Tryz.func240.trans (by kernel_rfl),
  f318 := Tryz.func241.trans (by kernel_rfl),
  f319 := Tryz.func242.trans (by kernel_rfl),
  f320 := Tryz.func243.trans (by kernel_rfl),
  f321 := Tryz.func238.trans (by kernel_rfl),
  f322 := Tryz.func239.trans (by kernel_rfl),
  f337 := Tryz.func244.trans (by kernel_rfl),
  f338 := Tryz.func245.trans (by kernel_rfl),
  t0 := Tryz.underlying0,
  a0 := Tryz.isAgg0,
  z0 := Tryz.sizeOf0,
  v0 := Tryz.zeroValue0,
  t2 := Tryz.underlying2,
  a2 := Tryz.isAgg2,
  z2 := Tryz.sizeOf2,
  v2 := Tryz.zeroValue2,
  t3 := Tryz.underlying3,
  a3 := Tryz.isAgg3,
  z3 := Tryz.sizeOf3,
  v3 := Tryz.zeroValue3,
  t4 := Tryz.underlying4,
  a4 := Tryz.isAgg4,
  z4 := Tryz.sizeOf4,
  v4 := Tryz.zeroValue4,
  t5 := Tryz.underlying5,
  a5 := Tryz.isAgg5,
  z5 := Tryz.sizeOf5,
  v5 := Tryz.zeroValue5,
  t9 := Tryz.underlying9,
  a9 := Tryz.isAgg9,
  z9 := Tryz.sizeOf9,
  v9 := Tryz.zeroValue9,
  t20 := Tryz.underlying20,
  a20 := Tryz.isAgg20,
  z20 := Tryz.sizeOf20,
  v20 := Tryz.zeroValue20,
  t21 := Tryz.underlying21,
  a21 := Tryz.isAgg21,
  z21 := Tryz.sizeOf21,
  v21 := Tryz.zeroValue21,
  t37 := Tryz.underlying22,
  a37 := Tryz.isAgg22,
  z37 := Tryz.sizeOf22,
  v37 := Tryz.zeroValue22,
  t46 := Tryz.underlying171,
  a46 := Tryz.isAgg171,
  z46 := Tryz.sizeOf171,
  v46 := Tryz.zeroValue171,
  t51 := Tryz.underlying195,
  a51 := Tryz.isAgg195,
  z51 := Tryz.sizeOf195,
  v51 := Tryz.zeroValue195,
  t53 := Tryz.underlying197,
  a53 := Tryz.isAgg197,
  z53 := Tryz.sizeOf197,
  v53 := Tryz.zeroValue197,
  t75 := Tryz.underlying178,
  a75 := Tryz.isAgg178,
  z75 := Tryz.sizeOf178,
  v75 := Tryz.zeroValue178,
  t76 := Tryz.underlying179,
  a76 := Tryz.isAgg179,
  z76 := Tryz.sizeOf179,
  v76 := Tryz.zeroValue179,
  t85 := Tryz.underlying210,
  a85 := Tryz.isAgg210,
  z85 := Tryz.sizeOf210,
  v85 := Tryz.zeroValue210,
  t127 := Tryz.underlying237,
  a127 := Tryz.isAgg237,
  z127 := Tryz.sizeOf237,
  v127 := Tryz.zeroValue237,
  t143 := Tryz.underlying238,
  a143 := Tryz.isAgg238,
  z143 := Tryz.sizeOf238,
  v143 := Tryz.zeroValue238,
  t145 := Tryz.underlying240,
  a145 := Tryz.isAgg240,
  z145 := Tryz.sizeOf240,
  v145 := Tryz.zeroValue240,
  t167 := Tryz.underlying209,
  a167 := Tryz.isAgg209,
  z167 := Tryz.sizeOf209,
  v167 := Tryz.zeroValue209,
  t168 := Tryz.underlying212,
  a168 := Tryz.isAgg212,
  z168 := Tryz.sizeOf212,
  v168 := Tryz.zeroValue212,
  t171 := Tryz.underlying231,
  a171 := Tryz.isAgg231,
  z171 := Tryz.sizeOf231,
  v171 := Tryz.zeroValue231,
  t173 := Tryz.underlying233,
  a173 := Tryz.isAgg233,
  z173 := Tryz.sizeOf233,
  v173 := Tryz.zeroValue233,
  t175 := Tryz.underlying225,
  a175 := Tryz.isAgg225,
  z175 := Tryz.sizeOf225,
  v175 := Tryz.zeroValue225,
  t210 := Tryz.underlying229,
  a210 := Tryz.isAgg229,
  z210 := Tryz.sizeOf229,
  v210 := Tryz.zeroValue229,
  t212 := Tryz.underlying242,
  a212 := Tryz.isAgg242,
  z212 := Tryz.sizeOf242,
  v212 := Tryz.zeroValue242,
  t213 := Tryz.underlying243,
  a213 := Tryz.isAgg243,
  z213 := Tryz.sizeOf243,
  t232 := Tryz.underlying244,
  a232 := Tryz.isAgg244,
  z232 := Tryz.sizeOf244,
  v232 := Tryz.zeroValue244,
  t233 := Tryz.underlying245,
  a233 := Tryz.isAgg245,
  z233 := Tryz.sizeOf245,
  v233 := Tryz.zeroValue245,
  g15 := by kernel_rfl,
  g16 := by kernel_rfl,
  g17 := by kernel_rfl,
  g18 := by kernel_rfl,
  g19 := by kernel_rfl,
  t80 := Tryz.underlying246,
  a80 := Tryz.isAgg246,
  z80 := Tryz.sizeOf246,
  v80 := Tryz.zeroValue246,
  i0 := by kernel_rfl,
  i2 := by kernel_rfl,
  i3 := by kernel_rfl,
  i4 := by kernel_rfl,
  i5 := by kernel_rfl,
  i9 := by kernel_rfl,
  i20 := by kernel_rfl,
  i21 := by kernel_rfl,
  i37 := by kernel_rfl,
  i46 := by kernel_rfl,
  i51 := by kernel_rfl,
  i53 := by kernel_rfl,
  i75 := by kernel_rfl,
  i76 := by kernel_rfl,
  i80 := by kernel_rfl,
  i85 := by kernel_rfl,
  i127 := by kernel_rfl,
  i143 := by kernel_rfl,
  i145 := by kernel_rfl,
  i167 := by kernel_rfl,
  i168 := by kernel_rfl,
  i171 := by kernel_rfl,
  i173 := by kernel_rfl,
  i175 := by kernel_rfl,
  i210 := by kernel_rfl,
  i212 := by kernel_rfl,
  i232 := by kernel_rfl,
  i233 := by kernel_rfl,
  m15 := by kernel_rfl,
  m16 := by kernel_rfl,
  m17 := by kernel_rfl,
  m18 := by kernel_rfl,
  m19 := by kernel_rfl,
  c0 := by kernel_rfl,
  c2 := by kernel_rfl,
  c3 := by kernel_rfl,
  c4 := by kernel_rfl,
  c5 := by kernel_rfl,
  c9 := by kernel_rfl,
  c20 := by kernel_rfl,
  c21 := by kernel_rfl,
  c37 := by kernel_rfl,
  c46 := by kernel_rfl,
  c51 := by kernel_rfl,
  c53 := by kernel_rfl,
  c75 := by kernel_rfl,
  c76 := by kernel_rfl,
  c80 := by kernel_rfl,
  c85 := by kernel_rfl,
  c127 := by kernel_rfl,
  c143 := by kernel_rfl,
  c145 := by kernel_rfl,
  c167 := by kernel_rfl,
  c168 := by kernel_rfl,
  c171 := by kernel_rfl,
  c173 := by kernel_rfl,
  c175 := by kernel_rfl,
  c210 := by kernel_rfl,
  c212 := by kernel_rfl,
  c213 := by kernel_rfl,
  c232 := by kernel_rfl,
  c233 := by kernel_rfl }
theorem gES : Tryz.prog.globalNamed "strconv.ErrSyntax" = some (ZF.g 15) := ZG.m15
theorem gER : Tryz.prog.globalNamed "strconv.ErrRange" = some (ZF.g 16) := ZG.m16
theorem HC {st : List Entry} {xs : List V} {r : V × List Entry} (h : V0 st xs = some r) : xb Tryz.prog 173 st xs r :=
 E4 (f := ZF.f 172) (ge := ZF.g 15) (gr := ZF.g 16) (Go.Proofs.enters_of ZG.f172 (by kernel_rfl) rfl)
  (fun s hs v ha w => (Any.strconv_Atoi_ok ZG s (by omega) v ha w).mono fun e w' he => ⟨he.1, by
   rcases he.2 with rfl | ⟨t, rfl⟩
   ·exact Below.refl _ _
   ·exact Lib.bytesWorld_below _ _ _⟩)
  (fun s hs h1 h2 te pe w hc => by
   have hall : ∀ x, Lib.atoiAll s.data.toList = x → Calls Tryz.prog (ZF.f 172) #[.string s] w fun e w' => (∃ T z, e = .returned (.tuple #[.int .i64 0, .iface T z])) ∧ Below w.heap.size w w' := by
    intro x hx
    cases x with
    | ok v => exact (h1 v hx).elim
    | range => exact (h2 hx).elim
    | _ =>
     refine (Any.strconv_Atoi_syntax ZG s (by omega) hx (.iface te pe) w hc (Or.inr ⟨te, pe, rfl⟩)).mono fun e w' he => ?_
     obtain ⟨N, he, _, _, hb⟩ := he
     exact ⟨⟨_, _, he⟩, hb⟩
   exact hall _ rfl)
  (fun s hs ha te pe w hc => (Any.strconv_Atoi_range ZG s (by omega) ha (.iface te pe) w hc (Or.inr ⟨te, pe, rfl⟩)).mono fun e w' he => by
   obtain ⟨N, he, _, _, hb⟩ := he
   exact ⟨⟨_, _, he⟩, hb⟩)
  gES gER h
theorem Do {st : List Entry} {xs : List V} {r : V × List Entry} (h : P0 st xs = some r) : xb Tryz.prog 227 st xs r :=
 DG Tryz.func227 (by kernel_rfl) (by kernel_rfl) (by kernel_rfl) (by kernel_rfl) h
theorem xGood (f : FuncId) (st : List Entry) (xs : List V) (r : V × List Entry) (h : cfg.X f st xs = some r) : xb Tryz.prog f st xs r := by
 have h : (bif Nat.beq f 120 then (U8 121) st xs else bif Nat.beq f 166 then Py st xs else bif Nat.beq f 173 then V0 st xs else bif Nat.beq f 227 then P0 st xs else none) = some r := h
 cases h0 : Nat.beq f 120 with
 | true =>
  rw [h0] at h
  obtain rfl := Nat.eq_of_beq_eq_true h0
  exact HE h
 | false =>
 rw [h0] at h
 simp only [cond_false] at h
 cases h1 : Nat.beq f 166 with
 | true =>
  rw [h1] at h
  obtain rfl := Nat.eq_of_beq_eq_true h1
  exact Dn h
 | false =>
 rw [h1] at h
 simp only [cond_false] at h
 cases h2 : Nat.beq f 173 with
 | true =>
  rw [h2] at h
  obtain rfl := Nat.eq_of_beq_eq_true h2
  exact HC h
 | false =>
 rw [h2] at h
 simp only [cond_false] at h
 cases h3 : Nat.beq f 227 with
 | true =>
  rw [h3] at h
  obtain rfl := Nat.eq_of_beq_eq_true h3
  exact Do h
 | false =>
 rw [h3] at h
 simp only [cond_false] at h
 cases h
end Go.Am.Try
