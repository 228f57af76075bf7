
/- The functions of the program in plain Lean, and that the machine answers as they do; conditions at each theorem. -/
import Derived.Test.YtjmhaigcaidloaaGreatDoorAS2
import Derived.Test.YtjmhaigcaidloaaGreatDoorADelX
import Derived.Shelf.Strconv.AtoiAll
import Derived.Lib.AtoiErrMem
import Derived.KernelRfl
set_option linter.unusedVariables false
set_option linter.unusedSimpArgs false
namespace Go.Am.Try
open Go.Am Go.Proofs Go.RowKit
theorem zb2 : ∃ fn, Tryz.prog.funcs[11]? = some fn ∧ ze cfg 11 fn = true := ⟨Tryz.f11, Tryz.func11, by kernel_rfl⟩
theorem zb3 : ∃ fn, Tryz.prog.funcs[15]? = some fn ∧ ze cfg 15 fn = true := ⟨Tryz.f15, Tryz.func15, by kernel_rfl⟩
theorem zb4 : ∃ fn, Tryz.prog.funcs[16]? = some fn ∧ ze cfg 16 fn = true := ⟨Tryz.f16, Tryz.func16, by kernel_rfl⟩
theorem zb5 : ∃ fn, Tryz.prog.funcs[18]? = some fn ∧ ze cfg 18 fn = true := ⟨Tryz.f18, Tryz.func18, by kernel_rfl⟩
theorem zb6 : ∃ fn, Tryz.prog.funcs[19]? = some fn ∧ ze cfg 19 fn = true := ⟨Tryz.f19, Tryz.func19, by kernel_rfl⟩
theorem zb7 : ∃ fn, Tryz.prog.funcs[21]? = some fn ∧ ze cfg 21 fn = true := ⟨Tryz.f21, Tryz.func21, by kernel_rfl⟩
theorem zb8 : ∃ fn, Tryz.prog.funcs[22]? = some fn ∧ ze cfg 22 fn = true := ⟨Tryz.f22, Tryz.func22, by kernel_rfl⟩
theorem zb9 : ∃ fn, Tryz.prog.funcs[23]? = some fn ∧ ze cfg 23 fn = true := ⟨Tryz.f23, Tryz.func23, by kernel_rfl⟩
theorem zca : ∃ fn, Tryz.prog.funcs[24]? = some fn ∧ ze cfg 24 fn = true := ⟨Tryz.f24, Tryz.func24, by kernel_rfl⟩
theorem zcb : ∃ fn, Tryz.prog.funcs[25]? = some fn ∧ ze cfg 25 fn = true := ⟨Tryz.f25, Tryz.func25, by kernel_rfl⟩
theorem zcc : ∃ fn, Tryz.prog.funcs[26]? = some fn ∧ ze cfg 26 fn = true := ⟨Tryz.f26, Tryz.func26, by kernel_rfl⟩
theorem zcd : ∃ fn, Tryz.prog.funcs[27]? = some fn ∧ ze cfg 27 fn = true := ⟨Tryz.f27, Tryz.func27, by kernel_rfl⟩
theorem zce : ∃ fn, Tryz.prog.funcs[28]? = some fn ∧ ze cfg 28 fn = true := ⟨Tryz.f28, Tryz.func28, by kernel_rfl⟩
theorem zcf : ∃ fn, Tryz.prog.funcs[30]? = some fn ∧ ze cfg 30 fn = true := ⟨Tryz.f30, Tryz.func30, by kernel_rfl⟩
theorem zcg : ∃ fn, Tryz.prog.funcs[33]? = some fn ∧ ze cfg 33 fn = true := ⟨Tryz.f33, Tryz.func33, by kernel_rfl⟩
theorem zch : ∃ fn, Tryz.prog.funcs[38]? = some fn ∧ ze cfg 38 fn = true := ⟨Tryz.f38, Tryz.func38, by kernel_rfl⟩
theorem zci : ∃ fn, Tryz.prog.funcs[39]? = some fn ∧ ze cfg 39 fn = true := ⟨Tryz.f39, Tryz.func39, by kernel_rfl⟩
theorem zcj : ∃ fn, Tryz.prog.funcs[40]? = some fn ∧ ze cfg 40 fn = true := ⟨Tryz.f40, Tryz.func40, by kernel_rfl⟩
theorem zck : ∃ fn, Tryz.prog.funcs[43]? = some fn ∧ ze cfg 43 fn = true := ⟨Tryz.f43, Tryz.func43, by kernel_rfl⟩
theorem zcl : ∃ fn, Tryz.prog.funcs[48]? = some fn ∧ ze cfg 48 fn = true := ⟨Tryz.f48, Tryz.func48, by kernel_rfl⟩
theorem zcm : ∃ fn, Tryz.prog.funcs[49]? = some fn ∧ ze cfg 49 fn = true := ⟨Tryz.f49, Tryz.func49, by kernel_rfl⟩
theorem zcn : ∃ fn, Tryz.prog.funcs[51]? = some fn ∧ ze cfg 51 fn = true := ⟨Tryz.f51, Tryz.func51, by kernel_rfl⟩
theorem zco : ∃ fn, Tryz.prog.funcs[63]? = some fn ∧ ze cfg 63 fn = true := ⟨Tryz.f63, Tryz.func63, by kernel_rfl⟩
theorem zcp : ∃ fn, Tryz.prog.funcs[64]? = some fn ∧ ze cfg 64 fn = true := ⟨Tryz.f64, Tryz.func64, by kernel_rfl⟩
theorem zcq : ∃ fn, Tryz.prog.funcs[65]? = some fn ∧ ze cfg 65 fn = true := ⟨Tryz.f65, Tryz.func65, by kernel_rfl⟩
theorem zcr : ∃ fn, Tryz.prog.funcs[66]? = some fn ∧ ze cfg 66 fn = true := ⟨Tryz.f66, Tryz.func66, by kernel_rfl⟩
theorem zcs : ∃ fn, Tryz.prog.funcs[67]? = some fn ∧ ze cfg 67 fn = true := ⟨Tryz.f67, Tryz.func67, by kernel_rfl⟩
theorem zct : ∃ fn, Tryz.prog.funcs[68]? = some fn ∧ ze cfg 68 fn = true := ⟨Tryz.f68, Tryz.func68, by kernel_rfl⟩
theorem zcu : ∃ fn, Tryz.prog.funcs[69]? = some fn ∧ ze cfg 69 fn = true := ⟨Tryz.f69, Tryz.func69, by kernel_rfl⟩
theorem zcv : ∃ fn, Tryz.prog.funcs[70]? = some fn ∧ ze cfg 70 fn = true := ⟨Tryz.f70, Tryz.func70, by kernel_rfl⟩
theorem zcw : ∃ fn, Tryz.prog.funcs[71]? = some fn ∧ ze cfg 71 fn = true := ⟨Tryz.f71, Tryz.func71, by kernel_rfl⟩
theorem zcx : ∃ fn, Tryz.prog.funcs[72]? = some fn ∧ ze cfg 72 fn = true := ⟨Tryz.f72, Tryz.func72, by kernel_rfl⟩
theorem zcy : ∃ fn, Tryz.prog.funcs[73]? = some fn ∧ ze cfg 73 fn = true := ⟨Tryz.f73, Tryz.func73, by kernel_rfl⟩
theorem zcz : ∃ fn, Tryz.prog.funcs[74]? = some fn ∧ ze cfg 74 fn = true := ⟨Tryz.f74, Tryz.func74, by kernel_rfl⟩
theorem zc0 : ∃ fn, Tryz.prog.funcs[75]? = some fn ∧ ze cfg 75 fn = true := ⟨Tryz.f75, Tryz.func75, by kernel_rfl⟩
theorem zc1 : ∃ fn, Tryz.prog.funcs[76]? = some fn ∧ ze cfg 76 fn = true := ⟨Tryz.f76, Tryz.func76, by kernel_rfl⟩
theorem zc2 : ∃ fn, Tryz.prog.funcs[77]? = some fn ∧ ze cfg 77 fn = true := ⟨Tryz.f77, Tryz.func77, by kernel_rfl⟩
theorem zc3 : ∃ fn, Tryz.prog.funcs[78]? = some fn ∧ ze cfg 78 fn = true := ⟨Tryz.f78, Tryz.func78, by kernel_rfl⟩
theorem zc4 : ∃ fn, Tryz.prog.funcs[79]? = some fn ∧ ze cfg 79 fn = true := ⟨Tryz.f79, Tryz.func79, by kernel_rfl⟩
theorem zc5 : ∃ fn, Tryz.prog.funcs[80]? = some fn ∧ ze cfg 80 fn = true := ⟨Tryz.f80, Tryz.func80, by kernel_rfl⟩
theorem zc6 : ∃ fn, Tryz.prog.funcs[81]? = some fn ∧ ze cfg 81 fn = true := ⟨Tryz.f81, Tryz.func81, by kernel_rfl⟩
theorem zc7 : ∃ fn, Tryz.prog.funcs[82]? = some fn ∧ ze cfg 82 fn = true := ⟨Tryz.f82, Tryz.func82, by kernel_rfl⟩
theorem zc8 : ∃ fn, Tryz.prog.funcs[83]? = some fn ∧ ze cfg 83 fn = true := ⟨Tryz.f83, Tryz.func83, by kernel_rfl⟩
theorem zc9 : ∃ fn, Tryz.prog.funcs[84]? = some fn ∧ ze cfg 84 fn = true := ⟨Tryz.f84, Tryz.func84, by kernel_rfl⟩
theorem zda : ∃ fn, Tryz.prog.funcs[85]? = some fn ∧ ze cfg 85 fn = true := ⟨Tryz.f85, Tryz.func85, by kernel_rfl⟩
theorem zdb : ∃ fn, Tryz.prog.funcs[86]? = some fn ∧ ze cfg 86 fn = true := ⟨Tryz.f86, Tryz.func86, by kernel_rfl⟩
theorem zdc : ∃ fn, Tryz.prog.funcs[87]? = some fn ∧ ze cfg 87 fn = true := ⟨Tryz.f87, Tryz.func87, by kernel_rfl⟩
theorem zdd : ∃ fn, Tryz.prog.funcs[88]? = some fn ∧ ze cfg 88 fn = true := ⟨Tryz.f88, Tryz.func88, by kernel_rfl⟩
theorem zde : ∃ fn, Tryz.prog.funcs[90]? = some fn ∧ ze cfg 90 fn = true := ⟨Tryz.f90, Tryz.func90, by kernel_rfl⟩
theorem zdf : ∃ fn, Tryz.prog.funcs[91]? = some fn ∧ ze cfg 91 fn = true := ⟨Tryz.f91, Tryz.func91, by kernel_rfl⟩
theorem zdg : ∃ fn, Tryz.prog.funcs[92]? = some fn ∧ ze cfg 92 fn = true := ⟨Tryz.f92, Tryz.func92, by kernel_rfl⟩
theorem zdh : ∃ fn, Tryz.prog.funcs[94]? = some fn ∧ ze cfg 94 fn = true := ⟨Tryz.f94, Tryz.func94, by kernel_rfl⟩
theorem zdi : ∃ fn, Tryz.prog.funcs[99]? = some fn ∧ ze cfg 99 fn = true := ⟨Tryz.f99, Tryz.func99, by kernel_rfl⟩
theorem BB : ∃ fn, Tryz.prog.funcs[100]? = some fn ∧ ze cfg 100 fn = true := ⟨Tryz.f100, Tryz.func100, by kernel_rfl⟩
theorem BC : ∃ fn, Tryz.prog.funcs[101]? = some fn ∧ ze cfg 101 fn = true := ⟨Tryz.f101, Tryz.func101, by kernel_rfl⟩
theorem BD : ∃ fn, Tryz.prog.funcs[102]? = some fn ∧ ze cfg 102 fn = true := ⟨Tryz.f102, Tryz.func102, by kernel_rfl⟩
theorem BE : ∃ fn, Tryz.prog.funcs[103]? = some fn ∧ ze cfg 103 fn = true := ⟨Tryz.f103, Tryz.func103, by kernel_rfl⟩
theorem BF : ∃ fn, Tryz.prog.funcs[104]? = some fn ∧ ze cfg 104 fn = true := ⟨Tryz.f104, Tryz.func104, by kernel_rfl⟩
theorem BG : ∃ fn, Tryz.prog.funcs[105]? = some fn ∧ ze cfg 105 fn = true := ⟨Tryz.f105, Tryz.func105, by kernel_rfl⟩
theorem BH : ∃ fn, Tryz.prog.funcs[109]? = some fn ∧ ze cfg 109 fn = true := ⟨Tryz.f109, Tryz.func109, by kernel_rfl⟩
theorem BI : ∃ fn, Tryz.prog.funcs[115]? = some fn ∧ ze cfg 115 fn = true := ⟨Tryz.f115, Tryz.func115, by kernel_rfl⟩
theorem BJ : ∃ fn, Tryz.prog.funcs[117]? = some fn ∧ ze cfg 117 fn = true := ⟨Tryz.f117, Tryz.func117, by kernel_rfl⟩
theorem BK : ∃ fn, Tryz.prog.funcs[118]? = some fn ∧ ze cfg 118 fn = true := ⟨Tryz.f118, Tryz.func118, by kernel_rfl⟩
theorem BL : ∃ fn, Tryz.prog.funcs[119]? = some fn ∧ ze cfg 119 fn = true := ⟨Tryz.f119, Tryz.func119, by kernel_rfl⟩
theorem BM : ∃ fn, Tryz.prog.funcs[121]? = some fn ∧ ze cfg 121 fn = true := ⟨Tryz.f121, Tryz.func121, by kernel_rfl⟩
theorem BN : ∃ fn, Tryz.prog.funcs[122]? = some fn ∧ ze cfg 122 fn = true := ⟨Tryz.f122, Tryz.func122, by kernel_rfl⟩
theorem BO : ∃ fn, Tryz.prog.funcs[123]? = some fn ∧ ze cfg 123 fn = true := ⟨Tryz.f123, Tryz.func123, by kernel_rfl⟩
theorem BP : ∃ fn, Tryz.prog.funcs[124]? = some fn ∧ ze cfg 124 fn = true := ⟨Tryz.f124, Tryz.func124, by kernel_rfl⟩
theorem BQ : ∃ fn, Tryz.prog.funcs[125]? = some fn ∧ ze cfg 125 fn = true := ⟨Tryz.f125, Tryz.func125, by kernel_rfl⟩
theorem BR : ∃ fn, Tryz.prog.funcs[126]? = some fn ∧ ze cfg 126 fn = true := ⟨Tryz.f126, Tryz.func126, by kernel_rfl⟩
theorem BS : ∃ fn, Tryz.prog.funcs[127]? = some fn ∧ ze cfg 127 fn = true := ⟨Tryz.f127, Tryz.func127, by kernel_rfl⟩
theorem BT : ∃ fn, Tryz.prog.funcs[128]? = some fn ∧ ze cfg 128 fn = true := ⟨Tryz.f128, Tryz.func128, by kernel_rfl⟩
theorem BU : ∃ fn, Tryz.prog.funcs[129]? = some fn ∧ ze cfg 129 fn = true := ⟨Tryz.f129, Tryz.func129, by kernel_rfl⟩
theorem BV : ∃ fn, Tryz.prog.funcs[130]? = some fn ∧ ze cfg 130 fn = true := ⟨Tryz.f130, Tryz.func130, by kernel_rfl⟩
theorem BW : ∃ fn, Tryz.prog.funcs[131]? = some fn ∧ ze cfg 131 fn = true := ⟨Tryz.f131, Tryz.func131, by kernel_rfl⟩
theorem BX : ∃ fn, Tryz.prog.funcs[132]? = some fn ∧ ze cfg 132 fn = true := ⟨Tryz.f132, Tryz.func132, by kernel_rfl⟩
theorem BY : ∃ fn, Tryz.prog.funcs[133]? = some fn ∧ ze cfg 133 fn = true := ⟨Tryz.f133, Tryz.func133, by kernel_rfl⟩
theorem BZ : ∃ fn, Tryz.prog.funcs[134]? = some fn ∧ ze cfg 134 fn = true := ⟨Tryz.f134, Tryz.func134, by kernel_rfl⟩
theorem Aa : ∃ fn, Tryz.prog.funcs[135]? = some fn ∧ ze cfg 135 fn = true := ⟨Tryz.f135, Tryz.func135, by kernel_rfl⟩
theorem Ab : ∃ fn, Tryz.prog.funcs[136]? = some fn ∧ ze cfg 136 fn = true := ⟨Tryz.f136, Tryz.func136, by kernel_rfl⟩
theorem Ac : ∃ fn, Tryz.prog.funcs[137]? = some fn ∧ ze cfg 137 fn = true := ⟨Tryz.f137, Tryz.func137, by kernel_rfl⟩
theorem Ad : ∃ fn, Tryz.prog.funcs[138]? = some fn ∧ ze cfg 138 fn = true := ⟨Tryz.f138, Tryz.func138, by kernel_rfl⟩
theorem Ae : ∃ fn, Tryz.prog.funcs[139]? = some fn ∧ ze cfg 139 fn = true := ⟨Tryz.f139, Tryz.func139, by kernel_rfl⟩
theorem Af : ∃ fn, Tryz.prog.funcs[142]? = some fn ∧ ze cfg 142 fn = true := ⟨Tryz.f142, Tryz.func142, by kernel_rfl⟩
theorem Ag : ∃ fn, Tryz.prog.funcs[143]? = some fn ∧ ze cfg 143 fn = true := ⟨Tryz.f143, Tryz.func143, by kernel_rfl⟩
theorem Ah : ∃ fn, Tryz.prog.funcs[144]? = some fn ∧ ze cfg 144 fn = true := ⟨Tryz.f144, Tryz.func144, by kernel_rfl⟩
theorem Ai : ∃ fn, Tryz.prog.funcs[145]? = some fn ∧ ze cfg 145 fn = true := ⟨Tryz.f145, Tryz.func145, by kernel_rfl⟩
theorem Aj : ∃ fn, Tryz.prog.funcs[146]? = some fn ∧ ze cfg 146 fn = true := ⟨Tryz.f146, Tryz.func146, by kernel_rfl⟩
theorem Ak : ∃ fn, Tryz.prog.funcs[151]? = some fn ∧ ze cfg 151 fn = true := ⟨Tryz.f151, Tryz.func151, by kernel_rfl⟩
theorem Al : ∃ fn, Tryz.prog.funcs[152]? = some fn ∧ ze cfg 152 fn = true := ⟨Tryz.f152, Tryz.func152, by kernel_rfl⟩
theorem Ao : ∃ fn, Tryz.prog.funcs[154]? = some fn ∧ ze cfg 154 fn = true := ⟨Tryz.f154, Tryz.func154, by kernel_rfl⟩
theorem Ap : ∃ fn, Tryz.prog.funcs[155]? = some fn ∧ ze cfg 155 fn = true := ⟨Tryz.f155, Tryz.func155, by kernel_rfl⟩
theorem Aq : ∃ fn, Tryz.prog.funcs[158]? = some fn ∧ ze cfg 158 fn = true := ⟨Tryz.f158, Tryz.func158, by kernel_rfl⟩
theorem Ar : ∃ fn, Tryz.prog.funcs[162]? = some fn ∧ ze cfg 162 fn = true := ⟨Tryz.f162, Tryz.func162, by kernel_rfl⟩
theorem As : ∃ fn, Tryz.prog.funcs[163]? = some fn ∧ ze cfg 163 fn = true := ⟨Tryz.f163, Tryz.func163, by kernel_rfl⟩
theorem At : ∃ fn, Tryz.prog.funcs[167]? = some fn ∧ ze cfg 167 fn = true := ⟨Tryz.f167, Tryz.func167, by kernel_rfl⟩
theorem Au : ∃ fn, Tryz.prog.funcs[168]? = some fn ∧ ze cfg 168 fn = true := ⟨Tryz.f168, Tryz.func168, by kernel_rfl⟩
theorem Av : ∃ fn, Tryz.prog.funcs[169]? = some fn ∧ ze cfg 169 fn = true := ⟨Tryz.f169, Tryz.func169, by kernel_rfl⟩
theorem Aw : ∃ fn, Tryz.prog.funcs[170]? = some fn ∧ ze cfg 170 fn = true := ⟨Tryz.f170, Tryz.func170, by kernel_rfl⟩
theorem Ax : ∃ fn, Tryz.prog.funcs[171]? = some fn ∧ ze cfg 171 fn = true := ⟨Tryz.f171, Tryz.func171, by kernel_rfl⟩
theorem Ay : ∃ fn, Tryz.prog.funcs[172]? = some fn ∧ ze cfg 172 fn = true := ⟨Tryz.f172, Tryz.func172, by kernel_rfl⟩
theorem Az : ∃ fn, Tryz.prog.funcs[174]? = some fn ∧ ze cfg 174 fn = true := ⟨Tryz.f174, Tryz.func174, by kernel_rfl⟩
theorem A4 : ∃ fn, Tryz.prog.funcs[175]? = some fn ∧ ze cfg 175 fn = true := ⟨Tryz.f175, Tryz.func175, by kernel_rfl⟩
theorem A5 : ∃ fn, Tryz.prog.funcs[176]? = some fn ∧ ze cfg 176 fn = true := ⟨Tryz.f176, Tryz.func176, by kernel_rfl⟩
theorem A6 : ∃ fn, Tryz.prog.funcs[177]? = some fn ∧ ze cfg 177 fn = true := ⟨Tryz.f177, Tryz.func177, by kernel_rfl⟩
theorem A7 : ∃ fn, Tryz.prog.funcs[194]? = some fn ∧ ze cfg 194 fn = true := ⟨Tryz.f194, Tryz.func194, by kernel_rfl⟩
theorem A8 : ∃ fn, Tryz.prog.funcs[195]? = some fn ∧ ze cfg 195 fn = true := ⟨Tryz.f195, Tryz.func195, by kernel_rfl⟩
theorem A9 : ∃ fn, Tryz.prog.funcs[196]? = some fn ∧ ze cfg 196 fn = true := ⟨Tryz.f196, Tryz.func196, by kernel_rfl⟩
theorem AA : ∃ fn, Tryz.prog.funcs[197]? = some fn ∧ ze cfg 197 fn = true := ⟨Tryz.f197, Tryz.func197, by kernel_rfl⟩
theorem AB : ∃ fn, Tryz.prog.funcs[198]? = some fn ∧ ze cfg 198 fn = true := ⟨Tryz.f198, Tryz.func198, by kernel_rfl⟩
theorem AC : ∃ fn, Tryz.prog.funcs[201]? = some fn ∧ ze cfg 201 fn = true := ⟨Tryz.f201, Tryz.func201, by kernel_rfl⟩
theorem AD : ∃ fn, Tryz.prog.funcs[202]? = some fn ∧ ze cfg 202 fn = true := ⟨Tryz.f202, Tryz.func202, by kernel_rfl⟩
theorem AE : ∃ fn, Tryz.prog.funcs[203]? = some fn ∧ ze cfg 203 fn = true := ⟨Tryz.f203, Tryz.func203, by kernel_rfl⟩
theorem AF : ∃ fn, Tryz.prog.funcs[204]? = some fn ∧ ze cfg 204 fn = true := ⟨Tryz.f204, Tryz.func204, by kernel_rfl⟩
theorem AG : ∃ fn, Tryz.prog.funcs[212]? = some fn ∧ ze cfg 212 fn = true := ⟨Tryz.f212, Tryz.func212, by kernel_rfl⟩
theorem AH : ∃ fn, Tryz.prog.funcs[221]? = some fn ∧ ze cfg 221 fn = true := ⟨Tryz.f221, Tryz.func221, by kernel_rfl⟩
theorem AI : ∃ fn, Tryz.prog.funcs[222]? = some fn ∧ ze cfg 222 fn = true := ⟨Tryz.f222, Tryz.func222, by kernel_rfl⟩
theorem AJ : ∃ fn, Tryz.prog.funcs[223]? = some fn ∧ ze cfg 223 fn = true := ⟨Tryz.f223, Tryz.func223, by kernel_rfl⟩
theorem AK : ∃ fn, Tryz.prog.funcs[224]? = some fn ∧ ze cfg 224 fn = true := ⟨Tryz.f224, Tryz.func224, by kernel_rfl⟩
theorem AL : ∃ fn, Tryz.prog.funcs[232]? = some fn ∧ ze cfg 232 fn = true := ⟨Tryz.f232, Tryz.func232, by kernel_rfl⟩
theorem AM : ∃ fn, Tryz.prog.funcs[235]? = some fn ∧ ze cfg 235 fn = true := ⟨Tryz.f235, Tryz.func235, by kernel_rfl⟩
theorem AN : ∃ fn, Tryz.prog.funcs[236]? = some fn ∧ ze cfg 236 fn = true := ⟨Tryz.f236, Tryz.func236, by kernel_rfl⟩
theorem AO : ∃ fn, Tryz.prog.funcs[237]? = some fn ∧ ze cfg 237 fn = true := ⟨Tryz.f237, Tryz.func237, by kernel_rfl⟩
theorem fnsGood : Uo Tryz.prog cfg := Ew (used := HF) (fun f => by rw [Lm]; delta HG; with_reducible rfl) ⟨zb2, zb3, zb4, zb5, zb6, zb7, zb8, zb9, zca, zcb, zcc, zcd, zce, zcf, zcg, zch, zci, zcj, zck, zcl, zcm, zcn, zco, zcp, zcq, zcr, zcs, zct, zcu, zcv, zcw, zcx, zcy, zcz, zc0, zc1, zc2, zc3, zc4, zc5, zc6, zc7, zc8, zc9, zda, zdb, zdc, zdd, zde, zdf, zdg, zdh, zdi, BB, BC, BD, BE, BF, BG, BH, BI, BJ, BK, BL, BM, BN, BO, BP, BQ, BR, BS, BT, BU, BV, BW, BX, BY, BZ, Aa, Ab, Ac, Ad, Ae, Af, Ag, Ah, Ai, Aj, Ak, Al, Ao, Ap, Aq, Ar, As, At, Au, Av, Aw, Ax, Ay, Az, A4, A5, A6, A7, A8, A9, AA, AB, AC, AD, AE, AF, AG, AH, AI, AJ, AK, AL, AM, AN, AO, trivial⟩
theorem tblGood : TOk Tryz.prog cfg := zd0 (tr := tl) (by delta cfg; funext t; delta XA; with_reducible rfl) ze5
theorem zdj {st : List Entry} {xs : List V} {r : V × List Entry} (h : MM st xs = some r) : xp Tryz.prog 166 st xs r :=
 zec Tryz.func166 (by kernel_rfl) (by kernel_rfl) (by kernel_rfl) (by kernel_rfl) h
def XB : Go.Shelf.Ren :=
{
 f := fun x =>
  match x with
  | 172 => 173
  | 244 => 199
  | 245 => 200
  | 247 => 216
  | 279 => 217
  | 280 => 218
  | 281 => 219
  | 282 => 220
  | 287 => 229
  | 316 => 230
  | 171 => 174
  | 205 => 231
  | 321 => 238
  | 322 => 239
  | 243 => 201
  | 246 => 221
  | 283 => 232
  | 284 => 233
  | 285 => 234
  | 286 => 235
  | 129 => 193
  | 317 => 240
  | 318 => 241
  | 319 => 242
  | 320 => 243
  | 337 => 244
  | 338 => 245
  | n => n,
 t := fun x =>
  match x with
  | 9 => 9
  | 3 => 3
  | 75 => 178
  | 76 => 179
  | 4 => 4
  | 5 => 5
  | 167 => 209
  | 37 => 22
  | 0 => 0
  | 85 => 210
  | 2 => 2
  | 168 => 212
  | 53 => 197
  | 175 => 225
  | 46 => 171
  | 210 => 229
  | 127 => 237
  | 145 => 240
  | 143 => 238
  | 21 => 21
  | 171 => 231
  | 173 => 233
  | 212 => 242
  | 51 => 195
  | 20 => 20
  | 213 => 243
  | 232 => 244
  | 233 => 245
  | 80 => 246
  | n => n,
 g := fun x =>
  match x with
  | 15 => 1
  | 16 => 2
  | 17 => 3
  | 18 => 4
  | 19 => 5
  | n => n }
theorem XC : LaysC.n172 Tryz.prog XB :=
 {mixed := by kernel_rfl,
  f129 := Tryz.func193.trans (by kernel_rfl),
  f171 := Tryz.func174.trans (by kernel_rfl),
  f172 := Tryz.func173.trans (by kernel_rfl),
  f205 := Tryz.func231.trans (by kernel_rfl),
  f243 := Tryz.func201.trans (by kernel_rfl),
  f244 := Tryz.func199.trans (by kernel_rfl),
  f245 := Tryz.func200.trans (by kernel_rfl),
  f246 := Tryz.func221.trans (by kernel_rfl),
  f247 := Tryz.func216.trans (by kernel_rfl),
  f279 := Tryz.func217.trans (by kernel_rfl),
  f280 := Tryz.func218.trans (by kernel_rfl),
  f281 := Tryz.func219.trans (by kernel_rfl),
  f282 := Tryz.func220.trans (by kernel_rfl),
  f283 := Tryz.func232.trans (by kernel_rfl),
  f284 := Tryz.func233.trans (by kernel_rfl),
  f285 := Tryz.func234.trans (by kernel_rfl),
  f286 := Tryz.func235.trans (by kernel_rfl),
  f287 := Tryz.func229.trans (by kernel_rfl),
  f316 := Tryz.func230.trans (by kernel_rfl),
  f317 := Tryz.func240.trans (by kernel_rfl),
  f318 := Tryz.func241.trans (by kernel_rfl),
  f319 := Tryz.func242.trans (by kernel_rfl),
  f320 := Tryz.func243.trans (by kernel_rfl),
  f321 := Tryz.func238.trans (by kernel_rfl),
  f322 := Tryz.func239.trans (by kernel_rfl),
  f337 := Tryz.func244.trans (by kernel_rfl),
  f338 := Tryz.func245.trans (by kernel_rfl),
  t0 := Tryz.underlying0,
  a0 := Tryz.isAgg0,
  z0 := Tryz.sizeOf0,
  v0 := Tryz.zeroValue0,
  t2 := Tryz.underlying2,
  a2 := Tryz.isAgg2,
  z2 := Tryz.sizeOf2,
  v2 := Tryz.zeroValue2,
  t3 := Tryz.underlying3,
  a3 := Tryz.isAgg3,
  z3 := Tryz.sizeOf3,
  v3 := Tryz.zeroValue3,
  t4 := Tryz.underlying4,
  a4 := Tryz.isAgg4,
  z4 := Tryz.sizeOf4,
  v4 := Tryz.zeroValue4,
  t5 := Tryz.underlying5,
  a5 := Tryz.isAgg5,
  z5 := Tryz.sizeOf5,
  v5 := Tryz.zeroValue5,
  t9 := Tryz.underlying9,
  a9 := Tryz.isAgg9,
  z9 := Tryz.sizeOf9,
  v9 := Tryz.zeroValue9,
  t20 := Tryz.underlying20,
  a20 := Tryz.isAgg20,
  z20 := Tryz.sizeOf20,
  v20 := Tryz.zeroValue20,
  t21 := Tryz.underlying21,
  a21 := Tryz.isAgg21,
  z21 := Tryz.sizeOf21,
  v21 := Tryz.zeroValue21,
  t37 := Tryz.underlying22,
  a37 := Tryz.isAgg22,
  z37 := Tryz.sizeOf22,
  v37 := Tryz.zeroValue22,
  t46 := Tryz.underlying171,
  a46 := Tryz.isAgg171,
  z46 := Tryz.sizeOf171,
  v46 := Tryz.zeroValue171,
  t51 := Tryz.underlying195,
  a51 := Tryz.isAgg195,
  z51 := Tryz.sizeOf195,
  v51 := Tryz.zeroValue195,
  t53 := Tryz.underlying197,
  a53 := Tryz.isAgg197,
  z53 := Tryz.sizeOf197,
  v53 := Tryz.zeroValue197,
  t75 := Tryz.underlying178,
  a75 := Tryz.isAgg178,
  z75 := Tryz.sizeOf178,
  v75 := Tryz.zeroValue178,
  t76 := Tryz.underlying179,
  a76 := Tryz.isAgg179,
  z76 := Tryz.sizeOf179,
  v76 := Tryz.zeroValue179,
  t85 := Tryz.underlying210,
  a85 := Tryz.isAgg210,
  z85 := Tryz.sizeOf210,
  v85 := Tryz.zeroValue210,
  t127 := Tryz.underlying237,
  a127 := Tryz.isAgg237,
  z127 := Tryz.sizeOf237,
  v127 := Tryz.zeroValue237,
  t143 := Tryz.underlying238,
  a143 := Tryz.isAgg238,
  z143 := Tryz.sizeOf238,
  v143 := Tryz.zeroValue238,
  t145 := Tryz.underlying240,
  a145 := Tryz.isAgg240,
  z145 := Tryz.sizeOf240,
  v145 := Tryz.zeroValue240,
  t167 := Tryz.underlying209,
  a167 := Tryz.isAgg209,
  z167 := Tryz.sizeOf209,
  v167 := Tryz.zeroValue209,
  t168 := Tryz.underlying212,
  a168 := Tryz.isAgg212,
  z168 := Tryz.sizeOf212,
  v168 := Tryz.zeroValue212,
  t171 := Tryz.underlying231,
  a171 := Tryz.isAgg231,
  z171 := Tryz.sizeOf231,
  v171 := Tryz.zeroValue231,
  t173 := Tryz.underlying233,
  a173 := Tryz.isAgg233,
  z173 := Tryz.sizeOf233,
  v173 := Tryz.zeroValue233,
  t175 := Tryz.underlying225,
  a175 := Tryz.isAgg225,
  z175 := Tryz.sizeOf225,
  v175 := Tryz.zeroValue225,
  t210 := Tryz.underlying229,
  a210 := Tryz.isAgg229,
  z210 := Tryz.sizeOf229,
  v210 := Tryz.zeroValue229,
  t212 := Tryz.underlying242,
  a212 := Tryz.isAgg242,
  z212 := Tryz.sizeOf242,
  v212 := Tryz.zeroValue242,
  t213 := Tryz.underlying243,
  a213 := Tryz.isAgg243,
  z213 := Tryz.sizeOf243,
  t232 := Tryz.underlying244,
  a232 := Tryz.isAgg244,
  z232 := Tryz.sizeOf244,
  v232 := Tryz.zeroValue244,
  t233 := Tryz.underlying245,
  a233 := Tryz.isAgg245,
  z233 := Tryz.sizeOf245,
  v233 := Tryz.zeroValue245,
  g15 := by kernel_rfl,
  g16 := by kernel_rfl,
  g17 := by kernel_rfl,
  g18 := by kernel_rfl,
  g19 := by kernel_rfl,
  t80 := Tryz.underlying246,
  a80 := Tryz.isAgg246,
  z80 := Tryz.sizeOf246,
  v80 := Tryz.zeroValue246,
  i0 := by kernel_rfl,
  i2 := by kernel_rfl,
  i3 := by kernel_rfl,
  i4 := by kernel_rfl,
  i5 := by kernel_rfl,
  i9 := by kernel_rfl,
  i20 := by kernel_rfl,
  i21 := by kernel_rfl,
  i37 := by kernel_rfl,
  i46 := by kernel_rfl,
  i51 := by kernel_rfl,
  i53 := by kernel_rfl,
  i75 := by kernel_rfl,
  i76 := by kernel_rfl,
  i80 := by kernel_rfl,
  i85 := by kernel_rfl,
  i127 := by kernel_rfl,
  i143 := by kernel_rfl,
  i145 := by kernel_rfl,
  i167 := by kernel_rfl,
  i168 := by kernel_rfl,
  i171 := by kernel_rfl,
  i173 := by kernel_rfl,
  i175 := by kernel_rfl,
  i210 := by kernel_rfl,
  i212 := by kernel_rfl,
  i232 := by kernel_rfl,
  i233 := by kernel_rfl,
  m15 := by kernel_rfl,
  m16 := by kernel_rfl,
  m17 := by kernel_rfl,
  m18 := by kernel_rfl,
  m19 := by kernel_rfl,
  c0 := by kernel_rfl,
  c2 := by kernel_rfl,
  c3 := by kernel_rfl,
  c4 := by kernel_rfl,
  c5 := by kernel_rfl,
  c9 := by kernel_rfl,
  c20 := by kernel_rfl,
  c21 := by kernel_rfl,
  c37 := by kernel_rfl,
  c46 := by kernel_rfl,
  c51 := by kernel_rfl,
  c53 := by kernel_rfl,
  c75 := by kernel_rfl,
  c76 := by kernel_rfl,
  c80 := by kernel_rfl,
  c85 := by kernel_rfl,
  c127 := by kernel_rfl,
  c143 := by kernel_rfl,
  c145 := by kernel_rfl,
  c167 := by kernel_rfl,
  c168 := by kernel_rfl,
  c171 := by kernel_rfl,
  c173 := by kernel_rfl,
  c175 := by kernel_rfl,
  c210 := by kernel_rfl,
  c212 := by kernel_rfl,
  c213 := by kernel_rfl,
  c232 := by kernel_rfl,
  c233 := by kernel_rfl }
theorem gES : Tryz.prog.globalNamed "strconv.ErrSyntax" = some (XB.g 15) := XC.m15
theorem gER : Tryz.prog.globalNamed "strconv.ErrRange" = some (XB.g 16) := XC.m16
theorem AP {st : List Entry} {xs : List V} {r : V × List Entry} (h : U3 st xs = some r) : xp Tryz.prog 173 st xs r :=
 za9 (f := XB.f 172) (ge := XB.g 15) (gr := XB.g 16) (Go.Proofs.enters_of XC.f172 (by kernel_rfl) rfl)
  (fun s hs v ha w => (Any.strconv_Atoi_ok XC s (by omega) v ha w).mono fun e w' he => ⟨he.1, by
   rcases he.2 with rfl | ⟨t, rfl⟩
   ·exact Below.refl _ _
   ·exact Lib.bytesWorld_below _ _ _⟩)
  (fun s hs h1 h2 te pe w hc => by
   have hall : ∀ x, Lib.atoiAll s.data.toList = x → Calls Tryz.prog (XB.f 172) #[.string s] w fun e w' => (∃ T z, e = .returned (.tuple #[.int .i64 0, .iface T z])) ∧ Below w.heap.size w w' := by
    intro x hx
    cases x with
    | ok v => exact (h1 v hx).elim
    | range => exact (h2 hx).elim
    | _ =>
     refine (Any.strconv_Atoi_syntax XC s (by omega) hx (.iface te pe) w hc (Or.inr ⟨te, pe, rfl⟩)).mono fun e w' he => ?_
     obtain ⟨N, he, _, _, hb⟩ := he
     exact ⟨⟨_, _, he⟩, hb⟩
   exact hall _ rfl)
  (fun s hs ha te pe w hc => (Any.strconv_Atoi_range XC s (by omega) ha (.iface te pe) w hc (Or.inr ⟨te, pe, rfl⟩)).mono fun e w' he => by
   obtain ⟨N, he, _, _, hb⟩ := he
   exact ⟨⟨_, _, he⟩, hb⟩)
  gES gER h
theorem zdk {st : List Entry} {xs : List V} {r : V × List Entry} (h : MO st xs = some r) : xp Tryz.prog 227 st xs r :=
 zed Tryz.func227 (by kernel_rfl) (by kernel_rfl) (by kernel_rfl) (by kernel_rfl) h
theorem xGood (f : FuncId) (st : List Entry) (xs : List V) (r : V × List Entry) (h : cfg.X f st xs = some r) : xp Tryz.prog f st xs r := by
 have h : (bif Nat.beq f 140 then Hr st xs else bif Nat.beq f 141 then Hs st xs else bif Nat.beq f 166 then MM st xs else bif Nat.beq f 173 then U3 st xs else bif Nat.beq f 227 then MO st xs else none) = some r := h
 cases h0 : Nat.beq f 140 with
 | true =>
  rw [h0] at h
  obtain rfl := Nat.eq_of_beq_eq_true h0
  exact zbj h
 | false =>
 rw [h0] at h
 simp only [cond_false] at h
 cases h1 : Nat.beq f 141 with
 | true =>
  rw [h1] at h
  obtain rfl := Nat.eq_of_beq_eq_true h1
  exact zba h
 | false =>
 rw [h1] at h
 simp only [cond_false] at h
 cases h2 : Nat.beq f 166 with
 | true =>
  rw [h2] at h
  obtain rfl := Nat.eq_of_beq_eq_true h2
  exact zdj h
 | false =>
 rw [h2] at h
 simp only [cond_false] at h
 cases h3 : Nat.beq f 173 with
 | true =>
  rw [h3] at h
  obtain rfl := Nat.eq_of_beq_eq_true h3
  exact AP h
 | false =>
 rw [h3] at h
 simp only [cond_false] at h
 cases h4 : Nat.beq f 227 with
 | true =>
  rw [h4] at h
  obtain rfl := Nat.eq_of_beq_eq_true h4
  exact zdk h
 | false =>
 rw [h4] at h
 simp only [cond_false] at h
 cases h
end Go.Am.Try
