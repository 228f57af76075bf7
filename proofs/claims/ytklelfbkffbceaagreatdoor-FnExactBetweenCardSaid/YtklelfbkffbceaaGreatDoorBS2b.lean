
/- The functions of the program in plain Lean, and that the machine answers as they do; conditions at each theorem. -/
import Derived.Test.YtklelfbkffbceaaGreatDoorBS2
import Derived.Test.YtklelfbkffbceaaGreatDoorBDelX
import Derived.Test.YtklelfbkffbceaaGreatDoorBSortX
import Derived.Test.YtklelfbkffbceaaGreatDoorBCptY
import Derived.Shelf.Strconv.AtoiAll
import Derived.Lib.AtoiErrMem
import Derived.KernelRfl
set_option linter.unusedVariables false
set_option linter.unusedSimpArgs false
namespace Go.Am.Try
open Go.Am Go.Proofs Go.RowKit
theorem zmz:∃fn,Tryz.prog.funcs[3]? =some fn∧ze cfg 3 fn=true:=⟨Tryz.f3,Tryz.func3,by kernel_rfl⟩
theorem zm0:∃fn,Tryz.prog.funcs[6]? =some fn∧ze cfg 6 fn=true:=⟨Tryz.f6,Tryz.func6,by kernel_rfl⟩
theorem zm1:∃fn,Tryz.prog.funcs[7]? =some fn∧ze cfg 7 fn=true:=⟨Tryz.f7,Tryz.func7,by kernel_rfl⟩
theorem zm2:∃fn,Tryz.prog.funcs[8]? =some fn∧ze cfg 8 fn=true:=⟨Tryz.f8,Tryz.func8,by kernel_rfl⟩
theorem zm3:∃fn,Tryz.prog.funcs[9]? =some fn∧ze cfg 9 fn=true:=⟨Tryz.f9,Tryz.func9,by kernel_rfl⟩
theorem zjm:∃fn,Tryz.prog.funcs[10]? =some fn∧ze cfg 10 fn=true:=⟨Tryz.f10,Tryz.func10,by kernel_rfl⟩
theorem zjn:∃fn,Tryz.prog.funcs[11]? =some fn∧ze cfg 11 fn=true:=⟨Tryz.f11,Tryz.func11,by kernel_rfl⟩
theorem zjo:∃fn,Tryz.prog.funcs[12]? =some fn∧ze cfg 12 fn=true:=⟨Tryz.f12,Tryz.func12,by kernel_rfl⟩
theorem zjq:∃fn,Tryz.prog.funcs[13]? =some fn∧ze cfg 13 fn=true:=⟨Tryz.f13,Tryz.func13,by kernel_rfl⟩
theorem zjr:∃fn,Tryz.prog.funcs[14]? =some fn∧ze cfg 14 fn=true:=⟨Tryz.f14,Tryz.func14,by kernel_rfl⟩
theorem zjs:∃fn,Tryz.prog.funcs[15]? =some fn∧ze cfg 15 fn=true:=⟨Tryz.f15,Tryz.func15,by kernel_rfl⟩
theorem zjt:∃fn,Tryz.prog.funcs[16]? =some fn∧ze cfg 16 fn=true:=⟨Tryz.f16,Tryz.func16,by kernel_rfl⟩
theorem zju:∃fn,Tryz.prog.funcs[17]? =some fn∧ze cfg 17 fn=true:=⟨Tryz.f17,Tryz.func17,by kernel_rfl⟩
theorem zjv:∃fn,Tryz.prog.funcs[22]? =some fn∧ze cfg 22 fn=true:=⟨Tryz.f22,Tryz.func22,by kernel_rfl⟩
theorem zjw:∃fn,Tryz.prog.funcs[25]? =some fn∧ze cfg 25 fn=true:=⟨Tryz.f25,Tryz.func25,by kernel_rfl⟩
theorem zjx:∃fn,Tryz.prog.funcs[26]? =some fn∧ze cfg 26 fn=true:=⟨Tryz.f26,Tryz.func26,by kernel_rfl⟩
theorem zjy:∃fn,Tryz.prog.funcs[32]? =some fn∧ze cfg 32 fn=true:=⟨Tryz.f32,Tryz.func32,by kernel_rfl⟩
theorem zjz:∃fn,Tryz.prog.funcs[33]? =some fn∧ze cfg 33 fn=true:=⟨Tryz.f33,Tryz.func33,by kernel_rfl⟩
theorem zj0:∃fn,Tryz.prog.funcs[34]? =some fn∧ze cfg 34 fn=true:=⟨Tryz.f34,Tryz.func34,by kernel_rfl⟩
theorem zj1:∃fn,Tryz.prog.funcs[35]? =some fn∧ze cfg 35 fn=true:=⟨Tryz.f35,Tryz.func35,by kernel_rfl⟩
theorem zj2:∃fn,Tryz.prog.funcs[36]? =some fn∧ze cfg 36 fn=true:=⟨Tryz.f36,Tryz.func36,by kernel_rfl⟩
theorem zj3:∃fn,Tryz.prog.funcs[37]? =some fn∧ze cfg 37 fn=true:=⟨Tryz.f37,Tryz.func37,by kernel_rfl⟩
theorem zj4:∃fn,Tryz.prog.funcs[38]? =some fn∧ze cfg 38 fn=true:=⟨Tryz.f38,Tryz.func38,by kernel_rfl⟩
theorem zj5:∃fn,Tryz.prog.funcs[39]? =some fn∧ze cfg 39 fn=true:=⟨Tryz.f39,Tryz.func39,by kernel_rfl⟩
theorem zj6:∃fn,Tryz.prog.funcs[40]? =some fn∧ze cfg 40 fn=true:=⟨Tryz.f40,Tryz.func40,by kernel_rfl⟩
theorem zj7:∃fn,Tryz.prog.funcs[41]? =some fn∧ze cfg 41 fn=true:=⟨Tryz.f41,Tryz.func41,by kernel_rfl⟩
theorem zj8:∃fn,Tryz.prog.funcs[42]? =some fn∧ze cfg 42 fn=true:=⟨Tryz.f42,Tryz.func42,by kernel_rfl⟩
theorem zj9:∃fn,Tryz.prog.funcs[43]? =some fn∧ze cfg 43 fn=true:=⟨Tryz.f43,Tryz.func43,by kernel_rfl⟩
theorem zka:∃fn,Tryz.prog.funcs[44]? =some fn∧ze cfg 44 fn=true:=⟨Tryz.f44,Tryz.func44,by kernel_rfl⟩
theorem zkb:∃fn,Tryz.prog.funcs[45]? =some fn∧ze cfg 45 fn=true:=⟨Tryz.f45,Tryz.func45,by kernel_rfl⟩
theorem zkc:∃fn,Tryz.prog.funcs[46]? =some fn∧ze cfg 46 fn=true:=⟨Tryz.f46,Tryz.func46,by kernel_rfl⟩
theorem zkd:∃fn,Tryz.prog.funcs[47]? =some fn∧ze cfg 47 fn=true:=⟨Tryz.f47,Tryz.func47,by kernel_rfl⟩
theorem zke:∃fn,Tryz.prog.funcs[48]? =some fn∧ze cfg 48 fn=true:=⟨Tryz.f48,Tryz.func48,by kernel_rfl⟩
theorem zkf:∃fn,Tryz.prog.funcs[49]? =some fn∧ze cfg 49 fn=true:=⟨Tryz.f49,Tryz.func49,by kernel_rfl⟩
theorem zkg:∃fn,Tryz.prog.funcs[50]? =some fn∧ze cfg 50 fn=true:=⟨Tryz.f50,Tryz.func50,by kernel_rfl⟩
theorem zkh:∃fn,Tryz.prog.funcs[51]? =some fn∧ze cfg 51 fn=true:=⟨Tryz.f51,Tryz.func51,by kernel_rfl⟩
theorem zki:∃fn,Tryz.prog.funcs[52]? =some fn∧ze cfg 52 fn=true:=⟨Tryz.f52,Tryz.func52,by kernel_rfl⟩
theorem zkj:∃fn,Tryz.prog.funcs[53]? =some fn∧ze cfg 53 fn=true:=⟨Tryz.f53,Tryz.func53,by kernel_rfl⟩
theorem zkk:∃fn,Tryz.prog.funcs[54]? =some fn∧ze cfg 54 fn=true:=⟨Tryz.f54,Tryz.func54,by kernel_rfl⟩
theorem zkl:∃fn,Tryz.prog.funcs[64]? =some fn∧ze cfg 64 fn=true:=⟨Tryz.f64,Tryz.func64,by kernel_rfl⟩
theorem zkm:∃fn,Tryz.prog.funcs[70]? =some fn∧ze cfg 70 fn=true:=⟨Tryz.f70,Tryz.func70,by kernel_rfl⟩
theorem zkn:∃fn,Tryz.prog.funcs[71]? =some fn∧ze cfg 71 fn=true:=⟨Tryz.f71,Tryz.func71,by kernel_rfl⟩
theorem zko:∃fn,Tryz.prog.funcs[72]? =some fn∧ze cfg 72 fn=true:=⟨Tryz.f72,Tryz.func72,by kernel_rfl⟩
theorem zkq:∃fn,Tryz.prog.funcs[73]? =some fn∧ze cfg 73 fn=true:=⟨Tryz.f73,Tryz.func73,by kernel_rfl⟩
theorem zkr:∃fn,Tryz.prog.funcs[74]? =some fn∧ze cfg 74 fn=true:=⟨Tryz.f74,Tryz.func74,by kernel_rfl⟩
theorem zks:∃fn,Tryz.prog.funcs[75]? =some fn∧ze cfg 75 fn=true:=⟨Tryz.f75,Tryz.func75,by kernel_rfl⟩
theorem zkt:∃fn,Tryz.prog.funcs[76]? =some fn∧ze cfg 76 fn=true:=⟨Tryz.f76,Tryz.func76,by kernel_rfl⟩
theorem zku:∃fn,Tryz.prog.funcs[77]? =some fn∧ze cfg 77 fn=true:=⟨Tryz.f77,Tryz.func77,by kernel_rfl⟩
theorem zkv:∃fn,Tryz.prog.funcs[78]? =some fn∧ze cfg 78 fn=true:=⟨Tryz.f78,Tryz.func78,by kernel_rfl⟩
theorem zkw:∃fn,Tryz.prog.funcs[79]? =some fn∧ze cfg 79 fn=true:=⟨Tryz.f79,Tryz.func79,by kernel_rfl⟩
theorem zkx:∃fn,Tryz.prog.funcs[80]? =some fn∧ze cfg 80 fn=true:=⟨Tryz.f80,Tryz.func80,by kernel_rfl⟩
theorem zky:∃fn,Tryz.prog.funcs[81]? =some fn∧ze cfg 81 fn=true:=⟨Tryz.f81,Tryz.func81,by kernel_rfl⟩
theorem zkz:∃fn,Tryz.prog.funcs[82]? =some fn∧ze cfg 82 fn=true:=⟨Tryz.f82,Tryz.func82,by kernel_rfl⟩
theorem zk0:∃fn,Tryz.prog.funcs[83]? =some fn∧ze cfg 83 fn=true:=⟨Tryz.f83,Tryz.func83,by kernel_rfl⟩
theorem zk1:∃fn,Tryz.prog.funcs[84]? =some fn∧ze cfg 84 fn=true:=⟨Tryz.f84,Tryz.func84,by kernel_rfl⟩
theorem zk2:∃fn,Tryz.prog.funcs[85]? =some fn∧ze cfg 85 fn=true:=⟨Tryz.f85,Tryz.func85,by kernel_rfl⟩
theorem zk3:∃fn,Tryz.prog.funcs[86]? =some fn∧ze cfg 86 fn=true:=⟨Tryz.f86,Tryz.func86,by kernel_rfl⟩
theorem zk4:∃fn,Tryz.prog.funcs[87]? =some fn∧ze cfg 87 fn=true:=⟨Tryz.f87,Tryz.func87,by kernel_rfl⟩
theorem zk5:∃fn,Tryz.prog.funcs[88]? =some fn∧ze cfg 88 fn=true:=⟨Tryz.f88,Tryz.func88,by kernel_rfl⟩
theorem zk6:∃fn,Tryz.prog.funcs[89]? =some fn∧ze cfg 89 fn=true:=⟨Tryz.f89,Tryz.func89,by kernel_rfl⟩
theorem zk7:∃fn,Tryz.prog.funcs[90]? =some fn∧ze cfg 90 fn=true:=⟨Tryz.f90,Tryz.func90,by kernel_rfl⟩
theorem zk8:∃fn,Tryz.prog.funcs[91]? =some fn∧ze cfg 91 fn=true:=⟨Tryz.f91,Tryz.func91,by kernel_rfl⟩
theorem zk9:∃fn,Tryz.prog.funcs[92]? =some fn∧ze cfg 92 fn=true:=⟨Tryz.f92,Tryz.func92,by kernel_rfl⟩
theorem zla:∃fn,Tryz.prog.funcs[94]? =some fn∧ze cfg 94 fn=true:=⟨Tryz.f94,Tryz.func94,by kernel_rfl⟩
theorem zlb:∃fn,Tryz.prog.funcs[96]? =some fn∧ze cfg 96 fn=true:=⟨Tryz.f96,Tryz.func96,by kernel_rfl⟩
theorem zlc:∃fn,Tryz.prog.funcs[97]? =some fn∧ze cfg 97 fn=true:=⟨Tryz.f97,Tryz.func97,by kernel_rfl⟩
theorem zld:∃fn,Tryz.prog.funcs[98]? =some fn∧ze cfg 98 fn=true:=⟨Tryz.f98,Tryz.func98,by kernel_rfl⟩
theorem zle:∃fn,Tryz.prog.funcs[99]? =some fn∧ze cfg 99 fn=true:=⟨Tryz.f99,Tryz.func99,by kernel_rfl⟩
theorem zfb:∃fn,Tryz.prog.funcs[100]? =some fn∧ze cfg 100 fn=true:=⟨Tryz.f100,Tryz.func100,by kernel_rfl⟩
theorem zfc:∃fn,Tryz.prog.funcs[101]? =some fn∧ze cfg 101 fn=true:=⟨Tryz.f101,Tryz.func101,by kernel_rfl⟩
theorem zfd:∃fn,Tryz.prog.funcs[102]? =some fn∧ze cfg 102 fn=true:=⟨Tryz.f102,Tryz.func102,by kernel_rfl⟩
theorem zfe:∃fn,Tryz.prog.funcs[104]? =some fn∧ze cfg 104 fn=true:=⟨Tryz.f104,Tryz.func104,by kernel_rfl⟩
theorem zff:∃fn,Tryz.prog.funcs[113]? =some fn∧ze cfg 113 fn=true:=⟨Tryz.f113,Tryz.func113,by kernel_rfl⟩
theorem zfg:∃fn,Tryz.prog.funcs[124]? =some fn∧ze cfg 124 fn=true:=⟨Tryz.f124,Tryz.func124,by kernel_rfl⟩
theorem zfh:∃fn,Tryz.prog.funcs[125]? =some fn∧ze cfg 125 fn=true:=⟨Tryz.f125,Tryz.func125,by kernel_rfl⟩
theorem zfi:∃fn,Tryz.prog.funcs[126]? =some fn∧ze cfg 126 fn=true:=⟨Tryz.f126,Tryz.func126,by kernel_rfl⟩
theorem zfj:∃fn,Tryz.prog.funcs[127]? =some fn∧ze cfg 127 fn=true:=⟨Tryz.f127,Tryz.func127,by kernel_rfl⟩
theorem zfk:∃fn,Tryz.prog.funcs[128]? =some fn∧ze cfg 128 fn=true:=⟨Tryz.f128,Tryz.func128,by kernel_rfl⟩
theorem zfl:∃fn,Tryz.prog.funcs[129]? =some fn∧ze cfg 129 fn=true:=⟨Tryz.f129,Tryz.func129,by kernel_rfl⟩
theorem zfm:∃fn,Tryz.prog.funcs[130]? =some fn∧ze cfg 130 fn=true:=⟨Tryz.f130,Tryz.func130,by kernel_rfl⟩
theorem zfn:∃fn,Tryz.prog.funcs[131]? =some fn∧ze cfg 131 fn=true:=⟨Tryz.f131,Tryz.func131,by kernel_rfl⟩
theorem zfo:∃fn,Tryz.prog.funcs[132]? =some fn∧ze cfg 132 fn=true:=⟨Tryz.f132,Tryz.func132,by kernel_rfl⟩
theorem zfp:∃fn,Tryz.prog.funcs[133]? =some fn∧ze cfg 133 fn=true:=⟨Tryz.f133,Tryz.func133,by kernel_rfl⟩
theorem zfq:∃fn,Tryz.prog.funcs[134]? =some fn∧ze cfg 134 fn=true:=⟨Tryz.f134,Tryz.func134,by kernel_rfl⟩
theorem zfr:∃fn,Tryz.prog.funcs[135]? =some fn∧ze cfg 135 fn=true:=⟨Tryz.f135,Tryz.func135,by kernel_rfl⟩
theorem zfs:∃fn,Tryz.prog.funcs[136]? =some fn∧ze cfg 136 fn=true:=⟨Tryz.f136,Tryz.func136,by kernel_rfl⟩
theorem zft:∃fn,Tryz.prog.funcs[137]? =some fn∧ze cfg 137 fn=true:=⟨Tryz.f137,Tryz.func137,by kernel_rfl⟩
theorem zfu:∃fn,Tryz.prog.funcs[138]? =some fn∧ze cfg 138 fn=true:=⟨Tryz.f138,Tryz.func138,by kernel_rfl⟩
theorem zfv:∃fn,Tryz.prog.funcs[141]? =some fn∧ze cfg 141 fn=true:=⟨Tryz.f141,Tryz.func141,by kernel_rfl⟩
theorem zfw:∃fn,Tryz.prog.funcs[142]? =some fn∧ze cfg 142 fn=true:=⟨Tryz.f142,Tryz.func142,by kernel_rfl⟩
theorem zfx:∃fn,Tryz.prog.funcs[143]? =some fn∧ze cfg 143 fn=true:=⟨Tryz.f143,Tryz.func143,by kernel_rfl⟩
theorem zfy:∃fn,Tryz.prog.funcs[144]? =some fn∧ze cfg 144 fn=true:=⟨Tryz.f144,Tryz.func144,by kernel_rfl⟩
theorem zfz:∃fn,Tryz.prog.funcs[145]? =some fn∧ze cfg 145 fn=true:=⟨Tryz.f145,Tryz.func145,by kernel_rfl⟩
theorem zf0:∃fn,Tryz.prog.funcs[149]? =some fn∧ze cfg 149 fn=true:=⟨Tryz.f149,Tryz.func149,by kernel_rfl⟩
theorem zf1:∃fn,Tryz.prog.funcs[150]? =some fn∧ze cfg 150 fn=true:=⟨Tryz.f150,Tryz.func150,by kernel_rfl⟩
theorem zf2:∃fn,Tryz.prog.funcs[151]? =some fn∧ze cfg 151 fn=true:=⟨Tryz.f151,Tryz.func151,by kernel_rfl⟩
theorem zf3:∃fn,Tryz.prog.funcs[152]? =some fn∧ze cfg 152 fn=true:=⟨Tryz.f152,Tryz.func152,by kernel_rfl⟩
theorem zf4:∃fn,Tryz.prog.funcs[156]? =some fn∧ze cfg 156 fn=true:=⟨Tryz.f156,Tryz.func156,by kernel_rfl⟩
theorem zf5:∃fn,Tryz.prog.funcs[162]? =some fn∧ze cfg 162 fn=true:=⟨Tryz.f162,Tryz.func162,by kernel_rfl⟩
theorem zf6:∃fn,Tryz.prog.funcs[178]? =some fn∧ze cfg 178 fn=true:=⟨Tryz.f178,Tryz.func178,by kernel_rfl⟩
theorem zf7:∃fn,Tryz.prog.funcs[185]? =some fn∧ze cfg 185 fn=true:=⟨Tryz.f185,Tryz.func185,by kernel_rfl⟩
theorem zf8:∃fn,Tryz.prog.funcs[186]? =some fn∧ze cfg 186 fn=true:=⟨Tryz.f186,Tryz.func186,by kernel_rfl⟩
theorem zf9:∃fn,Tryz.prog.funcs[187]? =some fn∧ze cfg 187 fn=true:=⟨Tryz.f187,Tryz.func187,by kernel_rfl⟩
theorem zga:∃fn,Tryz.prog.funcs[188]? =some fn∧ze cfg 188 fn=true:=⟨Tryz.f188,Tryz.func188,by kernel_rfl⟩
theorem zgb:∃fn,Tryz.prog.funcs[189]? =some fn∧ze cfg 189 fn=true:=⟨Tryz.f189,Tryz.func189,by kernel_rfl⟩
theorem zgc:∃fn,Tryz.prog.funcs[190]? =some fn∧ze cfg 190 fn=true:=⟨Tryz.f190,Tryz.func190,by kernel_rfl⟩
theorem zgd:∃fn,Tryz.prog.funcs[191]? =some fn∧ze cfg 191 fn=true:=⟨Tryz.f191,Tryz.func191,by kernel_rfl⟩
theorem zge:∃fn,Tryz.prog.funcs[192]? =some fn∧ze cfg 192 fn=true:=⟨Tryz.f192,Tryz.func192,by kernel_rfl⟩
theorem zgf:∃fn,Tryz.prog.funcs[193]? =some fn∧ze cfg 193 fn=true:=⟨Tryz.f193,Tryz.func193,by kernel_rfl⟩
theorem zgg:∃fn,Tryz.prog.funcs[194]? =some fn∧ze cfg 194 fn=true:=⟨Tryz.f194,Tryz.func194,by kernel_rfl⟩
theorem zgh:∃fn,Tryz.prog.funcs[196]? =some fn∧ze cfg 196 fn=true:=⟨Tryz.f196,Tryz.func196,by kernel_rfl⟩
theorem zgi:∃fn,Tryz.prog.funcs[197]? =some fn∧ze cfg 197 fn=true:=⟨Tryz.f197,Tryz.func197,by kernel_rfl⟩
theorem zgj:∃fn,Tryz.prog.funcs[198]? =some fn∧ze cfg 198 fn=true:=⟨Tryz.f198,Tryz.func198,by kernel_rfl⟩
theorem zgk:∃fn,Tryz.prog.funcs[201]? =some fn∧ze cfg 201 fn=true:=⟨Tryz.f201,Tryz.func201,by kernel_rfl⟩
theorem zgl:∃fn,Tryz.prog.funcs[214]? =some fn∧ze cfg 214 fn=true:=⟨Tryz.f214,Tryz.func214,by kernel_rfl⟩
theorem zgm:∃fn,Tryz.prog.funcs[225]? =some fn∧ze cfg 225 fn=true:=⟨Tryz.f225,Tryz.func225,by kernel_rfl⟩
theorem zgn:∃fn,Tryz.prog.funcs[244]? =some fn∧ze cfg 244 fn=true:=⟨Tryz.f244,Tryz.func244,by kernel_rfl⟩
theorem zgo:∃fn,Tryz.prog.funcs[245]? =some fn∧ze cfg 245 fn=true:=⟨Tryz.f245,Tryz.func245,by kernel_rfl⟩
theorem zgp:∃fn,Tryz.prog.funcs[251]? =some fn∧ze cfg 251 fn=true:=⟨Tryz.f251,Tryz.func251,by kernel_rfl⟩
theorem zgq:∃fn,Tryz.prog.funcs[252]? =some fn∧ze cfg 252 fn=true:=⟨Tryz.f252,Tryz.func252,by kernel_rfl⟩
theorem zgr:∃fn,Tryz.prog.funcs[253]? =some fn∧ze cfg 253 fn=true:=⟨Tryz.f253,Tryz.func253,by kernel_rfl⟩
theorem zgs:∃fn,Tryz.prog.funcs[254]? =some fn∧ze cfg 254 fn=true:=⟨Tryz.f254,Tryz.func254,by kernel_rfl⟩
theorem zgt:∃fn,Tryz.prog.funcs[255]? =some fn∧ze cfg 255 fn=true:=⟨Tryz.f255,Tryz.func255,by kernel_rfl⟩
theorem zgu:∃fn,Tryz.prog.funcs[258]? =some fn∧ze cfg 258 fn=true:=⟨Tryz.f258,Tryz.func258,by kernel_rfl⟩
theorem zgv:∃fn,Tryz.prog.funcs[259]? =some fn∧ze cfg 259 fn=true:=⟨Tryz.f259,Tryz.func259,by kernel_rfl⟩
theorem zgw:∃fn,Tryz.prog.funcs[260]? =some fn∧ze cfg 260 fn=true:=⟨Tryz.f260,Tryz.func260,by kernel_rfl⟩
theorem zgx:∃fn,Tryz.prog.funcs[271]? =some fn∧ze cfg 271 fn=true:=⟨Tryz.f271,Tryz.func271,by kernel_rfl⟩
theorem zgy:∃fn,Tryz.prog.funcs[282]? =some fn∧ze cfg 282 fn=true:=⟨Tryz.f282,Tryz.func282,by kernel_rfl⟩
theorem zgz:∃fn,Tryz.prog.funcs[283]? =some fn∧ze cfg 283 fn=true:=⟨Tryz.f283,Tryz.func283,by kernel_rfl⟩
theorem zg0:∃fn,Tryz.prog.funcs[286]? =some fn∧ze cfg 286 fn=true:=⟨Tryz.f286,Tryz.func286,by kernel_rfl⟩
theorem zg1:∃fn,Tryz.prog.funcs[295]? =some fn∧ze cfg 295 fn=true:=⟨Tryz.f295,Tryz.func295,by kernel_rfl⟩
theorem zg2:∃fn,Tryz.prog.funcs[296]? =some fn∧ze cfg 296 fn=true:=⟨Tryz.f296,Tryz.func296,by kernel_rfl⟩
theorem zg3:∃fn,Tryz.prog.funcs[310]? =some fn∧ze cfg 310 fn=true:=⟨Tryz.f310,Tryz.func310,by kernel_rfl⟩
theorem zg4:∃fn,Tryz.prog.funcs[313]? =some fn∧ze cfg 313 fn=true:=⟨Tryz.f313,Tryz.func313,by kernel_rfl⟩
theorem fnsGood:Ld Tryz.prog cfg:=zaq (used:=AA) (fun f=>by rw[G2];delta AB;with_reducible rfl) ⟨zmz,zm0,zm1,zm2,zm3,zjm,zjn,zjo,zjq,zjr,zjs,zjt,zju,zjv,zjw,zjx,zjy,zjz,zj0,zj1,zj2,zj3,zj4,zj5,zj6,zj7,zj8,zj9,zka,zkb,zkc,zkd,zke,zkf,zkg,zkh,zki,zkj,zkk,zkl,zkm,zkn,zko,zkq,zkr,zks,zkt,zku,zkv,zkw,zkx,zky,zkz,zk0,zk1,zk2,zk3,zk4,zk5,zk6,zk7,zk8,zk9,zla,zlb,zlc,zld,zle,zfb,zfc,zfd,zfe,zff,zfg,zfh,zfi,zfj,zfk,zfl,zfm,zfn,zfo,zfp,zfq,zfr,zfs,zft,zfu,zfv,zfw,zfx,zfy,zfz,zf0,zf1,zf2,zf3,zf4,zf5,zf6,zf7,zf8,zf9,zga,zgb,zgc,zgd,zge,zgf,zgg,zgh,zgi,zgj,zgk,zgl,zgm,zgn,zgo,zgp,zgq,zgr,zgs,zgt,zgu,zgv,zgw,zgx,zgy,zgz,zg0,zg1,zg2,zg3,zg4,trivial⟩
theorem tblGood:TOk Tryz.prog cfg:=zlw (tr:=tl) (by delta cfg;funext t;delta Q0;with_reducible rfl) znc
theorem zlf {st:List Entry} {xs:List V} {r:V×List Entry} (h:Eh st xs=some r):xC Tryz.prog 148 st xs r:=
 za5 Tryz.func148 (by kernel_rfl) (by kernel_rfl) (by kernel_rfl) (by kernel_rfl) h
def Q1:Go.Shelf.Ren:=
{
 f:=fun x=>
  match x with
  |172=>195
  |244=>256
  |245=>257
  |247=>290
  |279=>291
  |280=>292
  |281=>293
  |282=>294
  |287=>307
  |316=>308
  |171=>196
  |205=>309
  |321=>316
  |322=>317
  |243=>258
  |246=>295
  |283=>310
  |284=>311
  |285=>312
  |286=>313
  |129=>211
  |317=>318
  |318=>319
  |319=>320
  |320=>321
  |337=>322
  |338=>323
  |n=>n,
 t:=fun x=>
  match x with
  |9=>9
  |3=>3
  |75=>235
  |76=>236
  |4=>4
  |5=>5
  |167=>300
  |37=>22
  |0=>0
  |85=>301
  |2=>2
  |168=>303
  |53=>251
  |175=>317
  |46=>198
  |210=>321
  |127=>331
  |145=>334
  |143=>332
  |21=>21
  |171=>323
  |173=>325
  |212=>336
  |51=>249
  |20=>20
  |213=>337
  |232=>338
  |233=>339
  |80=>340
  |n=>n,
 g:=fun x=>
  match x with
  |15=>1
  |16=>2
  |17=>3
  |18=>4
  |19=>5
  |n=>n }
theorem Q2:LaysC.n172 Tryz.prog Q1:=
 {mixed:=by kernel_rfl,
  f129:=Tryz.func211.trans (by kernel_rfl),
  f171:=Tryz.func196.trans (by kernel_rfl),
  f172:=Tryz.func195.trans (by kernel_rfl),
  f205:=Tryz.func309.trans (by kernel_rfl),
  f243:=Tryz.func258.trans (by kernel_rfl),
  f244:=Tryz.func256.trans (by kernel_rfl),
  f245:=Tryz.func257.trans (by kernel_rfl),
  f246:=Tryz.func295.trans (by kernel_rfl),
  f247:=Tryz.func290.trans (by kernel_rfl),
  f279:=Tryz.func291.trans (by kernel_rfl),
  f280:=Tryz.func292.trans (by kernel_rfl),
  f281:=Tryz.func293.trans (by kernel_rfl),
  f282:=Tryz.func294.trans (by kernel_rfl),
  f283:=Tryz.func310.trans (by kernel_rfl),
  f284:=Tryz.func311.trans (by kernel_rfl),
  f285:=Tryz.func312.trans (by kernel_rfl),
  f286:=Tryz.func313.trans (by kernel_rfl),
  f287:=Tryz.func307.trans (by kernel_rfl),
  f316:=Tryz.func308.trans (by kernel_rfl),
  f317:=Tryz.func318.trans (by kernel_rfl),
  f318:=Tryz.func319.trans (by kernel_rfl),
  f319:=Tryz.func320.trans (by kernel_rfl),
  f320:=Tryz.func321.trans (by kernel_rfl),
  f321:=Tryz.func316.trans (by kernel_rfl),
  f322:=Tryz.func317.trans (by kernel_rfl),
  f337:=Tryz.func322.trans (by kernel_rfl),
  f338:=Tryz.func323.trans (by kernel_rfl),
  t0:=Tryz.underlying0,
  a0:=Tryz.isAgg0,
  z0:=Tryz.sizeOf0,
  v0:=Tryz.zeroValue0,
  t2:=Tryz.underlying2,
  a2:=Tryz.isAgg2,
  z2:=Tryz.sizeOf2,
  v2:=Tryz.zeroValue2,
  t3:=Tryz.underlying3,
  a3:=Tryz.isAgg3,
  z3:=Tryz.sizeOf3,
  v3:=Tryz.zeroValue3,
  t4:=Tryz.underlying4,
  a4:=Tryz.isAgg4,
  z4:=Tryz.sizeOf4,
  v4:=Tryz.zeroValue4,
  t5:=Tryz.underlying5,
  a5:=Tryz.isAgg5,
  z5:=Tryz.sizeOf5,
  v5:=Tryz.zeroValue5,
  t9:=Tryz.underlying9,
  a9:=Tryz.isAgg9,
  z9:=Tryz.sizeOf9,
  v9:=Tryz.zeroValue9,
  t20:=Tryz.underlying20,
  a20:=Tryz.isAgg20,
  z20:=Tryz.sizeOf20,
  v20:=Tryz.zeroValue20,
  t21:=Tryz.underlying21,
  a21:=Tryz.isAgg21,
  z21:=Tryz.sizeOf21,
  v21:=Tryz.zeroValue21,
  t37:=Tryz.underlying22,
  a37:=Tryz.isAgg22,
  z37:=Tryz.sizeOf22,
  v37:=Tryz.zeroValue22,
  t46:=Tryz.underlying198,
  a46:=Tryz.isAgg198,
  z46:=Tryz.sizeOf198,
  v46:=Tryz.zeroValue198,
  t51:=Tryz.underlying249,
  a51:=Tryz.isAgg249,
  z51:=Tryz.sizeOf249,
  v51:=Tryz.zeroValue249,
  t53:=Tryz.underlying251,
  a53:=Tryz.isAgg251,
  z53:=Tryz.sizeOf251,
  v53:=Tryz.zeroValue251,
  t75:=Tryz.underlying235,
  a75:=Tryz.isAgg235,
  z75:=Tryz.sizeOf235,
  v75:=Tryz.zeroValue235,
  t76:=Tryz.underlying236,
  a76:=Tryz.isAgg236,
  z76:=Tryz.sizeOf236,
  v76:=Tryz.zeroValue236,
  t85:=Tryz.underlying301,
  a85:=Tryz.isAgg301,
  z85:=Tryz.sizeOf301,
  v85:=Tryz.zeroValue301,
  t127:=Tryz.underlying331,
  a127:=Tryz.isAgg331,
  z127:=Tryz.sizeOf331,
  v127:=Tryz.zeroValue331,
  t143:=Tryz.underlying332,
  a143:=Tryz.isAgg332,
  z143:=Tryz.sizeOf332,
  v143:=Tryz.zeroValue332,
  t145:=Tryz.underlying334,
  a145:=Tryz.isAgg334,
  z145:=Tryz.sizeOf334,
  v145:=Tryz.zeroValue334,
  t167:=Tryz.underlying300,
  a167:=Tryz.isAgg300,
  z167:=Tryz.sizeOf300,
  v167:=Tryz.zeroValue300,
  t168:=Tryz.underlying303,
  a168:=Tryz.isAgg303,
  z168:=Tryz.sizeOf303,
  v168:=Tryz.zeroValue303,
  t171:=Tryz.underlying323,
  a171:=Tryz.isAgg323,
  z171:=Tryz.sizeOf323,
  v171:=Tryz.zeroValue323,
  t173:=Tryz.underlying325,
  a173:=Tryz.isAgg325,
  z173:=Tryz.sizeOf325,
  v173:=Tryz.zeroValue325,
  t175:=Tryz.underlying317,
  a175:=Tryz.isAgg317,
  z175:=Tryz.sizeOf317,
  v175:=Tryz.zeroValue317,
  t210:=Tryz.underlying321,
  a210:=Tryz.isAgg321,
  z210:=Tryz.sizeOf321,
  v210:=Tryz.zeroValue321,
  t212:=Tryz.underlying336,
  a212:=Tryz.isAgg336,
  z212:=Tryz.sizeOf336,
  v212:=Tryz.zeroValue336,
  t213:=Tryz.underlying337,
  a213:=Tryz.isAgg337,
  z213:=Tryz.sizeOf337,
  t232:=Tryz.underlying338,
  a232:=Tryz.isAgg338,
  z232:=Tryz.sizeOf338,
  v232:=Tryz.zeroValue338,
  t233:=Tryz.underlying339,
  a233:=Tryz.isAgg339,
  z233:=Tryz.sizeOf339,
  v233:=Tryz.zeroValue339,
  g15:=by kernel_rfl,
  g16:=by kernel_rfl,
  g17:=by kernel_rfl,
  g18:=by kernel_rfl,
  g19:=by kernel_rfl,
  t80:=Tryz.underlying340,
  a80:=Tryz.isAgg340,
  z80:=Tryz.sizeOf340,
  v80:=Tryz.zeroValue340,
  i0:=by kernel_rfl,
  i2:=by kernel_rfl,
  i3:=by kernel_rfl,
  i4:=by kernel_rfl,
  i5:=by kernel_rfl,
  i9:=by kernel_rfl,
  i20:=by kernel_rfl,
  i21:=by kernel_rfl,
  i37:=by kernel_rfl,
  i46:=by kernel_rfl,
  i51:=by kernel_rfl,
  i53:=by kernel_rfl,
  i75:=by kernel_rfl,
  i76:=by kernel_rfl,
  i80:=by kernel_rfl,
  i85:=by kernel_rfl,
  i127:=by kernel_rfl,
  i143:=by kernel_rfl,
  i145:=by kernel_rfl,
  i167:=by kernel_rfl,
  i168:=by kernel_rfl,
  i171:=by kernel_rfl,
  i173:=by kernel_rfl,
  i175:=by kernel_rfl,
  i210:=by kernel_rfl,
  i212:=by kernel_rfl,
  i232:=by kernel_rfl,
  i233:=by kernel_rfl,
  m15:=by kernel_rfl,
  m16:=by kernel_rfl,
  m17:=by kernel_rfl,
  m18:=by kernel_rfl,
  m19:=by kernel_rfl,
  c0:=by kernel_rfl,
  c2:=by kernel_rfl,
  c3:=by kernel_rfl,
  c4:=by kernel_rfl,
  c5:=by kernel_rfl,
  c9:=by kernel_rfl,
  c20:=by kernel_rfl,
  c21:=by kernel_rfl,
  c37:=by kernel_rfl,
  c46:=by kernel_rfl,
  c51:=by kernel_rfl,
  c53:=by kernel_rfl,
  c75:=by kernel_rfl,
  c76:=by kernel_rfl,
  c80:=by kernel_rfl,
  c85:=by kernel_rfl,
  c127:=by kernel_rfl,
  c143:=by kernel_rfl,
  c145:=by kernel_rfl,
  c167:=by kernel_rfl,
  c168:=by kernel_rfl,
  c171:=by kernel_rfl,
  c173:=by kernel_rfl,
  c175:=by kernel_rfl,
  c210:=by kernel_rfl,
  c212:=by kernel_rfl,
  c213:=by kernel_rfl,
  c232:=by kernel_rfl,
  c233:=by kernel_rfl }
theorem gES:Tryz.prog.globalNamed "strconv.ErrSyntax"=some (Q1.g 15):=Q2.m15
theorem gER:Tryz.prog.globalNamed "strconv.ErrRange"=some (Q1.g 16):=Q2.m16
theorem zg5 {st:List Entry} {xs:List V} {r:V×List Entry} (h:Lt st xs=some r):xC Tryz.prog 195 st xs r:=
 zik (f:=Q1.f 172) (ge:=Q1.g 15) (gr:=Q1.g 16) (Go.Proofs.enters_of Q2.f172 (by kernel_rfl) rfl)
  (fun s hs v ha w=>(Any.strconv_Atoi_ok Q2 s (by omega) v ha w).mono fun e w' he=>⟨he.1,by
   rcases he.2 with rfl|⟨t,rfl⟩
   ·exact Below.refl _ _
   ·exact Lib.bytesWorld_below _ _ _⟩)
  (fun s hs h1 h2 te pe w hc=>by
   have hall:∀x,Lib.atoiAll s.data.toList=x→Calls Tryz.prog (Q1.f 172) #[.string s] w fun e w'=>(∃T z,e= .returned (.tuple #[.int .i64 0,.iface T z]))∧Below w.heap.size w w':=by
    intro x hx
    cases x with
    |ok v=>exact(h1 v hx).elim
    |range=>exact(h2 hx).elim
    |_=>
     refine(Any.strconv_Atoi_syntax Q2 s (by omega) hx (.iface te pe) w hc (Or.inr ⟨te,pe,rfl⟩)).mono fun e w' he=> ?_
     obtain⟨N,he,_,_,hb⟩:=he
     exact⟨⟨_,_,he⟩,hb⟩
   exact hall _ rfl)
  (fun s hs ha te pe w hc=>(Any.strconv_Atoi_range Q2 s (by omega) ha (.iface te pe) w hc (Or.inr ⟨te,pe,rfl⟩)).mono fun e w' he=>by
   obtain⟨N,he,_,_,hb⟩:=he
   exact⟨⟨_,_,he⟩,hb⟩)
  gES gER h
theorem zlg {st:List Entry} {xs:List V} {r:V×List Entry} (h:Ej st xs=some r):xC Tryz.prog 305 st xs r:=
 zl8 Tryz.func305 (by kernel_rfl) (by kernel_rfl) (by kernel_rfl) (by kernel_rfl) h
theorem xGood (f:FuncId) (st:List Entry) (xs:List V) (r:V×List Entry) (h:cfg.X f st xs=some r):xC Tryz.prog f st xs r:=by
 have h:(bif Nat.beq f 93 then(Hr 94) st xs else bif Nat.beq f 95 then(Lu 64) st xs else bif Nat.beq f 139 then Af st xs else bif Nat.beq f 140 then Ag st xs else bif Nat.beq f 148 then Eh st xs else bif Nat.beq f 195 then Lt st xs else bif Nat.beq f 305 then Ej st xs else none)=some r:=h
 cases h0:Nat.beq f 93 with
 |true=>
  rw[h0]at h
  obtain rfl:=Nat.eq_of_beq_eq_true h0
  exact zg7 h
 |false=>
 rw[h0]at h
 simp only[cond_false]at h
 cases h1:Nat.beq f 95 with
 |true=>
  rw[h1]at h
  obtain rfl:=Nat.eq_of_beq_eq_true h1
  exact zd9 h
 |false=>
 rw[h1]at h
 simp only[cond_false]at h
 cases h2:Nat.beq f 139 with
 |true=>
  rw[h2]at h
  obtain rfl:=Nat.eq_of_beq_eq_true h2
  exact ziy h
 |false=>
 rw[h2]at h
 simp only[cond_false]at h
 cases h3:Nat.beq f 140 with
 |true=>
  rw[h3]at h
  obtain rfl:=Nat.eq_of_beq_eq_true h3
  exact zio h
 |false=>
 rw[h3]at h
 simp only[cond_false]at h
 cases h4:Nat.beq f 148 with
 |true=>
  rw[h4]at h
  obtain rfl:=Nat.eq_of_beq_eq_true h4
  exact zlf h
 |false=>
 rw[h4]at h
 simp only[cond_false]at h
 cases h5:Nat.beq f 195 with
 |true=>
  rw[h5]at h
  obtain rfl:=Nat.eq_of_beq_eq_true h5
  exact zg5 h
 |false=>
 rw[h5]at h
 simp only[cond_false]at h
 cases h6:Nat.beq f 305 with
 |true=>
  rw[h6]at h
  obtain rfl:=Nat.eq_of_beq_eq_true h6
  exact zlg h
 |false=>
 rw[h6]at h
 simp only[cond_false]at h
 cases h
end Go.Am.Try
