/- The functions of the program in plain Lean, and that the machine answers as they do; conditions at each theorem. -/
import Derived.Test.YtklelfbkffbceaaGreatMS2
set_option linter.unusedVariables false
set_option linter.unusedSimpArgs false
namespace Go.Am.Try
open Go.Am Go.Proofs Go.RowKit
theorem zgl : ∃ fn, Tryz.prog.funcs[3]? = some fn ∧ zk cfg 3 fn = true := ⟨Tryz.f3, Tryz.func3, by kernel_rfl⟩
theorem zgm : ∃ fn, Tryz.prog.funcs[6]? = some fn ∧ zk cfg 6 fn = true := ⟨Tryz.f6, Tryz.func6, by kernel_rfl⟩
theorem zgn : ∃ fn, Tryz.prog.funcs[7]? = some fn ∧ zk cfg 7 fn = true := ⟨Tryz.f7, Tryz.func7, by kernel_rfl⟩
theorem zgo : ∃ fn, Tryz.prog.funcs[8]? = some fn ∧ zk cfg 8 fn = true := ⟨Tryz.f8, Tryz.func8, by kernel_rfl⟩
theorem zgp : ∃ fn, Tryz.prog.funcs[9]? = some fn ∧ zk cfg 9 fn = true := ⟨Tryz.f9, Tryz.func9, by kernel_rfl⟩
theorem zdt : ∃ fn, Tryz.prog.funcs[10]? = some fn ∧ zk cfg 10 fn = true := ⟨Tryz.f10, Tryz.func10, by kernel_rfl⟩
theorem zdu : ∃ fn, Tryz.prog.funcs[11]? = some fn ∧ zk cfg 11 fn = true := ⟨Tryz.f11, Tryz.func11, by kernel_rfl⟩
theorem zdv : ∃ fn, Tryz.prog.funcs[12]? = some fn ∧ zk cfg 12 fn = true := ⟨Tryz.f12, Tryz.func12, by kernel_rfl⟩
theorem zdw : ∃ fn, Tryz.prog.funcs[30]? = some fn ∧ zk cfg 30 fn = true := ⟨Tryz.f30, Tryz.func30, by kernel_rfl⟩
theorem zdx : ∃ fn, Tryz.prog.funcs[31]? = some fn ∧ zk cfg 31 fn = true := ⟨Tryz.f31, Tryz.func31, by kernel_rfl⟩
theorem zdy : ∃ fn, Tryz.prog.funcs[32]? = some fn ∧ zk cfg 32 fn = true := ⟨Tryz.f32, Tryz.func32, by kernel_rfl⟩
theorem zdz : ∃ fn, Tryz.prog.funcs[33]? = some fn ∧ zk cfg 33 fn = true := ⟨Tryz.f33, Tryz.func33, by kernel_rfl⟩
theorem zd0 : ∃ fn, Tryz.prog.funcs[34]? = some fn ∧ zk cfg 34 fn = true := ⟨Tryz.f34, Tryz.func34, by kernel_rfl⟩
theorem zd1 : ∃ fn, Tryz.prog.funcs[35]? = some fn ∧ zk cfg 35 fn = true := ⟨Tryz.f35, Tryz.func35, by kernel_rfl⟩
theorem zd2 : ∃ fn, Tryz.prog.funcs[36]? = some fn ∧ zk cfg 36 fn = true := ⟨Tryz.f36, Tryz.func36, by kernel_rfl⟩
theorem zd3 : ∃ fn, Tryz.prog.funcs[37]? = some fn ∧ zk cfg 37 fn = true := ⟨Tryz.f37, Tryz.func37, by kernel_rfl⟩
theorem zd4 : ∃ fn, Tryz.prog.funcs[38]? = some fn ∧ zk cfg 38 fn = true := ⟨Tryz.f38, Tryz.func38, by kernel_rfl⟩
theorem zd5 : ∃ fn, Tryz.prog.funcs[39]? = some fn ∧ zk cfg 39 fn = true := ⟨Tryz.f39, Tryz.func39, by kernel_rfl⟩
theorem zd6 : ∃ fn, Tryz.prog.funcs[40]? = some fn ∧ zk cfg 40 fn = true := ⟨Tryz.f40, Tryz.func40, by kernel_rfl⟩
theorem zd7 : ∃ fn, Tryz.prog.funcs[41]? = some fn ∧ zk cfg 41 fn = true := ⟨Tryz.f41, Tryz.func41, by kernel_rfl⟩
theorem zd8 : ∃ fn, Tryz.prog.funcs[42]? = some fn ∧ zk cfg 42 fn = true := ⟨Tryz.f42, Tryz.func42, by kernel_rfl⟩
theorem zd9 : ∃ fn, Tryz.prog.funcs[43]? = some fn ∧ zk cfg 43 fn = true := ⟨Tryz.f43, Tryz.func43, by kernel_rfl⟩
theorem zea : ∃ fn, Tryz.prog.funcs[44]? = some fn ∧ zk cfg 44 fn = true := ⟨Tryz.f44, Tryz.func44, by kernel_rfl⟩
theorem zeb : ∃ fn, Tryz.prog.funcs[45]? = some fn ∧ zk cfg 45 fn = true := ⟨Tryz.f45, Tryz.func45, by kernel_rfl⟩
theorem zec : ∃ fn, Tryz.prog.funcs[46]? = some fn ∧ zk cfg 46 fn = true := ⟨Tryz.f46, Tryz.func46, by kernel_rfl⟩
theorem zed : ∃ fn, Tryz.prog.funcs[47]? = some fn ∧ zk cfg 47 fn = true := ⟨Tryz.f47, Tryz.func47, by kernel_rfl⟩
theorem zee : ∃ fn, Tryz.prog.funcs[48]? = some fn ∧ zk cfg 48 fn = true := ⟨Tryz.f48, Tryz.func48, by kernel_rfl⟩
theorem zef : ∃ fn, Tryz.prog.funcs[49]? = some fn ∧ zk cfg 49 fn = true := ⟨Tryz.f49, Tryz.func49, by kernel_rfl⟩
theorem zeg : ∃ fn, Tryz.prog.funcs[52]? = some fn ∧ zk cfg 52 fn = true := ⟨Tryz.f52, Tryz.func52, by kernel_rfl⟩
theorem zeh : ∃ fn, Tryz.prog.funcs[58]? = some fn ∧ zk cfg 58 fn = true := ⟨Tryz.f58, Tryz.func58, by kernel_rfl⟩
theorem zei : ∃ fn, Tryz.prog.funcs[74]? = some fn ∧ zk cfg 74 fn = true := ⟨Tryz.f74, Tryz.func74, by kernel_rfl⟩
theorem zej : ∃ fn, Tryz.prog.funcs[75]? = some fn ∧ zk cfg 75 fn = true := ⟨Tryz.f75, Tryz.func75, by kernel_rfl⟩
theorem zek : ∃ fn, Tryz.prog.funcs[76]? = some fn ∧ zk cfg 76 fn = true := ⟨Tryz.f76, Tryz.func76, by kernel_rfl⟩
theorem zel : ∃ fn, Tryz.prog.funcs[77]? = some fn ∧ zk cfg 77 fn = true := ⟨Tryz.f77, Tryz.func77, by kernel_rfl⟩
theorem zem : ∃ fn, Tryz.prog.funcs[78]? = some fn ∧ zk cfg 78 fn = true := ⟨Tryz.f78, Tryz.func78, by kernel_rfl⟩
theorem zen : ∃ fn, Tryz.prog.funcs[79]? = some fn ∧ zk cfg 79 fn = true := ⟨Tryz.f79, Tryz.func79, by kernel_rfl⟩
theorem zeo : ∃ fn, Tryz.prog.funcs[80]? = some fn ∧ zk cfg 80 fn = true := ⟨Tryz.f80, Tryz.func80, by kernel_rfl⟩
theorem zep : ∃ fn, Tryz.prog.funcs[81]? = some fn ∧ zk cfg 81 fn = true := ⟨Tryz.f81, Tryz.func81, by kernel_rfl⟩
theorem zeq : ∃ fn, Tryz.prog.funcs[82]? = some fn ∧ zk cfg 82 fn = true := ⟨Tryz.f82, Tryz.func82, by kernel_rfl⟩
theorem zer : ∃ fn, Tryz.prog.funcs[83]? = some fn ∧ zk cfg 83 fn = true := ⟨Tryz.f83, Tryz.func83, by kernel_rfl⟩
theorem zes : ∃ fn, Tryz.prog.funcs[84]? = some fn ∧ zk cfg 84 fn = true := ⟨Tryz.f84, Tryz.func84, by kernel_rfl⟩
theorem zet : ∃ fn, Tryz.prog.funcs[85]? = some fn ∧ zk cfg 85 fn = true := ⟨Tryz.f85, Tryz.func85, by kernel_rfl⟩
theorem zeu : ∃ fn, Tryz.prog.funcs[86]? = some fn ∧ zk cfg 86 fn = true := ⟨Tryz.f86, Tryz.func86, by kernel_rfl⟩
theorem zev : ∃ fn, Tryz.prog.funcs[88]? = some fn ∧ zk cfg 88 fn = true := ⟨Tryz.f88, Tryz.func88, by kernel_rfl⟩
theorem zew : ∃ fn, Tryz.prog.funcs[93]? = some fn ∧ zk cfg 93 fn = true := ⟨Tryz.f93, Tryz.func93, by kernel_rfl⟩
theorem zex : ∃ fn, Tryz.prog.funcs[98]? = some fn ∧ zk cfg 98 fn = true := ⟨Tryz.f98, Tryz.func98, by kernel_rfl⟩
theorem zey : ∃ fn, Tryz.prog.funcs[99]? = some fn ∧ zk cfg 99 fn = true := ⟨Tryz.f99, Tryz.func99, by kernel_rfl⟩
theorem A5 : ∃ fn, Tryz.prog.funcs[104]? = some fn ∧ zk cfg 104 fn = true := ⟨Tryz.f104, Tryz.func104, by kernel_rfl⟩
theorem A6 : ∃ fn, Tryz.prog.funcs[106]? = some fn ∧ zk cfg 106 fn = true := ⟨Tryz.f106, Tryz.func106, by kernel_rfl⟩
theorem A7 : ∃ fn, Tryz.prog.funcs[112]? = some fn ∧ zk cfg 112 fn = true := ⟨Tryz.f112, Tryz.func112, by kernel_rfl⟩
theorem A8 : ∃ fn, Tryz.prog.funcs[125]? = some fn ∧ zk cfg 125 fn = true := ⟨Tryz.f125, Tryz.func125, by kernel_rfl⟩
theorem A9 : ∃ fn, Tryz.prog.funcs[126]? = some fn ∧ zk cfg 126 fn = true := ⟨Tryz.f126, Tryz.func126, by kernel_rfl⟩
theorem AA : ∃ fn, Tryz.prog.funcs[127]? = some fn ∧ zk cfg 127 fn = true := ⟨Tryz.f127, Tryz.func127, by kernel_rfl⟩
theorem AB : ∃ fn, Tryz.prog.funcs[128]? = some fn ∧ zk cfg 128 fn = true := ⟨Tryz.f128, Tryz.func128, by kernel_rfl⟩
theorem AC : ∃ fn, Tryz.prog.funcs[129]? = some fn ∧ zk cfg 129 fn = true := ⟨Tryz.f129, Tryz.func129, by kernel_rfl⟩
theorem AD : ∃ fn, Tryz.prog.funcs[130]? = some fn ∧ zk cfg 130 fn = true := ⟨Tryz.f130, Tryz.func130, by kernel_rfl⟩
theorem AE : ∃ fn, Tryz.prog.funcs[131]? = some fn ∧ zk cfg 131 fn = true := ⟨Tryz.f131, Tryz.func131, by kernel_rfl⟩
theorem AF : ∃ fn, Tryz.prog.funcs[132]? = some fn ∧ zk cfg 132 fn = true := ⟨Tryz.f132, Tryz.func132, by kernel_rfl⟩
theorem AG : ∃ fn, Tryz.prog.funcs[133]? = some fn ∧ zk cfg 133 fn = true := ⟨Tryz.f133, Tryz.func133, by kernel_rfl⟩
theorem AH : ∃ fn, Tryz.prog.funcs[134]? = some fn ∧ zk cfg 134 fn = true := ⟨Tryz.f134, Tryz.func134, by kernel_rfl⟩
theorem AI : ∃ fn, Tryz.prog.funcs[135]? = some fn ∧ zk cfg 135 fn = true := ⟨Tryz.f135, Tryz.func135, by kernel_rfl⟩
theorem AJ : ∃ fn, Tryz.prog.funcs[136]? = some fn ∧ zk cfg 136 fn = true := ⟨Tryz.f136, Tryz.func136, by kernel_rfl⟩
theorem AK : ∃ fn, Tryz.prog.funcs[137]? = some fn ∧ zk cfg 137 fn = true := ⟨Tryz.f137, Tryz.func137, by kernel_rfl⟩
theorem AL : ∃ fn, Tryz.prog.funcs[138]? = some fn ∧ zk cfg 138 fn = true := ⟨Tryz.f138, Tryz.func138, by kernel_rfl⟩
theorem AM : ∃ fn, Tryz.prog.funcs[139]? = some fn ∧ zk cfg 139 fn = true := ⟨Tryz.f139, Tryz.func139, by kernel_rfl⟩
theorem AN : ∃ fn, Tryz.prog.funcs[140]? = some fn ∧ zk cfg 140 fn = true := ⟨Tryz.f140, Tryz.func140, by kernel_rfl⟩
theorem AO : ∃ fn, Tryz.prog.funcs[141]? = some fn ∧ zk cfg 141 fn = true := ⟨Tryz.f141, Tryz.func141, by kernel_rfl⟩
theorem AP : ∃ fn, Tryz.prog.funcs[142]? = some fn ∧ zk cfg 142 fn = true := ⟨Tryz.f142, Tryz.func142, by kernel_rfl⟩
theorem AQ : ∃ fn, Tryz.prog.funcs[143]? = some fn ∧ zk cfg 143 fn = true := ⟨Tryz.f143, Tryz.func143, by kernel_rfl⟩
theorem AR : ∃ fn, Tryz.prog.funcs[144]? = some fn ∧ zk cfg 144 fn = true := ⟨Tryz.f144, Tryz.func144, by kernel_rfl⟩
theorem AS : ∃ fn, Tryz.prog.funcs[145]? = some fn ∧ zk cfg 145 fn = true := ⟨Tryz.f145, Tryz.func145, by kernel_rfl⟩
theorem AT : ∃ fn, Tryz.prog.funcs[146]? = some fn ∧ zk cfg 146 fn = true := ⟨Tryz.f146, Tryz.func146, by kernel_rfl⟩
theorem AU : ∃ fn, Tryz.prog.funcs[147]? = some fn ∧ zk cfg 147 fn = true := ⟨Tryz.f147, Tryz.func147, by kernel_rfl⟩
theorem AV : ∃ fn, Tryz.prog.funcs[148]? = some fn ∧ zk cfg 148 fn = true := ⟨Tryz.f148, Tryz.func148, by kernel_rfl⟩
theorem AW : ∃ fn, Tryz.prog.funcs[149]? = some fn ∧ zk cfg 149 fn = true := ⟨Tryz.f149, Tryz.func149, by kernel_rfl⟩
theorem AX : ∃ fn, Tryz.prog.funcs[150]? = some fn ∧ zk cfg 150 fn = true := ⟨Tryz.f150, Tryz.func150, by kernel_rfl⟩
theorem AY : ∃ fn, Tryz.prog.funcs[151]? = some fn ∧ zk cfg 151 fn = true := ⟨Tryz.f151, Tryz.func151, by kernel_rfl⟩
theorem AZ : ∃ fn, Tryz.prog.funcs[152]? = some fn ∧ zk cfg 152 fn = true := ⟨Tryz.f152, Tryz.func152, by kernel_rfl⟩
theorem zaa : ∃ fn, Tryz.prog.funcs[153]? = some fn ∧ zk cfg 153 fn = true := ⟨Tryz.f153, Tryz.func153, by kernel_rfl⟩
theorem zab : ∃ fn, Tryz.prog.funcs[154]? = some fn ∧ zk cfg 154 fn = true := ⟨Tryz.f154, Tryz.func154, by kernel_rfl⟩
theorem zac : ∃ fn, Tryz.prog.funcs[155]? = some fn ∧ zk cfg 155 fn = true := ⟨Tryz.f155, Tryz.func155, by kernel_rfl⟩
theorem zad : ∃ fn, Tryz.prog.funcs[156]? = some fn ∧ zk cfg 156 fn = true := ⟨Tryz.f156, Tryz.func156, by kernel_rfl⟩
theorem zae : ∃ fn, Tryz.prog.funcs[157]? = some fn ∧ zk cfg 157 fn = true := ⟨Tryz.f157, Tryz.func157, by kernel_rfl⟩
theorem zaf : ∃ fn, Tryz.prog.funcs[159]? = some fn ∧ zk cfg 159 fn = true := ⟨Tryz.f159, Tryz.func159, by kernel_rfl⟩
theorem zag : ∃ fn, Tryz.prog.funcs[161]? = some fn ∧ zk cfg 161 fn = true := ⟨Tryz.f161, Tryz.func161, by kernel_rfl⟩
theorem zah : ∃ fn, Tryz.prog.funcs[162]? = some fn ∧ zk cfg 162 fn = true := ⟨Tryz.f162, Tryz.func162, by kernel_rfl⟩
theorem zai : ∃ fn, Tryz.prog.funcs[164]? = some fn ∧ zk cfg 164 fn = true := ⟨Tryz.f164, Tryz.func164, by kernel_rfl⟩
theorem zaj : ∃ fn, Tryz.prog.funcs[165]? = some fn ∧ zk cfg 165 fn = true := ⟨Tryz.f165, Tryz.func165, by kernel_rfl⟩
theorem zak : ∃ fn, Tryz.prog.funcs[170]? = some fn ∧ zk cfg 170 fn = true := ⟨Tryz.f170, Tryz.func170, by kernel_rfl⟩
theorem zal : ∃ fn, Tryz.prog.funcs[171]? = some fn ∧ zk cfg 171 fn = true := ⟨Tryz.f171, Tryz.func171, by kernel_rfl⟩
theorem zam : ∃ fn, Tryz.prog.funcs[174]? = some fn ∧ zk cfg 174 fn = true := ⟨Tryz.f174, Tryz.func174, by kernel_rfl⟩
theorem zan : ∃ fn, Tryz.prog.funcs[185]? = some fn ∧ zk cfg 185 fn = true := ⟨Tryz.f185, Tryz.func185, by kernel_rfl⟩
theorem zao : ∃ fn, Tryz.prog.funcs[186]? = some fn ∧ zk cfg 186 fn = true := ⟨Tryz.f186, Tryz.func186, by kernel_rfl⟩
theorem zap : ∃ fn, Tryz.prog.funcs[187]? = some fn ∧ zk cfg 187 fn = true := ⟨Tryz.f187, Tryz.func187, by kernel_rfl⟩
theorem zaq : ∃ fn, Tryz.prog.funcs[188]? = some fn ∧ zk cfg 188 fn = true := ⟨Tryz.f188, Tryz.func188, by kernel_rfl⟩
theorem zar : ∃ fn, Tryz.prog.funcs[189]? = some fn ∧ zk cfg 189 fn = true := ⟨Tryz.f189, Tryz.func189, by kernel_rfl⟩
theorem zas : ∃ fn, Tryz.prog.funcs[190]? = some fn ∧ zk cfg 190 fn = true := ⟨Tryz.f190, Tryz.func190, by kernel_rfl⟩
theorem zat : ∃ fn, Tryz.prog.funcs[191]? = some fn ∧ zk cfg 191 fn = true := ⟨Tryz.f191, Tryz.func191, by kernel_rfl⟩
theorem zau : ∃ fn, Tryz.prog.funcs[193]? = some fn ∧ zk cfg 193 fn = true := ⟨Tryz.f193, Tryz.func193, by kernel_rfl⟩
theorem zav : ∃ fn, Tryz.prog.funcs[194]? = some fn ∧ zk cfg 194 fn = true := ⟨Tryz.f194, Tryz.func194, by kernel_rfl⟩
theorem zaw : ∃ fn, Tryz.prog.funcs[195]? = some fn ∧ zk cfg 195 fn = true := ⟨Tryz.f195, Tryz.func195, by kernel_rfl⟩
theorem zax : ∃ fn, Tryz.prog.funcs[196]? = some fn ∧ zk cfg 196 fn = true := ⟨Tryz.f196, Tryz.func196, by kernel_rfl⟩
theorem zay : ∃ fn, Tryz.prog.funcs[197]? = some fn ∧ zk cfg 197 fn = true := ⟨Tryz.f197, Tryz.func197, by kernel_rfl⟩
theorem zaz : ∃ fn, Tryz.prog.funcs[198]? = some fn ∧ zk cfg 198 fn = true := ⟨Tryz.f198, Tryz.func198, by kernel_rfl⟩
theorem za0 : ∃ fn, Tryz.prog.funcs[200]? = some fn ∧ zk cfg 200 fn = true := ⟨Tryz.f200, Tryz.func200, by kernel_rfl⟩
theorem za1 : ∃ fn, Tryz.prog.funcs[209]? = some fn ∧ zk cfg 209 fn = true := ⟨Tryz.f209, Tryz.func209, by kernel_rfl⟩
theorem za2 : ∃ fn, Tryz.prog.funcs[210]? = some fn ∧ zk cfg 210 fn = true := ⟨Tryz.f210, Tryz.func210, by kernel_rfl⟩
theorem za3 : ∃ fn, Tryz.prog.funcs[211]? = some fn ∧ zk cfg 211 fn = true := ⟨Tryz.f211, Tryz.func211, by kernel_rfl⟩
theorem fnsGood : Kp Tryz.prog cfg := Da (used := Et) (fun f => by rw [LN]; delta Eu; with_reducible rfl) ⟨zgl, zgm, zgn, zgo, zgp, zdt, zdu, zdv, zdw, zdx, zdy, zdz, zd0, zd1, zd2, zd3, zd4, zd5, zd6, zd7, zd8, zd9, zea, zeb, zec, zed, zee, zef, zeg, zeh, zei, zej, zek, zel, zem, zen, zeo, zep, zeq, zer, zes, zet, zeu, zev, zew, zex, zey, A5, A6, A7, A8, A9, AA, AB, AC, AD, AE, AF, AG, AH, AI, AJ, AK, AL, AM, AN, AO, AP, AQ, AR, AS, AT, AU, AV, AW, AX, AY, AZ, zaa, zab, zac, zad, zae, zaf, zag, zah, zai, zaj, zak, zal, zam, zan, zao, zap, zaq, zar, zas, zat, zau, zav, zaw, zax, zay, zaz, za0, za1, za2, za3, trivial⟩
theorem tblGood : TOk Tryz.prog cfg := zfi (tr := tl) (by delta cfg; funext t; delta U7; with_reducible rfl) zg9
theorem zez {st : List Entry} {xs : List V} {r : V × List Entry} (h : Nz st xs = some r) : wW Tryz.prog 192 st xs r :=
 Pd Tryz.func192 (by kernel_rfl) (by kernel_rfl) (by kernel_rfl) (by kernel_rfl) h
theorem xGood (f : FuncId) (st : List Entry) (xs : List V) (r : V × List Entry) (h : cfg.X f st xs = some r) : wW Tryz.prog f st xs r := by
 have h : (bif Nat.beq f 192 then Nz st xs else none) = some r := h
 cases h0 : Nat.beq f 192 with
 | true =>
  rw [h0] at h
  obtain rfl := Nat.eq_of_beq_eq_true h0
  exact zez h
 | false =>
 rw [h0] at h
 simp only [cond_false] at h
 cases h
end Go.Am.Try
