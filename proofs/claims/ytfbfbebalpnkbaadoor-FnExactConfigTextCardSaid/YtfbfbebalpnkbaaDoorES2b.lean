/- The functions of the program in plain Lean, and that the machine answers as they do; conditions at each theorem. -/
import Derived.Test.YtfbfbebalpnkbaaDoorES2
import Derived.Test.YtfbfbebalpnkbaaDoorEAitW
import Derived.KernelRfl
set_option linter.unusedVariables false
set_option linter.unusedSimpArgs false
namespace Go.Am.Try
open Go.Am Go.Proofs Go.RowKit
theorem DT : ∃ fn, Tryd.prog.funcs[4]? = some fn ∧ zv cfg 4 fn = true := ⟨Tryd.f4, Tryd.func4, by kernel_rfl⟩
theorem DU : ∃ fn, Tryd.prog.funcs[9]? = some fn ∧ zv cfg 9 fn = true := ⟨Tryd.f9, Tryd.func9, by kernel_rfl⟩
theorem Er : ∃ fn, Tryd.prog.funcs[12]? = some fn ∧ zv cfg 12 fn = true := ⟨Tryd.f12, Tryd.func12, by kernel_rfl⟩
theorem Es : ∃ fn, Tryd.prog.funcs[13]? = some fn ∧ zv cfg 13 fn = true := ⟨Tryd.f13, Tryd.func13, by kernel_rfl⟩
theorem Et : ∃ fn, Tryd.prog.funcs[14]? = some fn ∧ zv cfg 14 fn = true := ⟨Tryd.f14, Tryd.func14, by kernel_rfl⟩
theorem Eu : ∃ fn, Tryd.prog.funcs[15]? = some fn ∧ zv cfg 15 fn = true := ⟨Tryd.f15, Tryd.func15, by kernel_rfl⟩
theorem Ev : ∃ fn, Tryd.prog.funcs[16]? = some fn ∧ zv cfg 16 fn = true := ⟨Tryd.f16, Tryd.func16, by kernel_rfl⟩
theorem Ew : ∃ fn, Tryd.prog.funcs[17]? = some fn ∧ zv cfg 17 fn = true := ⟨Tryd.f17, Tryd.func17, by kernel_rfl⟩
theorem Ey : ∃ fn, Tryd.prog.funcs[18]? = some fn ∧ zv cfg 18 fn = true := ⟨Tryd.f18, Tryd.func18, by kernel_rfl⟩
theorem Ez : ∃ fn, Tryd.prog.funcs[19]? = some fn ∧ zv cfg 19 fn = true := ⟨Tryd.f19, Tryd.func19, by kernel_rfl⟩
theorem E0 : ∃ fn, Tryd.prog.funcs[29]? = some fn ∧ zv cfg 29 fn = true := ⟨Tryd.f29, Tryd.func29, by kernel_rfl⟩
theorem E3 : ∃ fn, Tryd.prog.funcs[34]? = some fn ∧ zv cfg 34 fn = true := ⟨Tryd.f34, Tryd.func34, by kernel_rfl⟩
theorem E4 : ∃ fn, Tryd.prog.funcs[35]? = some fn ∧ zv cfg 35 fn = true := ⟨Tryd.f35, Tryd.func35, by kernel_rfl⟩
theorem E5 : ∃ fn, Tryd.prog.funcs[36]? = some fn ∧ zv cfg 36 fn = true := ⟨Tryd.f36, Tryd.func36, by kernel_rfl⟩
theorem E6 : ∃ fn, Tryd.prog.funcs[37]? = some fn ∧ zv cfg 37 fn = true := ⟨Tryd.f37, Tryd.func37, by kernel_rfl⟩
theorem E7 : ∃ fn, Tryd.prog.funcs[38]? = some fn ∧ zv cfg 38 fn = true := ⟨Tryd.f38, Tryd.func38, by kernel_rfl⟩
theorem E8 : ∃ fn, Tryd.prog.funcs[39]? = some fn ∧ zv cfg 39 fn = true := ⟨Tryd.f39, Tryd.func39, by kernel_rfl⟩
theorem E9 : ∃ fn, Tryd.prog.funcs[40]? = some fn ∧ zv cfg 40 fn = true := ⟨Tryd.f40, Tryd.func40, by kernel_rfl⟩
theorem EA : ∃ fn, Tryd.prog.funcs[41]? = some fn ∧ zv cfg 41 fn = true := ⟨Tryd.f41, Tryd.func41, by kernel_rfl⟩
theorem EB : ∃ fn, Tryd.prog.funcs[42]? = some fn ∧ zv cfg 42 fn = true := ⟨Tryd.f42, Tryd.func42, by kernel_rfl⟩
theorem EC : ∃ fn, Tryd.prog.funcs[44]? = some fn ∧ zv cfg 44 fn = true := ⟨Tryd.f44, Tryd.func44, by kernel_rfl⟩
theorem ED : ∃ fn, Tryd.prog.funcs[45]? = some fn ∧ zv cfg 45 fn = true := ⟨Tryd.f45, Tryd.func45, by kernel_rfl⟩
theorem EE : ∃ fn, Tryd.prog.funcs[52]? = some fn ∧ zv cfg 52 fn = true := ⟨Tryd.f52, Tryd.func52, by kernel_rfl⟩
theorem EF : ∃ fn, Tryd.prog.funcs[53]? = some fn ∧ zv cfg 53 fn = true := ⟨Tryd.f53, Tryd.func53, by kernel_rfl⟩
theorem EG : ∃ fn, Tryd.prog.funcs[55]? = some fn ∧ zv cfg 55 fn = true := ⟨Tryd.f55, Tryd.func55, by kernel_rfl⟩
theorem EH : ∃ fn, Tryd.prog.funcs[56]? = some fn ∧ zv cfg 56 fn = true := ⟨Tryd.f56, Tryd.func56, by kernel_rfl⟩
theorem EI : ∃ fn, Tryd.prog.funcs[63]? = some fn ∧ zv cfg 63 fn = true := ⟨Tryd.f63, Tryd.func63, by kernel_rfl⟩
theorem EJ : ∃ fn, Tryd.prog.funcs[65]? = some fn ∧ zv cfg 65 fn = true := ⟨Tryd.f65, Tryd.func65, by kernel_rfl⟩
theorem EK : ∃ fn, Tryd.prog.funcs[68]? = some fn ∧ zv cfg 68 fn = true := ⟨Tryd.f68, Tryd.func68, by kernel_rfl⟩
theorem EL : ∃ fn, Tryd.prog.funcs[69]? = some fn ∧ zv cfg 69 fn = true := ⟨Tryd.f69, Tryd.func69, by kernel_rfl⟩
theorem EM : ∃ fn, Tryd.prog.funcs[70]? = some fn ∧ zv cfg 70 fn = true := ⟨Tryd.f70, Tryd.func70, by kernel_rfl⟩
theorem EN : ∃ fn, Tryd.prog.funcs[71]? = some fn ∧ zv cfg 71 fn = true := ⟨Tryd.f71, Tryd.func71, by kernel_rfl⟩
theorem EO : ∃ fn, Tryd.prog.funcs[72]? = some fn ∧ zv cfg 72 fn = true := ⟨Tryd.f72, Tryd.func72, by kernel_rfl⟩
theorem EP : ∃ fn, Tryd.prog.funcs[73]? = some fn ∧ zv cfg 73 fn = true := ⟨Tryd.f73, Tryd.func73, by kernel_rfl⟩
theorem EQ : ∃ fn, Tryd.prog.funcs[74]? = some fn ∧ zv cfg 74 fn = true := ⟨Tryd.f74, Tryd.func74, by kernel_rfl⟩
theorem ER : ∃ fn, Tryd.prog.funcs[75]? = some fn ∧ zv cfg 75 fn = true := ⟨Tryd.f75, Tryd.func75, by kernel_rfl⟩
theorem ES : ∃ fn, Tryd.prog.funcs[76]? = some fn ∧ zv cfg 76 fn = true := ⟨Tryd.f76, Tryd.func76, by kernel_rfl⟩
theorem ET : ∃ fn, Tryd.prog.funcs[77]? = some fn ∧ zv cfg 77 fn = true := ⟨Tryd.f77, Tryd.func77, by kernel_rfl⟩
theorem EU : ∃ fn, Tryd.prog.funcs[78]? = some fn ∧ zv cfg 78 fn = true := ⟨Tryd.f78, Tryd.func78, by kernel_rfl⟩
theorem EV : ∃ fn, Tryd.prog.funcs[79]? = some fn ∧ zv cfg 79 fn = true := ⟨Tryd.f79, Tryd.func79, by kernel_rfl⟩
theorem EW : ∃ fn, Tryd.prog.funcs[80]? = some fn ∧ zv cfg 80 fn = true := ⟨Tryd.f80, Tryd.func80, by kernel_rfl⟩
theorem EX : ∃ fn, Tryd.prog.funcs[81]? = some fn ∧ zv cfg 81 fn = true := ⟨Tryd.f81, Tryd.func81, by kernel_rfl⟩
theorem EY : ∃ fn, Tryd.prog.funcs[82]? = some fn ∧ zv cfg 82 fn = true := ⟨Tryd.f82, Tryd.func82, by kernel_rfl⟩
theorem EZ : ∃ fn, Tryd.prog.funcs[83]? = some fn ∧ zv cfg 83 fn = true := ⟨Tryd.f83, Tryd.func83, by kernel_rfl⟩
theorem Da : ∃ fn, Tryd.prog.funcs[90]? = some fn ∧ zv cfg 90 fn = true := ⟨Tryd.f90, Tryd.func90, by kernel_rfl⟩
theorem Db : ∃ fn, Tryd.prog.funcs[91]? = some fn ∧ zv cfg 91 fn = true := ⟨Tryd.f91, Tryd.func91, by kernel_rfl⟩
theorem Dc : ∃ fn, Tryd.prog.funcs[97]? = some fn ∧ zv cfg 97 fn = true := ⟨Tryd.f97, Tryd.func97, by kernel_rfl⟩
theorem Dd : ∃ fn, Tryd.prog.funcs[98]? = some fn ∧ zv cfg 98 fn = true := ⟨Tryd.f98, Tryd.func98, by kernel_rfl⟩
theorem De : ∃ fn, Tryd.prog.funcs[99]? = some fn ∧ zv cfg 99 fn = true := ⟨Tryd.f99, Tryd.func99, by kernel_rfl⟩
theorem GG : ∃ fn, Tryd.prog.funcs[100]? = some fn ∧ zv cfg 100 fn = true := ⟨Tryd.f100, Tryd.func100, by kernel_rfl⟩
theorem GH : ∃ fn, Tryd.prog.funcs[101]? = some fn ∧ zv cfg 101 fn = true := ⟨Tryd.f101, Tryd.func101, by kernel_rfl⟩
theorem GI : ∃ fn, Tryd.prog.funcs[102]? = some fn ∧ zv cfg 102 fn = true := ⟨Tryd.f102, Tryd.func102, by kernel_rfl⟩
theorem GJ : ∃ fn, Tryd.prog.funcs[103]? = some fn ∧ zv cfg 103 fn = true := ⟨Tryd.f103, Tryd.func103, by kernel_rfl⟩
theorem GK : ∃ fn, Tryd.prog.funcs[104]? = some fn ∧ zv cfg 104 fn = true := ⟨Tryd.f104, Tryd.func104, by kernel_rfl⟩
theorem GL : ∃ fn, Tryd.prog.funcs[105]? = some fn ∧ zv cfg 105 fn = true := ⟨Tryd.f105, Tryd.func105, by kernel_rfl⟩
theorem GM : ∃ fn, Tryd.prog.funcs[106]? = some fn ∧ zv cfg 106 fn = true := ⟨Tryd.f106, Tryd.func106, by kernel_rfl⟩
theorem GN : ∃ fn, Tryd.prog.funcs[107]? = some fn ∧ zv cfg 107 fn = true := ⟨Tryd.f107, Tryd.func107, by kernel_rfl⟩
theorem GO : ∃ fn, Tryd.prog.funcs[108]? = some fn ∧ zv cfg 108 fn = true := ⟨Tryd.f108, Tryd.func108, by kernel_rfl⟩
theorem GP : ∃ fn, Tryd.prog.funcs[109]? = some fn ∧ zv cfg 109 fn = true := ⟨Tryd.f109, Tryd.func109, by kernel_rfl⟩
theorem GQ : ∃ fn, Tryd.prog.funcs[110]? = some fn ∧ zv cfg 110 fn = true := ⟨Tryd.f110, Tryd.func110, by kernel_rfl⟩
theorem GR : ∃ fn, Tryd.prog.funcs[111]? = some fn ∧ zv cfg 111 fn = true := ⟨Tryd.f111, Tryd.func111, by kernel_rfl⟩
theorem GS : ∃ fn, Tryd.prog.funcs[112]? = some fn ∧ zv cfg 112 fn = true := ⟨Tryd.f112, Tryd.func112, by kernel_rfl⟩
theorem GT : ∃ fn, Tryd.prog.funcs[113]? = some fn ∧ zv cfg 113 fn = true := ⟨Tryd.f113, Tryd.func113, by kernel_rfl⟩
theorem GU : ∃ fn, Tryd.prog.funcs[115]? = some fn ∧ zv cfg 115 fn = true := ⟨Tryd.f115, Tryd.func115, by kernel_rfl⟩
theorem GV : ∃ fn, Tryd.prog.funcs[118]? = some fn ∧ zv cfg 118 fn = true := ⟨Tryd.f118, Tryd.func118, by kernel_rfl⟩
theorem GW : ∃ fn, Tryd.prog.funcs[124]? = some fn ∧ zv cfg 124 fn = true := ⟨Tryd.f124, Tryd.func124, by kernel_rfl⟩
theorem GX : ∃ fn, Tryd.prog.funcs[125]? = some fn ∧ zv cfg 125 fn = true := ⟨Tryd.f125, Tryd.func125, by kernel_rfl⟩
theorem GY : ∃ fn, Tryd.prog.funcs[126]? = some fn ∧ zv cfg 126 fn = true := ⟨Tryd.f126, Tryd.func126, by kernel_rfl⟩
theorem GZ : ∃ fn, Tryd.prog.funcs[127]? = some fn ∧ zv cfg 127 fn = true := ⟨Tryd.f127, Tryd.func127, by kernel_rfl⟩
theorem Ha : ∃ fn, Tryd.prog.funcs[128]? = some fn ∧ zv cfg 128 fn = true := ⟨Tryd.f128, Tryd.func128, by kernel_rfl⟩
theorem Hb : ∃ fn, Tryd.prog.funcs[129]? = some fn ∧ zv cfg 129 fn = true := ⟨Tryd.f129, Tryd.func129, by kernel_rfl⟩
theorem Hc : ∃ fn, Tryd.prog.funcs[131]? = some fn ∧ zv cfg 131 fn = true := ⟨Tryd.f131, Tryd.func131, by kernel_rfl⟩
theorem Hd : ∃ fn, Tryd.prog.funcs[138]? = some fn ∧ zv cfg 138 fn = true := ⟨Tryd.f138, Tryd.func138, by kernel_rfl⟩
theorem He : ∃ fn, Tryd.prog.funcs[139]? = some fn ∧ zv cfg 139 fn = true := ⟨Tryd.f139, Tryd.func139, by kernel_rfl⟩
theorem fnsGood : Wz Tryd.prog cfg := MA (used := LP) (fun f => by rw [TS]; delta LQ; with_reducible rfl) ⟨DT, DU, Er, Es, Et, Eu, Ev, Ew, Ey, Ez, E0, E3, E4, E5, E6, E7, E8, E9, EA, EB, EC, ED, EE, EF, EG, EH, EI, EJ, EK, EL, EM, EN, EO, EP, EQ, ER, ES, ET, EU, EV, EW, EX, EY, EZ, Da, Db, Dc, Dd, De, GG, GH, GI, GJ, GK, GL, GM, GN, GO, GP, GQ, GR, GS, GT, GU, GV, GW, GX, GY, GZ, Ha, Hb, Hc, Hd, He, trivial⟩
theorem tblGood : TOk Tryd.prog cfg := D2 (tr := tl) (by delta cfg; funext t; delta XG; with_reducible rfl) Br
theorem Df {st : List Entry} {xs : List V} {r : V × List Entry} (h : Pq st xs = some r) : xx Tryd.prog 130 st xs r :=
 DC Tryd.func130 (by kernel_rfl) (by kernel_rfl) (by kernel_rfl) (by kernel_rfl) h
def Nt : Go.Shelf.Ren :=
{
 f := fun x =>
  match x with
  | 176 => 62
  | 249 => 96
  | 288 => 123
  | 283 => 134
  | 284 => 135
  | 285 => 136
  | 286 => 137
  | 129 => 141
  | 317 => 140
  | 318 => 142
  | 319 => 143
  | 320 => 144
  | 337 => 145
  | 338 => 146
  | n => n,
 t := fun x =>
  match x with
  | 37 => 23
  | 2 => 2
  | 3 => 3
  | 53 => 133
  | 4 => 4
  | 9 => 9
  | 171 => 141
  | 0 => 0
  | 173 => 144
  | 212 => 148
  | 51 => 149
  | 5 => 5
  | 20 => 20
  | 213 => 150
  | 46 => 151
  | 232 => 154
  | 233 => 155
  | n => n,
 g := fun x =>
  match x with
  | 17 => 1
  | 18 => 2
  | 19 => 3
  | n => n }
theorem PQ : LaysM.n176 Tryd.prog Nt :=
 {mixed := by kernel_rfl,
  f129 := Tryd.func141.trans (by kernel_rfl),
  f176 := Tryd.func62.trans (by kernel_rfl),
  f249 := Tryd.func96.trans (by kernel_rfl),
  f283 := Tryd.func134.trans (by kernel_rfl),
  f284 := Tryd.func135.trans (by kernel_rfl),
  f285 := Tryd.func136.trans (by kernel_rfl),
  f286 := Tryd.func137.trans (by kernel_rfl),
  f288 := Tryd.func123.trans (by kernel_rfl),
  f317 := Tryd.func140.trans (by kernel_rfl),
  f318 := Tryd.func142.trans (by kernel_rfl),
  f319 := Tryd.func143.trans (by kernel_rfl),
  f320 := Tryd.func144.trans (by kernel_rfl),
  f337 := Tryd.func145.trans (by kernel_rfl),
  f338 := Tryd.func146.trans (by kernel_rfl),
  t0 := Tryd.underlying0,
  a0 := Tryd.isAgg0,
  z0 := Tryd.sizeOf0,
  v0 := Tryd.zeroValue0,
  t2 := Tryd.underlying2,
  a2 := Tryd.isAgg2,
  z2 := Tryd.sizeOf2,
  v2 := Tryd.zeroValue2,
  t3 := Tryd.underlying3,
  a3 := Tryd.isAgg3,
  z3 := Tryd.sizeOf3,
  v3 := Tryd.zeroValue3,
  t4 := Tryd.underlying4,
  a4 := Tryd.isAgg4,
  z4 := Tryd.sizeOf4,
  v4 := Tryd.zeroValue4,
  t5 := Tryd.underlying5,
  a5 := Tryd.isAgg5,
  z5 := Tryd.sizeOf5,
  v5 := Tryd.zeroValue5,
  t9 := Tryd.underlying9,
  a9 := Tryd.isAgg9,
  z9 := Tryd.sizeOf9,
  v9 := Tryd.zeroValue9,
  t20 := Tryd.underlying20,
  a20 := Tryd.isAgg20,
  z20 := Tryd.sizeOf20,
  v20 := Tryd.zeroValue20,
  t37 := Tryd.underlying23,
  a37 := Tryd.isAgg23,
  z37 := Tryd.sizeOf23,
  v37 := Tryd.zeroValue23,
  t46 := Tryd.underlying151,
  a46 := Tryd.isAgg151,
  z46 := Tryd.sizeOf151,
  v46 := Tryd.zeroValue151,
  t51 := Tryd.underlying149,
  a51 := Tryd.isAgg149,
  z51 := Tryd.sizeOf149,
  v51 := Tryd.zeroValue149,
  t53 := Tryd.underlying133,
  a53 := Tryd.isAgg133,
  z53 := Tryd.sizeOf133,
  v53 := Tryd.zeroValue133,
  t171 := Tryd.underlying141,
  a171 := Tryd.isAgg141,
  z171 := Tryd.sizeOf141,
  v171 := Tryd.zeroValue141,
  t173 := Tryd.underlying144,
  a173 := Tryd.isAgg144,
  z173 := Tryd.sizeOf144,
  v173 := Tryd.zeroValue144,
  t212 := Tryd.underlying148,
  a212 := Tryd.isAgg148,
  z212 := Tryd.sizeOf148,
  v212 := Tryd.zeroValue148,
  t213 := Tryd.underlying150,
  a213 := Tryd.isAgg150,
  z213 := Tryd.sizeOf150,
  t232 := Tryd.underlying154,
  a232 := Tryd.isAgg154,
  z232 := Tryd.sizeOf154,
  v232 := Tryd.zeroValue154,
  t233 := Tryd.underlying155,
  a233 := Tryd.isAgg155,
  z233 := Tryd.sizeOf155,
  v233 := Tryd.zeroValue155,
  g17 := by kernel_rfl,
  g18 := by kernel_rfl,
  g19 := by kernel_rfl,
  i0 := by kernel_rfl,
  i2 := by kernel_rfl,
  i3 := by kernel_rfl,
  i4 := by kernel_rfl,
  i5 := by kernel_rfl,
  i9 := by kernel_rfl,
  i20 := by kernel_rfl,
  i37 := by kernel_rfl,
  i46 := by kernel_rfl,
  i51 := by kernel_rfl,
  i53 := by kernel_rfl,
  i171 := by kernel_rfl,
  i173 := by kernel_rfl,
  i212 := by kernel_rfl,
  i232 := by kernel_rfl,
  i233 := by kernel_rfl,
  m17 := by kernel_rfl,
  m18 := by kernel_rfl,
  m19 := by kernel_rfl }
theorem Dg {st : List Entry} {xs : List V} {r : V × List Entry} (h : U1 st xs = some r) : xx Tryd.prog 62 st xs r :=
 Dl PQ (Go.Proofs.enters_of PQ.f176 (by kernel_rfl) rfl) PQ.m17 h
theorem xGood (f : FuncId) (st : List Entry) (xs : List V) (r : V × List Entry) (h : cfg.X f st xs = some r) : xx Tryd.prog f st xs r := by
 have h : (bif Nat.beq f 62 then U1 st xs else bif Nat.beq f 130 then Pq st xs else none) = some r := h
 cases h0 : Nat.beq f 62 with
 | true =>
  rw [h0] at h
  obtain rfl := Nat.eq_of_beq_eq_true h0
  exact Dg h
 | false =>
 rw [h0] at h
 simp only [cond_false] at h
 cases h1 : Nat.beq f 130 with
 | true =>
  rw [h1] at h
  obtain rfl := Nat.eq_of_beq_eq_true h1
  exact Df h
 | false =>
 rw [h1] at h
 simp only [cond_false] at h
 cases h
end Go.Am.Try
