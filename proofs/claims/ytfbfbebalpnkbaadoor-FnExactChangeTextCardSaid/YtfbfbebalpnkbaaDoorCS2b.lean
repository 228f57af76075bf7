/- The functions of the program in plain Lean, and that the machine answers as they do; conditions at each theorem. -/
import Derived.Test.YtfbfbebalpnkbaaDoorCS2
import Derived.Test.YtfbfbebalpnkbaaDoorCAitW
import Derived.KernelRfl
set_option linter.unusedVariables false
set_option linter.unusedSimpArgs false
namespace Go.Am.Try
open Go.Am Go.Proofs Go.RowKit
theorem Eg : ∃ fn, Tryd.prog.funcs[3]? = some fn ∧ zp cfg 3 fn = true := ⟨Tryd.f3, Tryd.func3, by kernel_rfl⟩
theorem Eh : ∃ fn, Tryd.prog.funcs[5]? = some fn ∧ zp cfg 5 fn = true := ⟨Tryd.f5, Tryd.func5, by kernel_rfl⟩
theorem Ei : ∃ fn, Tryd.prog.funcs[6]? = some fn ∧ zp cfg 6 fn = true := ⟨Tryd.f6, Tryd.func6, by kernel_rfl⟩
theorem Ej : ∃ fn, Tryd.prog.funcs[7]? = some fn ∧ zp cfg 7 fn = true := ⟨Tryd.f7, Tryd.func7, by kernel_rfl⟩
theorem Ek : ∃ fn, Tryd.prog.funcs[8]? = some fn ∧ zp cfg 8 fn = true := ⟨Tryd.f8, Tryd.func8, by kernel_rfl⟩
theorem El : ∃ fn, Tryd.prog.funcs[9]? = some fn ∧ zp cfg 9 fn = true := ⟨Tryd.f9, Tryd.func9, by kernel_rfl⟩
theorem Gz : ∃ fn, Tryd.prog.funcs[10]? = some fn ∧ zp cfg 10 fn = true := ⟨Tryd.f10, Tryd.func10, by kernel_rfl⟩
theorem G0 : ∃ fn, Tryd.prog.funcs[11]? = some fn ∧ zp cfg 11 fn = true := ⟨Tryd.f11, Tryd.func11, by kernel_rfl⟩
theorem G1 : ∃ fn, Tryd.prog.funcs[12]? = some fn ∧ zp cfg 12 fn = true := ⟨Tryd.f12, Tryd.func12, by kernel_rfl⟩
theorem G2 : ∃ fn, Tryd.prog.funcs[13]? = some fn ∧ zp cfg 13 fn = true := ⟨Tryd.f13, Tryd.func13, by kernel_rfl⟩
theorem G3 : ∃ fn, Tryd.prog.funcs[20]? = some fn ∧ zp cfg 20 fn = true := ⟨Tryd.f20, Tryd.func20, by kernel_rfl⟩
theorem G4 : ∃ fn, Tryd.prog.funcs[21]? = some fn ∧ zp cfg 21 fn = true := ⟨Tryd.f21, Tryd.func21, by kernel_rfl⟩
theorem G5 : ∃ fn, Tryd.prog.funcs[22]? = some fn ∧ zp cfg 22 fn = true := ⟨Tryd.f22, Tryd.func22, by kernel_rfl⟩
theorem G6 : ∃ fn, Tryd.prog.funcs[23]? = some fn ∧ zp cfg 23 fn = true := ⟨Tryd.f23, Tryd.func23, by kernel_rfl⟩
theorem G7 : ∃ fn, Tryd.prog.funcs[24]? = some fn ∧ zp cfg 24 fn = true := ⟨Tryd.f24, Tryd.func24, by kernel_rfl⟩
theorem G8 : ∃ fn, Tryd.prog.funcs[25]? = some fn ∧ zp cfg 25 fn = true := ⟨Tryd.f25, Tryd.func25, by kernel_rfl⟩
theorem G9 : ∃ fn, Tryd.prog.funcs[26]? = some fn ∧ zp cfg 26 fn = true := ⟨Tryd.f26, Tryd.func26, by kernel_rfl⟩
theorem GA : ∃ fn, Tryd.prog.funcs[27]? = some fn ∧ zp cfg 27 fn = true := ⟨Tryd.f27, Tryd.func27, by kernel_rfl⟩
theorem GB : ∃ fn, Tryd.prog.funcs[28]? = some fn ∧ zp cfg 28 fn = true := ⟨Tryd.f28, Tryd.func28, by kernel_rfl⟩
theorem GC : ∃ fn, Tryd.prog.funcs[29]? = some fn ∧ zp cfg 29 fn = true := ⟨Tryd.f29, Tryd.func29, by kernel_rfl⟩
theorem GD : ∃ fn, Tryd.prog.funcs[30]? = some fn ∧ zp cfg 30 fn = true := ⟨Tryd.f30, Tryd.func30, by kernel_rfl⟩
theorem GE : ∃ fn, Tryd.prog.funcs[31]? = some fn ∧ zp cfg 31 fn = true := ⟨Tryd.f31, Tryd.func31, by kernel_rfl⟩
theorem GF : ∃ fn, Tryd.prog.funcs[32]? = some fn ∧ zp cfg 32 fn = true := ⟨Tryd.f32, Tryd.func32, by kernel_rfl⟩
theorem GG : ∃ fn, Tryd.prog.funcs[33]? = some fn ∧ zp cfg 33 fn = true := ⟨Tryd.f33, Tryd.func33, by kernel_rfl⟩
theorem GH : ∃ fn, Tryd.prog.funcs[41]? = some fn ∧ zp cfg 41 fn = true := ⟨Tryd.f41, Tryd.func41, by kernel_rfl⟩
theorem GI : ∃ fn, Tryd.prog.funcs[43]? = some fn ∧ zp cfg 43 fn = true := ⟨Tryd.f43, Tryd.func43, by kernel_rfl⟩
theorem GJ : ∃ fn, Tryd.prog.funcs[44]? = some fn ∧ zp cfg 44 fn = true := ⟨Tryd.f44, Tryd.func44, by kernel_rfl⟩
theorem GK : ∃ fn, Tryd.prog.funcs[45]? = some fn ∧ zp cfg 45 fn = true := ⟨Tryd.f45, Tryd.func45, by kernel_rfl⟩
theorem GL : ∃ fn, Tryd.prog.funcs[46]? = some fn ∧ zp cfg 46 fn = true := ⟨Tryd.f46, Tryd.func46, by kernel_rfl⟩
theorem GM : ∃ fn, Tryd.prog.funcs[47]? = some fn ∧ zp cfg 47 fn = true := ⟨Tryd.f47, Tryd.func47, by kernel_rfl⟩
theorem GN : ∃ fn, Tryd.prog.funcs[48]? = some fn ∧ zp cfg 48 fn = true := ⟨Tryd.f48, Tryd.func48, by kernel_rfl⟩
theorem GO : ∃ fn, Tryd.prog.funcs[49]? = some fn ∧ zp cfg 49 fn = true := ⟨Tryd.f49, Tryd.func49, by kernel_rfl⟩
theorem GP : ∃ fn, Tryd.prog.funcs[50]? = some fn ∧ zp cfg 50 fn = true := ⟨Tryd.f50, Tryd.func50, by kernel_rfl⟩
theorem GQ : ∃ fn, Tryd.prog.funcs[51]? = some fn ∧ zp cfg 51 fn = true := ⟨Tryd.f51, Tryd.func51, by kernel_rfl⟩
theorem GR : ∃ fn, Tryd.prog.funcs[52]? = some fn ∧ zp cfg 52 fn = true := ⟨Tryd.f52, Tryd.func52, by kernel_rfl⟩
theorem GS : ∃ fn, Tryd.prog.funcs[53]? = some fn ∧ zp cfg 53 fn = true := ⟨Tryd.f53, Tryd.func53, by kernel_rfl⟩
theorem GT : ∃ fn, Tryd.prog.funcs[54]? = some fn ∧ zp cfg 54 fn = true := ⟨Tryd.f54, Tryd.func54, by kernel_rfl⟩
theorem GU : ∃ fn, Tryd.prog.funcs[55]? = some fn ∧ zp cfg 55 fn = true := ⟨Tryd.f55, Tryd.func55, by kernel_rfl⟩
theorem GV : ∃ fn, Tryd.prog.funcs[56]? = some fn ∧ zp cfg 56 fn = true := ⟨Tryd.f56, Tryd.func56, by kernel_rfl⟩
theorem GW : ∃ fn, Tryd.prog.funcs[57]? = some fn ∧ zp cfg 57 fn = true := ⟨Tryd.f57, Tryd.func57, by kernel_rfl⟩
theorem GX : ∃ fn, Tryd.prog.funcs[58]? = some fn ∧ zp cfg 58 fn = true := ⟨Tryd.f58, Tryd.func58, by kernel_rfl⟩
theorem GY : ∃ fn, Tryd.prog.funcs[59]? = some fn ∧ zp cfg 59 fn = true := ⟨Tryd.f59, Tryd.func59, by kernel_rfl⟩
theorem GZ : ∃ fn, Tryd.prog.funcs[60]? = some fn ∧ zp cfg 60 fn = true := ⟨Tryd.f60, Tryd.func60, by kernel_rfl⟩
theorem Ha : ∃ fn, Tryd.prog.funcs[61]? = some fn ∧ zp cfg 61 fn = true := ⟨Tryd.f61, Tryd.func61, by kernel_rfl⟩
theorem Hb : ∃ fn, Tryd.prog.funcs[63]? = some fn ∧ zp cfg 63 fn = true := ⟨Tryd.f63, Tryd.func63, by kernel_rfl⟩
theorem Hc : ∃ fn, Tryd.prog.funcs[64]? = some fn ∧ zp cfg 64 fn = true := ⟨Tryd.f64, Tryd.func64, by kernel_rfl⟩
theorem Hd : ∃ fn, Tryd.prog.funcs[65]? = some fn ∧ zp cfg 65 fn = true := ⟨Tryd.f65, Tryd.func65, by kernel_rfl⟩
theorem He : ∃ fn, Tryd.prog.funcs[66]? = some fn ∧ zp cfg 66 fn = true := ⟨Tryd.f66, Tryd.func66, by kernel_rfl⟩
theorem Hf : ∃ fn, Tryd.prog.funcs[67]? = some fn ∧ zp cfg 67 fn = true := ⟨Tryd.f67, Tryd.func67, by kernel_rfl⟩
theorem Hg : ∃ fn, Tryd.prog.funcs[83]? = some fn ∧ zp cfg 83 fn = true := ⟨Tryd.f83, Tryd.func83, by kernel_rfl⟩
theorem Hh : ∃ fn, Tryd.prog.funcs[84]? = some fn ∧ zp cfg 84 fn = true := ⟨Tryd.f84, Tryd.func84, by kernel_rfl⟩
theorem Hi : ∃ fn, Tryd.prog.funcs[85]? = some fn ∧ zp cfg 85 fn = true := ⟨Tryd.f85, Tryd.func85, by kernel_rfl⟩
theorem Hj : ∃ fn, Tryd.prog.funcs[86]? = some fn ∧ zp cfg 86 fn = true := ⟨Tryd.f86, Tryd.func86, by kernel_rfl⟩
theorem Hk : ∃ fn, Tryd.prog.funcs[87]? = some fn ∧ zp cfg 87 fn = true := ⟨Tryd.f87, Tryd.func87, by kernel_rfl⟩
theorem Hl : ∃ fn, Tryd.prog.funcs[88]? = some fn ∧ zp cfg 88 fn = true := ⟨Tryd.f88, Tryd.func88, by kernel_rfl⟩
theorem Hm : ∃ fn, Tryd.prog.funcs[89]? = some fn ∧ zp cfg 89 fn = true := ⟨Tryd.f89, Tryd.func89, by kernel_rfl⟩
theorem Hn : ∃ fn, Tryd.prog.funcs[90]? = some fn ∧ zp cfg 90 fn = true := ⟨Tryd.f90, Tryd.func90, by kernel_rfl⟩
theorem Ho : ∃ fn, Tryd.prog.funcs[91]? = some fn ∧ zp cfg 91 fn = true := ⟨Tryd.f91, Tryd.func91, by kernel_rfl⟩
theorem Hp : ∃ fn, Tryd.prog.funcs[92]? = some fn ∧ zp cfg 92 fn = true := ⟨Tryd.f92, Tryd.func92, by kernel_rfl⟩
theorem Hq : ∃ fn, Tryd.prog.funcs[93]? = some fn ∧ zp cfg 93 fn = true := ⟨Tryd.f93, Tryd.func93, by kernel_rfl⟩
theorem Hr : ∃ fn, Tryd.prog.funcs[94]? = some fn ∧ zp cfg 94 fn = true := ⟨Tryd.f94, Tryd.func94, by kernel_rfl⟩
theorem Hs : ∃ fn, Tryd.prog.funcs[95]? = some fn ∧ zp cfg 95 fn = true := ⟨Tryd.f95, Tryd.func95, by kernel_rfl⟩
theorem Ht : ∃ fn, Tryd.prog.funcs[97]? = some fn ∧ zp cfg 97 fn = true := ⟨Tryd.f97, Tryd.func97, by kernel_rfl⟩
theorem Nf : ∃ fn, Tryd.prog.funcs[110]? = some fn ∧ zp cfg 110 fn = true := ⟨Tryd.f110, Tryd.func110, by kernel_rfl⟩
theorem Ng : ∃ fn, Tryd.prog.funcs[114]? = some fn ∧ zp cfg 114 fn = true := ⟨Tryd.f114, Tryd.func114, by kernel_rfl⟩
theorem Nh : ∃ fn, Tryd.prog.funcs[115]? = some fn ∧ zp cfg 115 fn = true := ⟨Tryd.f115, Tryd.func115, by kernel_rfl⟩
theorem Ni : ∃ fn, Tryd.prog.funcs[116]? = some fn ∧ zp cfg 116 fn = true := ⟨Tryd.f116, Tryd.func116, by kernel_rfl⟩
theorem Nj : ∃ fn, Tryd.prog.funcs[117]? = some fn ∧ zp cfg 117 fn = true := ⟨Tryd.f117, Tryd.func117, by kernel_rfl⟩
theorem Nk : ∃ fn, Tryd.prog.funcs[118]? = some fn ∧ zp cfg 118 fn = true := ⟨Tryd.f118, Tryd.func118, by kernel_rfl⟩
theorem Nl : ∃ fn, Tryd.prog.funcs[119]? = some fn ∧ zp cfg 119 fn = true := ⟨Tryd.f119, Tryd.func119, by kernel_rfl⟩
theorem Nm : ∃ fn, Tryd.prog.funcs[120]? = some fn ∧ zp cfg 120 fn = true := ⟨Tryd.f120, Tryd.func120, by kernel_rfl⟩
theorem Nn : ∃ fn, Tryd.prog.funcs[121]? = some fn ∧ zp cfg 121 fn = true := ⟨Tryd.f121, Tryd.func121, by kernel_rfl⟩
theorem Np : ∃ fn, Tryd.prog.funcs[122]? = some fn ∧ zp cfg 122 fn = true := ⟨Tryd.f122, Tryd.func122, by kernel_rfl⟩
theorem Nq : ∃ fn, Tryd.prog.funcs[132]? = some fn ∧ zp cfg 132 fn = true := ⟨Tryd.f132, Tryd.func132, by kernel_rfl⟩
theorem Nr : ∃ fn, Tryd.prog.funcs[133]? = some fn ∧ zp cfg 133 fn = true := ⟨Tryd.f133, Tryd.func133, by kernel_rfl⟩
theorem fnsGood : Xq Tryd.prog cfg := Lf (used := Ot) (fun f => by rw [R8]; delta Ou; with_reducible rfl) ⟨Eg, Eh, Ei, Ej, Ek, El, Gz, G0, G1, G2, G3, G4, G5, G6, G7, G8, G9, GA, GB, GC, GD, GE, GF, GG, GH, GI, GJ, GK, GL, GM, GN, GO, GP, GQ, GR, GS, GT, GU, GV, GW, GX, GY, GZ, Ha, Hb, Hc, Hd, He, Hf, Hg, Hh, Hi, Hj, Hk, Hl, Hm, Hn, Ho, Hp, Hq, Hr, Hs, Ht, Nf, Ng, Nh, Ni, Nj, Nk, Nl, Nm, Nn, Np, Nq, Nr, trivial⟩
theorem tblGood : TOk Tryd.prog cfg := HH (tr := tl) (by delta cfg; funext t; delta YE; with_reducible rfl) Ez
theorem Hu {st : List Entry} {xs : List V} {r : V × List Entry} (h : Ug st xs = some r) : yZ Tryd.prog 130 st xs r :=
 HR Tryd.func130 (by kernel_rfl) (by kernel_rfl) (by kernel_rfl) (by kernel_rfl) h
def LP : Go.Shelf.Ren :=
{
 f := fun x =>
  match x with
  | 176 => 62
  | 249 => 96
  | 288 => 123
  | 283 => 134
  | 284 => 135
  | 285 => 136
  | 286 => 137
  | 129 => 141
  | 317 => 140
  | 318 => 142
  | 319 => 143
  | 320 => 144
  | 337 => 145
  | 338 => 146
  | n => n,
 t := fun x =>
  match x with
  | 37 => 23
  | 2 => 2
  | 3 => 3
  | 53 => 133
  | 4 => 4
  | 9 => 9
  | 171 => 141
  | 0 => 0
  | 173 => 144
  | 212 => 148
  | 51 => 149
  | 5 => 5
  | 20 => 20
  | 213 => 150
  | 46 => 151
  | 232 => 154
  | 233 => 155
  | n => n,
 g := fun x =>
  match x with
  | 17 => 1
  | 18 => 2
  | 19 => 3
  | n => n }
theorem UD : LaysM.n176 Tryd.prog LP :=
 {mixed := by kernel_rfl,
  f129 := Tryd.func141.trans (by kernel_rfl),
  f176 := Tryd.func62.trans (by kernel_rfl),
  f249 := Tryd.func96.trans (by kernel_rfl),
  f283 := Tryd.func134.trans (by kernel_rfl),
  f284 := Tryd.func135.trans (by kernel_rfl),
  f285 := Tryd.func136.trans (by kernel_rfl),
  f286 := Tryd.func137.trans (by kernel_rfl),
  f288 := Tryd.func123.trans (by kernel_rfl),
  f317 := Tryd.func140.trans (by kernel_rfl),
  f318 := Tryd.func142.trans (by kernel_rfl),
  f319 := Tryd.func143.trans (by kernel_rfl),
  f320 := Tryd.func144.trans (by kernel_rfl),
  f337 := Tryd.func145.trans (by kernel_rfl),
  f338 := Tryd.func146.trans (by kernel_rfl),
  t0 := Tryd.underlying0,
  a0 := Tryd.isAgg0,
  z0 := Tryd.sizeOf0,
  v0 := Tryd.zeroValue0,
  t2 := Tryd.underlying2,
  a2 := Tryd.isAgg2,
  z2 := Tryd.sizeOf2,
  v2 := Tryd.zeroValue2,
  t3 := Tryd.underlying3,
  a3 := Tryd.isAgg3,
  z3 := Tryd.sizeOf3,
  v3 := Tryd.zeroValue3,
  t4 := Tryd.underlying4,
  a4 := Tryd.isAgg4,
  z4 := Tryd.sizeOf4,
  v4 := Tryd.zeroValue4,
  t5 := Tryd.underlying5,
  a5 := Tryd.isAgg5,
  z5 := Tryd.sizeOf5,
  v5 := Tryd.zeroValue5,
  t9 := Tryd.underlying9,
  a9 := Tryd.isAgg9,
  z9 := Tryd.sizeOf9,
  v9 := Tryd.zeroValue9,
  t20 := Tryd.underlying20,
  a20 := Tryd.isAgg20,
  z20 := Tryd.sizeOf20,
  v20 := Tryd.zeroValue20,
  t37 := Tryd.underlying23,
  a37 := Tryd.isAgg23,
  z37 := Tryd.sizeOf23,
  v37 := Tryd.zeroValue23,
  t46 := Tryd.underlying151,
  a46 := Tryd.isAgg151,
  z46 := Tryd.sizeOf151,
  v46 := Tryd.zeroValue151,
  t51 := Tryd.underlying149,
  a51 := Tryd.isAgg149,
  z51 := Tryd.sizeOf149,
  v51 := Tryd.zeroValue149,
  t53 := Tryd.underlying133,
  a53 := Tryd.isAgg133,
  z53 := Tryd.sizeOf133,
  v53 := Tryd.zeroValue133,
  t171 := Tryd.underlying141,
  a171 := Tryd.isAgg141,
  z171 := Tryd.sizeOf141,
  v171 := Tryd.zeroValue141,
  t173 := Tryd.underlying144,
  a173 := Tryd.isAgg144,
  z173 := Tryd.sizeOf144,
  v173 := Tryd.zeroValue144,
  t212 := Tryd.underlying148,
  a212 := Tryd.isAgg148,
  z212 := Tryd.sizeOf148,
  v212 := Tryd.zeroValue148,
  t213 := Tryd.underlying150,
  a213 := Tryd.isAgg150,
  z213 := Tryd.sizeOf150,
  t232 := Tryd.underlying154,
  a232 := Tryd.isAgg154,
  z232 := Tryd.sizeOf154,
  v232 := Tryd.zeroValue154,
  t233 := Tryd.underlying155,
  a233 := Tryd.isAgg155,
  z233 := Tryd.sizeOf155,
  v233 := Tryd.zeroValue155,
  g17 := by kernel_rfl,
  g18 := by kernel_rfl,
  g19 := by kernel_rfl,
  i0 := by kernel_rfl,
  i2 := by kernel_rfl,
  i3 := by kernel_rfl,
  i4 := by kernel_rfl,
  i5 := by kernel_rfl,
  i9 := by kernel_rfl,
  i20 := by kernel_rfl,
  i37 := by kernel_rfl,
  i46 := by kernel_rfl,
  i51 := by kernel_rfl,
  i53 := by kernel_rfl,
  i171 := by kernel_rfl,
  i173 := by kernel_rfl,
  i212 := by kernel_rfl,
  i232 := by kernel_rfl,
  i233 := by kernel_rfl,
  m17 := by kernel_rfl,
  m18 := by kernel_rfl,
  m19 := by kernel_rfl }
theorem Hv {st : List Entry} {xs : List V} {r : V × List Entry} (h : Tk st xs = some r) : yZ Tryd.prog 62 st xs r :=
 H0 UD (Go.Proofs.enters_of UD.f176 (by kernel_rfl) rfl) UD.m17 h
theorem xGood (f : FuncId) (st : List Entry) (xs : List V) (r : V × List Entry) (h : cfg.X f st xs = some r) : yZ Tryd.prog f st xs r := by
 have h : (bif Nat.beq f 62 then Tk st xs else bif Nat.beq f 130 then Ug st xs else none) = some r := h
 cases h0 : Nat.beq f 62 with
 | true =>
  rw [h0] at h
  obtain rfl := Nat.eq_of_beq_eq_true h0
  exact Hv h
 | false =>
 rw [h0] at h
 simp only [cond_false] at h
 cases h1 : Nat.beq f 130 with
 | true =>
  rw [h1] at h
  obtain rfl := Nat.eq_of_beq_eq_true h1
  exact Hu h
 | false =>
 rw [h1] at h
 simp only [cond_false] at h
 cases h
end Go.Am.Try
