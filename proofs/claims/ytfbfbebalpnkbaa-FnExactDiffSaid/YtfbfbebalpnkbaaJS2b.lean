/- The functions of the program in plain Lean, and that the machine answers as they do; conditions at each theorem. -/
import Derived.Test.YtfbfbebalpnkbaaJS2
import Derived.Test.YtfbfbebalpnkbaaJSortX
import Derived.Test.YtfbfbebalpnkbaaJCptY
set_option linter.unusedVariables false
set_option linter.unusedSimpArgs false
namespace Go.Am.Try
open Go.Am Go.Proofs Go.RowKit
theorem Ew : ∃ fn, Try.prog.funcs[4]? = some fn ∧ zw cfg 4 fn = true := ⟨Try.f4, Try.func4, by kernel_rfl⟩
theorem Ey : ∃ fn, Try.prog.funcs[9]? = some fn ∧ zw cfg 9 fn = true := ⟨Try.f9, Try.func9, by kernel_rfl⟩
theorem GR : ∃ fn, Try.prog.funcs[12]? = some fn ∧ zw cfg 12 fn = true := ⟨Try.f12, Try.func12, by kernel_rfl⟩
theorem GS : ∃ fn, Try.prog.funcs[13]? = some fn ∧ zw cfg 13 fn = true := ⟨Try.f13, Try.func13, by kernel_rfl⟩
theorem GT : ∃ fn, Try.prog.funcs[14]? = some fn ∧ zw cfg 14 fn = true := ⟨Try.f14, Try.func14, by kernel_rfl⟩
theorem GU : ∃ fn, Try.prog.funcs[15]? = some fn ∧ zw cfg 15 fn = true := ⟨Try.f15, Try.func15, by kernel_rfl⟩
theorem GV : ∃ fn, Try.prog.funcs[16]? = some fn ∧ zw cfg 16 fn = true := ⟨Try.f16, Try.func16, by kernel_rfl⟩
theorem GW : ∃ fn, Try.prog.funcs[17]? = some fn ∧ zw cfg 17 fn = true := ⟨Try.f17, Try.func17, by kernel_rfl⟩
theorem GX : ∃ fn, Try.prog.funcs[18]? = some fn ∧ zw cfg 18 fn = true := ⟨Try.f18, Try.func18, by kernel_rfl⟩
theorem GY : ∃ fn, Try.prog.funcs[19]? = some fn ∧ zw cfg 19 fn = true := ⟨Try.f19, Try.func19, by kernel_rfl⟩
theorem GZ : ∃ fn, Try.prog.funcs[20]? = some fn ∧ zw cfg 20 fn = true := ⟨Try.f20, Try.func20, by kernel_rfl⟩
theorem Ha : ∃ fn, Try.prog.funcs[21]? = some fn ∧ zw cfg 21 fn = true := ⟨Try.f21, Try.func21, by kernel_rfl⟩
theorem Hb : ∃ fn, Try.prog.funcs[22]? = some fn ∧ zw cfg 22 fn = true := ⟨Try.f22, Try.func22, by kernel_rfl⟩
theorem Hc : ∃ fn, Try.prog.funcs[23]? = some fn ∧ zw cfg 23 fn = true := ⟨Try.f23, Try.func23, by kernel_rfl⟩
theorem Hd : ∃ fn, Try.prog.funcs[25]? = some fn ∧ zw cfg 25 fn = true := ⟨Try.f25, Try.func25, by kernel_rfl⟩
theorem He : ∃ fn, Try.prog.funcs[30]? = some fn ∧ zw cfg 30 fn = true := ⟨Try.f30, Try.func30, by kernel_rfl⟩
theorem Hf : ∃ fn, Try.prog.funcs[32]? = some fn ∧ zw cfg 32 fn = true := ⟨Try.f32, Try.func32, by kernel_rfl⟩
theorem Hg : ∃ fn, Try.prog.funcs[36]? = some fn ∧ zw cfg 36 fn = true := ⟨Try.f36, Try.func36, by kernel_rfl⟩
theorem Hh : ∃ fn, Try.prog.funcs[39]? = some fn ∧ zw cfg 39 fn = true := ⟨Try.f39, Try.func39, by kernel_rfl⟩
theorem Hi : ∃ fn, Try.prog.funcs[42]? = some fn ∧ zw cfg 42 fn = true := ⟨Try.f42, Try.func42, by kernel_rfl⟩
theorem Hj : ∃ fn, Try.prog.funcs[43]? = some fn ∧ zw cfg 43 fn = true := ⟨Try.f43, Try.func43, by kernel_rfl⟩
theorem Hk : ∃ fn, Try.prog.funcs[44]? = some fn ∧ zw cfg 44 fn = true := ⟨Try.f44, Try.func44, by kernel_rfl⟩
theorem Hl : ∃ fn, Try.prog.funcs[45]? = some fn ∧ zw cfg 45 fn = true := ⟨Try.f45, Try.func45, by kernel_rfl⟩
theorem Hm : ∃ fn, Try.prog.funcs[46]? = some fn ∧ zw cfg 46 fn = true := ⟨Try.f46, Try.func46, by kernel_rfl⟩
theorem Hn : ∃ fn, Try.prog.funcs[47]? = some fn ∧ zw cfg 47 fn = true := ⟨Try.f47, Try.func47, by kernel_rfl⟩
theorem Ho : ∃ fn, Try.prog.funcs[48]? = some fn ∧ zw cfg 48 fn = true := ⟨Try.f48, Try.func48, by kernel_rfl⟩
theorem Hp : ∃ fn, Try.prog.funcs[49]? = some fn ∧ zw cfg 49 fn = true := ⟨Try.f49, Try.func49, by kernel_rfl⟩
theorem Hq : ∃ fn, Try.prog.funcs[50]? = some fn ∧ zw cfg 50 fn = true := ⟨Try.f50, Try.func50, by kernel_rfl⟩
theorem Hr : ∃ fn, Try.prog.funcs[51]? = some fn ∧ zw cfg 51 fn = true := ⟨Try.f51, Try.func51, by kernel_rfl⟩
theorem Hs : ∃ fn, Try.prog.funcs[52]? = some fn ∧ zw cfg 52 fn = true := ⟨Try.f52, Try.func52, by kernel_rfl⟩
theorem Ht : ∃ fn, Try.prog.funcs[53]? = some fn ∧ zw cfg 53 fn = true := ⟨Try.f53, Try.func53, by kernel_rfl⟩
theorem Hu : ∃ fn, Try.prog.funcs[54]? = some fn ∧ zw cfg 54 fn = true := ⟨Try.f54, Try.func54, by kernel_rfl⟩
theorem Hv : ∃ fn, Try.prog.funcs[55]? = some fn ∧ zw cfg 55 fn = true := ⟨Try.f55, Try.func55, by kernel_rfl⟩
theorem Hw : ∃ fn, Try.prog.funcs[59]? = some fn ∧ zw cfg 59 fn = true := ⟨Try.f59, Try.func59, by kernel_rfl⟩
theorem Hx : ∃ fn, Try.prog.funcs[68]? = some fn ∧ zw cfg 68 fn = true := ⟨Try.f68, Try.func68, by kernel_rfl⟩
theorem Hy : ∃ fn, Try.prog.funcs[70]? = some fn ∧ zw cfg 70 fn = true := ⟨Try.f70, Try.func70, by kernel_rfl⟩
theorem Hz : ∃ fn, Try.prog.funcs[71]? = some fn ∧ zw cfg 71 fn = true := ⟨Try.f71, Try.func71, by kernel_rfl⟩
theorem H0 : ∃ fn, Try.prog.funcs[72]? = some fn ∧ zw cfg 72 fn = true := ⟨Try.f72, Try.func72, by kernel_rfl⟩
theorem H1 : ∃ fn, Try.prog.funcs[73]? = some fn ∧ zw cfg 73 fn = true := ⟨Try.f73, Try.func73, by kernel_rfl⟩
theorem H2 : ∃ fn, Try.prog.funcs[74]? = some fn ∧ zw cfg 74 fn = true := ⟨Try.f74, Try.func74, by kernel_rfl⟩
theorem H3 : ∃ fn, Try.prog.funcs[75]? = some fn ∧ zw cfg 75 fn = true := ⟨Try.f75, Try.func75, by kernel_rfl⟩
theorem H4 : ∃ fn, Try.prog.funcs[76]? = some fn ∧ zw cfg 76 fn = true := ⟨Try.f76, Try.func76, by kernel_rfl⟩
theorem H5 : ∃ fn, Try.prog.funcs[77]? = some fn ∧ zw cfg 77 fn = true := ⟨Try.f77, Try.func77, by kernel_rfl⟩
theorem H6 : ∃ fn, Try.prog.funcs[78]? = some fn ∧ zw cfg 78 fn = true := ⟨Try.f78, Try.func78, by kernel_rfl⟩
theorem H7 : ∃ fn, Try.prog.funcs[79]? = some fn ∧ zw cfg 79 fn = true := ⟨Try.f79, Try.func79, by kernel_rfl⟩
theorem H8 : ∃ fn, Try.prog.funcs[80]? = some fn ∧ zw cfg 80 fn = true := ⟨Try.f80, Try.func80, by kernel_rfl⟩
theorem H9 : ∃ fn, Try.prog.funcs[81]? = some fn ∧ zw cfg 81 fn = true := ⟨Try.f81, Try.func81, by kernel_rfl⟩
theorem HA : ∃ fn, Try.prog.funcs[82]? = some fn ∧ zw cfg 82 fn = true := ⟨Try.f82, Try.func82, by kernel_rfl⟩
theorem HB : ∃ fn, Try.prog.funcs[83]? = some fn ∧ zw cfg 83 fn = true := ⟨Try.f83, Try.func83, by kernel_rfl⟩
theorem HC : ∃ fn, Try.prog.funcs[86]? = some fn ∧ zw cfg 86 fn = true := ⟨Try.f86, Try.func86, by kernel_rfl⟩
theorem HD : ∃ fn, Try.prog.funcs[88]? = some fn ∧ zw cfg 88 fn = true := ⟨Try.f88, Try.func88, by kernel_rfl⟩
theorem HF : ∃ fn, Try.prog.funcs[94]? = some fn ∧ zw cfg 94 fn = true := ⟨Try.f94, Try.func94, by kernel_rfl⟩
theorem HG : ∃ fn, Try.prog.funcs[99]? = some fn ∧ zw cfg 99 fn = true := ⟨Try.f99, Try.func99, by kernel_rfl⟩
theorem N8 : ∃ fn, Try.prog.funcs[100]? = some fn ∧ zw cfg 100 fn = true := ⟨Try.f100, Try.func100, by kernel_rfl⟩
theorem N9 : ∃ fn, Try.prog.funcs[101]? = some fn ∧ zw cfg 101 fn = true := ⟨Try.f101, Try.func101, by kernel_rfl⟩
theorem NA : ∃ fn, Try.prog.funcs[102]? = some fn ∧ zw cfg 102 fn = true := ⟨Try.f102, Try.func102, by kernel_rfl⟩
theorem NB : ∃ fn, Try.prog.funcs[103]? = some fn ∧ zw cfg 103 fn = true := ⟨Try.f103, Try.func103, by kernel_rfl⟩
theorem NC : ∃ fn, Try.prog.funcs[104]? = some fn ∧ zw cfg 104 fn = true := ⟨Try.f104, Try.func104, by kernel_rfl⟩
theorem ND : ∃ fn, Try.prog.funcs[105]? = some fn ∧ zw cfg 105 fn = true := ⟨Try.f105, Try.func105, by kernel_rfl⟩
theorem NE : ∃ fn, Try.prog.funcs[106]? = some fn ∧ zw cfg 106 fn = true := ⟨Try.f106, Try.func106, by kernel_rfl⟩
theorem NF : ∃ fn, Try.prog.funcs[107]? = some fn ∧ zw cfg 107 fn = true := ⟨Try.f107, Try.func107, by kernel_rfl⟩
theorem NG : ∃ fn, Try.prog.funcs[122]? = some fn ∧ zw cfg 122 fn = true := ⟨Try.f122, Try.func122, by kernel_rfl⟩
theorem NH : ∃ fn, Try.prog.funcs[123]? = some fn ∧ zw cfg 123 fn = true := ⟨Try.f123, Try.func123, by kernel_rfl⟩
theorem fnsGood : Wa Try.prog cfg := L9 (used := OT) (fun f => by rw [Tn]; delta OU; with_reducible rfl) ⟨Ew, Ey, GR, GS, GT, GU, GV, GW, GX, GY, GZ, Ha, Hb, Hc, Hd, He, Hf, Hg, Hh, Hi, Hj, Hk, Hl, Hm, Hn, Ho, Hp, Hq, Hr, Hs, Ht, Hu, Hv, Hw, Hx, Hy, Hz, H0, H1, H2, H3, H4, H5, H6, H7, H8, H9, HA, HB, HC, HD, HF, HG, N8, N9, NA, NB, NC, ND, NE, NF, NG, NH, trivial⟩
theorem tblGood : TOk Try.prog cfg := HZ (tr := tl) (by delta cfg; funext t; delta Kw; with_reducible rfl) EB
theorem HH {st : List Entry} {xs : List V} {r : V × List Entry} (h : UH st xs = some r) : xp Try.prog 98 st xs r :=
 LP Try.func98 (by kernel_rfl) (by kernel_rfl) (by kernel_rfl) (by kernel_rfl) h
theorem xGood (f : FuncId) (st : List Entry) (xs : List V) (r : V × List Entry) (h : cfg.X f st xs = some r) : xp Try.prog f st xs r := by
 have h : (bif Nat.beq f 67 then (TP 68) st xs else bif Nat.beq f 69 then (KV 64) st xs else bif Nat.beq f 98 then UH st xs else none) = some r := h
 cases h0 : Nat.beq f 67 with
 | true =>
  rw [h0] at h
  obtain rfl := Nat.eq_of_beq_eq_true h0
  exact NJ h
 | false =>
 rw [h0] at h
 simp only [cond_false] at h
 cases h1 : Nat.beq f 69 with
 | true =>
  rw [h1] at h
  obtain rfl := Nat.eq_of_beq_eq_true h1
  exact Nr h
 | false =>
 rw [h1] at h
 simp only [cond_false] at h
 cases h2 : Nat.beq f 98 with
 | true =>
  rw [h2] at h
  obtain rfl := Nat.eq_of_beq_eq_true h2
  exact HH h
 | false =>
 rw [h2] at h
 simp only [cond_false] at h
 cases h
end Go.Am.Try
