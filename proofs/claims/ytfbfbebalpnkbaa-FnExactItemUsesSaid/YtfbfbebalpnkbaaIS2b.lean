/- The functions of the program in plain Lean, and that the machine answers as they do; conditions at each theorem. -/
import Derived.Test.YtfbfbebalpnkbaaIS2
import Derived.Test.YtfbfbebalpnkbaaISortX
import Derived.Test.YtfbfbebalpnkbaaICptY
set_option linter.unusedVariables false
set_option linter.unusedSimpArgs false
namespace Go.Am.Try
open Go.Am Go.Proofs Go.RowKit
theorem Hc : ∃ fn, Try.prog.funcs[3]? = some fn ∧ zq cfg 3 fn = true := ⟨Try.f3, Try.func3, by kernel_rfl⟩
theorem Hd : ∃ fn, Try.prog.funcs[5]? = some fn ∧ zq cfg 5 fn = true := ⟨Try.f5, Try.func5, by kernel_rfl⟩
theorem He : ∃ fn, Try.prog.funcs[6]? = some fn ∧ zq cfg 6 fn = true := ⟨Try.f6, Try.func6, by kernel_rfl⟩
theorem Hf : ∃ fn, Try.prog.funcs[7]? = some fn ∧ zq cfg 7 fn = true := ⟨Try.f7, Try.func7, by kernel_rfl⟩
theorem Hg : ∃ fn, Try.prog.funcs[8]? = some fn ∧ zq cfg 8 fn = true := ⟨Try.f8, Try.func8, by kernel_rfl⟩
theorem Hh : ∃ fn, Try.prog.funcs[9]? = some fn ∧ zq cfg 9 fn = true := ⟨Try.f9, Try.func9, by kernel_rfl⟩
theorem N4 : ∃ fn, Try.prog.funcs[10]? = some fn ∧ zq cfg 10 fn = true := ⟨Try.f10, Try.func10, by kernel_rfl⟩
theorem N5 : ∃ fn, Try.prog.funcs[11]? = some fn ∧ zq cfg 11 fn = true := ⟨Try.f11, Try.func11, by kernel_rfl⟩
theorem N6 : ∃ fn, Try.prog.funcs[12]? = some fn ∧ zq cfg 12 fn = true := ⟨Try.f12, Try.func12, by kernel_rfl⟩
theorem N7 : ∃ fn, Try.prog.funcs[13]? = some fn ∧ zq cfg 13 fn = true := ⟨Try.f13, Try.func13, by kernel_rfl⟩
theorem N8 : ∃ fn, Try.prog.funcs[23]? = some fn ∧ zq cfg 23 fn = true := ⟨Try.f23, Try.func23, by kernel_rfl⟩
theorem N9 : ∃ fn, Try.prog.funcs[24]? = some fn ∧ zq cfg 24 fn = true := ⟨Try.f24, Try.func24, by kernel_rfl⟩
theorem NA : ∃ fn, Try.prog.funcs[25]? = some fn ∧ zq cfg 25 fn = true := ⟨Try.f25, Try.func25, by kernel_rfl⟩
theorem NB : ∃ fn, Try.prog.funcs[26]? = some fn ∧ zq cfg 26 fn = true := ⟨Try.f26, Try.func26, by kernel_rfl⟩
theorem NC : ∃ fn, Try.prog.funcs[27]? = some fn ∧ zq cfg 27 fn = true := ⟨Try.f27, Try.func27, by kernel_rfl⟩
theorem ND : ∃ fn, Try.prog.funcs[28]? = some fn ∧ zq cfg 28 fn = true := ⟨Try.f28, Try.func28, by kernel_rfl⟩
theorem NE : ∃ fn, Try.prog.funcs[29]? = some fn ∧ zq cfg 29 fn = true := ⟨Try.f29, Try.func29, by kernel_rfl⟩
theorem NF : ∃ fn, Try.prog.funcs[30]? = some fn ∧ zq cfg 30 fn = true := ⟨Try.f30, Try.func30, by kernel_rfl⟩
theorem NG : ∃ fn, Try.prog.funcs[31]? = some fn ∧ zq cfg 31 fn = true := ⟨Try.f31, Try.func31, by kernel_rfl⟩
theorem NH : ∃ fn, Try.prog.funcs[32]? = some fn ∧ zq cfg 32 fn = true := ⟨Try.f32, Try.func32, by kernel_rfl⟩
theorem NI : ∃ fn, Try.prog.funcs[33]? = some fn ∧ zq cfg 33 fn = true := ⟨Try.f33, Try.func33, by kernel_rfl⟩
theorem NJ : ∃ fn, Try.prog.funcs[34]? = some fn ∧ zq cfg 34 fn = true := ⟨Try.f34, Try.func34, by kernel_rfl⟩
theorem NK : ∃ fn, Try.prog.funcs[35]? = some fn ∧ zq cfg 35 fn = true := ⟨Try.f35, Try.func35, by kernel_rfl⟩
theorem NL : ∃ fn, Try.prog.funcs[36]? = some fn ∧ zq cfg 36 fn = true := ⟨Try.f36, Try.func36, by kernel_rfl⟩
theorem NM : ∃ fn, Try.prog.funcs[37]? = some fn ∧ zq cfg 37 fn = true := ⟨Try.f37, Try.func37, by kernel_rfl⟩
theorem NN : ∃ fn, Try.prog.funcs[38]? = some fn ∧ zq cfg 38 fn = true := ⟨Try.f38, Try.func38, by kernel_rfl⟩
theorem NO : ∃ fn, Try.prog.funcs[39]? = some fn ∧ zq cfg 39 fn = true := ⟨Try.f39, Try.func39, by kernel_rfl⟩
theorem NP : ∃ fn, Try.prog.funcs[40]? = some fn ∧ zq cfg 40 fn = true := ⟨Try.f40, Try.func40, by kernel_rfl⟩
theorem NQ : ∃ fn, Try.prog.funcs[41]? = some fn ∧ zq cfg 41 fn = true := ⟨Try.f41, Try.func41, by kernel_rfl⟩
theorem NR : ∃ fn, Try.prog.funcs[42]? = some fn ∧ zq cfg 42 fn = true := ⟨Try.f42, Try.func42, by kernel_rfl⟩
theorem NS : ∃ fn, Try.prog.funcs[56]? = some fn ∧ zq cfg 56 fn = true := ⟨Try.f56, Try.func56, by kernel_rfl⟩
theorem NT : ∃ fn, Try.prog.funcs[57]? = some fn ∧ zq cfg 57 fn = true := ⟨Try.f57, Try.func57, by kernel_rfl⟩
theorem NU : ∃ fn, Try.prog.funcs[58]? = some fn ∧ zq cfg 58 fn = true := ⟨Try.f58, Try.func58, by kernel_rfl⟩
theorem NV : ∃ fn, Try.prog.funcs[59]? = some fn ∧ zq cfg 59 fn = true := ⟨Try.f59, Try.func59, by kernel_rfl⟩
theorem NW : ∃ fn, Try.prog.funcs[60]? = some fn ∧ zq cfg 60 fn = true := ⟨Try.f60, Try.func60, by kernel_rfl⟩
theorem NX : ∃ fn, Try.prog.funcs[61]? = some fn ∧ zq cfg 61 fn = true := ⟨Try.f61, Try.func61, by kernel_rfl⟩
theorem NY : ∃ fn, Try.prog.funcs[62]? = some fn ∧ zq cfg 62 fn = true := ⟨Try.f62, Try.func62, by kernel_rfl⟩
theorem NZ : ∃ fn, Try.prog.funcs[63]? = some fn ∧ zq cfg 63 fn = true := ⟨Try.f63, Try.func63, by kernel_rfl⟩
theorem Ga : ∃ fn, Try.prog.funcs[64]? = some fn ∧ zq cfg 64 fn = true := ⟨Try.f64, Try.func64, by kernel_rfl⟩
theorem Gb : ∃ fn, Try.prog.funcs[65]? = some fn ∧ zq cfg 65 fn = true := ⟨Try.f65, Try.func65, by kernel_rfl⟩
theorem Gc : ∃ fn, Try.prog.funcs[66]? = some fn ∧ zq cfg 66 fn = true := ⟨Try.f66, Try.func66, by kernel_rfl⟩
theorem Gd : ∃ fn, Try.prog.funcs[68]? = some fn ∧ zq cfg 68 fn = true := ⟨Try.f68, Try.func68, by kernel_rfl⟩
theorem Ge : ∃ fn, Try.prog.funcs[74]? = some fn ∧ zq cfg 74 fn = true := ⟨Try.f74, Try.func74, by kernel_rfl⟩
theorem Gf : ∃ fn, Try.prog.funcs[80]? = some fn ∧ zq cfg 80 fn = true := ⟨Try.f80, Try.func80, by kernel_rfl⟩
theorem Gg : ∃ fn, Try.prog.funcs[84]? = some fn ∧ zq cfg 84 fn = true := ⟨Try.f84, Try.func84, by kernel_rfl⟩
theorem Gh : ∃ fn, Try.prog.funcs[85]? = some fn ∧ zq cfg 85 fn = true := ⟨Try.f85, Try.func85, by kernel_rfl⟩
theorem Gi : ∃ fn, Try.prog.funcs[86]? = some fn ∧ zq cfg 86 fn = true := ⟨Try.f86, Try.func86, by kernel_rfl⟩
theorem Gj : ∃ fn, Try.prog.funcs[87]? = some fn ∧ zq cfg 87 fn = true := ⟨Try.f87, Try.func87, by kernel_rfl⟩
theorem Gk : ∃ fn, Try.prog.funcs[88]? = some fn ∧ zq cfg 88 fn = true := ⟨Try.f88, Try.func88, by kernel_rfl⟩
theorem Gl : ∃ fn, Try.prog.funcs[89]? = some fn ∧ zq cfg 89 fn = true := ⟨Try.f89, Try.func89, by kernel_rfl⟩
theorem Gm : ∃ fn, Try.prog.funcs[90]? = some fn ∧ zq cfg 90 fn = true := ⟨Try.f90, Try.func90, by kernel_rfl⟩
theorem Gn : ∃ fn, Try.prog.funcs[91]? = some fn ∧ zq cfg 91 fn = true := ⟨Try.f91, Try.func91, by kernel_rfl⟩
theorem Gp : ∃ fn, Try.prog.funcs[92]? = some fn ∧ zq cfg 92 fn = true := ⟨Try.f92, Try.func92, by kernel_rfl⟩
theorem Gq : ∃ fn, Try.prog.funcs[93]? = some fn ∧ zq cfg 93 fn = true := ⟨Try.f93, Try.func93, by kernel_rfl⟩
theorem Gr : ∃ fn, Try.prog.funcs[94]? = some fn ∧ zq cfg 94 fn = true := ⟨Try.f94, Try.func94, by kernel_rfl⟩
theorem Gs : ∃ fn, Try.prog.funcs[95]? = some fn ∧ zq cfg 95 fn = true := ⟨Try.f95, Try.func95, by kernel_rfl⟩
theorem Mr : ∃ fn, Try.prog.funcs[101]? = some fn ∧ zq cfg 101 fn = true := ⟨Try.f101, Try.func101, by kernel_rfl⟩
theorem Ms : ∃ fn, Try.prog.funcs[108]? = some fn ∧ zq cfg 108 fn = true := ⟨Try.f108, Try.func108, by kernel_rfl⟩
theorem Mt : ∃ fn, Try.prog.funcs[109]? = some fn ∧ zq cfg 109 fn = true := ⟨Try.f109, Try.func109, by kernel_rfl⟩
theorem Mu : ∃ fn, Try.prog.funcs[110]? = some fn ∧ zq cfg 110 fn = true := ⟨Try.f110, Try.func110, by kernel_rfl⟩
theorem Mv : ∃ fn, Try.prog.funcs[111]? = some fn ∧ zq cfg 111 fn = true := ⟨Try.f111, Try.func111, by kernel_rfl⟩
theorem Mw : ∃ fn, Try.prog.funcs[124]? = some fn ∧ zq cfg 124 fn = true := ⟨Try.f124, Try.func124, by kernel_rfl⟩
theorem Mx : ∃ fn, Try.prog.funcs[125]? = some fn ∧ zq cfg 125 fn = true := ⟨Try.f125, Try.func125, by kernel_rfl⟩
theorem fnsGood : Xj Try.prog cfg := Ot (used := PB) (fun f => by rw [VZ]; delta PC; with_reducible rfl) ⟨Hc, Hd, He, Hf, Hg, Hh, N4, N5, N6, N7, N8, N9, NA, NB, NC, ND, NE, NF, NG, NH, NI, NJ, NK, NL, NM, NN, NO, NP, NQ, NR, NS, NT, NU, NV, NW, NX, NY, NZ, Ga, Gb, Gc, Gd, Ge, Gf, Gg, Gh, Gi, Gj, Gk, Gl, Gm, Gn, Gp, Gq, Gr, Gs, Mr, Ms, Mt, Mu, Mv, Mw, Mx, trivial⟩
theorem tblGood : TOk Try.prog cfg := GA (tr := tl) (by delta cfg; funext t; delta XB; with_reducible rfl) Ht
theorem Gt {st : List Entry} {xs : List V} {r : V × List Entry} (h : T5 st xs = some r) : yL Try.prog 98 st xs r :=
 GK Try.func98 (by kernel_rfl) (by kernel_rfl) (by kernel_rfl) (by kernel_rfl) h
theorem xGood (f : FuncId) (st : List Entry) (xs : List V) (r : V × List Entry) (h : cfg.X f st xs = some r) : yL Try.prog f st xs r := by
 have h : (bif Nat.beq f 67 then (R9 68) st xs else bif Nat.beq f 69 then (JV 64) st xs else bif Nat.beq f 98 then T5 st xs else none) = some r := h
 cases h0 : Nat.beq f 67 with
 | true =>
  rw [h0] at h
  obtain rfl := Nat.eq_of_beq_eq_true h0
  exact Mz h
 | false =>
 rw [h0] at h
 simp only [cond_false] at h
 cases h1 : Nat.beq f 69 with
 | true =>
  rw [h1] at h
  obtain rfl := Nat.eq_of_beq_eq_true h1
  exact Mb h
 | false =>
 rw [h1] at h
 simp only [cond_false] at h
 cases h2 : Nat.beq f 98 with
 | true =>
  rw [h2] at h
  obtain rfl := Nat.eq_of_beq_eq_true h2
  exact Gt h
 | false =>
 rw [h2] at h
 simp only [cond_false] at h
 cases h
end Go.Am.Try
