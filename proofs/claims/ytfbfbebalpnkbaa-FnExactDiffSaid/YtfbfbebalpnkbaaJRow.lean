/- The row of FnExactDiff: its arguments read, the law's answer, the statement. -/
import Derived.Test.YtfbfbebalpnkbaaJLDiff
import Derived.Test.YtfbfbebalpnkbaaJS2b
import Derived.Test.YtfbfbebalpnkbaaJAmD
import Derived.ProofKit
set_option linter.unusedVariables false
set_option linter.unusedSimpArgs false
namespace Go.Am.Try
open Go.Am Go.Proofs
theorem rd_arg {τ : Type} {t : TypeId} {i : TI} {e : τ → List C} {md : τ → Prop} (R : Rd Kw t e md) (hi : Kw t = some i) {a : V} (h : KF Kw t a) : ∃ x, md x ∧ a = .val i.agg (e x) := by
 obtain ⟨j, cs, hj, rfl, hw⟩ := h
 rw [hi] at hj
 injection hj with hj
 subst hj
 obtain ⟨x, rfl, hx⟩ := R cs hw
 exact ⟨x, hx, rfl⟩
theorem GO {l : List GValue} (h : ∀ v ∈ l, MdV v) : Wm l := by
 induction l with
 | nil => simp only [Wm]
 | cons v l ih => simp only [Wm]; exact ⟨h v (by simp), ih fun x hx => h x (by simp [hx])⟩
theorem OS : Rd Kw 23 (zu (zu za)) MdB :=
 GA (OJ (i := ⟨.slice 22, false, 1, 24, [.nils]⟩) rfl rfl (OJ (i := ⟨.slice 5, false, 1, 24, [.nils]⟩) rfl rfl (NP (i := ⟨.int .u8, false, 1, 1, [.int .u8 0]⟩) rfl rfl))) fun _ h => ⟨h.1, fun b hb => (h.2 b hb).1⟩
theorem rd_GValue44 : Rd Kw 44 zb MdV := by
 intro cs
 generalize hn : SizeOf.sizeOf cs + 1 = n
 have hlt : SizeOf.sizeOf cs < n := by omega
 clear hn
 induction n generalizing cs with
 | zero => omega
 | succ n ih =>
  intro hw
  obtain ⟨css, rfl, hc⟩ := hw.struct_inv (i := ⟨.struct [(0, 3), (1, 3), (2, 22), (3, 23), (4, 42)], true, 5, 88, [.int .i64 0, .int .i64 0, .nils, .nils, .nils]⟩) rfl rfl
  obtain ⟨c1, _, rfl, h1, hc⟩ := jZ hc
  obtain ⟨c2, _, rfl, h2, hc⟩ := jZ hc
  obtain ⟨c3, _, rfl, h3, hc⟩ := jZ hc
  obtain ⟨c4, _, rfl, h4, hc⟩ := jZ hc
  obtain ⟨c5, _, rfl, h5, hc⟩ := jZ hc
  obtain rfl := UG hc
  obtain ⟨x1, rfl, -⟩ := (LN (i := ⟨.int .i64, false, 1, 8, [.int .i64 0]⟩) rfl rfl) c1 h1
  obtain ⟨x2, rfl, -⟩ := (LN (i := ⟨.int .i64, false, 1, 8, [.int .i64 0]⟩) rfl rfl) c2 h2
  obtain ⟨x3, rfl, m3⟩ := (OJ (i := ⟨.slice 5, false, 1, 24, [.nils]⟩) rfl rfl (NP (i := ⟨.int .u8, false, 1, 1, [.int .u8 0]⟩) rfl rfl)) c3 h3
  obtain ⟨x4, rfl, m4⟩ := OS c4 h4
  obtain ⟨l, rfl, hl, hs⟩ := h5.slice_inv (i := ⟨.slice 44, false, 1, 24, [.nils]⟩) rfl rfl
  obtain ⟨x5, rfl, m5⟩ := PS fun x hx => ih x (by have := Ei (cs := List.flatten [vU x1, vU x2, (zu za) x3, (zu (zu za)) x4, [C.seq l]]) hx (by simp); omega) (hs x hx)
  refine ⟨.mk x1 x2 x3 x4 x5, ?_, ?_⟩
  ·rw [eq_GValue]; rfl
  ·rw [LO] at hl
   rw [LS]
   exact ⟨m3.1, m4, hl, GO m5⟩
end Go.Am.Try
namespace Go.Proofs.Ytfbfbebalpnkbaa
open Go.ChangeShapes Go.WideShapes Go.ChangeAt Go.RowKit Go.Am
theorem Try.own : ownKnob Try.prog.godebug = none := by kernel_rfl
theorem Try.laidOut : laidOutB Try.prog = true := by kernel_rfl
theorem Mn (W : World) : jn Try.prog W (fun _ => none) (fun _ => .nilIface) := by
 intro n cs hm g hg
 simp only [Zl, List.mem_cons, List.not_mem_nil, or_false, Prod.mk.injEq] at hm
 rcases hm with ⟨rfl, _⟩ | ⟨rfl, _⟩ | ⟨rfl, _⟩
 ·rw [show Try.prog.globalNamed "strconv.ErrSyntax" = none from by kernel_rfl] at hg; cases hg
 ·rw [show Try.prog.globalNamed "strconv.ErrRange" = none from by kernel_rfl] at hg; cases hg
 ·rw [show Try.prog.globalNamed "internal/strconv.uint64pow10" = none from by kernel_rfl] at hg; cases hg
set_option maxRecDepth 100000 in
theorem N7 {H : Type} {enc : TypeId × Value → H} {W : World} {base : Nat} {args : Array Value} {ds : List (DataW H)} {ps : List MemPlace}
  (hv : ∀ (j : Nat) t v, Try.f4.params[j]? = some t → args[j]? = some v → Value.okWide Try.prog W .any base t v)
  (hA : DataW.TrodAll enc Try.prog W 0 (fun _ => true) true Try.f4.params.toList args.toList ds ps) :
  Calls Try.prog 4 args W fun e W' => e = .returned (.bool true) ∧ Below W.heap.size W W' :=
 L8 (cfg := Am.Try.cfg) Am.Try.tblGood Am.Try.fnsGood Am.Try.xGood Am.Try.mixOk (S := [44, 3, 22, 5, 23, 42]) (List.all_eq_true.1 (by kernel_rfl)) Try.func4 (by kernel_rfl) (by kernel_rfl) (by rw [Try.params4]; intro t ht; simp at ht; subst ht <;> simp) (Mn W) hv hA fun xs h => by
  rw [Try.params4] at h
  obtain ⟨a0, xs, rfl, ha0, h⟩ := jZ h
  obtain ⟨a1, xs, rfl, ha1, h⟩ := jZ h
  obtain rfl := UG h
  obtain ⟨x0, hx0, rfl⟩ := Am.Try.rd_arg (i := ⟨.struct [(0, 3), (1, 3), (2, 22), (3, 23), (4, 42)], true, 5, 88, [.int .i64 0, .int .i64 0, .nils, .nils, .nils]⟩) Am.Try.rd_GValue44 rfl ha0
  obtain ⟨x1, hx1, rfl⟩ := Am.Try.rd_arg (i := ⟨.struct [(0, 3), (1, 3), (2, 22), (3, 23), (4, 42)], true, 5, 88, [.int .i64 0, .int .i64 0, .nils, .nils, .nils]⟩) Am.Try.rd_GValue44 rfl ha1
  simp only [Am.Try.eq_GValue]
  exact Am.Try.ok_laws_FnExactDiff x0 x1 true (Am.Try.law_Diff hx0 hx1)
set_option maxRecDepth 100000 in
theorem PE (os : Os) (started : os.Started) (H : Type) (enc : TypeId × Value → H) :
  ReturnsInHanded {} Try.checked os 4 .any (Rows.fnExactDiffSpec.pre6 enc Try.prog Try.f4 Rows.fnExactDiffRow.domain false) (Rows.fnExactDiffSpec.post enc Try.prog Try.f4 false true false false) := by
 refine returnsInHanded_of_change (C := Try.checked) Try.own started (by kernel_rfl) Try.func4
  (ChangeSpec.witness6 (enc := enc) (C := Try.checked) false ⟨#[], #[.agg #[.int .i64 0, .int .i64 0, .slice none 0 0, .slice none 0 0, .slice none 0 0], .agg #[.int .i64 0, .int .i64 0, .slice none 0 0, .slice none 0 0, .slice none 0 0]], []⟩ 8 (by kernel_rfl) (by kernel_rfl) (by kernel_rfl) (by kernel_rfl)) ?_
 intro W base args ds gs before hval0 hW hcnd _
 have hW' := hW
 obtain ⟨p, q, hA, hV, rfl, hfz, hnd⟩ := hW
 obtain ⟨rfl, _⟩ := trodVars_none hV
 have hds : ∃ d0 d1, ds = [d0, d1] := by
  have hA0 := hA
  rw [Try.params4] at hA0
  obtain ⟨v0, vs0, d0, ds0, p0, q0, _, rfl, _, _, hA1⟩ := trodAll_cons hA0
  obtain ⟨v1, vs1, d1, ds1, p1, q1, _, rfl, _, _, hA2⟩ := trodAll_cons hA1
  obtain ⟨_, rfl, _⟩ := trodAll_nil hA2
  exact ⟨d0, d1, rfl⟩
 obtain ⟨d0, d1, rfl⟩ := hds
 exact (N7 hval0 hA).mono fun e W' ⟨he, hb⟩ => ⟨_, he,
  MX (tb := 4) Try.laidOut rfl (by kernel_rfl) (by kernel_rfl) (by rw [Try.params4]; intro t ht; simp at ht; subst ht <;> exact ⟨by kernel_rfl, by decide +kernel⟩) hW' rfl hb⟩
theorem diff_holds : Rows.FnExactDiffSaid :=
 OpenClaim.holds_of_wide 4 Try.f4 rfl rfl rfl rfl rfl rfl rfl ⟨rfl, rfl, rfl, rfl, rfl⟩ rfl rfl rfl rfl rfl (by kernel_rfl) Try.func4 (by kernel_rfl)
  (of_decide_eq_true (by kernel_rfl)) (by unfold Func.isWrapper; rw [if_neg (by decide +kernel)]; exact ⟨rfl, rfl⟩)
  (fun os started H enc _ => PE os started H enc)
end Go.Proofs.Ytfbfbebalpnkbaa
