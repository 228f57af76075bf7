/- The row of FnExactSimplify: its arguments read, the law's answer, the statement. -/
import Derived.Test.YtklelfbkffbceaaGreatMLSimplify
import Derived.Test.YtklelfbkffbceaaGreatMS2b
import Derived.Test.YtklelfbkffbceaaGreatMAmD
import Derived.ProofKit
set_option linter.unusedVariables false
set_option linter.unusedSimpArgs false
namespace Go.Am.Try
open Go.Am Go.Proofs
theorem rd_arg {τ : Type} {t : TypeId} {i : TI} {e : τ → List C} {md : τ → Prop} (R : Rd U7 t e md) (hi : U7 t = some i) {a : V} (h : UO U7 t a) : ∃ x, md x ∧ a = .val i.agg (e x) := by
 obtain ⟨j, cs, hj, rfl, hw⟩ := h
 rw [hi] at hj
 injection hj with hj
 subst hj
 obtain ⟨x, rfl, hx⟩ := R cs hw
 exact ⟨x, hx, rfl⟩
theorem zdq {l : List GExpr} (h : ∀ v ∈ l, MdX v) : Ky l := by
 induction l with
 | nil => simp only [Ky]
 | cons v l ih => simp only [Ky]; exact ⟨h v (by simp), ih fun x hx => h x (by simp [hx])⟩
theorem Es : Rd U7 23 (zi (zi za)) MdB :=
 zcq (HU (i := ⟨.slice 22, false, 1, 24, [.nils]⟩) rfl rfl (HU (i := ⟨.slice 5, false, 1, 24, [.nils]⟩) rfl rfl (zba (i := ⟨.int .u8, false, 1, 1, [.int .u8 0]⟩) rfl rfl))) fun _ h => ⟨h.1, fun b hb => (h.2 b hb).1⟩
theorem rd_GExpr26 : Rd U7 26 zd MdX := by
 intro cs
 generalize hn : SizeOf.sizeOf cs + 1 = n
 have hlt : SizeOf.sizeOf cs < n := by omega
 clear hn
 induction n generalizing cs with
 | zero => omega
 | succ n ih =>
  intro hw
  obtain ⟨css, rfl, hc⟩ := hw.struct_inv (i := ⟨.struct [(0, 3), (1, 3), (2, 22), (3, 23), (4, 24)], true, 5, 88, [.int .i64 0, .int .i64 0, .nils, .nils, .nils]⟩) rfl rfl
  obtain ⟨c1, _, rfl, h1, hc⟩ := Xg hc
  obtain ⟨c2, _, rfl, h2, hc⟩ := Xg hc
  obtain ⟨c3, _, rfl, h3, hc⟩ := Xg hc
  obtain ⟨c4, _, rfl, h4, hc⟩ := Xg hc
  obtain ⟨c5, _, rfl, h5, hc⟩ := Xg hc
  obtain rfl := Ny hc
  obtain ⟨x1, rfl, -⟩ := (Do (i := ⟨.int .i64, false, 1, 8, [.int .i64 0]⟩) rfl rfl) c1 h1
  obtain ⟨x2, rfl, -⟩ := (Do (i := ⟨.int .i64, false, 1, 8, [.int .i64 0]⟩) rfl rfl) c2 h2
  obtain ⟨x3, rfl, m3⟩ := (HU (i := ⟨.slice 5, false, 1, 24, [.nils]⟩) rfl rfl (zba (i := ⟨.int .u8, false, 1, 1, [.int .u8 0]⟩) rfl rfl)) c3 h3
  obtain ⟨x4, rfl, m4⟩ := Es c4 h4
  obtain ⟨l, rfl, hl, hs⟩ := h5.slice_inv (i := ⟨.slice 26, false, 1, 24, [.nils]⟩) rfl rfl
  obtain ⟨x5, rfl, m5⟩ := GZ fun x hx => ih x (by have := zfr (cs := List.flatten [yY x1, yY x2, (zi za) x3, (zi (zi za)) x4, [C.seq l]]) hx (by simp); omega) (hs x hx)
  refine ⟨.mk x1 x2 x3 x4 x5, ?_, ?_⟩
  ·rw [eq_GExpr]; rfl
  ·rw [Dp] at hl
   rw [Dq]
   exact ⟨m3.1, m4, hl, zdq m5⟩
end Go.Am.Try
namespace Go.Proofs.YtklelfbkffbceaaGreat
open Go.ChangeShapes Go.WideShapes Go.ChangeAt Go.RowKit Go.Am
theorem Try.own : ownKnob Tryz.prog.godebug = none := by kernel_rfl
theorem Try.laidOut : laidOutB Tryz.prog = true := by kernel_rfl
theorem Mu (W : World) : vu Tryz.prog W (fun _ => none) (fun _ => .nilIface) := by
 intro n cs hm g hg
 simp only [XH, List.mem_cons, List.not_mem_nil, or_false, Prod.mk.injEq] at hm
 rcases hm with ⟨rfl, _⟩ | ⟨rfl, _⟩ | ⟨rfl, _⟩
 ·rw [show Tryz.prog.globalNamed "strconv.ErrSyntax" = none from by kernel_rfl] at hg; cases hg
 ·rw [show Tryz.prog.globalNamed "strconv.ErrRange" = none from by kernel_rfl] at hg; cases hg
 ·rw [show Tryz.prog.globalNamed "internal/strconv.uint64pow10" = none from by kernel_rfl] at hg; cases hg
set_option maxRecDepth 100000 in
theorem Gs {H : Type} {enc : TypeId × Value → H} {W : World} {base : Nat} {args : Array Value} {ds : List (DataW H)} {ps : List MemPlace}
  (hv : ∀ (j : Nat) t v, Tryz.f3.params[j]? = some t → args[j]? = some v → Value.okWide Tryz.prog W .any base t v)
  (hA : DataW.TrodAll enc Tryz.prog W 0 (fun _ => true) true Tryz.f3.params.toList args.toList ds ps) :
  Calls Tryz.prog 3 args W fun e W' => e = .returned (.bool true) ∧ Below W.heap.size W W' :=
 EZ (cfg := Am.Try.cfg) Am.Try.tblGood Am.Try.fnsGood Am.Try.xGood Am.Try.mixOk (S := [26, 3, 22, 5, 23, 24]) (List.all_eq_true.1 (by kernel_rfl)) Tryz.func3 (by kernel_rfl) (by kernel_rfl) (by rw [Tryz.params3]; intro t ht; simp at ht; subst ht <;> simp) (Mu W) hv hA fun xs h => by
  rw [Tryz.params3] at h
  obtain ⟨a0, xs, rfl, ha0, h⟩ := Xg h
  obtain rfl := Ny h
  obtain ⟨x0, hx0, rfl⟩ := Am.Try.rd_arg (i := ⟨.struct [(0, 3), (1, 3), (2, 22), (3, 23), (4, 24)], true, 5, 88, [.int .i64 0, .int .i64 0, .nils, .nils, .nils]⟩) Am.Try.rd_GExpr26 rfl ha0
  rw [Am.Try.eq_GExpr]
  exact Am.Try.ok_laws_FnExactSimplify x0 true (Am.Try.law_Simplify hx0)
set_option maxRecDepth 100000 in
theorem PK (os : Os) (started : os.Started) (H : Type) (enc : TypeId × Value → H) :
  ReturnsInHanded {} Tryz.checked os 3 .any (Rows.fnExactSimplifySpec.pre6 enc Tryz.prog Tryz.f3 Rows.fnExactSimplifyRow.domain false) (Rows.fnExactSimplifySpec.post enc Tryz.prog Tryz.f3 false true false false) := by
 refine returnsInHanded_of_change (C := Tryz.checked) Try.own started (by kernel_rfl) Tryz.func3
  (ChangeSpec.witness6 (enc := enc) (C := Tryz.checked) false ⟨#[], #[.agg #[.int .i64 0, .int .i64 0, .slice none 0 0, .slice none 0 0, .slice none 0 0]], []⟩ 8 (by kernel_rfl) (by kernel_rfl) (by kernel_rfl) (by kernel_rfl)) ?_
 intro W base args ds gs before hval0 hW hcnd _
 have hW' := hW
 obtain ⟨p, q, hA, hV, rfl, hfz, hnd⟩ := hW
 obtain ⟨rfl, _⟩ := trodVars_none hV
 have hds : ∃ d0, ds = [d0] := by
  have hA0 := hA
  rw [Tryz.params3] at hA0
  obtain ⟨v0, vs0, d0, ds0, p0, q0, _, rfl, _, _, hA1⟩ := trodAll_cons hA0
  obtain ⟨_, rfl, _⟩ := trodAll_nil hA1
  exact ⟨d0, rfl⟩
 obtain ⟨d0, rfl⟩ := hds
 exact (Gs hval0 hA).mono fun e W' ⟨he, hb⟩ => ⟨_, he,
  BC (tb := 4) Try.laidOut rfl (by kernel_rfl) (by kernel_rfl) (by rw [Tryz.params3]; intro t ht; simp at ht; subst ht <;> exact ⟨by kernel_rfl, by decide +kernel⟩) hW' rfl hb⟩
theorem simplify_holds : Rows.FnExactSimplifySaid :=
 OpenClaim.holds_of_wide 3 Tryz.f3 rfl rfl rfl rfl rfl rfl rfl ⟨rfl, rfl, rfl, rfl, rfl⟩ rfl rfl rfl rfl rfl (by kernel_rfl) Tryz.func3 (by kernel_rfl)
  (of_decide_eq_true (by kernel_rfl)) (by unfold Func.isWrapper; rw [if_neg (by decide +kernel)]; exact ⟨rfl, rfl⟩)
  (fun os started H enc _ => PK os started H enc)
end Go.Proofs.YtklelfbkffbceaaGreat
