/- The row of FnExactItemUses: its arguments read, the law's answer, the statement. -/
import Derived.Test.YtfbfbebalpnkbaaILItemUses
import Derived.Test.YtfbfbebalpnkbaaIS2b
import Derived.Test.YtfbfbebalpnkbaaIAmD
import Derived.ProofKit
set_option linter.unusedVariables false
set_option linter.unusedSimpArgs false
namespace Go.Am.Try
open Go.Am Go.Proofs
theorem rd_arg {τ : Type} {t : TypeId} {i : TI} {e : τ → List C} {md : τ → Prop} (R : Rd XB t e md) (hi : XB t = some i) {a : V} (h : JE XB t a) : ∃ x, md x ∧ a = .val i.agg (e x) := by
 obtain ⟨j, cs, hj, rfl, hw⟩ := h
 rw [hi] at hj
 injection hj with hj
 subst hj
 obtain ⟨x, rfl, hx⟩ := R cs hw
 exact ⟨x, hx, rfl⟩
theorem UK {l : List GExpr} (h : ∀ v ∈ l, MdX v) : ZO l := by
 induction l with
 | nil => simp only [ZO]
 | cons v l ih => simp only [ZO]; exact ⟨h v (by simp), ih fun x hx => h x (by simp [hx])⟩
theorem Ku : Rd XB 23 (zk (zk za)) MdB :=
 U7 (JU (i := ⟨.slice 22, false, 1, 24, [.nils]⟩) rfl rfl (JU (i := ⟨.slice 5, false, 1, 24, [.nils]⟩) rfl rfl (P0 (i := ⟨.int .u8, false, 1, 1, [.int .u8 0]⟩) rfl rfl))) fun _ h => ⟨h.1, fun b hb => (h.2 b hb).1⟩
theorem Kv : Rd XB 26 zb MdX := by
 intro cs
 generalize hn : SizeOf.sizeOf cs + 1 = n
 have hlt : SizeOf.sizeOf cs < n := by omega
 clear hn
 induction n generalizing cs with
 | zero => omega
 | succ n ih =>
  intro hw
  obtain ⟨css, rfl, hc⟩ := hw.struct_inv (i := ⟨.struct [(0, 3), (1, 3), (2, 22), (3, 23), (4, 24)], true, 5, 88, [.int .i64 0, .int .i64 0, .nils, .nils, .nils]⟩) rfl rfl
  obtain ⟨c1, _, rfl, h1, hc⟩ := xE hc
  obtain ⟨c2, _, rfl, h2, hc⟩ := xE hc
  obtain ⟨c3, _, rfl, h3, hc⟩ := xE hc
  obtain ⟨c4, _, rfl, h4, hc⟩ := xE hc
  obtain ⟨c5, _, rfl, h5, hc⟩ := xE hc
  obtain rfl := QM hc
  obtain ⟨x1, rfl, -⟩ := (JT (i := ⟨.int .i64, false, 1, 8, [.int .i64 0]⟩) rfl rfl) c1 h1
  obtain ⟨x2, rfl, -⟩ := (JT (i := ⟨.int .i64, false, 1, 8, [.int .i64 0]⟩) rfl rfl) c2 h2
  obtain ⟨x3, rfl, m3⟩ := (JU (i := ⟨.slice 5, false, 1, 24, [.nils]⟩) rfl rfl (P0 (i := ⟨.int .u8, false, 1, 1, [.int .u8 0]⟩) rfl rfl)) c3 h3
  obtain ⟨x4, rfl, m4⟩ := Ku c4 h4
  obtain ⟨l, rfl, hl, hs⟩ := h5.slice_inv (i := ⟨.slice 26, false, 1, 24, [.nils]⟩) rfl rfl
  obtain ⟨x5, rfl, m5⟩ := U6 fun x hx => ih x (by have := GJ (cs := List.flatten [WZ x1, WZ x2, (zk za) x3, (zk (zk za)) x4, [C.seq l]]) hx (by simp); omega) (hs x hx)
  refine ⟨.mk x1 x2 x3 x4 x5, ?_, ?_⟩
  ·rw [zV]; rfl
  ·rw [O7] at hl
   rw [OA]
   exact ⟨m3.1, m4, hl, UK m5⟩
theorem OW : Rd XB 24 (zk zb) (fun l => l.length <= 2 ^ 63 - 1 ∧ ZO l) :=
 U7 (JU (i := ⟨.slice 26, false, 1, 24, [.nils]⟩) rfl rfl Kv) fun _ h => ⟨h.1, UK h.2⟩
theorem rd_GItem28 : Rd XB 28 ym Mn := by
 intro cs hw
 obtain ⟨css, rfl, hc⟩ := hw.struct_inv (i := ⟨.struct [(0, 3), (1, 22), (2, 3), (3, 26), (8, 23), (9, 24)], true, 10, 176, [.int .i64 0, .nils, .int .i64 0, .int .i64 0, .int .i64 0, .nils, .nils, .nils, .nils, .nils]⟩) rfl rfl
 obtain ⟨c1, _, rfl, h1, hc⟩ := xE hc
 obtain ⟨c2, _, rfl, h2, hc⟩ := xE hc
 obtain ⟨c3, _, rfl, h3, hc⟩ := xE hc
 obtain ⟨c4, _, rfl, h4, hc⟩ := xE hc
 obtain ⟨c5, _, rfl, h5, hc⟩ := xE hc
 obtain ⟨c6, _, rfl, h6, hc⟩ := xE hc
 obtain rfl := QM hc
 obtain ⟨x1, rfl, -⟩ := (JT (i := ⟨.int .i64, false, 1, 8, [.int .i64 0]⟩) rfl rfl) c1 h1
 obtain ⟨x2, rfl, m2⟩ := (JU (i := ⟨.slice 5, false, 1, 24, [.nils]⟩) rfl rfl (P0 (i := ⟨.int .u8, false, 1, 1, [.int .u8 0]⟩) rfl rfl)) c2 h2
 obtain ⟨x3, rfl, -⟩ := (JT (i := ⟨.int .i64, false, 1, 8, [.int .i64 0]⟩) rfl rfl) c3 h3
 obtain ⟨x4, rfl, m4⟩ := Kv c4 h4
 obtain ⟨x5, rfl, m5⟩ := Ku c5 h5
 obtain ⟨x6, rfl, m6⟩ := OW c6 h6
 refine ⟨.mk x1 x2 x3 x4 x5 x6, ?_, ⟨m2.1, m4, m5, m6⟩⟩
 simp only [eq_GItem, zV]; rfl
end Go.Am.Try
namespace Go.Proofs.Ytfbfbebalpnkbaa
open Go.ChangeShapes Go.WideShapes Go.ChangeAt Go.RowKit Go.Am
theorem Try.own : ownKnob Try.prog.godebug = none := by kernel_rfl
theorem Try.laidOut : laidOutB Try.prog = true := by kernel_rfl
theorem Ry (W : World) : qz Try.prog W (fun _ => none) (fun _ => .nilIface) := by
 intro n cs hm g hg
 simp only [vt, List.mem_cons, List.not_mem_nil, or_false, Prod.mk.injEq] at hm
 rcases hm with ⟨rfl, _⟩ | ⟨rfl, _⟩ | ⟨rfl, _⟩
 ·rw [show Try.prog.globalNamed "strconv.ErrSyntax" = none from by kernel_rfl] at hg; cases hg
 ·rw [show Try.prog.globalNamed "strconv.ErrRange" = none from by kernel_rfl] at hg; cases hg
 ·rw [show Try.prog.globalNamed "internal/strconv.uint64pow10" = none from by kernel_rfl] at hg; cases hg
set_option maxRecDepth 100000 in
theorem TX {H : Type} {enc : TypeId × Value → H} {W : World} {base : Nat} {args : Array Value} {ds : List (DataW H)} {ps : List MemPlace}
  (hv : ∀ (j : Nat) t v, Try.f3.params[j]? = some t → args[j]? = some v → Value.okWide Try.prog W .any base t v)
  (hA : DataW.TrodAll enc Try.prog W 0 (fun _ => true) true Try.f3.params.toList args.toList ds ps) :
  Calls Try.prog 3 args W fun e W' => e = .returned (.bool true) ∧ Below W.heap.size W W' :=
 Or (cfg := Am.Try.cfg) Am.Try.tblGood Am.Try.fnsGood Am.Try.xGood Am.Try.mixOk (S := [28, 3, 22, 5, 26, 23, 24]) (List.all_eq_true.1 (by kernel_rfl)) Try.func3 (by kernel_rfl) (by kernel_rfl) (by rw [Try.params3]; intro t ht; simp at ht; subst ht <;> simp) (Ry W) hv hA fun xs h => by
  rw [Try.params3] at h
  obtain ⟨a0, xs, rfl, ha0, h⟩ := xE h
  obtain rfl := QM h
  obtain ⟨x0, hx0, rfl⟩ := Am.Try.rd_arg (i := ⟨.struct [(0, 3), (1, 22), (2, 3), (3, 26), (8, 23), (9, 24)], true, 10, 176, [.int .i64 0, .nils, .int .i64 0, .int .i64 0, .int .i64 0, .nils, .nils, .nils, .nils, .nils]⟩) Am.Try.rd_GItem28 rfl ha0
  rw [Am.Try.eq_GItem]
  exact Am.Try.ok_laws_FnExactItemUses x0 true (Am.Try.law_ItemUses hx0)
set_option maxRecDepth 100000 in
theorem Kw (os : Os) (started : os.Started) (H : Type) (enc : TypeId × Value → H) :
  ReturnsInHanded {} Try.checked os 3 .any (Rows.fnExactItemUsesSpec.pre6 enc Try.prog Try.f3 Rows.fnExactItemUsesRow.domain false) (Rows.fnExactItemUsesSpec.post enc Try.prog Try.f3 false true false false) := by
 refine returnsInHanded_of_change (C := Try.checked) Try.own started (by kernel_rfl) Try.func3
  (ChangeSpec.witness6 (enc := enc) (C := Try.checked) false ⟨#[], #[.agg #[.int .i64 0, .slice none 0 0, .int .i64 0, .int .i64 0, .int .i64 0, .slice none 0 0, .slice none 0 0, .slice none 0 0, .slice none 0 0, .slice none 0 0]], []⟩ 8 (by kernel_rfl) (by kernel_rfl) (by kernel_rfl) (by kernel_rfl)) ?_
 intro W base args ds gs before hval0 hW hcnd _
 have hW' := hW
 obtain ⟨p, q, hA, hV, rfl, hfz, hnd⟩ := hW
 obtain ⟨rfl, _⟩ := trodVars_none hV
 have hds : ∃ d0, ds = [d0] := by
  have hA0 := hA
  rw [Try.params3] at hA0
  obtain ⟨v0, vs0, d0, ds0, p0, q0, _, rfl, _, _, hA1⟩ := trodAll_cons hA0
  obtain ⟨_, rfl, _⟩ := trodAll_nil hA1
  exact ⟨d0, rfl⟩
 obtain ⟨d0, rfl⟩ := hds
 exact (TX hval0 hA).mono fun e W' ⟨he, hb⟩ => ⟨_, he,
  LI (tb := 4) Try.laidOut rfl (by kernel_rfl) (by kernel_rfl) (by rw [Try.params3]; intro t ht; simp at ht; subst ht <;> exact ⟨by kernel_rfl, by decide +kernel⟩) hW' rfl hb⟩
theorem itemuses_holds : Rows.FnExactItemUsesSaid :=
 OpenClaim.holds_of_wide 3 Try.f3 rfl rfl rfl rfl rfl rfl rfl ⟨rfl, rfl, rfl, rfl, rfl⟩ rfl rfl rfl rfl rfl (by kernel_rfl) Try.func3 (by kernel_rfl)
  (of_decide_eq_true (by kernel_rfl)) (by unfold Func.isWrapper; rw [if_neg (by decide +kernel)]; exact ⟨rfl, rfl⟩)
  (fun os started H enc _ => Kw os started H enc)
end Go.Proofs.Ytfbfbebalpnkbaa
