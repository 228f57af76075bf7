/- The row of FnExactLeads: its arguments read, the law's answer, the statement. -/
import Derived.Test.YtnhmhmjgeffboaaLLLeads
import Derived.Test.YtnhmhmjgeffboaaLS2b
import Derived.Test.YtnhmhmjgeffboaaLAmC
import Derived.ProofKit
set_option linter.unusedVariables false
set_option linter.unusedSimpArgs false
namespace Go.Am.Try
open Go.Am Go.Proofs

theorem rd_Edge : Rd tblT 113 e_GEdge fun _ => True := by
  intro cs hw
  obtain ⟨css, rfl, hc⟩ := hw.struct_inv (i := ⟨.struct [(0, 3), (1, 3)], true, 2, 16, [.int .i64 0, .int .i64 0]⟩) rfl rfl
  obtain ⟨c1, _, rfl, h1, hc⟩ := all2_cons hc
  obtain ⟨c2, _, rfl, h2, hc⟩ := all2_cons hc
  obtain rfl := all2_nil hc
  obtain ⟨x1, rfl, -⟩ := rd_int (i := ⟨.int .i64, false, 1, 8, [.int .i64 0]⟩) rfl rfl c1 h1
  obtain ⟨x2, rfl, -⟩ := rd_int (i := ⟨.int .i64, false, 1, 8, [.int .i64 0]⟩) rfl rfl c2 h2
  exact ⟨.mk x1 x2, rfl, trivial⟩
theorem rd_Graph {a : V} (h : ArgOf tblT 24 a) : ∃ x : GGraph, x.Edges.length ≤ 2 ^ 63 - 1 ∧ a = .val true (e_GGraph x) := by
  obtain ⟨i, cs, hi, rfl, hw⟩ := h
  have hi' : tblT 24 = some ⟨.struct [(0, 3), (1, 22)], true, 2, 32, [.int .i64 0, .nils]⟩ := rfl
  rw [hi'] at hi
  injection hi with hi
  subst hi
  obtain ⟨css, rfl, hc⟩ := hw.struct_inv hi' rfl
  obtain ⟨c1, _, rfl, h1, hc⟩ := all2_cons hc
  obtain ⟨c2, _, rfl, h2, hc⟩ := all2_cons hc
  obtain rfl := all2_nil hc
  obtain ⟨x1, rfl, -⟩ := rd_int (i := ⟨.int .i64, false, 1, 8, [.int .i64 0]⟩) rfl rfl c1 h1
  obtain ⟨x2, rfl, m2⟩ := rd_sl (i := ⟨.slice 113, false, 1, 24, [.nils]⟩) rfl rfl rd_Edge c2 h2
  exact ⟨.mk x1 x2, m2.1, rfl⟩
theorem rd_Int {a : V} (h : ArgOf tblT 3 a) : ∃ x : Int, a = .val false [.int .i64 x] := by
  obtain ⟨i, cs, hi, rfl, hw⟩ := h
  have hi' : tblT 3 = some ⟨.int .i64, false, 1, 8, [.int .i64 0]⟩ := rfl
  rw [hi'] at hi
  injection hi with hi
  subst hi
  obtain ⟨x, rfl, -⟩ := rd_int hi' rfl cs hw
  exact ⟨x, rfl⟩
end Go.Am.Try

namespace Go.Proofs.Ytnhmhmjgeffboaa
open Go.ChangeShapes Go.WideShapes Go.ChangeAt Go.RowKit Go.Am

theorem Try.own : ownKnob Try.prog.godebug = none := by kernel_rfl
theorem Try.laidOut : laidOutB Try.prog = true := by kernel_rfl

set_option maxRecDepth 100000 in
theorem leads_any {H : Type} {enc : TypeId × Value → H} {W : World} {base : Nat} {args : Array Value} {ds : List (DataW H)} {ps : List MemPlace}
    (hv : ∀ (j : Nat) t v, Try.f4.params[j]? = some t → args[j]? = some v → Value.okWide Try.prog W .any base t v)
    (hA : DataW.TrodAll enc Try.prog W 0 (fun _ => true) true Try.f4.params.toList args.toList ds ps) :
    Calls Try.prog 4 args W fun e W' => e = .returned (.bool true) ∧ Below W.heap.size W W' :=
  law_calls (cfg := Am.Try.cfg) Am.Try.tblGood Am.Try.fnsGood Am.Try.xGood Am.Try.mixOk (S := [24, 3, 22, 113]) (List.all_eq_true.1 (by kernel_rfl)) Try.func4 (by kernel_rfl) (by kernel_rfl) (by rw [Try.params4]; intro t ht; simp at ht; rcases ht with rfl | rfl <;> simp) hv hA fun xs h => by
    rw [Try.params4] at h
    obtain ⟨a, xs, rfl, ha, h⟩ := all2_cons h
    obtain ⟨b, xs, rfl, hb, h⟩ := all2_cons h
    obtain ⟨c, xs, rfl, hc, h⟩ := all2_cons h
    obtain rfl := all2_nil h
    obtain ⟨x, hx, rfl⟩ := Am.Try.rd_Graph ha
    obtain ⟨y, rfl⟩ := Am.Try.rd_Int hb
    obtain ⟨z, rfl⟩ := Am.Try.rd_Int hc
    rw [Am.Try.eq_GGraph]
    exact Am.Try.ok_laws_FnExactLeads x y z true (Am.Try.law_Leads hx)

set_option maxRecDepth 100000 in
theorem leads_lifted (os : Os) (started : os.Started) (H : Type) (enc : TypeId × Value → H) :
    ReturnsInHanded {} Try.checked os 4 .any (Rows.fnExactLeadsSpec.pre6 enc Try.prog Try.f4 Rows.fnExactLeadsRow.domain false) (Rows.fnExactLeadsSpec.post enc Try.prog Try.f4 false true false false) := by
  refine returnsInHanded_of_change (C := Try.checked) Try.own started (by kernel_rfl) Try.func4
    (ChangeSpec.witness6 (enc := enc) (C := Try.checked) false ⟨#[], #[.agg #[.int .i64 0, .slice none 0 0], .int .i64 0, .int .i64 0], []⟩ 8 (by kernel_rfl) (by kernel_rfl) (by kernel_rfl) (by kernel_rfl)) ?_
  intro W base args ds gs before hval0 hW hcnd _
  have hW' := hW
  obtain ⟨p, q, hA, hV, rfl, hfz, hnd⟩ := hW
  obtain ⟨rfl, _⟩ := trodVars_none hV
  have hds : ∃ d1 d2 d3, ds = [d1, d2, d3] := by
    have hA' := hA
    rw [Try.params4] at hA'
    obtain ⟨v0, vs, d0, ds', p0, q0, h1, rfl, h3, h4, h5⟩ := trodAll_cons hA'
    obtain ⟨v1, vs1, d1, ds1, p1, q1, i1, rfl, i3, i4, i5⟩ := trodAll_cons h5
    obtain ⟨v2, vs2, d2, ds2, p2, q2, j1, rfl, j3, j4, j5⟩ := trodAll_cons i5
    obtain ⟨h6, rfl, h7⟩ := trodAll_nil j5
    exact ⟨d0, d1, d2, rfl⟩
  obtain ⟨d1, d2, d3, rfl⟩ := hds
  exact (leads_any hval0 hA).mono fun e W' ⟨he, hb⟩ => ⟨_, he,
    law_post (tb := 4) Try.laidOut rfl (by kernel_rfl) (by kernel_rfl) (by rw [Try.params4]; intro t ht; simp at ht; rcases ht with rfl | rfl <;> exact ⟨by kernel_rfl, by decide +kernel⟩) hW' rfl hb⟩

theorem leads_holds : Rows.FnExactLeadsSaid :=
  OpenClaim.holds_of_wide 4 Try.f4 rfl rfl rfl rfl rfl rfl rfl ⟨rfl, rfl, rfl, rfl, rfl⟩ rfl rfl rfl rfl rfl (by kernel_rfl) Try.func4 (by kernel_rfl)
    (of_decide_eq_true (by kernel_rfl)) (by unfold Func.isWrapper; rw [if_neg (by decide +kernel)]; exact ⟨rfl, rfl⟩)
    (fun os started H enc _ => leads_lifted os started H enc)
end Go.Proofs.Ytnhmhmjgeffboaa
