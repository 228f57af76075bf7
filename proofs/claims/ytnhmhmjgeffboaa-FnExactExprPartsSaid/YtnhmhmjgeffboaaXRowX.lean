/- The row of FnExactExprParts: its argument read, the law's answer, the statement. -/
import Derived.Test.YtnhmhmjgeffboaaXLExpr
import Derived.Test.YtnhmhmjgeffboaaXS2b
import Derived.Test.YtnhmhmjgeffboaaXAmC
import Derived.ProofKit
set_option linter.unusedVariables false
set_option linter.unusedSimpArgs false
namespace Go.Am.Try
open Go.Am Go.Proofs

theorem rd_sc (t : TypeId) (i : TI) (h : tblT t = some i) (hd : i.d = .int .u8) : Rd tblT t e_u8 fun _ => True := rd_u8 h hd
theorem MdXs_of {l : List GExpr} (h : ∀ v ∈ l, MdX v) : MdXs l := by
  induction l with
  | nil => simp only [MdXs]
  | cons v l ih => simp only [MdXs]; exact ⟨h v (by simp), ih fun x hx => h x (by simp [hx])⟩
theorem rd_texts : Rd tblT 36 (e_sl (e_sl e_u8)) MdB :=
  rd_mono (rd_sl rfl rfl (rd_sl (i := ⟨.slice 5, false, 1, 24, [.nils]⟩) rfl rfl (rd_u8 (i := ⟨.int .u8, false, 1, 1, [.int .u8 0]⟩) rfl rfl))) fun _ h => ⟨h.1, fun b hb => (h.2 b hb).1⟩
theorem rd_Expr : Rd tblT 54 e_GExpr MdX := by
  intro cs
  generalize hn : SizeOf.sizeOf cs + 1 = n
  have hlt : SizeOf.sizeOf cs < n := by omega
  clear hn
  induction n generalizing cs with
  | zero => omega
  | succ n ih =>
    intro hw
    obtain ⟨css, rfl, hc⟩ := hw.struct_inv (i := ⟨.struct [(0, 3), (1, 3), (2, 35), (3, 36), (4, 52)], true, 5, 88, [.int .i64 0, .int .i64 0, .nils, .nils, .nils]⟩) rfl rfl
    obtain ⟨c1, _, rfl, h1, hc⟩ := all2_cons hc
    obtain ⟨c2, _, rfl, h2, hc⟩ := all2_cons hc
    obtain ⟨c3, _, rfl, h3, hc⟩ := all2_cons hc
    obtain ⟨c4, _, rfl, h4, hc⟩ := all2_cons hc
    obtain ⟨c5, _, rfl, h5, hc⟩ := all2_cons hc
    obtain rfl := all2_nil hc
    obtain ⟨x1, rfl, -⟩ := rd_int (i := ⟨.int .i64, false, 1, 8, [.int .i64 0]⟩) rfl rfl c1 h1
    obtain ⟨x2, rfl, -⟩ := rd_int (i := ⟨.int .i64, false, 1, 8, [.int .i64 0]⟩) rfl rfl c2 h2
    obtain ⟨x3, rfl, m3⟩ := rd_sl (i := ⟨.slice 5, false, 1, 24, [.nils]⟩) rfl rfl (rd_u8 (i := ⟨.int .u8, false, 1, 1, [.int .u8 0]⟩) rfl rfl) c3 h3
    obtain ⟨x4, rfl, m4⟩ := rd_texts c4 h4
    obtain ⟨l, rfl, hl, hs⟩ := h5.slice_inv (i := ⟨.slice 54, false, 1, 24, [.nils]⟩) rfl rfl
    obtain ⟨x5, rfl, m5⟩ := rd_list fun x hx => ih x (by have := seq_lt (cs := List.flatten [e_int x1, e_int x2, e_sl e_u8 x3, e_sl (e_sl e_u8) x4, [C.seq l]]) hx (by simp); omega) (hs x hx)
    refine ⟨.mk x1 x2 x3 x4 x5, ?_, ?_⟩
    · rw [eq_GExpr]; rfl
    · rw [eL_len] at hl
      rw [MdX_eq]
      exact ⟨m3.1, m4, hl, MdXs_of m5⟩
end Go.Am.Try

namespace Go.Proofs.Ytnhmhmjgeffboaa
open Go.ChangeShapes Go.WideShapes Go.ChangeAt Go.RowKit Go.Am

theorem Try.own : ownKnob Try.prog.godebug = none := by kernel_rfl
theorem Try.laidOut : laidOutB Try.prog = true := by kernel_rfl

set_option maxRecDepth 100000 in
theorem expr_any {H : Type} {enc : TypeId × Value → H} {W : World} {base : Nat} {args : Array Value} {ds : List (DataW H)} {ps : List MemPlace}
    (hv : ∀ (j : Nat) t v, Try.f6.params[j]? = some t → args[j]? = some v → Value.okWide Try.prog W .any base t v)
    (hA : DataW.TrodAll enc Try.prog W 0 (fun _ => true) true Try.f6.params.toList args.toList ds ps) :
    Calls Try.prog 6 args W fun e W' => e = .returned (.bool true) ∧ Below W.heap.size W W' :=
  law_calls (cfg := Am.Try.cfg) Am.Try.tblGood Am.Try.fnsGood Am.Try.xGood Am.Try.mixOk (S := [54, 3, 35, 5, 36, 52]) (List.all_eq_true.1 (by kernel_rfl)) Try.func6 (by kernel_rfl) (by kernel_rfl) (by rw [Try.params6]; intro t ht; simp at ht; subst ht; simp) hv hA fun xs h => by
    rw [Try.params6] at h
    obtain ⟨a, xs, rfl, ha, h⟩ := all2_cons h
    obtain rfl := all2_nil h
    obtain ⟨i, cs, hi, rfl, hw⟩ := ha
    obtain ⟨x, rfl, hx⟩ := Am.Try.rd_Expr cs hw
    have hi' : Am.Try.cfg.T 54 = some ⟨.struct [(0, 3), (1, 3), (2, 35), (3, 36), (4, 52)], true, 5, 88, [.int .i64 0, .int .i64 0, .nils, .nils, .nils]⟩ := rfl
    rw [hi'] at hi
    injection hi with hi
    subst hi
    rw [Am.Try.eq_GExpr]
    exact Am.Try.ok_laws_FnExactExprParts x true (Am.Try.law_ExprParts hx)

def zv : List Value := [.int .i64 0, .int .i64 0, .slice none 0 0, .slice none 0 0, .slice none 0 0]
set_option maxRecDepth 100000 in
theorem expr_lifted (os : Os) (started : os.Started) (H : Type) (enc : TypeId × Value → H) :
    ReturnsInHanded {} Try.checked os 6 .any (Rows.fnExactExprPartsSpec.pre6 enc Try.prog Try.f6 Rows.fnExactExprPartsRow.domain false) (Rows.fnExactExprPartsSpec.post enc Try.prog Try.f6 false true false false) := by
  refine returnsInHanded_of_change (C := Try.checked) Try.own started (by kernel_rfl) Try.func6
    (ChangeSpec.witness6 (enc := enc) (C := Try.checked) false ⟨#[], #[.agg zv.toArray], []⟩ 8 (by kernel_rfl) (by kernel_rfl) (by kernel_rfl) (by kernel_rfl)) ?_
  intro W base args ds gs before hval0 hW hcnd _
  have hW' := hW
  obtain ⟨p, q, hA, hV, rfl, hfz, hnd⟩ := hW
  obtain ⟨rfl, _⟩ := trodVars_none hV
  have hds : ∃ d, ds = [d] := by
    have hA' := hA
    rw [Try.params6] at hA'
    obtain ⟨v0, vs, d0, ds', p0, q0, h1, rfl, h3, h4, h5⟩ := trodAll_cons hA'
    obtain ⟨h6, rfl, h7⟩ := trodAll_nil h5
    exact ⟨d0, rfl⟩
  obtain ⟨d, rfl⟩ := hds
  exact (expr_any hval0 hA).mono fun e W' ⟨he, hb⟩ => ⟨_, he,
    law_post (tb := 4) Try.laidOut rfl (by kernel_rfl) (by kernel_rfl) (by rw [Try.params6]; intro t ht; simp at ht; subst ht; exact ⟨by kernel_rfl, by decide +kernel⟩) hW' rfl hb⟩

theorem expr_holds : Rows.FnExactExprPartsSaid :=
  OpenClaim.holds_of_wide 6 Try.f6 rfl rfl rfl rfl rfl rfl rfl ⟨rfl, rfl, rfl, rfl, rfl⟩ rfl rfl rfl rfl rfl (by kernel_rfl) Try.func6 (by kernel_rfl)
    (of_decide_eq_true (by kernel_rfl)) (by unfold Func.isWrapper; rw [if_neg (by decide +kernel)]; exact ⟨rfl, rfl⟩)
    (fun os started H enc _ => expr_lifted os started H enc)
end Go.Proofs.Ytnhmhmjgeffboaa
