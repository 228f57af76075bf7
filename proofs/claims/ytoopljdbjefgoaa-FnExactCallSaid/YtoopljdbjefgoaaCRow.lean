/- The row of FnExactCall: its arguments read, the law's answer, the statement. -/
import Derived.Test.YtoopljdbjefgoaaCLCall
import Derived.Test.YtoopljdbjefgoaaCS2b
import Derived.Test.YtoopljdbjefgoaaCAmD
import Derived.ProofKit
set_option linter.unusedVariables false
set_option linter.unusedSimpArgs false
namespace Go.Am.Try
open Go.Am Go.Proofs

theorem rd_arg {τ : Type} {t : TypeId} {i : TI} {e : τ → List C} {md : τ → Prop} (R : Rd tblT t e md) (hi : tblT t = some i) {a : V} (h : ArgOf tblT t a) : ∃ x, md x ∧ a = .val i.agg (e x) := by
  obtain ⟨j, cs, hj, rfl, hw⟩ := h
  rw [hi] at hj
  injection hj with hj
  subst hj
  obtain ⟨x, rfl, hx⟩ := R cs hw
  exact ⟨x, hx, rfl⟩
theorem MdVs_of {l : List GValue} (h : ∀ v ∈ l, MdV v) : MdVs l := by
  induction l with
  | nil => simp only [MdVs]
  | cons v l ih => simp only [MdVs]; exact ⟨h v (by simp), ih fun x hx => h x (by simp [hx])⟩
theorem rd_texts23 : Rd tblT 23 (e_sl (e_sl e_u8)) MdB :=
  rd_mono (rd_sl (i := ⟨.slice 22, false, 1, 24, [.nils]⟩) rfl rfl (rd_sl (i := ⟨.slice 5, false, 1, 24, [.nils]⟩) rfl rfl (rd_u8 (i := ⟨.int .u8, false, 1, 1, [.int .u8 0]⟩) rfl rfl))) fun _ h => ⟨h.1, fun b hb => (h.2 b hb).1⟩
theorem rd_GValue26 : Rd tblT 26 e_GValue MdV := by
  intro cs
  generalize hn : SizeOf.sizeOf cs + 1 = n
  have hlt : SizeOf.sizeOf cs < n := by omega
  clear hn
  induction n generalizing cs with
  | zero => omega
  | succ n ih =>
    intro hw
    obtain ⟨css, rfl, hc⟩ := hw.struct_inv (i := ⟨.struct [(0, 3), (1, 3), (2, 22), (3, 23), (4, 24)], true, 5, 88, [.int .i64 0, .int .i64 0, .nils, .nils, .nils]⟩) rfl rfl
    obtain ⟨c1, _, rfl, h1, hc⟩ := all2_cons hc
    obtain ⟨c2, _, rfl, h2, hc⟩ := all2_cons hc
    obtain ⟨c3, _, rfl, h3, hc⟩ := all2_cons hc
    obtain ⟨c4, _, rfl, h4, hc⟩ := all2_cons hc
    obtain ⟨c5, _, rfl, h5, hc⟩ := all2_cons hc
    obtain rfl := all2_nil hc
    obtain ⟨x1, rfl, -⟩ := (rd_int (i := ⟨.int .i64, false, 1, 8, [.int .i64 0]⟩) rfl rfl) c1 h1
    obtain ⟨x2, rfl, -⟩ := (rd_int (i := ⟨.int .i64, false, 1, 8, [.int .i64 0]⟩) rfl rfl) c2 h2
    obtain ⟨x3, rfl, m3⟩ := (rd_sl (i := ⟨.slice 5, false, 1, 24, [.nils]⟩) rfl rfl (rd_u8 (i := ⟨.int .u8, false, 1, 1, [.int .u8 0]⟩) rfl rfl)) c3 h3
    obtain ⟨x4, rfl, m4⟩ := rd_texts23 c4 h4
    obtain ⟨l, rfl, hl, hs⟩ := h5.slice_inv (i := ⟨.slice 26, false, 1, 24, [.nils]⟩) rfl rfl
    obtain ⟨x5, rfl, m5⟩ := rd_list fun x hx => ih x (by have := seq_lt (cs := List.flatten [e_int x1, e_int x2, (e_sl e_u8) x3, (e_sl (e_sl e_u8)) x4, [C.seq l]]) hx (by simp); omega) (hs x hx)
    refine ⟨.mk x1 x2 x3 x4 x5, ?_, ?_⟩
    · rw [eq_GValue]; rfl
    · rw [eL_len] at hl
      rw [MdV_eq]
      exact ⟨m3.1, m4, hl, MdVs_of m5⟩
theorem rd_list24 : Rd tblT 24 (e_sl e_GValue) (fun l => l.length ≤ 2 ^ 63 - 1 ∧ MdVs l) :=
  rd_mono (rd_sl (i := ⟨.slice 26, false, 1, 24, [.nils]⟩) rfl rfl rd_GValue26) fun _ h => ⟨h.1, MdVs_of h.2⟩
end Go.Am.Try

namespace Go.Proofs.Ytoopljdbjefgoaa
open Go.ChangeShapes Go.WideShapes Go.ChangeAt Go.RowKit Go.Am

theorem Try.own : ownKnob Try.prog.godebug = none := by kernel_rfl
theorem Try.laidOut : laidOutB Try.prog = true := by kernel_rfl

set_option maxRecDepth 100000 in
theorem call_any {H : Type} {enc : TypeId × Value → H} {W : World} {base : Nat} {args : Array Value} {ds : List (DataW H)} {ps : List MemPlace}
    (hv : ∀ (j : Nat) t v, Try.f5.params[j]? = some t → args[j]? = some v → Value.okWide Try.prog W .any base t v)
    (hA : DataW.TrodAll enc Try.prog W 0 (fun _ => true) true Try.f5.params.toList args.toList ds ps) :
    Calls Try.prog 5 args W fun e W' => e = .returned (.bool true) ∧ Below W.heap.size W W' :=
  law_calls (cfg := Am.Try.cfg) Am.Try.tblGood Am.Try.fnsGood Am.Try.xGood Am.Try.mixOk (S := [22, 5, 24, 26, 3, 23]) (List.all_eq_true.1 (by kernel_rfl)) Try.func5 (by kernel_rfl) (by kernel_rfl) (by rw [Try.params5]; intro t ht; simp at ht; rcases ht with rfl | rfl <;> simp) hv hA fun xs h => by
    rw [Try.params5] at h
    obtain ⟨a0, xs, rfl, ha0, h⟩ := all2_cons h
    obtain ⟨a1, xs, rfl, ha1, h⟩ := all2_cons h
    obtain rfl := all2_nil h
    obtain ⟨x0, hx0, rfl⟩ := Am.Try.rd_arg (i := ⟨.slice 5, false, 1, 24, [.nils]⟩) (rd_sl (i := ⟨.slice 5, false, 1, 24, [.nils]⟩) rfl rfl (rd_u8 (i := ⟨.int .u8, false, 1, 1, [.int .u8 0]⟩) rfl rfl)) rfl ha0
    obtain ⟨x1, hx1, rfl⟩ := Am.Try.rd_arg (i := ⟨.slice 26, false, 1, 24, [.nils]⟩) Am.Try.rd_list24 rfl ha1
    exact Am.Try.ok_laws_FnExactCall x0 x1 true (Am.Try.law_Call (hx0.1) hx1)

set_option maxRecDepth 100000 in
theorem call_lifted (os : Os) (started : os.Started) (H : Type) (enc : TypeId × Value → H) :
    ReturnsInHanded {} Try.checked os 5 .any (Rows.fnExactCallSpec.pre6 enc Try.prog Try.f5 Rows.fnExactCallRow.domain false) (Rows.fnExactCallSpec.post enc Try.prog Try.f5 false true false false) := by
  refine returnsInHanded_of_change (C := Try.checked) Try.own started (by kernel_rfl) Try.func5
    (ChangeSpec.witness6 (enc := enc) (C := Try.checked) false ⟨#[], #[.slice none 0 0, .slice none 0 0], []⟩ 8 (by kernel_rfl) (by kernel_rfl) (by kernel_rfl) (by kernel_rfl)) ?_
  intro W base args ds gs before hval0 hW hcnd _
  have hW' := hW
  obtain ⟨p, q, hA, hV, rfl, hfz, hnd⟩ := hW
  obtain ⟨rfl, _⟩ := trodVars_none hV
  have hds : ∃ d0 d1, ds = [d0, d1] := by
    have hA0 := hA
    rw [Try.params5] at hA0
    obtain ⟨v0, vs0, d0, ds0, p0, q0, _, rfl, _, _, hA1⟩ := trodAll_cons hA0
    obtain ⟨v1, vs1, d1, ds1, p1, q1, _, rfl, _, _, hA2⟩ := trodAll_cons hA1
    obtain ⟨_, rfl, _⟩ := trodAll_nil hA2
    exact ⟨d0, d1, rfl⟩
  obtain ⟨d0, d1, rfl⟩ := hds
  exact (call_any hval0 hA).mono fun e W' ⟨he, hb⟩ => ⟨_, he,
    law_post (tb := 4) Try.laidOut rfl (by kernel_rfl) (by kernel_rfl) (by rw [Try.params5]; intro t ht; simp at ht; rcases ht with rfl | rfl <;> exact ⟨by kernel_rfl, by decide +kernel⟩) hW' rfl hb⟩

theorem call_holds : Rows.FnExactCallSaid :=
  OpenClaim.holds_of_wide 5 Try.f5 rfl rfl rfl rfl rfl rfl rfl ⟨rfl, rfl, rfl, rfl, rfl⟩ rfl rfl rfl rfl rfl (by kernel_rfl) Try.func5 (by kernel_rfl)
    (of_decide_eq_true (by kernel_rfl)) (by unfold Func.isWrapper; rw [if_neg (by decide +kernel)]; exact ⟨rfl, rfl⟩)
    (fun os started H enc _ => call_lifted os started H enc)
end Go.Proofs.Ytoopljdbjefgoaa
