/- The functions of the program in plain Lean, and that the machine answers as they do; conditions at each theorem. -/
import Derived.Test.YtoopljdbjefgoaaEG5
set_option linter.unusedVariables false
set_option linter.unusedSimpArgs false
namespace Go.Am.Try
open Go.Am Go.Proofs
set_option linter.unusedVariables false
set_option maxRecDepth 20000
set_option maxHeartbeats 2000000
noncomputable section
def L_laws_markExprS_l0 (G_laws_markExprS : Int → (List GExpr) → Option (Int × (List GExpr))) : Nat → Int → Int → (List GExpr) → Option (Int × Int × (List GExpr))
  | 0, _, _, _ => none
  | m + 1, a0, v1, e0 =>
    if v1 < ((e0.length : Nat) : Int) then
      (natO v1).bind fun i2 =>
      (e0[i2]?).bind fun x3 =>
      ((e0.set i2 (GExpr.mk a0 x3.N x3.S x3.K x3.Kids))[i2]?).bind fun x4 =>
      (((e0.set i2 (GExpr.mk a0 x3.N x3.S x3.K x3.Kids)).set i2 (GExpr.mk x4.Kind (w64 (a0 + 1)) x4.S x4.K x4.Kids))[i2]?).bind fun x5 =>
      (S_laws_markByteS (w64 ((w64 (a0 + 1)) + 1)) x5.S).bind fun ⟨r6_0, r6_1⟩ =>
      ((((e0.set i2 (GExpr.mk a0 x3.N x3.S x3.K x3.Kids)).set i2 (GExpr.mk x4.Kind (w64 (a0 + 1)) x4.S x4.K x4.Kids)).set i2 (GExpr.mk x5.Kind x5.N r6_1 x5.K x5.Kids))[i2]?).bind fun x7 =>
      (S_laws_markByteSS r6_0 x7.K).bind fun ⟨r8_0, r8_1⟩ =>
      (((((e0.set i2 (GExpr.mk a0 x3.N x3.S x3.K x3.Kids)).set i2 (GExpr.mk x4.Kind (w64 (a0 + 1)) x4.S x4.K x4.Kids)).set i2 (GExpr.mk x5.Kind x5.N r6_1 x5.K x5.Kids)).set i2 (GExpr.mk x7.Kind x7.N x7.S r8_1 x7.Kids))[i2]?).bind fun x9 =>
      (G_laws_markExprS r8_0 x9.Kids).bind fun ⟨r10_0, r10_1⟩ =>
      L_laws_markExprS_l0 G_laws_markExprS m r10_0 (w64 (v1 + 1)) (((((e0.set i2 (GExpr.mk a0 x3.N x3.S x3.K x3.Kids)).set i2 (GExpr.mk x4.Kind (w64 (a0 + 1)) x4.S x4.K x4.Kids)).set i2 (GExpr.mk x5.Kind x5.N r6_1 x5.K x5.Kids)).set i2 (GExpr.mk x7.Kind x7.N x7.S r8_1 x7.Kids)).set i2 (GExpr.mk x9.Kind x9.N x9.S x9.K r10_1))
    else
      some (a0, v1, e0)

theorem gl_laws_markExprS_l0 (G_laws_markExprS : Int → (List GExpr) → Option (Int × (List GExpr))) (H_laws_markExprS : ∀ (a0 : Int) (e0 : (List GExpr)) (r : (Int × (List GExpr))), G_laws_markExprS a0 e0 = some r → (mach cfg).call 48 [.obj 5 (eL o_GExpr e0)] [.val false [.ref 0], .val false [.int .i64 a0]] = some (.val false [.int .i64 r.1], [.obj 5 (eL o_GExpr r.2)])) (m : Nat) : ∀ (a0 : Int) (v1 : Int) (e0 : (List GExpr)) (o : (Int × Int × (List GExpr))), L_laws_markExprS_l0 G_laws_markExprS m a0 v1 e0 = some o → (mach cfg).loop 48 (loopB Try.f48 0) ⟨[(0, .val false [.ref 0]), (1, .val false [.int .i64 a0]), (5, .val false [.int .i64 v1])], [.obj 5 (eL o_GExpr e0)], 1⟩ = some (match o with | ⟨o_0, o_1, o_2⟩ => (.exit 0, (⟨[(0, .val false [.ref 0]), (1, .val false [.int .i64 o_0]), (5, .val false [.int .i64 o_1]), (9, .val false [.bool false])], [.obj 5 (eL o_GExpr o_2)], 1⟩ : S))) := by
  induction m with
  | zero => intro a0 v1 e0 o h; cases h
  | succ m ih =>
    intro a0 v1 e0 o h
    rw [L_laws_markExprS_l0] at h
    by_cases c1 : v1 < ((e0.length : Nat) : Int)
    · rw [if_pos c1] at h
      obtain ⟨i2, hi2, h⟩ := Option.bind_eq_some_iff.1 h
      obtain ⟨x3, hx3, h⟩ := Option.bind_eq_some_iff.1 h
      obtain ⟨x4, hx4, h⟩ := Option.bind_eq_some_iff.1 h
      obtain ⟨x5, hx5, h⟩ := Option.bind_eq_some_iff.1 h
      obtain ⟨⟨r6_0, r6_1⟩, hr6, h⟩ := Option.bind_eq_some_iff.1 h
      try dsimp only at h
      obtain ⟨x7, hx7, h⟩ := Option.bind_eq_some_iff.1 h
      obtain ⟨⟨r8_0, r8_1⟩, hr8, h⟩ := Option.bind_eq_some_iff.1 h
      try dsimp only at h
      obtain ⟨x9, hx9, h⟩ := Option.bind_eq_some_iff.1 h
      obtain ⟨⟨r10_0, r10_1⟩, hr10, h⟩ := Option.bind_eq_some_iff.1 h
      try dsimp only at h
      exact loop_on cfg [(.len (eL o_GExpr e0), .i ((e0.length : Nat) : Int)), (.ltI v1 ((e0.length : Nat) : Int), .b true), (.nat v1, .n i2), (.idx (eL o_GExpr e0) i2, .e [.int .i64 x3.Kind, .int .i64 x3.N, .own 1 (eL e_u8 x3.S), .own 1 (eL (o_sl 1 e_u8) x3.K), .own 5 (eL o_GExpr x3.Kids)]), (.idx (eL o_GExpr e0) i2, .e [.int .i64 x3.Kind, .int .i64 x3.N, .own 1 (eL e_u8 x3.S), .own 1 (eL (o_sl 1 e_u8) x3.K), .own 5 (eL o_GExpr x3.Kids)]), (.setL (eL o_GExpr e0) i2 [.int .i64 a0, .int .i64 x3.N, .own 1 (eL e_u8 x3.S), .own 1 (eL (o_sl 1 e_u8) x3.K), .own 5 (eL o_GExpr x3.Kids)], .l (eL o_GExpr (e0.set i2 (GExpr.mk a0 x3.N x3.S x3.K x3.Kids)))), (.add .i64 a0 1, .i (w64 (a0 + 1))), (.nat v1, .n i2), (.idx (eL o_GExpr (e0.set i2 (GExpr.mk a0 x3.N x3.S x3.K x3.Kids))) i2, .e [.int .i64 x4.Kind, .int .i64 x4.N, .own 1 (eL e_u8 x4.S), .own 1 (eL (o_sl 1 e_u8) x4.K), .own 5 (eL o_GExpr x4.Kids)]), (.idx (eL o_GExpr (e0.set i2 (GExpr.mk a0 x3.N x3.S x3.K x3.Kids))) i2, .e [.int .i64 x4.Kind, .int .i64 x4.N, .own 1 (eL e_u8 x4.S), .own 1 (eL (o_sl 1 e_u8) x4.K), .own 5 (eL o_GExpr x4.Kids)]), (.setL (eL o_GExpr (e0.set i2 (GExpr.mk a0 x3.N x3.S x3.K x3.Kids))) i2 [.int .i64 x4.Kind, .int .i64 (w64 (a0 + 1)), .own 1 (eL e_u8 x4.S), .own 1 (eL (o_sl 1 e_u8) x4.K), .own 5 (eL o_GExpr x4.Kids)], .l (eL o_GExpr ((e0.set i2 (GExpr.mk a0 x3.N x3.S x3.K x3.Kids)).set i2 (GExpr.mk x4.Kind (w64 (a0 + 1)) x4.S x4.K x4.Kids)))), (.add .i64 (w64 (a0 + 1)) 1, .i (w64 ((w64 (a0 + 1)) + 1))), (.nat v1, .n i2), (.idx (eL o_GExpr ((e0.set i2 (GExpr.mk a0 x3.N x3.S x3.K x3.Kids)).set i2 (GExpr.mk x4.Kind (w64 (a0 + 1)) x4.S x4.K x4.Kids))) i2, .e [.int .i64 x5.Kind, .int .i64 x5.N, .own 1 (eL e_u8 x5.S), .own 1 (eL (o_sl 1 e_u8) x5.K), .own 5 (eL o_GExpr x5.Kids)]), (.idx (eL o_GExpr ((e0.set i2 (GExpr.mk a0 x3.N x3.S x3.K x3.Kids)).set i2 (GExpr.mk x4.Kind (w64 (a0 + 1)) x4.S x4.K x4.Kids))) i2, .e [.int .i64 x5.Kind, .int .i64 x5.N, .own 1 (eL e_u8 x5.S), .own 1 (eL (o_sl 1 e_u8) x5.K), .own 5 (eL o_GExpr x5.Kids)]), (.call 22 [.obj 1 (eL e_u8 x5.S)] [.val false [.ref 0], .val false [.int .i64 (w64 ((w64 (a0 + 1)) + 1))]], .r (.val false [.int .i64 r6_0]) [.obj 1 (eL e_u8 r6_1)]), (.idx (eL o_GExpr ((e0.set i2 (GExpr.mk a0 x3.N x3.S x3.K x3.Kids)).set i2 (GExpr.mk x4.Kind (w64 (a0 + 1)) x4.S x4.K x4.Kids))) i2, .e [.int .i64 x5.Kind, .int .i64 x5.N, .own 1 (eL e_u8 x5.S), .own 1 (eL (o_sl 1 e_u8) x5.K), .own 5 (eL o_GExpr x5.Kids)]), (.setL (eL o_GExpr ((e0.set i2 (GExpr.mk a0 x3.N x3.S x3.K x3.Kids)).set i2 (GExpr.mk x4.Kind (w64 (a0 + 1)) x4.S x4.K x4.Kids))) i2 [.int .i64 x5.Kind, .int .i64 x5.N, .own 1 (eL e_u8 r6_1), .own 1 (eL (o_sl 1 e_u8) x5.K), .own 5 (eL o_GExpr x5.Kids)], .l (eL o_GExpr (((e0.set i2 (GExpr.mk a0 x3.N x3.S x3.K x3.Kids)).set i2 (GExpr.mk x4.Kind (w64 (a0 + 1)) x4.S x4.K x4.Kids)).set i2 (GExpr.mk x5.Kind x5.N r6_1 x5.K x5.Kids)))), (.nat v1, .n i2), (.idx (eL o_GExpr (((e0.set i2 (GExpr.mk a0 x3.N x3.S x3.K x3.Kids)).set i2 (GExpr.mk x4.Kind (w64 (a0 + 1)) x4.S x4.K x4.Kids)).set i2 (GExpr.mk x5.Kind x5.N r6_1 x5.K x5.Kids))) i2, .e [.int .i64 x7.Kind, .int .i64 x7.N, .own 1 (eL e_u8 x7.S), .own 1 (eL (o_sl 1 e_u8) x7.K), .own 5 (eL o_GExpr x7.Kids)]), (.idx (eL o_GExpr (((e0.set i2 (GExpr.mk a0 x3.N x3.S x3.K x3.Kids)).set i2 (GExpr.mk x4.Kind (w64 (a0 + 1)) x4.S x4.K x4.Kids)).set i2 (GExpr.mk x5.Kind x5.N r6_1 x5.K x5.Kids))) i2, .e [.int .i64 x7.Kind, .int .i64 x7.N, .own 1 (eL e_u8 x7.S), .own 1 (eL (o_sl 1 e_u8) x7.K), .own 5 (eL o_GExpr x7.Kids)]), (.call 47 [.obj 1 (eL (o_sl 1 e_u8) x7.K)] [.val false [.ref 0], .val false [.int .i64 r6_0]], .r (.val false [.int .i64 r8_0]) [.obj 1 (eL (o_sl 1 e_u8) r8_1)]), (.idx (eL o_GExpr (((e0.set i2 (GExpr.mk a0 x3.N x3.S x3.K x3.Kids)).set i2 (GExpr.mk x4.Kind (w64 (a0 + 1)) x4.S x4.K x4.Kids)).set i2 (GExpr.mk x5.Kind x5.N r6_1 x5.K x5.Kids))) i2, .e [.int .i64 x7.Kind, .int .i64 x7.N, .own 1 (eL e_u8 x7.S), .own 1 (eL (o_sl 1 e_u8) x7.K), .own 5 (eL o_GExpr x7.Kids)]), (.setL (eL o_GExpr (((e0.set i2 (GExpr.mk a0 x3.N x3.S x3.K x3.Kids)).set i2 (GExpr.mk x4.Kind (w64 (a0 + 1)) x4.S x4.K x4.Kids)).set i2 (GExpr.mk x5.Kind x5.N r6_1 x5.K x5.Kids))) i2 [.int .i64 x7.Kind, .int .i64 x7.N, .own 1 (eL e_u8 x7.S), .own 1 (eL (o_sl 1 e_u8) r8_1), .own 5 (eL o_GExpr x7.Kids)], .l (eL o_GExpr ((((e0.set i2 (GExpr.mk a0 x3.N x3.S x3.K x3.Kids)).set i2 (GExpr.mk x4.Kind (w64 (a0 + 1)) x4.S x4.K x4.Kids)).set i2 (GExpr.mk x5.Kind x5.N r6_1 x5.K x5.Kids)).set i2 (GExpr.mk x7.Kind x7.N x7.S r8_1 x7.Kids)))), (.nat v1, .n i2), (.idx (eL o_GExpr ((((e0.set i2 (GExpr.mk a0 x3.N x3.S x3.K x3.Kids)).set i2 (GExpr.mk x4.Kind (w64 (a0 + 1)) x4.S x4.K x4.Kids)).set i2 (GExpr.mk x5.Kind x5.N r6_1 x5.K x5.Kids)).set i2 (GExpr.mk x7.Kind x7.N x7.S r8_1 x7.Kids))) i2, .e [.int .i64 x9.Kind, .int .i64 x9.N, .own 1 (eL e_u8 x9.S), .own 1 (eL (o_sl 1 e_u8) x9.K), .own 5 (eL o_GExpr x9.Kids)]), (.idx (eL o_GExpr ((((e0.set i2 (GExpr.mk a0 x3.N x3.S x3.K x3.Kids)).set i2 (GExpr.mk x4.Kind (w64 (a0 + 1)) x4.S x4.K x4.Kids)).set i2 (GExpr.mk x5.Kind x5.N r6_1 x5.K x5.Kids)).set i2 (GExpr.mk x7.Kind x7.N x7.S r8_1 x7.Kids))) i2, .e [.int .i64 x9.Kind, .int .i64 x9.N, .own 1 (eL e_u8 x9.S), .own 1 (eL (o_sl 1 e_u8) x9.K), .own 5 (eL o_GExpr x9.Kids)]), (.call 48 [.obj 5 (eL o_GExpr x9.Kids)] [.val false [.ref 0], .val false [.int .i64 r8_0]], .r (.val false [.int .i64 r10_0]) [.obj 5 (eL o_GExpr r10_1)]), (.idx (eL o_GExpr ((((e0.set i2 (GExpr.mk a0 x3.N x3.S x3.K x3.Kids)).set i2 (GExpr.mk x4.Kind (w64 (a0 + 1)) x4.S x4.K x4.Kids)).set i2 (GExpr.mk x5.Kind x5.N r6_1 x5.K x5.Kids)).set i2 (GExpr.mk x7.Kind x7.N x7.S r8_1 x7.Kids))) i2, .e [.int .i64 x9.Kind, .int .i64 x9.N, .own 1 (eL e_u8 x9.S), .own 1 (eL (o_sl 1 e_u8) x9.K), .own 5 (eL o_GExpr x9.Kids)]), (.setL (eL o_GExpr ((((e0.set i2 (GExpr.mk a0 x3.N x3.S x3.K x3.Kids)).set i2 (GExpr.mk x4.Kind (w64 (a0 + 1)) x4.S x4.K x4.Kids)).set i2 (GExpr.mk x5.Kind x5.N r6_1 x5.K x5.Kids)).set i2 (GExpr.mk x7.Kind x7.N x7.S r8_1 x7.Kids))) i2 [.int .i64 x9.Kind, .int .i64 x9.N, .own 1 (eL e_u8 x9.S), .own 1 (eL (o_sl 1 e_u8) x9.K), .own 5 (eL o_GExpr r10_1)], .l (eL o_GExpr (((((e0.set i2 (GExpr.mk a0 x3.N x3.S x3.K x3.Kids)).set i2 (GExpr.mk x4.Kind (w64 (a0 + 1)) x4.S x4.K x4.Kids)).set i2 (GExpr.mk x5.Kind x5.N r6_1 x5.K x5.Kids)).set i2 (GExpr.mk x7.Kind x7.N x7.S r8_1 x7.Kids)).set i2 (GExpr.mk x9.Kind x9.N x9.S x9.K r10_1)))), (.add .i64 v1 1, .i (w64 (v1 + 1)))] (by kernel_rfl) ⟨A.len, (A.ltI_t c1), (A.nat hi2), (A.idx hx3 (oeq_GExpr x3)), (A.idx hx3 (oeq_GExpr x3)), (A.setL (oeq_GExpr (GExpr.mk a0 x3.N x3.S x3.K x3.Kids))), rfl, (A.nat hi2), (A.idx hx4 (oeq_GExpr x4)), (A.idx hx4 (oeq_GExpr x4)), (A.setL (oeq_GExpr (GExpr.mk x4.Kind (w64 (a0 + 1)) x4.S x4.K x4.Kids))), rfl, (A.nat hi2), (A.idx hx5 (oeq_GExpr x5)), (A.idx hx5 (oeq_GExpr x5)), (A.call (ok_laws_markByteS (w64 ((w64 (a0 + 1)) + 1)) x5.S _ hr6)), (A.idx hx5 (oeq_GExpr x5)), (A.setL (oeq_GExpr (GExpr.mk x5.Kind x5.N r6_1 x5.K x5.Kids))), (A.nat hi2), (A.idx hx7 (oeq_GExpr x7)), (A.idx hx7 (oeq_GExpr x7)), (A.call (ok_laws_markByteSS r6_0 x7.K _ hr8)), (A.idx hx7 (oeq_GExpr x7)), (A.setL (oeq_GExpr (GExpr.mk x7.Kind x7.N x7.S r8_1 x7.Kids))), (A.nat hi2), (A.idx hx9 (oeq_GExpr x9)), (A.idx hx9 (oeq_GExpr x9)), (A.call (H_laws_markExprS r8_0 x9.Kids _ hr10)), (A.idx hx9 (oeq_GExpr x9)), (A.setL (oeq_GExpr (GExpr.mk x9.Kind x9.N x9.S x9.K r10_1))), rfl, trivial⟩ (ih r10_0 (w64 (v1 + 1)) (((((e0.set i2 (GExpr.mk a0 x3.N x3.S x3.K x3.Kids)).set i2 (GExpr.mk x4.Kind (w64 (a0 + 1)) x4.S x4.K x4.Kids)).set i2 (GExpr.mk x5.Kind x5.N r6_1 x5.K x5.Kids)).set i2 (GExpr.mk x7.Kind x7.N x7.S r8_1 x7.Kids)).set i2 (GExpr.mk x9.Kind x9.N x9.S x9.K r10_1)) o h)
    · rw [if_neg c1] at h
      obtain rfl := Option.some.inj h
      exact loop_end cfg [(.len (eL o_GExpr e0), .i ((e0.length : Nat) : Int)), (.ltI v1 ((e0.length : Nat) : Int), .b false)] (by kernel_rfl) ⟨A.len, (A.ltI_f c1), trivial⟩ (by intro h; cases h)

def T_laws_markExprS (G_laws_markExprS : Int → (List GExpr) → Option (Int × (List GExpr))) (n : Nat) (a0 : Int) (e0 : (List GExpr)) : Option (Int × (List GExpr)) :=
  (L_laws_markExprS_l0 G_laws_markExprS n a0 0 e0).bind fun ⟨o1_0, o1_1, o1_2⟩ =>
  some (o1_0, o1_2)

set_option maxRecDepth 100000 in
theorem fd_48 : cfg.funcs 48 = some (bodyOf Try.f48, Try.f48.ntmps, Try.f48.results.toList) := fn_of Try.func48 (by kernel_rfl) (by kernel_rfl)
theorem g_laws_markExprS (G_laws_markExprS : Int → (List GExpr) → Option (Int × (List GExpr))) (H_laws_markExprS : ∀ (a0 : Int) (e0 : (List GExpr)) (r : (Int × (List GExpr))), G_laws_markExprS a0 e0 = some r → (mach cfg).call 48 [.obj 5 (eL o_GExpr e0)] [.val false [.ref 0], .val false [.int .i64 a0]] = some (.val false [.int .i64 r.1], [.obj 5 (eL o_GExpr r.2)])) (n : Nat) (a0 : Int) (e0 : (List GExpr)) (r : (Int × (List GExpr))) (h : T_laws_markExprS G_laws_markExprS n a0 e0 = some r) : (mach cfg).call 48 [.obj 5 (eL o_GExpr e0)] [.val false [.ref 0], .val false [.int .i64 a0]] = some (.val false [.int .i64 r.1], [.obj 5 (eL o_GExpr r.2)]) := by
  unfold T_laws_markExprS at h
  obtain ⟨⟨o1_0, o1_1, o1_2⟩, ho1, h⟩ := Option.bind_eq_some_iff.1 h
  try dsimp only at h
  obtain rfl := Option.some.inj h
  exact call_way cfg [(.loop 48 (loopB Try.f48 0) ⟨[(0, .val false [.ref 0]), (1, .val false [.int .i64 a0]), (5, .val false [.int .i64 0])], [.obj 5 (eL o_GExpr e0)], 1⟩, .x (.exit 0) ⟨[(0, .val false [.ref 0]), (1, .val false [.int .i64 o1_0]), (5, .val false [.int .i64 o1_1]), (9, .val false [.bool false])], [.obj 5 (eL o_GExpr o1_2)], 1⟩)] rfl fd_48 (by kernel_rfl) ⟨(A.loop (gl_laws_markExprS_l0 G_laws_markExprS H_laws_markExprS _ a0 0 e0 _ ho1)), trivial⟩

def U_laws_markExprS : Nat → Int → (List GExpr) → Option (Int × (List GExpr))
  | 0, _, _ => none
  | n + 1, a0, e0 => T_laws_markExprS (U_laws_markExprS n) n a0 e0
theorem rec_laws_markExprS (n : Nat) : (∀ (a0 : Int) (e0 : (List GExpr)) (r : (Int × (List GExpr))), U_laws_markExprS n a0 e0 = some r → (mach cfg).call 48 [.obj 5 (eL o_GExpr e0)] [.val false [.ref 0], .val false [.int .i64 a0]] = some (.val false [.int .i64 r.1], [.obj 5 (eL o_GExpr r.2)])) := by
  induction n with
  | zero => exact fun _ _ _ h => (by rw [U_laws_markExprS] at h; cases h)
  | succ n ih =>
    have ih_laws_markExprS := ih
    exact fun a0 e0 r h => g_laws_markExprS (U_laws_markExprS n) ih_laws_markExprS n a0 e0 r (by rw [U_laws_markExprS] at h; exact h)
theorem markExprS_loop {G : Int → List GExpr → Option (Int × List GExpr)} : ∀ (l p : List GExpr) (k : Int) (m : Nat), (∀ v ∈ l, ∀ i : Int, 0 ≤ i → i + 2 * xszs v.Kids ≤ 2 ^ 41 → G i v.Kids = some (i + cXs v.Kids, mXs i v.Kids)) → 0 ≤ k → k + 2 * xszs l ≤ 2 ^ 41 → p.length + l.length ≤ 2 ^ 41 → l.length < m → ∃ z, L_laws_markExprS_l0 G m k ((p.length : Nat) : Int) (p ++ l) = some (k + cXs l, z, p ++ mXs k l) := by
  intro l
  induction l with
  | nil =>
    intro p k m _ _ _ _ hm
    obtain ⟨m, rfl, _⟩ := fuel hm
    exact ⟨_, by rw [L_laws_markExprS_l0, if_neg (nlt_end p)]; simp [mXs, cXs]; rfl⟩
  | cons x l ih =>
    intro p k m hG h0 h1 h2 hm
    obtain ⟨m, rfl, hm'⟩ := fuel hm
    simp only [List.length_cons] at h2 hm'
    have hx := hG x List.mem_cons_self
    have hc := cX_le x
    obtain ⟨kd, n, s, kk, ks⟩ := x
    have hb := bsz_cB kk
    have hd := cXs_le ks
    simp only [xszs, xsz] at h1
    simp only [cX, xsz] at hc
    simp only [GExpr.Kids] at hx
    obtain ⟨z, hz⟩ := ih (p ++ [mX k (.mk kd n s kk ks)]) (k + cX (.mk kd n s kk ks)) m (fun v hv => hG v (List.mem_cons_of_mem _ hv)) (by omega) (by simp only [cX]; omega) (by simp; omega) (by omega)
    rw [L_laws_markExprS_l0, if_pos (lt_mid p _ l), natO_nat, Option.bind_some, get_mid, Option.bind_some]
    simp only [set_mid, get_mid, Option.bind_some, GExpr.Kind, GExpr.N, GExpr.S, GExpr.K, GExpr.Kids]
    rw [w64_id (x := k + 1) (by omega) (by omega), w64_id (x := k + 1 + 1) (by omega) (by omega), markByteS_eq (by omega) (by omega)]
    simp only [Option.bind_some, set_mid, get_mid, GExpr.Kind, GExpr.N, GExpr.S, GExpr.K, GExpr.Kids]
    rw [markByteSS_eq (by omega) (by omega)]
    simp only [Option.bind_some, set_mid, get_mid, GExpr.Kind, GExpr.N, GExpr.S, GExpr.K, GExpr.Kids]
    rw [hx _ (by omega) (by omega)]
    simp only [Option.bind_some, set_mid, get_mid, GExpr.Kind, GExpr.N, GExpr.S, GExpr.K, GExpr.Kids]
    refine ⟨z, ?_⟩
    rw [w64_len p (mX k (.mk kd n s kk ks)) (by omega), show GExpr.mk k (k + 1) (mB (k + 1 + 1) s) (mBB (k + 1 + 1 + s.length) kk) (mXs (k + 1 + 1 + s.length + cB kk) ks) = mX k (.mk kd n s kk ks) by simp only [mX], snoc_app p _ l,
      show k + 1 + 1 + (s.length : Int) + (cB kk : Int) + (cXs ks : Int) = k + ((cX (.mk kd n s kk ks) : Nat) : Int) by simp only [cX]; omega, hz]
    simp only [mXs, cXs, List.append_assoc, List.singleton_append]
    rw [show k + ((cX (.mk kd n s kk ks) : Nat) : Int) + (cXs l : Int) = k + ((cX (.mk kd n s kk ks) + cXs l : Nat) : Int) by omega]
theorem markExprS_U : ∀ (N : Nat) (l : List GExpr), xszs l < N → ∀ (k : Int) (f : Nat), 0 ≤ k → k + 2 * xszs l ≤ 2 ^ 41 → xszs l + 2 ≤ f → U_laws_markExprS f k l = some (k + cXs l, mXs k l) := by
  intro N
  induction N with
  | zero => intro l hl; omega
  | succ N ih =>
    intro l hl k f h0 h1 hf
    obtain ⟨f, rfl, _⟩ := fuel (show 0 < f by omega)
    have hlen := xszs_len l
    rw [U_laws_markExprS]
    unfold T_laws_markExprS
    obtain ⟨z, hz⟩ := markExprS_loop (G := U_laws_markExprS f) l [] k f (fun v hv i g0 g1 => by
      have := xszs_mem hv
      have := xsz_eq v
      exact ih v.Kids (by omega) i f g0 g1 (by omega)) h0 h1 (by simp; omega) (by omega)
    simp only [List.nil_append, List.length_nil, Int.natCast_zero] at hz
    rw [hz]; rfl
def S_laws_markExprS (a0 : Int) (e0 : (List GExpr)) : Option (Int × (List GExpr)) := if 0 ≤ a0 ∧ a0 + 2 * xszs e0 ≤ 2 ^ 41 then some (a0 + cXs e0, mXs a0 e0) else none
theorem markExprS_eq {a : Int} {s : List GExpr} (h0 : 0 ≤ a) (h1 : a + 2 * xszs s ≤ 2 ^ 41) : S_laws_markExprS a s = some (a + cXs s, mXs a s) := if_pos ⟨h0, h1⟩
theorem spec_laws_markExprS (a0 : Int) (e0 : (List GExpr)) (r : (Int × (List GExpr))) (h : S_laws_markExprS a0 e0 = some r) : ∃ n, U_laws_markExprS n a0 e0 = some r := by
  unfold S_laws_markExprS at h
  obtain ⟨⟨h0, h1⟩, h⟩ := need_c h
  exact ⟨xszs e0 + 2, by rw [markExprS_U _ e0 (Nat.lt_succ_self _) a0 _ h0 h1 (Nat.le_refl _), h]⟩
theorem ok_laws_markExprS (a0 : Int) (e0 : (List GExpr)) (r : (Int × (List GExpr))) (h : S_laws_markExprS a0 e0 = some r) : (mach cfg).call 48 [.obj 5 (eL o_GExpr e0)] [.val false [.ref 0], .val false [.int .i64 a0]] = some (.val false [.int .i64 r.1], [.obj 5 (eL o_GExpr r.2)]) := by
  obtain ⟨n, hn⟩ := spec_laws_markExprS a0 e0 r h
  exact (rec_laws_markExprS n) a0 e0 r hn
def S_laws_markExpr (a0_0 : Int) (a0_1 : Int) (a1 : Int) (e0 : (List UInt8)) (e1 : (List (List UInt8))) (e2 : (List GExpr)) : Option (Int × (List UInt8) × (List (List UInt8)) × (List GExpr)) :=
  (S_laws_markByteS a1 e0).bind fun ⟨r1_0, r1_1⟩ =>
  (S_laws_markByteSS r1_0 e1).bind fun ⟨r2_0, r2_1⟩ =>
  (S_laws_markExprS r2_0 e2).bind fun ⟨r3_0, r3_1⟩ =>
  some (r3_0, r1_1, r2_1, r3_1)

set_option maxRecDepth 100000 in
theorem fd_14 : cfg.funcs 14 = some (bodyOf Try.f14, Try.f14.ntmps, Try.f14.results.toList) := fn_of Try.func14 (by kernel_rfl) (by kernel_rfl)
theorem ok_laws_markExpr (a0_0 : Int) (a0_1 : Int) (a1 : Int) (e0 : (List UInt8)) (e1 : (List (List UInt8))) (e2 : (List GExpr)) (r : (Int × (List UInt8) × (List (List UInt8)) × (List GExpr))) (h : S_laws_markExpr a0_0 a0_1 a1 e0 e1 e2 = some r) : (mach cfg).call 14 [.obj 1 (eL e_u8 e0), .obj 1 (eL (o_sl 1 e_u8) e1), .obj 5 (eL o_GExpr e2)] [.val true [.int .i64 a0_0, .int .i64 a0_1, .ref 0, .ref 1, .ref 2], .val false [.int .i64 a1]] = some (.val false [.int .i64 r.1], [.obj 1 (eL e_u8 r.2.1), .obj 1 (eL (o_sl 1 e_u8) r.2.2.1), .obj 5 (eL o_GExpr r.2.2.2)]) := by
  unfold S_laws_markExpr at h
  obtain ⟨⟨r1_0, r1_1⟩, hr1, h⟩ := Option.bind_eq_some_iff.1 h
  try dsimp only at h
  obtain ⟨⟨r2_0, r2_1⟩, hr2, h⟩ := Option.bind_eq_some_iff.1 h
  try dsimp only at h
  obtain ⟨⟨r3_0, r3_1⟩, hr3, h⟩ := Option.bind_eq_some_iff.1 h
  try dsimp only at h
  obtain rfl := Option.some.inj h
  exact call_way cfg [(.call 22 [.obj 1 (eL e_u8 e0)] [.val false [.ref 0], .val false [.int .i64 a1]], .r (.val false [.int .i64 r1_0]) [.obj 1 (eL e_u8 r1_1)]), (.call 47 [.obj 1 (eL (o_sl 1 e_u8) e1)] [.val false [.ref 0], .val false [.int .i64 r1_0]], .r (.val false [.int .i64 r2_0]) [.obj 1 (eL (o_sl 1 e_u8) r2_1)]), (.call 48 [.obj 5 (eL o_GExpr e2)] [.val false [.ref 0], .val false [.int .i64 r2_0]], .r (.val false [.int .i64 r3_0]) [.obj 5 (eL o_GExpr r3_1)])] rfl fd_14 (by kernel_rfl) ⟨(A.call (ok_laws_markByteS a1 e0 _ hr1)), (A.call (ok_laws_markByteSS r1_0 e1 _ hr2)), (A.call (ok_laws_markExprS r2_0 e2 _ hr3)), trivial⟩

def L_laws_heldByteS_l0 (a0 : (List UInt8)) : Nat → Int → Int → Option (Int ⊕ (Int × Int))
  | 0, _, _ => none
  | m + 1, a1, v2 =>
    if v2 < ((a0.length : Nat) : Int) then
      (natO v2).bind fun i2 =>
      (a0[i2]?).bind fun x3 =>
      if ((x3.toNat : Nat) : Int) = (((b8 a1).toNat : Nat) : Int) then
        L_laws_heldByteS_l0 a0 m (w64 (a1 + 1)) (w64 (v2 + 1))
      else
        some (.inl (-1))
    else
      some (.inr (a1, v2))

theorem gl_laws_heldByteS_l0 (a0 : (List UInt8)) (m : Nat) : ∀ (a1 : Int) (v2 : Int) (o : (Int ⊕ (Int × Int))), L_laws_heldByteS_l0 a0 m a1 v2 = some o → (mach cfg).loop 49 (loopB Try.f49 0) ⟨[(0, .val false [.seq (eL e_u8 a0)]), (1, .val false [.int .i64 a1]), (5, .val false [.int .i64 v2])], [], 0⟩ = some (match o with | .inl o_0 => (.ret, (⟨[(4, .val false [.int .i64 o_0])], [], 0⟩ : S)) | .inr (⟨o_1_0, o_1_1⟩) => (.exit 0, (⟨[(0, .val false [.seq (eL e_u8 a0)]), (1, .val false [.int .i64 o_1_0]), (5, .val false [.int .i64 o_1_1]), (9, .val false [.bool false])], [], 0⟩ : S))) := by
  induction m with
  | zero => intro a1 v2 o h; cases h
  | succ m ih =>
    intro a1 v2 o h
    rw [L_laws_heldByteS_l0] at h
    by_cases c1 : v2 < ((a0.length : Nat) : Int)
    · rw [if_pos c1] at h
      obtain ⟨i2, hi2, h⟩ := Option.bind_eq_some_iff.1 h
      obtain ⟨x3, hx3, h⟩ := Option.bind_eq_some_iff.1 h
      by_cases c4 : ((x3.toNat : Nat) : Int) = (((b8 a1).toNat : Nat) : Int)
      · rw [if_pos c4] at h
        exact loop_on cfg [(.len (eL e_u8 a0), .i ((a0.length : Nat) : Int)), (.ltI v2 ((a0.length : Nat) : Int), .b true), (.nat v2, .n i2), (.idx (eL e_u8 a0) i2, .e [.int .u8 ((x3.toNat : Nat) : Int)]), (.conv .u8 a1, .i (((b8 a1).toNat : Nat) : Int)), (.eqI ((x3.toNat : Nat) : Int) (((b8 a1).toNat : Nat) : Int), .b true), (.notB true, .b false), (.add .i64 a1 1, .i (w64 (a1 + 1))), (.add .i64 v2 1, .i (w64 (v2 + 1)))] (by kernel_rfl) ⟨A.len, (A.ltI_t c1), (A.nat hi2), (A.idx hx3 rfl), A.conv8, (A.eqI_t c4), rfl, rfl, rfl, trivial⟩ (ih (w64 (a1 + 1)) (w64 (v2 + 1)) o h)
      · rw [if_neg c4] at h
        obtain rfl := Option.some.inj h
        exact loop_end cfg [(.len (eL e_u8 a0), .i ((a0.length : Nat) : Int)), (.ltI v2 ((a0.length : Nat) : Int), .b true), (.nat v2, .n i2), (.idx (eL e_u8 a0) i2, .e [.int .u8 ((x3.toNat : Nat) : Int)]), (.conv .u8 a1, .i (((b8 a1).toNat : Nat) : Int)), (.eqI ((x3.toNat : Nat) : Int) (((b8 a1).toNat : Nat) : Int), .b false), (.notB false, .b true)] (by kernel_rfl) ⟨A.len, (A.ltI_t c1), (A.nat hi2), (A.idx hx3 rfl), A.conv8, (A.eqI_f c4), rfl, trivial⟩ (by intro h; cases h)
    · rw [if_neg c1] at h
      obtain rfl := Option.some.inj h
      exact loop_end cfg [(.len (eL e_u8 a0), .i ((a0.length : Nat) : Int)), (.ltI v2 ((a0.length : Nat) : Int), .b false)] (by kernel_rfl) ⟨A.len, (A.ltI_f c1), trivial⟩ (by intro h; cases h)

def T_laws_heldByteS (n : Nat) (a0 : (List UInt8)) (a1 : Int) : Option Int :=
  (L_laws_heldByteS_l0 a0 n a1 0).bind fun o1 =>
  match o1 with
  | .inl o1_0 =>
    some o1_0
  | .inr (⟨o1_1_0, o1_1_1⟩) =>
    some o1_1_0

set_option maxRecDepth 100000 in
theorem fd_49 : cfg.funcs 49 = some (bodyOf Try.f49, Try.f49.ntmps, Try.f49.results.toList) := fn_of Try.func49 (by kernel_rfl) (by kernel_rfl)
theorem g_laws_heldByteS (n : Nat) (a0 : (List UInt8)) (a1 : Int) (r : Int) (h : T_laws_heldByteS n a0 a1 = some r) : (mach cfg).call 49 [] [.val false [.seq (eL e_u8 a0)], .val false [.int .i64 a1]] = some (.val false [.int .i64 r], []) := by
  unfold T_laws_heldByteS at h
  obtain ⟨o1, ho1, h⟩ := Option.bind_eq_some_iff.1 h
  rcases o1 with o1_0 | ⟨o1_1_0, o1_1_1⟩
  · try dsimp only at h
    obtain rfl := Option.some.inj h
    exact call_way cfg [(.loop 49 (loopB Try.f49 0) ⟨[(0, .val false [.seq (eL e_u8 a0)]), (1, .val false [.int .i64 a1]), (5, .val false [.int .i64 0])], [], 0⟩, .x (.ret) ⟨[(4, .val false [.int .i64 o1_0])], [], 0⟩)] rfl fd_49 (by kernel_rfl) ⟨(A.loop (gl_laws_heldByteS_l0 a0 _ a1 0 _ ho1)), trivial⟩
  · try dsimp only at h
    obtain rfl := Option.some.inj h
    exact call_way cfg [(.loop 49 (loopB Try.f49 0) ⟨[(0, .val false [.seq (eL e_u8 a0)]), (1, .val false [.int .i64 a1]), (5, .val false [.int .i64 0])], [], 0⟩, .x (.exit 0) ⟨[(0, .val false [.seq (eL e_u8 a0)]), (1, .val false [.int .i64 o1_1_0]), (5, .val false [.int .i64 o1_1_1]), (9, .val false [.bool false])], [], 0⟩)] rfl fd_49 (by kernel_rfl) ⟨(A.loop (gl_laws_heldByteS_l0 a0 _ a1 0 _ ho1)), trivial⟩

theorem heldByteS_loop {a : List UInt8} : ∀ (l p : List UInt8) (k : Int) (m : Nat), a = p ++ l → mB k l = l → 0 ≤ k → k + 2 * l.length ≤ 2 ^ 41 → p.length + l.length ≤ 2 ^ 41 → l.length < m → ∃ z, L_laws_heldByteS_l0 a m k ((p.length : Nat) : Int) = some (.inr (k + l.length, z)) := by
  intro l
  induction l with
  | nil =>
    intro p k m ha _ _ _ _ hm
    subst ha
    obtain ⟨m, rfl, _⟩ := fuel hm
    exact ⟨_, by rw [L_laws_heldByteS_l0, if_neg (nlt_end p)]; simp; rfl⟩
  | cons x l ih =>
    intro p k m ha hm0 h0 h1 h2 hm
    obtain ⟨m, rfl, hm'⟩ := fuel hm
    simp only [List.length_cons] at h1 h2 hm'
    rw [mB] at hm0
    obtain ⟨e1, e2⟩ := List.cons.inj hm0
    obtain ⟨z, hz⟩ := ih (p ++ [x]) (k + 1) m (by rw [ha]; simp) e2 (by omega) (by omega) (by simp; omega) (by omega)
    refine ⟨z, ?_⟩
    rw [L_laws_heldByteS_l0, if_pos (by rw [ha]; exact lt_mid p x l), natO_nat, Option.bind_some, show a[p.length]? = some x by rw [ha]; exact get_mid p x l, Option.bind_some, if_pos (by rw [e1]), w64_len p x (by omega), w64_id (x := k + 1) (by omega) (by omega), hz]
    simp only [List.length_cons]
    rw [show k + 1 + (l.length : Int) = k + ((l.length + 1 : Nat) : Int) by omega]
def S_laws_heldByteS (a0 : (List UInt8)) (a1 : Int) : Option Int := if mB a1 a0 = a0 ∧ 0 ≤ a1 ∧ a1 + 2 * a0.length ≤ 2 ^ 41 then some (a1 + a0.length) else none
theorem heldByteS_eq {a : Int} {s : List UInt8} (h : mB a s = s) (h0 : 0 ≤ a) (h1 : a + 2 * s.length ≤ 2 ^ 41) : S_laws_heldByteS s a = some (a + s.length) := if_pos ⟨h, h0, h1⟩
theorem spec_laws_heldByteS (a0 : (List UInt8)) (a1 : Int) (r : Int) (h : S_laws_heldByteS a0 a1 = some r) : ∃ n, T_laws_heldByteS n a0 a1 = some r := by
  unfold S_laws_heldByteS at h
  obtain ⟨⟨he, h0, h1⟩, h⟩ := need_c h
  obtain ⟨z, hz⟩ := heldByteS_loop (a := a0) a0 [] a1 (a0.length + 1) rfl he h0 h1 (by simp; omega) (by omega)
  refine ⟨a0.length + 1, ?_⟩
  unfold T_laws_heldByteS
  simp only [List.length_nil, Int.natCast_zero] at hz
  rw [hz]
  exact h
theorem ok_laws_heldByteS (a0 : (List UInt8)) (a1 : Int) (r : Int) (h : S_laws_heldByteS a0 a1 = some r) : (mach cfg).call 49 [] [.val false [.seq (eL e_u8 a0)], .val false [.int .i64 a1]] = some (.val false [.int .i64 r], []) := by
  obtain ⟨n, hn⟩ := spec_laws_heldByteS a0 a1 r h
  exact g_laws_heldByteS n a0 a1 r hn
def L_laws_heldByteSS_l0 (a0 : (List (List UInt8))) : Nat → Int → Int → Option (Int ⊕ (Int × Int))
  | 0, _, _ => none
  | m + 1, a1, v2 =>
    if v2 < ((a0.length : Nat) : Int) then
      (natO v2).bind fun i2 =>
      (a0[i2]?).bind fun x3 =>
      (S_laws_heldByteS x3 a1).bind fun r4 =>
      if r4 < 0 then
        some (.inl (-1))
      else
        L_laws_heldByteSS_l0 a0 m r4 (w64 (v2 + 1))
    else
      some (.inr (a1, v2))

theorem gl_laws_heldByteSS_l0 (a0 : (List (List UInt8))) (m : Nat) : ∀ (a1 : Int) (v2 : Int) (o : (Int ⊕ (Int × Int))), L_laws_heldByteSS_l0 a0 m a1 v2 = some o → (mach cfg).loop 50 (loopB Try.f50 0) ⟨[(0, .val false [.seq (eL (e_sl e_u8) a0)]), (1, .val false [.int .i64 a1]), (5, .val false [.int .i64 v2])], [], 0⟩ = some (match o with | .inl o_0 => (.ret, (⟨[(4, .val false [.int .i64 o_0])], [], 0⟩ : S)) | .inr (⟨o_1_0, o_1_1⟩) => (.exit 0, (⟨[(0, .val false [.seq (eL (e_sl e_u8) a0)]), (1, .val false [.int .i64 o_1_0]), (5, .val false [.int .i64 o_1_1]), (9, .val false [.bool false])], [], 0⟩ : S))) := by
  induction m with
  | zero => intro a1 v2 o h; cases h
  | succ m ih =>
    intro a1 v2 o h
    rw [L_laws_heldByteSS_l0] at h
    by_cases c1 : v2 < ((a0.length : Nat) : Int)
    · rw [if_pos c1] at h
      obtain ⟨i2, hi2, h⟩ := Option.bind_eq_some_iff.1 h
      obtain ⟨x3, hx3, h⟩ := Option.bind_eq_some_iff.1 h
      obtain ⟨r4, hr4, h⟩ := Option.bind_eq_some_iff.1 h
      by_cases c5 : r4 < 0
      · rw [if_pos c5] at h
        obtain rfl := Option.some.inj h
        exact loop_end cfg [(.len (eL (e_sl e_u8) a0), .i ((a0.length : Nat) : Int)), (.ltI v2 ((a0.length : Nat) : Int), .b true), (.nat v2, .n i2), (.idx (eL (e_sl e_u8) a0) i2, .e [.seq (eL e_u8 x3)]), (.call 49 [] [.val false [.seq (eL e_u8 x3)], .val false [.int .i64 a1]], .r (.val false [.int .i64 r4]) []), (.ltI r4 0, .b true)] (by kernel_rfl) ⟨A.len, (A.ltI_t c1), (A.nat hi2), (A.idx hx3 rfl), (A.call (ok_laws_heldByteS x3 a1 _ hr4)), (A.ltI_t c5), trivial⟩ (by intro h; cases h)
      · rw [if_neg c5] at h
        exact loop_on cfg [(.len (eL (e_sl e_u8) a0), .i ((a0.length : Nat) : Int)), (.ltI v2 ((a0.length : Nat) : Int), .b true), (.nat v2, .n i2), (.idx (eL (e_sl e_u8) a0) i2, .e [.seq (eL e_u8 x3)]), (.call 49 [] [.val false [.seq (eL e_u8 x3)], .val false [.int .i64 a1]], .r (.val false [.int .i64 r4]) []), (.ltI r4 0, .b false), (.add .i64 v2 1, .i (w64 (v2 + 1)))] (by kernel_rfl) ⟨A.len, (A.ltI_t c1), (A.nat hi2), (A.idx hx3 rfl), (A.call (ok_laws_heldByteS x3 a1 _ hr4)), (A.ltI_f c5), rfl, trivial⟩ (ih r4 (w64 (v2 + 1)) o h)
    · rw [if_neg c1] at h
      obtain rfl := Option.some.inj h
      exact loop_end cfg [(.len (eL (e_sl e_u8) a0), .i ((a0.length : Nat) : Int)), (.ltI v2 ((a0.length : Nat) : Int), .b false)] (by kernel_rfl) ⟨A.len, (A.ltI_f c1), trivial⟩ (by intro h; cases h)

def T_laws_heldByteSS (n : Nat) (a0 : (List (List UInt8))) (a1 : Int) : Option Int :=
  (L_laws_heldByteSS_l0 a0 n a1 0).bind fun o1 =>
  match o1 with
  | .inl o1_0 =>
    some o1_0
  | .inr (⟨o1_1_0, o1_1_1⟩) =>
    some o1_1_0

set_option maxRecDepth 100000 in
theorem fd_50 : cfg.funcs 50 = some (bodyOf Try.f50, Try.f50.ntmps, Try.f50.results.toList) := fn_of Try.func50 (by kernel_rfl) (by kernel_rfl)
theorem g_laws_heldByteSS (n : Nat) (a0 : (List (List UInt8))) (a1 : Int) (r : Int) (h : T_laws_heldByteSS n a0 a1 = some r) : (mach cfg).call 50 [] [.val false [.seq (eL (e_sl e_u8) a0)], .val false [.int .i64 a1]] = some (.val false [.int .i64 r], []) := by
  unfold T_laws_heldByteSS at h
  obtain ⟨o1, ho1, h⟩ := Option.bind_eq_some_iff.1 h
  rcases o1 with o1_0 | ⟨o1_1_0, o1_1_1⟩
  · try dsimp only at h
    obtain rfl := Option.some.inj h
    exact call_way cfg [(.loop 50 (loopB Try.f50 0) ⟨[(0, .val false [.seq (eL (e_sl e_u8) a0)]), (1, .val false [.int .i64 a1]), (5, .val false [.int .i64 0])], [], 0⟩, .x (.ret) ⟨[(4, .val false [.int .i64 o1_0])], [], 0⟩)] rfl fd_50 (by kernel_rfl) ⟨(A.loop (gl_laws_heldByteSS_l0 a0 _ a1 0 _ ho1)), trivial⟩
  · try dsimp only at h
    obtain rfl := Option.some.inj h
    exact call_way cfg [(.loop 50 (loopB Try.f50 0) ⟨[(0, .val false [.seq (eL (e_sl e_u8) a0)]), (1, .val false [.int .i64 a1]), (5, .val false [.int .i64 0])], [], 0⟩, .x (.exit 0) ⟨[(0, .val false [.seq (eL (e_sl e_u8) a0)]), (1, .val false [.int .i64 o1_1_0]), (5, .val false [.int .i64 o1_1_1]), (9, .val false [.bool false])], [], 0⟩)] rfl fd_50 (by kernel_rfl) ⟨(A.loop (gl_laws_heldByteSS_l0 a0 _ a1 0 _ ho1)), trivial⟩

theorem heldByteSS_loop {a : List (List UInt8)} : ∀ (l p : List (List UInt8)) (k : Int) (m : Nat), a = p ++ l → mBB k l = l → 0 ≤ k → k + 2 * bsz l ≤ 2 ^ 41 → p.length + l.length ≤ 2 ^ 41 → l.length < m → ∃ z, L_laws_heldByteSS_l0 a m k ((p.length : Nat) : Int) = some (.inr (k + cB l, z)) := by
  intro l
  induction l with
  | nil =>
    intro p k m ha _ _ _ _ hm
    subst ha
    obtain ⟨m, rfl, _⟩ := fuel hm
    exact ⟨_, by rw [L_laws_heldByteSS_l0, if_neg (nlt_end p)]; simp [cB]; rfl⟩
  | cons x l ih =>
    intro p k m ha hm0 h0 h1 h2 hm
    obtain ⟨m, rfl, hm'⟩ := fuel hm
    rw [bsz_cons] at h1
    simp only [List.length_cons] at h2 hm'
    rw [mBB] at hm0
    obtain ⟨e1, e2⟩ := List.cons.inj hm0
    obtain ⟨z, hz⟩ := ih (p ++ [x]) (k + x.length) m (by rw [ha]; simp) e2 (by omega) (by omega) (by simp; omega) (by omega)
    refine ⟨z, ?_⟩
    rw [L_laws_heldByteSS_l0, if_pos (by rw [ha]; exact lt_mid p x l), natO_nat, Option.bind_some, show a[p.length]? = some x by rw [ha]; exact get_mid p x l, Option.bind_some, heldByteS_eq e1 (by omega) (by omega), Option.bind_some, if_neg (by omega), w64_len p x (by omega), hz, cB_cons]
    rw [show k + (x.length : Int) + (cB l : Int) = k + ((x.length + cB l : Nat) : Int) by omega]
def S_laws_heldByteSS (a0 : (List (List UInt8))) (a1 : Int) : Option Int := if mBB a1 a0 = a0 ∧ 0 ≤ a1 ∧ a1 + 2 * bsz a0 ≤ 2 ^ 41 then some (a1 + cB a0) else none
theorem heldByteSS_eq {a : Int} {s : List (List UInt8)} (h : mBB a s = s) (h0 : 0 ≤ a) (h1 : a + 2 * bsz s ≤ 2 ^ 41) : S_laws_heldByteSS s a = some (a + cB s) := if_pos ⟨h, h0, h1⟩
theorem spec_laws_heldByteSS (a0 : (List (List UInt8))) (a1 : Int) (r : Int) (h : S_laws_heldByteSS a0 a1 = some r) : ∃ n, T_laws_heldByteSS n a0 a1 = some r := by
  unfold S_laws_heldByteSS at h
  obtain ⟨⟨he, h0, h1⟩, h⟩ := need_c h
  have := bsz_len a0
  obtain ⟨z, hz⟩ := heldByteSS_loop (a := a0) a0 [] a1 (a0.length + 1) rfl he h0 h1 (by simp; omega) (by omega)
  refine ⟨a0.length + 1, ?_⟩
  unfold T_laws_heldByteSS
  simp only [List.length_nil, Int.natCast_zero] at hz
  rw [hz]
  exact h
theorem ok_laws_heldByteSS (a0 : (List (List UInt8))) (a1 : Int) (r : Int) (h : S_laws_heldByteSS a0 a1 = some r) : (mach cfg).call 50 [] [.val false [.seq (eL (e_sl e_u8) a0)], .val false [.int .i64 a1]] = some (.val false [.int .i64 r], []) := by
  obtain ⟨n, hn⟩ := spec_laws_heldByteSS a0 a1 r h
  exact g_laws_heldByteSS n a0 a1 r hn
def L_laws_heldExprS_l0 (G_laws_heldExprS : (List GExpr) → Int → Option Int) (a0 : (List GExpr)) : Nat → Int → Int → Option (Int ⊕ (Int × Int))
  | 0, _, _ => none
  | m + 1, a1, v2 =>
    if v2 < ((a0.length : Nat) : Int) then
      (natO v2).bind fun i2 =>
      (a0[i2]?).bind fun x3 =>
      if x3.Kind = a1 then
        if x3.N = (w64 (a1 + 1)) then
          (S_laws_heldByteS x3.S (w64 ((w64 (a1 + 1)) + 1))).bind fun r6 =>
          if r6 < 0 then
            some (.inl (-1))
          else
            (S_laws_heldByteSS x3.K r6).bind fun r8 =>
            if r8 < 0 then
              some (.inl (-1))
            else
              (G_laws_heldExprS x3.Kids r8).bind fun r10 =>
              if r10 < 0 then
                some (.inl (-1))
              else
                L_laws_heldExprS_l0 G_laws_heldExprS a0 m r10 (w64 (v2 + 1))
        else
          some (.inl (-1))
      else
        some (.inl (-1))
    else
      some (.inr (a1, v2))

theorem gl_laws_heldExprS_l0 (G_laws_heldExprS : (List GExpr) → Int → Option Int) (H_laws_heldExprS : ∀ (a0 : (List GExpr)) (a1 : Int) (r : Int), G_laws_heldExprS a0 a1 = some r → (mach cfg).call 51 [] [.val false [.seq (eL e_GExpr a0)], .val false [.int .i64 a1]] = some (.val false [.int .i64 r], [])) (a0 : (List GExpr)) (m : Nat) : ∀ (a1 : Int) (v2 : Int) (o : (Int ⊕ (Int × Int))), L_laws_heldExprS_l0 G_laws_heldExprS a0 m a1 v2 = some o → (mach cfg).loop 51 (loopB Try.f51 0) ⟨[(0, .val false [.seq (eL e_GExpr a0)]), (1, .val false [.int .i64 a1]), (5, .val false [.int .i64 v2])], [], 0⟩ = some (match o with | .inl o_0 => (.ret, (⟨[(4, .val false [.int .i64 o_0])], [], 0⟩ : S)) | .inr (⟨o_1_0, o_1_1⟩) => (.exit 0, (⟨[(0, .val false [.seq (eL e_GExpr a0)]), (1, .val false [.int .i64 o_1_0]), (5, .val false [.int .i64 o_1_1]), (9, .val false [.bool false])], [], 0⟩ : S))) := by
  induction m with
  | zero => intro a1 v2 o h; cases h
  | succ m ih =>
    intro a1 v2 o h
    rw [L_laws_heldExprS_l0] at h
    by_cases c1 : v2 < ((a0.length : Nat) : Int)
    · rw [if_pos c1] at h
      obtain ⟨i2, hi2, h⟩ := Option.bind_eq_some_iff.1 h
      obtain ⟨x3, hx3, h⟩ := Option.bind_eq_some_iff.1 h
      by_cases c4 : x3.Kind = a1
      · rw [if_pos c4] at h
        by_cases c5 : x3.N = (w64 (a1 + 1))
        · rw [if_pos c5] at h
          obtain ⟨r6, hr6, h⟩ := Option.bind_eq_some_iff.1 h
          by_cases c7 : r6 < 0
          · rw [if_pos c7] at h
            obtain rfl := Option.some.inj h
            exact loop_end cfg [(.len (eL e_GExpr a0), .i ((a0.length : Nat) : Int)), (.ltI v2 ((a0.length : Nat) : Int), .b true), (.nat v2, .n i2), (.idx (eL e_GExpr a0) i2, .e [.int .i64 x3.Kind, .int .i64 x3.N, .seq (eL e_u8 x3.S), .seq (eL (e_sl e_u8) x3.K), .seq (eL e_GExpr x3.Kids)]), (.eqI x3.Kind a1, .b true), (.notB true, .b false), (.add .i64 a1 1, .i (w64 (a1 + 1))), (.nat v2, .n i2), (.idx (eL e_GExpr a0) i2, .e [.int .i64 x3.Kind, .int .i64 x3.N, .seq (eL e_u8 x3.S), .seq (eL (e_sl e_u8) x3.K), .seq (eL e_GExpr x3.Kids)]), (.eqI x3.N (w64 (a1 + 1)), .b true), (.notB true, .b false), (.add .i64 (w64 (a1 + 1)) 1, .i (w64 ((w64 (a1 + 1)) + 1))), (.nat v2, .n i2), (.idx (eL e_GExpr a0) i2, .e [.int .i64 x3.Kind, .int .i64 x3.N, .seq (eL e_u8 x3.S), .seq (eL (e_sl e_u8) x3.K), .seq (eL e_GExpr x3.Kids)]), (.call 49 [] [.val false [.seq (eL e_u8 x3.S)], .val false [.int .i64 (w64 ((w64 (a1 + 1)) + 1))]], .r (.val false [.int .i64 r6]) []), (.ltI r6 0, .b true)] (by kernel_rfl) ⟨A.len, (A.ltI_t c1), (A.nat hi2), (A.idx hx3 (eq_GExpr x3)), (A.eqI_t c4), rfl, rfl, (A.nat hi2), (A.idx hx3 (eq_GExpr x3)), (A.eqI_t c5), rfl, rfl, (A.nat hi2), (A.idx hx3 (eq_GExpr x3)), (A.call (ok_laws_heldByteS x3.S (w64 ((w64 (a1 + 1)) + 1)) _ hr6)), (A.ltI_t c7), trivial⟩ (by intro h; cases h)
          · rw [if_neg c7] at h
            obtain ⟨r8, hr8, h⟩ := Option.bind_eq_some_iff.1 h
            by_cases c9 : r8 < 0
            · rw [if_pos c9] at h
              obtain rfl := Option.some.inj h
              exact loop_end cfg [(.len (eL e_GExpr a0), .i ((a0.length : Nat) : Int)), (.ltI v2 ((a0.length : Nat) : Int), .b true), (.nat v2, .n i2), (.idx (eL e_GExpr a0) i2, .e [.int .i64 x3.Kind, .int .i64 x3.N, .seq (eL e_u8 x3.S), .seq (eL (e_sl e_u8) x3.K), .seq (eL e_GExpr x3.Kids)]), (.eqI x3.Kind a1, .b true), (.notB true, .b false), (.add .i64 a1 1, .i (w64 (a1 + 1))), (.nat v2, .n i2), (.idx (eL e_GExpr a0) i2, .e [.int .i64 x3.Kind, .int .i64 x3.N, .seq (eL e_u8 x3.S), .seq (eL (e_sl e_u8) x3.K), .seq (eL e_GExpr x3.Kids)]), (.eqI x3.N (w64 (a1 + 1)), .b true), (.notB true, .b false), (.add .i64 (w64 (a1 + 1)) 1, .i (w64 ((w64 (a1 + 1)) + 1))), (.nat v2, .n i2), (.idx (eL e_GExpr a0) i2, .e [.int .i64 x3.Kind, .int .i64 x3.N, .seq (eL e_u8 x3.S), .seq (eL (e_sl e_u8) x3.K), .seq (eL e_GExpr x3.Kids)]), (.call 49 [] [.val false [.seq (eL e_u8 x3.S)], .val false [.int .i64 (w64 ((w64 (a1 + 1)) + 1))]], .r (.val false [.int .i64 r6]) []), (.ltI r6 0, .b false), (.nat v2, .n i2), (.idx (eL e_GExpr a0) i2, .e [.int .i64 x3.Kind, .int .i64 x3.N, .seq (eL e_u8 x3.S), .seq (eL (e_sl e_u8) x3.K), .seq (eL e_GExpr x3.Kids)]), (.call 50 [] [.val false [.seq (eL (e_sl e_u8) x3.K)], .val false [.int .i64 r6]], .r (.val false [.int .i64 r8]) []), (.ltI r8 0, .b true)] (by kernel_rfl) ⟨A.len, (A.ltI_t c1), (A.nat hi2), (A.idx hx3 (eq_GExpr x3)), (A.eqI_t c4), rfl, rfl, (A.nat hi2), (A.idx hx3 (eq_GExpr x3)), (A.eqI_t c5), rfl, rfl, (A.nat hi2), (A.idx hx3 (eq_GExpr x3)), (A.call (ok_laws_heldByteS x3.S (w64 ((w64 (a1 + 1)) + 1)) _ hr6)), (A.ltI_f c7), (A.nat hi2), (A.idx hx3 (eq_GExpr x3)), (A.call (ok_laws_heldByteSS x3.K r6 _ hr8)), (A.ltI_t c9), trivial⟩ (by intro h; cases h)
            · rw [if_neg c9] at h
              obtain ⟨r10, hr10, h⟩ := Option.bind_eq_some_iff.1 h
              by_cases c11 : r10 < 0
              · rw [if_pos c11] at h
                obtain rfl := Option.some.inj h
                exact loop_end cfg [(.len (eL e_GExpr a0), .i ((a0.length : Nat) : Int)), (.ltI v2 ((a0.length : Nat) : Int), .b true), (.nat v2, .n i2), (.idx (eL e_GExpr a0) i2, .e [.int .i64 x3.Kind, .int .i64 x3.N, .seq (eL e_u8 x3.S), .seq (eL (e_sl e_u8) x3.K), .seq (eL e_GExpr x3.Kids)]), (.eqI x3.Kind a1, .b true), (.notB true, .b false), (.add .i64 a1 1, .i (w64 (a1 + 1))), (.nat v2, .n i2), (.idx (eL e_GExpr a0) i2, .e [.int .i64 x3.Kind, .int .i64 x3.N, .seq (eL e_u8 x3.S), .seq (eL (e_sl e_u8) x3.K), .seq (eL e_GExpr x3.Kids)]), (.eqI x3.N (w64 (a1 + 1)), .b true), (.notB true, .b false), (.add .i64 (w64 (a1 + 1)) 1, .i (w64 ((w64 (a1 + 1)) + 1))), (.nat v2, .n i2), (.idx (eL e_GExpr a0) i2, .e [.int .i64 x3.Kind, .int .i64 x3.N, .seq (eL e_u8 x3.S), .seq (eL (e_sl e_u8) x3.K), .seq (eL e_GExpr x3.Kids)]), (.call 49 [] [.val false [.seq (eL e_u8 x3.S)], .val false [.int .i64 (w64 ((w64 (a1 + 1)) + 1))]], .r (.val false [.int .i64 r6]) []), (.ltI r6 0, .b false), (.nat v2, .n i2), (.idx (eL e_GExpr a0) i2, .e [.int .i64 x3.Kind, .int .i64 x3.N, .seq (eL e_u8 x3.S), .seq (eL (e_sl e_u8) x3.K), .seq (eL e_GExpr x3.Kids)]), (.call 50 [] [.val false [.seq (eL (e_sl e_u8) x3.K)], .val false [.int .i64 r6]], .r (.val false [.int .i64 r8]) []), (.ltI r8 0, .b false), (.nat v2, .n i2), (.idx (eL e_GExpr a0) i2, .e [.int .i64 x3.Kind, .int .i64 x3.N, .seq (eL e_u8 x3.S), .seq (eL (e_sl e_u8) x3.K), .seq (eL e_GExpr x3.Kids)]), (.call 51 [] [.val false [.seq (eL e_GExpr x3.Kids)], .val false [.int .i64 r8]], .r (.val false [.int .i64 r10]) []), (.ltI r10 0, .b true)] (by kernel_rfl) ⟨A.len, (A.ltI_t c1), (A.nat hi2), (A.idx hx3 (eq_GExpr x3)), (A.eqI_t c4), rfl, rfl, (A.nat hi2), (A.idx hx3 (eq_GExpr x3)), (A.eqI_t c5), rfl, rfl, (A.nat hi2), (A.idx hx3 (eq_GExpr x3)), (A.call (ok_laws_heldByteS x3.S (w64 ((w64 (a1 + 1)) + 1)) _ hr6)), (A.ltI_f c7), (A.nat hi2), (A.idx hx3 (eq_GExpr x3)), (A.call (ok_laws_heldByteSS x3.K r6 _ hr8)), (A.ltI_f c9), (A.nat hi2), (A.idx hx3 (eq_GExpr x3)), (A.call (H_laws_heldExprS x3.Kids r8 _ hr10)), (A.ltI_t c11), trivial⟩ (by intro h; cases h)
              · rw [if_neg c11] at h
                exact loop_on cfg [(.len (eL e_GExpr a0), .i ((a0.length : Nat) : Int)), (.ltI v2 ((a0.length : Nat) : Int), .b true), (.nat v2, .n i2), (.idx (eL e_GExpr a0) i2, .e [.int .i64 x3.Kind, .int .i64 x3.N, .seq (eL e_u8 x3.S), .seq (eL (e_sl e_u8) x3.K), .seq (eL e_GExpr x3.Kids)]), (.eqI x3.Kind a1, .b true), (.notB true, .b false), (.add .i64 a1 1, .i (w64 (a1 + 1))), (.nat v2, .n i2), (.idx (eL e_GExpr a0) i2, .e [.int .i64 x3.Kind, .int .i64 x3.N, .seq (eL e_u8 x3.S), .seq (eL (e_sl e_u8) x3.K), .seq (eL e_GExpr x3.Kids)]), (.eqI x3.N (w64 (a1 + 1)), .b true), (.notB true, .b false), (.add .i64 (w64 (a1 + 1)) 1, .i (w64 ((w64 (a1 + 1)) + 1))), (.nat v2, .n i2), (.idx (eL e_GExpr a0) i2, .e [.int .i64 x3.Kind, .int .i64 x3.N, .seq (eL e_u8 x3.S), .seq (eL (e_sl e_u8) x3.K), .seq (eL e_GExpr x3.Kids)]), (.call 49 [] [.val false [.seq (eL e_u8 x3.S)], .val false [.int .i64 (w64 ((w64 (a1 + 1)) + 1))]], .r (.val false [.int .i64 r6]) []), (.ltI r6 0, .b false), (.nat v2, .n i2), (.idx (eL e_GExpr a0) i2, .e [.int .i64 x3.Kind, .int .i64 x3.N, .seq (eL e_u8 x3.S), .seq (eL (e_sl e_u8) x3.K), .seq (eL e_GExpr x3.Kids)]), (.call 50 [] [.val false [.seq (eL (e_sl e_u8) x3.K)], .val false [.int .i64 r6]], .r (.val false [.int .i64 r8]) []), (.ltI r8 0, .b false), (.nat v2, .n i2), (.idx (eL e_GExpr a0) i2, .e [.int .i64 x3.Kind, .int .i64 x3.N, .seq (eL e_u8 x3.S), .seq (eL (e_sl e_u8) x3.K), .seq (eL e_GExpr x3.Kids)]), (.call 51 [] [.val false [.seq (eL e_GExpr x3.Kids)], .val false [.int .i64 r8]], .r (.val false [.int .i64 r10]) []), (.ltI r10 0, .b false), (.add .i64 v2 1, .i (w64 (v2 + 1)))] (by kernel_rfl) ⟨A.len, (A.ltI_t c1), (A.nat hi2), (A.idx hx3 (eq_GExpr x3)), (A.eqI_t c4), rfl, rfl, (A.nat hi2), (A.idx hx3 (eq_GExpr x3)), (A.eqI_t c5), rfl, rfl, (A.nat hi2), (A.idx hx3 (eq_GExpr x3)), (A.call (ok_laws_heldByteS x3.S (w64 ((w64 (a1 + 1)) + 1)) _ hr6)), (A.ltI_f c7), (A.nat hi2), (A.idx hx3 (eq_GExpr x3)), (A.call (ok_laws_heldByteSS x3.K r6 _ hr8)), (A.ltI_f c9), (A.nat hi2), (A.idx hx3 (eq_GExpr x3)), (A.call (H_laws_heldExprS x3.Kids r8 _ hr10)), (A.ltI_f c11), rfl, trivial⟩ (ih r10 (w64 (v2 + 1)) o h)
        · rw [if_neg c5] at h
          obtain rfl := Option.some.inj h
          exact loop_end cfg [(.len (eL e_GExpr a0), .i ((a0.length : Nat) : Int)), (.ltI v2 ((a0.length : Nat) : Int), .b true), (.nat v2, .n i2), (.idx (eL e_GExpr a0) i2, .e [.int .i64 x3.Kind, .int .i64 x3.N, .seq (eL e_u8 x3.S), .seq (eL (e_sl e_u8) x3.K), .seq (eL e_GExpr x3.Kids)]), (.eqI x3.Kind a1, .b true), (.notB true, .b false), (.add .i64 a1 1, .i (w64 (a1 + 1))), (.nat v2, .n i2), (.idx (eL e_GExpr a0) i2, .e [.int .i64 x3.Kind, .int .i64 x3.N, .seq (eL e_u8 x3.S), .seq (eL (e_sl e_u8) x3.K), .seq (eL e_GExpr x3.Kids)]), (.eqI x3.N (w64 (a1 + 1)), .b false), (.notB false, .b true)] (by kernel_rfl) ⟨A.len, (A.ltI_t c1), (A.nat hi2), (A.idx hx3 (eq_GExpr x3)), (A.eqI_t c4), rfl, rfl, (A.nat hi2), (A.idx hx3 (eq_GExpr x3)), (A.eqI_f c5), rfl, trivial⟩ (by intro h; cases h)
      · rw [if_neg c4] at h
        obtain rfl := Option.some.inj h
        exact loop_end cfg [(.len (eL e_GExpr a0), .i ((a0.length : Nat) : Int)), (.ltI v2 ((a0.length : Nat) : Int), .b true), (.nat v2, .n i2), (.idx (eL e_GExpr a0) i2, .e [.int .i64 x3.Kind, .int .i64 x3.N, .seq (eL e_u8 x3.S), .seq (eL (e_sl e_u8) x3.K), .seq (eL e_GExpr x3.Kids)]), (.eqI x3.Kind a1, .b false), (.notB false, .b true)] (by kernel_rfl) ⟨A.len, (A.ltI_t c1), (A.nat hi2), (A.idx hx3 (eq_GExpr x3)), (A.eqI_f c4), rfl, trivial⟩ (by intro h; cases h)
    · rw [if_neg c1] at h
      obtain rfl := Option.some.inj h
      exact loop_end cfg [(.len (eL e_GExpr a0), .i ((a0.length : Nat) : Int)), (.ltI v2 ((a0.length : Nat) : Int), .b false)] (by kernel_rfl) ⟨A.len, (A.ltI_f c1), trivial⟩ (by intro h; cases h)

def T_laws_heldExprS (G_laws_heldExprS : (List GExpr) → Int → Option Int) (n : Nat) (a0 : (List GExpr)) (a1 : Int) : Option Int :=
  (L_laws_heldExprS_l0 G_laws_heldExprS a0 n a1 0).bind fun o1 =>
  match o1 with
  | .inl o1_0 =>
    some o1_0
  | .inr (⟨o1_1_0, o1_1_1⟩) =>
    some o1_1_0

set_option maxRecDepth 100000 in
theorem fd_51 : cfg.funcs 51 = some (bodyOf Try.f51, Try.f51.ntmps, Try.f51.results.toList) := fn_of Try.func51 (by kernel_rfl) (by kernel_rfl)
theorem g_laws_heldExprS (G_laws_heldExprS : (List GExpr) → Int → Option Int) (H_laws_heldExprS : ∀ (a0 : (List GExpr)) (a1 : Int) (r : Int), G_laws_heldExprS a0 a1 = some r → (mach cfg).call 51 [] [.val false [.seq (eL e_GExpr a0)], .val false [.int .i64 a1]] = some (.val false [.int .i64 r], [])) (n : Nat) (a0 : (List GExpr)) (a1 : Int) (r : Int) (h : T_laws_heldExprS G_laws_heldExprS n a0 a1 = some r) : (mach cfg).call 51 [] [.val false [.seq (eL e_GExpr a0)], .val false [.int .i64 a1]] = some (.val false [.int .i64 r], []) := by
  unfold T_laws_heldExprS at h
  obtain ⟨o1, ho1, h⟩ := Option.bind_eq_some_iff.1 h
  rcases o1 with o1_0 | ⟨o1_1_0, o1_1_1⟩
  · try dsimp only at h
    obtain rfl := Option.some.inj h
    exact call_way cfg [(.loop 51 (loopB Try.f51 0) ⟨[(0, .val false [.seq (eL e_GExpr a0)]), (1, .val false [.int .i64 a1]), (5, .val false [.int .i64 0])], [], 0⟩, .x (.ret) ⟨[(4, .val false [.int .i64 o1_0])], [], 0⟩)] rfl fd_51 (by kernel_rfl) ⟨(A.loop (gl_laws_heldExprS_l0 G_laws_heldExprS H_laws_heldExprS a0 _ a1 0 _ ho1)), trivial⟩
  · try dsimp only at h
    obtain rfl := Option.some.inj h
    exact call_way cfg [(.loop 51 (loopB Try.f51 0) ⟨[(0, .val false [.seq (eL e_GExpr a0)]), (1, .val false [.int .i64 a1]), (5, .val false [.int .i64 0])], [], 0⟩, .x (.exit 0) ⟨[(0, .val false [.seq (eL e_GExpr a0)]), (1, .val false [.int .i64 o1_1_0]), (5, .val false [.int .i64 o1_1_1]), (9, .val false [.bool false])], [], 0⟩)] rfl fd_51 (by kernel_rfl) ⟨(A.loop (gl_laws_heldExprS_l0 G_laws_heldExprS H_laws_heldExprS a0 _ a1 0 _ ho1)), trivial⟩

def U_laws_heldExprS : Nat → (List GExpr) → Int → Option Int
  | 0, _, _ => none
  | n + 1, a0, a1 => T_laws_heldExprS (U_laws_heldExprS n) n a0 a1
theorem rec_laws_heldExprS (n : Nat) : (∀ (a0 : (List GExpr)) (a1 : Int) (r : Int), U_laws_heldExprS n a0 a1 = some r → (mach cfg).call 51 [] [.val false [.seq (eL e_GExpr a0)], .val false [.int .i64 a1]] = some (.val false [.int .i64 r], [])) := by
  induction n with
  | zero => exact fun _ _ _ h => (by rw [U_laws_heldExprS] at h; cases h)
  | succ n ih =>
    have ih_laws_heldExprS := ih
    exact fun a0 a1 r h => g_laws_heldExprS (U_laws_heldExprS n) ih_laws_heldExprS n a0 a1 r (by rw [U_laws_heldExprS] at h; exact h)
theorem heldExprS_loop {G : List GExpr → Int → Option Int} {a : List GExpr} : ∀ (l p : List GExpr) (k : Int) (m : Nat), a = p ++ l → mXs k l = l → (∀ v ∈ l, ∀ i : Int, mXs i v.Kids = v.Kids → 0 ≤ i → i + 2 * xszs v.Kids ≤ 2 ^ 41 → G v.Kids i = some (i + cXs v.Kids)) → 0 ≤ k → k + 2 * xszs l ≤ 2 ^ 41 → p.length + l.length ≤ 2 ^ 41 → l.length < m → ∃ z, L_laws_heldExprS_l0 G a m k ((p.length : Nat) : Int) = some (.inr (k + cXs l, z)) := by
  intro l
  induction l with
  | nil =>
    intro p k m ha _ _ _ _ _ hm
    subst ha
    obtain ⟨m, rfl, _⟩ := fuel hm
    exact ⟨_, by rw [L_laws_heldExprS_l0, if_neg (nlt_end p)]; simp [cXs]; rfl⟩
  | cons x l ih =>
    intro p k m ha hm0 hG h0 h1 h2 hm
    obtain ⟨m, rfl, hm'⟩ := fuel hm
    simp only [List.length_cons] at h2 hm'
    have hx := hG x List.mem_cons_self
    have hc := cX_le x
    rw [mXs] at hm0
    obtain ⟨e1, e2⟩ := List.cons.inj hm0
    simp only [xszs] at h1
    obtain ⟨z, hz⟩ := ih (p ++ [x]) (k + cX x) m (by rw [ha]; simp) e2 (fun v hv => hG v (List.mem_cons_of_mem _ hv)) (by omega) (by omega) (by simp; omega) (by omega)
    refine ⟨z, ?_⟩
    rw [L_laws_heldExprS_l0, if_pos (by rw [ha]; exact lt_mid p x l), natO_nat, Option.bind_some, show a[p.length]? = some x by rw [ha]; exact get_mid p x l, Option.bind_some, w64_len p x (by omega)]
    have hb := bsz_cB x.K
    have hd := cXs_le x.Kids
    have hq := xsz_eq x
    have hr := cX_eq x
    rw [mX_eq] at e1
    have f1 : x.Kind = k := (congrArg GExpr.Kind e1).symm
    have f2 : x.N = k + 1 := (congrArg GExpr.N e1).symm
    have f3 : mB (k + 1 + 1) x.S = x.S := congrArg GExpr.S e1
    have f4 : mBB (k + 1 + 1 + x.S.length) x.K = x.K := congrArg GExpr.K e1
    have f5 : mXs (k + 1 + 1 + x.S.length + cB x.K) x.Kids = x.Kids := congrArg GExpr.Kids e1
    rw [w64_id (x := k + 1) (by omega) (by omega), w64_id (x := k + 1 + 1) (by omega) (by omega), if_pos f1, if_pos f2, heldByteS_eq f3 (by omega) (by omega), Option.bind_some, if_neg (by omega), heldByteSS_eq f4 (by omega) (by omega), Option.bind_some, if_neg (by omega), hx _ f5 (by omega) (by omega), Option.bind_some, if_neg (by omega),
      show k + 1 + 1 + (x.S.length : Int) + (cB x.K : Int) + (cXs x.Kids : Int) = k + ((cX x : Nat) : Int) by omega, hz]
    simp only [cXs]
    rw [show k + ((cX x : Nat) : Int) + (cXs l : Int) = k + ((cX x + cXs l : Nat) : Int) by omega]
theorem heldExprS_U : ∀ (N : Nat) (l : List GExpr), xszs l < N → ∀ (k : Int) (f : Nat), mXs k l = l → 0 ≤ k → k + 2 * xszs l ≤ 2 ^ 41 → xszs l + 2 ≤ f → U_laws_heldExprS f l k = some (k + cXs l) := by
  intro N
  induction N with
  | zero => intro l hl; omega
  | succ N ih =>
    intro l hl k f he h0 h1 hf
    obtain ⟨f, rfl, _⟩ := fuel (show 0 < f by omega)
    have hlen := xszs_len l
    rw [U_laws_heldExprS]
    unfold T_laws_heldExprS
    obtain ⟨z, hz⟩ := heldExprS_loop (G := U_laws_heldExprS f) (a := l) l [] k f rfl he (fun v hv i ge g0 g1 => by
      have := xszs_mem hv
      have := xsz_eq v
      exact ih v.Kids (by omega) i f ge g0 g1 (by omega)) h0 h1 (by simp; omega) (by omega)
    simp only [List.length_nil, Int.natCast_zero] at hz
    rw [hz]; rfl
open Classical in
noncomputable def S_laws_heldExprS (a0 : (List GExpr)) (a1 : Int) : Option Int := if mXs a1 a0 = a0 ∧ 0 ≤ a1 ∧ a1 + 2 * xszs a0 ≤ 2 ^ 41 then some (a1 + cXs a0) else none
theorem heldExprS_eq {a : Int} {s : List GExpr} (h : mXs a s = s) (h0 : 0 ≤ a) (h1 : a + 2 * xszs s ≤ 2 ^ 41) : S_laws_heldExprS s a = some (a + cXs s) := if_pos ⟨h, h0, h1⟩
theorem spec_laws_heldExprS (a0 : (List GExpr)) (a1 : Int) (r : Int) (h : S_laws_heldExprS a0 a1 = some r) : ∃ n, U_laws_heldExprS n a0 a1 = some r := by
  unfold S_laws_heldExprS at h
  obtain ⟨⟨he, h0, h1⟩, h⟩ := need_c h
  exact ⟨xszs a0 + 2, by rw [heldExprS_U _ a0 (Nat.lt_succ_self _) a1 _ he h0 h1 (Nat.le_refl _), h]⟩
theorem ok_laws_heldExprS (a0 : (List GExpr)) (a1 : Int) (r : Int) (h : S_laws_heldExprS a0 a1 = some r) : (mach cfg).call 51 [] [.val false [.seq (eL e_GExpr a0)], .val false [.int .i64 a1]] = some (.val false [.int .i64 r], []) := by
  obtain ⟨n, hn⟩ := spec_laws_heldExprS a0 a1 r h
  exact (rec_laws_heldExprS n) a0 a1 r hn
def S_laws_heldExpr (a0 : GExpr) (a1 : Int) : Option Int :=
  (S_laws_heldByteS a0.S a1).bind fun r1 =>
  if r1 < 0 then
    some (-1)
  else
    (S_laws_heldByteSS a0.K r1).bind fun r3 =>
    if r3 < 0 then
      some (-1)
    else
      (S_laws_heldExprS a0.Kids r3).bind fun r5 =>
      if r5 < 0 then
        some (-1)
      else
        some r5

set_option maxRecDepth 100000 in
theorem fd_15 : cfg.funcs 15 = some (bodyOf Try.f15, Try.f15.ntmps, Try.f15.results.toList) := fn_of Try.func15 (by kernel_rfl) (by kernel_rfl)
theorem ok_laws_heldExpr (a0 : GExpr) (a1 : Int) (r : Int) (h : S_laws_heldExpr a0 a1 = some r) : (mach cfg).call 15 [] [.val true [.int .i64 a0.Kind, .int .i64 a0.N, .seq (eL e_u8 a0.S), .seq (eL (e_sl e_u8) a0.K), .seq (eL e_GExpr a0.Kids)], .val false [.int .i64 a1]] = some (.val false [.int .i64 r], []) := by
  unfold S_laws_heldExpr at h
  obtain ⟨r1, hr1, h⟩ := Option.bind_eq_some_iff.1 h
  by_cases c2 : r1 < 0
  · rw [if_pos c2] at h
    obtain rfl := Option.some.inj h
    exact call_way cfg [(.call 49 [] [.val false [.seq (eL e_u8 a0.S)], .val false [.int .i64 a1]], .r (.val false [.int .i64 r1]) []), (.ltI r1 0, .b true)] rfl fd_15 (by kernel_rfl) ⟨(A.call (ok_laws_heldByteS a0.S a1 _ hr1)), (A.ltI_t c2), trivial⟩
  · rw [if_neg c2] at h
    obtain ⟨r3, hr3, h⟩ := Option.bind_eq_some_iff.1 h
    by_cases c4 : r3 < 0
    · rw [if_pos c4] at h
      obtain rfl := Option.some.inj h
      exact call_way cfg [(.call 49 [] [.val false [.seq (eL e_u8 a0.S)], .val false [.int .i64 a1]], .r (.val false [.int .i64 r1]) []), (.ltI r1 0, .b false), (.call 50 [] [.val false [.seq (eL (e_sl e_u8) a0.K)], .val false [.int .i64 r1]], .r (.val false [.int .i64 r3]) []), (.ltI r3 0, .b true)] rfl fd_15 (by kernel_rfl) ⟨(A.call (ok_laws_heldByteS a0.S a1 _ hr1)), (A.ltI_f c2), (A.call (ok_laws_heldByteSS a0.K r1 _ hr3)), (A.ltI_t c4), trivial⟩
    · rw [if_neg c4] at h
      obtain ⟨r5, hr5, h⟩ := Option.bind_eq_some_iff.1 h
      by_cases c6 : r5 < 0
      · rw [if_pos c6] at h
        obtain rfl := Option.some.inj h
        exact call_way cfg [(.call 49 [] [.val false [.seq (eL e_u8 a0.S)], .val false [.int .i64 a1]], .r (.val false [.int .i64 r1]) []), (.ltI r1 0, .b false), (.call 50 [] [.val false [.seq (eL (e_sl e_u8) a0.K)], .val false [.int .i64 r1]], .r (.val false [.int .i64 r3]) []), (.ltI r3 0, .b false), (.call 51 [] [.val false [.seq (eL e_GExpr a0.Kids)], .val false [.int .i64 r3]], .r (.val false [.int .i64 r5]) []), (.ltI r5 0, .b true)] rfl fd_15 (by kernel_rfl) ⟨(A.call (ok_laws_heldByteS a0.S a1 _ hr1)), (A.ltI_f c2), (A.call (ok_laws_heldByteSS a0.K r1 _ hr3)), (A.ltI_f c4), (A.call (ok_laws_heldExprS a0.Kids r3 _ hr5)), (A.ltI_t c6), trivial⟩
      · rw [if_neg c6] at h
        obtain rfl := Option.some.inj h
        exact call_way cfg [(.call 49 [] [.val false [.seq (eL e_u8 a0.S)], .val false [.int .i64 a1]], .r (.val false [.int .i64 r1]) []), (.ltI r1 0, .b false), (.call 50 [] [.val false [.seq (eL (e_sl e_u8) a0.K)], .val false [.int .i64 r1]], .r (.val false [.int .i64 r3]) []), (.ltI r3 0, .b false), (.call 51 [] [.val false [.seq (eL e_GExpr a0.Kids)], .val false [.int .i64 r3]], .r (.val false [.int .i64 r5]) []), (.ltI r5 0, .b false)] rfl fd_15 (by kernel_rfl) ⟨(A.call (ok_laws_heldByteS a0.S a1 _ hr1)), (A.ltI_f c2), (A.call (ok_laws_heldByteSS a0.K r1 _ hr3)), (A.ltI_f c4), (A.call (ok_laws_heldExprS a0.Kids r3 _ hr5)), (A.ltI_f c6), trivial⟩

end
end Go.Am.Try
