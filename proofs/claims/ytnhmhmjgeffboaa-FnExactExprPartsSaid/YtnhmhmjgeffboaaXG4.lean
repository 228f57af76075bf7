/- The functions of the program in plain Lean, and that the machine answers as they do; conditions at each theorem. -/
import Derived.Test.YtnhmhmjgeffboaaXG3
set_option linter.unusedVariables false
set_option linter.unusedSimpArgs false
namespace Go.Am.Try
open Go.Am Go.Proofs
set_option linter.unusedVariables false
set_option maxRecDepth 20000
set_option maxHeartbeats 2000000
noncomputable section
def T_impl_isFormed_1 (G_impl_isFormed : GExpr → Int → Option Bool) (a0 : GExpr) (e0 : Int) : Option Bool :=
  (G_impl_isFormed a0 (w64 (e0 - 1))).bind fun r1 =>
  some (!r1)

set_option maxRecDepth 100000 in
theorem fd_108 : cfg.funcs 108 = some (bodyOf Try.f108, Try.f108.ntmps, Try.f108.results.toList) := fn_of Try.func108 (by kernel_rfl) (by kernel_rfl)
theorem g_impl_isFormed_1 (G_impl_isFormed : GExpr → Int → Option Bool) (H_impl_isFormed : ∀ (a0 : GExpr) (a1 : Int) (r : Bool), G_impl_isFormed a0 a1 = some r → (mach cfg).call 79 [] [.val true [.int .i64 a0.Kind, .int .i64 a0.N, .seq (eL e_u8 a0.S), .seq (eL (e_sl e_u8) a0.K), .seq (eL e_GExpr a0.Kids)], .val false [.int .i64 a1]] = some (.val false [.bool r], [])) (a0 : GExpr) (e0 : Int) (r : Bool) (h : T_impl_isFormed_1 G_impl_isFormed a0 e0 = some r) : (mach cfg).call 108 [.var [.int .i64 e0]] [.val true [.int .i64 a0.Kind, .int .i64 a0.N, .seq (eL e_u8 a0.S), .seq (eL (e_sl e_u8) a0.K), .seq (eL e_GExpr a0.Kids)], .val false [.ptr 0 0]] = some (.val false [.bool r], [.var [.int .i64 e0]]) := by
  unfold T_impl_isFormed_1 at h
  obtain ⟨r1, hr1, h⟩ := Option.bind_eq_some_iff.1 h
  obtain rfl := Option.some.inj h
  exact call_way cfg [(.sub .i64 e0 1, .i (w64 (e0 - 1))), (.call 79 [] [.val true [.int .i64 a0.Kind, .int .i64 a0.N, .seq (eL e_u8 a0.S), .seq (eL (e_sl e_u8) a0.K), .seq (eL e_GExpr a0.Kids)], .val false [.int .i64 (w64 (e0 - 1))]], .r (.val false [.bool r1]) []), (.notB r1, .b (!r1))] rfl fd_108 (by kernel_rfl) ⟨rfl, (A.call (H_impl_isFormed a0 (w64 (e0 - 1)) _ hr1)), rfl, trivial⟩

def L_slices_IndexFunc_Expr_isFormed_1_l0 (G_impl_isFormed_1 : GExpr → Int → Option Bool) (a0 : (List GExpr)) (v1 : Int) (e0 : Int) : Nat → Int → Option (Int ⊕ Int)
  | 0, _ => none
  | m + 1, v2 =>
    if v2 < v1 then
      (natO v2).bind fun i2 =>
      (a0[i2]?).bind fun x3 =>
      (G_impl_isFormed_1 x3 e0).bind fun r4 =>
      match r4 with
      | true =>
        some (.inl v2)
      | false =>
        L_slices_IndexFunc_Expr_isFormed_1_l0 G_impl_isFormed_1 a0 v1 e0 m (w64 (v2 + 1))
    else
      some (.inr v2)

theorem gl_slices_IndexFunc_Expr_isFormed_1_l0 (G_impl_isFormed_1 : GExpr → Int → Option Bool) (H_impl_isFormed_1 : ∀ (a0 : GExpr) (e0 : Int) (r : Bool), G_impl_isFormed_1 a0 e0 = some r → (mach cfg).call 108 [.var [.int .i64 e0]] [.val true [.int .i64 a0.Kind, .int .i64 a0.N, .seq (eL e_u8 a0.S), .seq (eL (e_sl e_u8) a0.K), .seq (eL e_GExpr a0.Kids)], .val false [.ptr 0 0]] = some (.val false [.bool r], [.var [.int .i64 e0]])) (a0 : (List GExpr)) (v1 : Int) (e0 : Int) (m : Nat) : ∀ (v2 : Int) (o : (Int ⊕ Int)), L_slices_IndexFunc_Expr_isFormed_1_l0 G_impl_isFormed_1 a0 v1 e0 m v2 = some o → (mach cfg).loop 117 (loopB Try.f117 0) ⟨[(0, .val false [.seq (eL e_GExpr a0)]), (1, .val false [.fn 108 [.ptr 0 0]]), (7, .val false [.int .i64 v1]), (8, .val false [.int .i64 v2])], [.var [.int .i64 e0]], 1⟩ = some (match o with | .inl o_0 => (.ret, (⟨[(4, .val false [.int .i64 o_0])], [.var [.int .i64 e0]], 1⟩ : S)) | .inr (o_1) => (.exit 0, (⟨[(0, .val false [.seq (eL e_GExpr a0)]), (1, .val false [.fn 108 [.ptr 0 0]]), (7, .val false [.int .i64 v1]), (8, .val false [.int .i64 o_1]), (9, .val false [.bool false])], [.var [.int .i64 e0]], 1⟩ : S))) := by
  induction m with
  | zero => intro v2 o h; cases h
  | succ m ih =>
    intro v2 o h
    rw [L_slices_IndexFunc_Expr_isFormed_1_l0] at h
    by_cases c1 : v2 < v1
    · rw [if_pos c1] at h
      obtain ⟨i2, hi2, h⟩ := Option.bind_eq_some_iff.1 h
      obtain ⟨x3, hx3, h⟩ := Option.bind_eq_some_iff.1 h
      obtain ⟨r4, hr4, h⟩ := Option.bind_eq_some_iff.1 h
      cases r4 with
      | true =>
        try dsimp only at h
        obtain rfl := Option.some.inj h
        exact loop_end cfg [(.ltI v2 v1, .b true), (.nat v2, .n i2), (.idx (eL e_GExpr a0) i2, .e [.int .i64 x3.Kind, .int .i64 x3.N, .seq (eL e_u8 x3.S), .seq (eL (e_sl e_u8) x3.K), .seq (eL e_GExpr x3.Kids)]), (.call 108 [.var [.int .i64 e0]] [.val true [.int .i64 x3.Kind, .int .i64 x3.N, .seq (eL e_u8 x3.S), .seq (eL (e_sl e_u8) x3.K), .seq (eL e_GExpr x3.Kids)], .val false [.ptr 0 0]], .r (.val false [.bool true]) [.var [.int .i64 e0]])] (by kernel_rfl) ⟨(A.ltI_t c1), (A.nat hi2), (A.idx hx3 (eq_GExpr x3)), (A.call (H_impl_isFormed_1 x3 e0 _ hr4)), trivial⟩ (by intro h; cases h)
      | false =>
        try dsimp only at h
        exact loop_on cfg [(.ltI v2 v1, .b true), (.nat v2, .n i2), (.idx (eL e_GExpr a0) i2, .e [.int .i64 x3.Kind, .int .i64 x3.N, .seq (eL e_u8 x3.S), .seq (eL (e_sl e_u8) x3.K), .seq (eL e_GExpr x3.Kids)]), (.call 108 [.var [.int .i64 e0]] [.val true [.int .i64 x3.Kind, .int .i64 x3.N, .seq (eL e_u8 x3.S), .seq (eL (e_sl e_u8) x3.K), .seq (eL e_GExpr x3.Kids)], .val false [.ptr 0 0]], .r (.val false [.bool false]) [.var [.int .i64 e0]]), (.add .i64 v2 1, .i (w64 (v2 + 1)))] (by kernel_rfl) ⟨(A.ltI_t c1), (A.nat hi2), (A.idx hx3 (eq_GExpr x3)), (A.call (H_impl_isFormed_1 x3 e0 _ hr4)), rfl, trivial⟩ (ih (w64 (v2 + 1)) o h)
    · rw [if_neg c1] at h
      obtain rfl := Option.some.inj h
      exact loop_end cfg [(.ltI v2 v1, .b false)] (by kernel_rfl) ⟨(A.ltI_f c1), trivial⟩ (by intro h; cases h)

def T_slices_IndexFunc_Expr_isFormed_1 (G_impl_isFormed_1 : GExpr → Int → Option Bool) (n : Nat) (a0 : (List GExpr)) (e0 : Int) : Option Int :=
  (L_slices_IndexFunc_Expr_isFormed_1_l0 G_impl_isFormed_1 a0 ((a0.length : Nat) : Int) e0 n 0).bind fun o1 =>
  match o1 with
  | .inl o1_0 =>
    some o1_0
  | .inr (o1_1) =>
    some (-1)

set_option maxRecDepth 100000 in
theorem fd_117 : cfg.funcs 117 = some (bodyOf Try.f117, Try.f117.ntmps, Try.f117.results.toList) := fn_of Try.func117 (by kernel_rfl) (by kernel_rfl)
theorem g_slices_IndexFunc_Expr_isFormed_1 (G_impl_isFormed_1 : GExpr → Int → Option Bool) (H_impl_isFormed_1 : ∀ (a0 : GExpr) (e0 : Int) (r : Bool), G_impl_isFormed_1 a0 e0 = some r → (mach cfg).call 108 [.var [.int .i64 e0]] [.val true [.int .i64 a0.Kind, .int .i64 a0.N, .seq (eL e_u8 a0.S), .seq (eL (e_sl e_u8) a0.K), .seq (eL e_GExpr a0.Kids)], .val false [.ptr 0 0]] = some (.val false [.bool r], [.var [.int .i64 e0]])) (n : Nat) (a0 : (List GExpr)) (e0 : Int) (r : Int) (h : T_slices_IndexFunc_Expr_isFormed_1 G_impl_isFormed_1 n a0 e0 = some r) : (mach cfg).call 117 [.var [.int .i64 e0]] [.val false [.seq (eL e_GExpr a0)], .val false [.fn 108 [.ptr 0 0]]] = some (.val false [.int .i64 r], [.var [.int .i64 e0]]) := by
  unfold T_slices_IndexFunc_Expr_isFormed_1 at h
  obtain ⟨o1, ho1, h⟩ := Option.bind_eq_some_iff.1 h
  rcases o1 with o1_0 | o1_1
  · try dsimp only at h
    obtain rfl := Option.some.inj h
    exact call_way cfg [(.len (eL e_GExpr a0), .i ((a0.length : Nat) : Int)), (.loop 117 (loopB Try.f117 0) ⟨[(0, .val false [.seq (eL e_GExpr a0)]), (1, .val false [.fn 108 [.ptr 0 0]]), (7, .val false [.int .i64 ((a0.length : Nat) : Int)]), (8, .val false [.int .i64 0])], [.var [.int .i64 e0]], 1⟩, .x (.ret) ⟨[(4, .val false [.int .i64 o1_0])], [.var [.int .i64 e0]], 1⟩)] rfl fd_117 (by kernel_rfl) ⟨A.len, (A.loop (gl_slices_IndexFunc_Expr_isFormed_1_l0 G_impl_isFormed_1 H_impl_isFormed_1 a0 ((a0.length : Nat) : Int) e0 _ 0 _ ho1)), trivial⟩
  · try dsimp only at h
    obtain rfl := Option.some.inj h
    exact call_way cfg [(.len (eL e_GExpr a0), .i ((a0.length : Nat) : Int)), (.loop 117 (loopB Try.f117 0) ⟨[(0, .val false [.seq (eL e_GExpr a0)]), (1, .val false [.fn 108 [.ptr 0 0]]), (7, .val false [.int .i64 ((a0.length : Nat) : Int)]), (8, .val false [.int .i64 0])], [.var [.int .i64 e0]], 1⟩, .x (.exit 0) ⟨[(0, .val false [.seq (eL e_GExpr a0)]), (1, .val false [.fn 108 [.ptr 0 0]]), (7, .val false [.int .i64 ((a0.length : Nat) : Int)]), (8, .val false [.int .i64 o1_1]), (9, .val false [.bool false])], [.var [.int .i64 e0]], 1⟩)] rfl fd_117 (by kernel_rfl) ⟨A.len, (A.loop (gl_slices_IndexFunc_Expr_isFormed_1_l0 G_impl_isFormed_1 H_impl_isFormed_1 a0 ((a0.length : Nat) : Int) e0 _ 0 _ ho1)), trivial⟩

def T_slices_ContainsFunc_Expr_isFormed_1 (G_slices_IndexFunc_Expr_isFormed_1 : (List GExpr) → Int → Option Int) (a0 : (List GExpr)) (e0 : Int) : Option Bool :=
  (G_slices_IndexFunc_Expr_isFormed_1 a0 e0).bind fun r1 =>
  some (decide (0 ≤ r1))

set_option maxRecDepth 100000 in
theorem fd_107 : cfg.funcs 107 = some (bodyOf Try.f107, Try.f107.ntmps, Try.f107.results.toList) := fn_of Try.func107 (by kernel_rfl) (by kernel_rfl)
theorem g_slices_ContainsFunc_Expr_isFormed_1 (G_slices_IndexFunc_Expr_isFormed_1 : (List GExpr) → Int → Option Int) (H_slices_IndexFunc_Expr_isFormed_1 : ∀ (a0 : (List GExpr)) (e0 : Int) (r : Int), G_slices_IndexFunc_Expr_isFormed_1 a0 e0 = some r → (mach cfg).call 117 [.var [.int .i64 e0]] [.val false [.seq (eL e_GExpr a0)], .val false [.fn 108 [.ptr 0 0]]] = some (.val false [.int .i64 r], [.var [.int .i64 e0]])) (a0 : (List GExpr)) (e0 : Int) (r : Bool) (h : T_slices_ContainsFunc_Expr_isFormed_1 G_slices_IndexFunc_Expr_isFormed_1 a0 e0 = some r) : (mach cfg).call 107 [.var [.int .i64 e0]] [.val false [.seq (eL e_GExpr a0)], .val false [.fn 108 [.ptr 0 0]]] = some (.val false [.bool r], [.var [.int .i64 e0]]) := by
  unfold T_slices_ContainsFunc_Expr_isFormed_1 at h
  obtain ⟨r1, hr1, h⟩ := Option.bind_eq_some_iff.1 h
  obtain rfl := Option.some.inj h
  exact call_way cfg [(.call 117 [.var [.int .i64 e0]] [.val false [.seq (eL e_GExpr a0)], .val false [.fn 108 [.ptr 0 0]]], .r (.val false [.int .i64 r1]) [.var [.int .i64 e0]]), (.leI 0 r1, .b (decide (0 ≤ r1)))] rfl fd_107 (by kernel_rfl) ⟨(A.call (H_slices_IndexFunc_Expr_isFormed_1 a0 e0 _ hr1)), A.leI_d, trivial⟩

def L_impl_isFormed_l0 (G_slices_ContainsFunc_Expr_isFormed_1 : (List GExpr) → Int → Option Bool) (v0 : Int) (v1 : Bool) (v2 : (List (List UInt8))) (a0 : GExpr) (a1 : Int) : Nat → Int → Option (Bool ⊕ Int)
  | 0, _ => none
  | m + 1, v3 =>
    if v3 < v0 then
      (natO v3).bind fun i2 =>
      (v2[i2]?).bind fun x3 =>
      (S_impl_isName x3).bind fun r4 =>
      match r4 with
      | true =>
        if 0 < v3 then
          (natO (w64 (v3 - 1))).bind fun i7 =>
          (a0.K[i7]?).bind fun x8 =>
          (S_bytes_Compare x8 x3).bind fun r9 =>
          if 0 ≤ r9 then
            some (.inl false)
          else
            L_impl_isFormed_l0 G_slices_ContainsFunc_Expr_isFormed_1 v0 v1 v2 a0 a1 m (w64 (v3 + 1))
        else
          L_impl_isFormed_l0 G_slices_ContainsFunc_Expr_isFormed_1 v0 v1 v2 a0 a1 m (w64 (v3 + 1))
      | false =>
        some (.inl false)
    else
      some (.inr v3)

theorem gl_impl_isFormed_l0 (G_slices_ContainsFunc_Expr_isFormed_1 : (List GExpr) → Int → Option Bool) (H_slices_ContainsFunc_Expr_isFormed_1 : ∀ (a0 : (List GExpr)) (e0 : Int) (r : Bool), G_slices_ContainsFunc_Expr_isFormed_1 a0 e0 = some r → (mach cfg).call 107 [.var [.int .i64 e0]] [.val false [.seq (eL e_GExpr a0)], .val false [.fn 108 [.ptr 0 0]]] = some (.val false [.bool r], [.var [.int .i64 e0]])) (v0 : Int) (v1 : Bool) (v2 : (List (List UInt8))) (a0 : GExpr) (a1 : Int) (m : Nat) : ∀ (v3 : Int) (o : (Bool ⊕ Int)), L_impl_isFormed_l0 G_slices_ContainsFunc_Expr_isFormed_1 v0 v1 v2 a0 a1 m v3 = some o → (mach cfg).loop 79 (loopB Try.f79 0) ⟨[(2, .val false [.ptr 0 0]), (3, .val false [.ptr 1 0]), (5, .val false [.int .i64 v0]), (6, .val false [.bool v1]), (96, .val false [.seq (eL (e_sl e_u8) v2)]), (97, .val false [.int .i64 v0]), (98, .val false [.int .i64 v3])], [.var [.int .i64 a0.Kind, .int .i64 a0.N, .seq (eL e_u8 a0.S), .seq (eL (e_sl e_u8) a0.K), .seq (eL e_GExpr a0.Kids)], .var [.int .i64 a1]], 0⟩ = some (match o with | .inl o_0 => (.ret, (⟨[(4, .val false [.bool o_0])], [], 0⟩ : S)) | .inr (o_1) => (.exit 1, (⟨[(2, .val false [.ptr 0 0]), (3, .val false [.ptr 1 0]), (5, .val false [.int .i64 v0]), (6, .val false [.bool v1]), (96, .val false [.seq (eL (e_sl e_u8) v2)]), (97, .val false [.int .i64 v0]), (98, .val false [.int .i64 o_1]), (99, .val false [.bool false])], [.var [.int .i64 a0.Kind, .int .i64 a0.N, .seq (eL e_u8 a0.S), .seq (eL (e_sl e_u8) a0.K), .seq (eL e_GExpr a0.Kids)], .var [.int .i64 a1]], 0⟩ : S))) := by
  induction m with
  | zero => intro v3 o h; cases h
  | succ m ih =>
    intro v3 o h
    rw [L_impl_isFormed_l0] at h
    by_cases c1 : v3 < v0
    · rw [if_pos c1] at h
      obtain ⟨i2, hi2, h⟩ := Option.bind_eq_some_iff.1 h
      obtain ⟨x3, hx3, h⟩ := Option.bind_eq_some_iff.1 h
      obtain ⟨r4, hr4, h⟩ := Option.bind_eq_some_iff.1 h
      cases r4 with
      | true =>
        try dsimp only at h
        by_cases c6 : 0 < v3
        · rw [if_pos c6] at h
          obtain ⟨i7, hi7, h⟩ := Option.bind_eq_some_iff.1 h
          obtain ⟨x8, hx8, h⟩ := Option.bind_eq_some_iff.1 h
          obtain ⟨r9, hr9, h⟩ := Option.bind_eq_some_iff.1 h
          by_cases c10 : 0 ≤ r9
          · rw [if_pos c10] at h
            obtain rfl := Option.some.inj h
            exact loop_end cfg [(.ltI v3 v0, .b true), (.nat v3, .n i2), (.idx (eL (e_sl e_u8) v2) i2, .e [.seq (eL e_u8 x3)]), (.call 105 [] [.val false [.seq (eL e_u8 x3)]], .r (.val false [.bool true]) []), (.notB true, .b false), (.ltI 0 v3, .b true), (.sub .i64 v3 1, .i (w64 (v3 - 1))), (.nat (w64 (v3 - 1)), .n i7), (.idx (eL (e_sl e_u8) a0.K) i7, .e [.seq (eL e_u8 x8)]), (.call 96 [] [.val false [.seq (eL e_u8 x8)], .val false [.seq (eL e_u8 x3)]], .r (.val false [.int .i64 r9]) []), (.leI 0 r9, .b true)] (by kernel_rfl) ⟨(A.ltI_t c1), (A.nat hi2), (A.idx hx3 rfl), (A.call (ok_impl_isName x3 _ hr4)), rfl, (A.ltI_t c6), rfl, (A.nat hi7), (A.idx hx8 rfl), (A.call (ok_bytes_Compare x8 x3 _ hr9)), (A.leI_t c10), trivial⟩ (by intro h; cases h)
          · rw [if_neg c10] at h
            exact loop_on cfg [(.ltI v3 v0, .b true), (.nat v3, .n i2), (.idx (eL (e_sl e_u8) v2) i2, .e [.seq (eL e_u8 x3)]), (.call 105 [] [.val false [.seq (eL e_u8 x3)]], .r (.val false [.bool true]) []), (.notB true, .b false), (.ltI 0 v3, .b true), (.sub .i64 v3 1, .i (w64 (v3 - 1))), (.nat (w64 (v3 - 1)), .n i7), (.idx (eL (e_sl e_u8) a0.K) i7, .e [.seq (eL e_u8 x8)]), (.call 96 [] [.val false [.seq (eL e_u8 x8)], .val false [.seq (eL e_u8 x3)]], .r (.val false [.int .i64 r9]) []), (.leI 0 r9, .b false), (.add .i64 v3 1, .i (w64 (v3 + 1)))] (by kernel_rfl) ⟨(A.ltI_t c1), (A.nat hi2), (A.idx hx3 rfl), (A.call (ok_impl_isName x3 _ hr4)), rfl, (A.ltI_t c6), rfl, (A.nat hi7), (A.idx hx8 rfl), (A.call (ok_bytes_Compare x8 x3 _ hr9)), (A.leI_f c10), rfl, trivial⟩ (ih (w64 (v3 + 1)) o h)
        · rw [if_neg c6] at h
          exact loop_on cfg [(.ltI v3 v0, .b true), (.nat v3, .n i2), (.idx (eL (e_sl e_u8) v2) i2, .e [.seq (eL e_u8 x3)]), (.call 105 [] [.val false [.seq (eL e_u8 x3)]], .r (.val false [.bool true]) []), (.notB true, .b false), (.ltI 0 v3, .b false), (.add .i64 v3 1, .i (w64 (v3 + 1)))] (by kernel_rfl) ⟨(A.ltI_t c1), (A.nat hi2), (A.idx hx3 rfl), (A.call (ok_impl_isName x3 _ hr4)), rfl, (A.ltI_f c6), rfl, trivial⟩ (ih (w64 (v3 + 1)) o h)
      | false =>
        try dsimp only at h
        obtain rfl := Option.some.inj h
        exact loop_end cfg [(.ltI v3 v0, .b true), (.nat v3, .n i2), (.idx (eL (e_sl e_u8) v2) i2, .e [.seq (eL e_u8 x3)]), (.call 105 [] [.val false [.seq (eL e_u8 x3)]], .r (.val false [.bool false]) []), (.notB false, .b true)] (by kernel_rfl) ⟨(A.ltI_t c1), (A.nat hi2), (A.idx hx3 rfl), (A.call (ok_impl_isName x3 _ hr4)), rfl, trivial⟩ (by intro h; cases h)
    · rw [if_neg c1] at h
      obtain rfl := Option.some.inj h
      exact loop_end cfg [(.ltI v3 v0, .b false)] (by kernel_rfl) ⟨(A.ltI_f c1), trivial⟩ (by intro h; cases h)

def T_impl_isFormed (G_slices_ContainsFunc_Expr_isFormed_1 : (List GExpr) → Int → Option Bool) (n : Nat) (a0 : GExpr) (a1 : Int) : Option Bool :=
  if a1 = 0 then
    some false
  else
    if a0.Kind = 5 then
      if a0.N = 0 then
        (L_impl_isFormed_l0 G_slices_ContainsFunc_Expr_isFormed_1 ((a0.K.length : Nat) : Int) false a0.K a0 a1 n 0).bind fun o4 =>
        match o4 with
        | .inl o4_0 =>
          some o4_0
        | .inr (o4_1) =>
          if 0 < ((a0.S.length : Nat) : Int) then
            some false
          else
            if ((a0.Kids.length : Nat) : Int) = ((a0.K.length : Nat) : Int) then
              if 150 < ((a0.K.length : Nat) : Int) then
                some false
              else
                (G_slices_ContainsFunc_Expr_isFormed_1 a0.Kids a1).bind fun r8 =>
                some (!r8)
            else
              some false
      else
        some false
    else
      if 0 < ((a0.K.length : Nat) : Int) then
        some false
      else
        if a0.Kind = 1 then
          (S_impl_in a0.N 0 1).bind fun r5 =>
          match r5 with
          | true =>
            if 0 < ((a0.S.length : Nat) : Int) then
              some false
            else
              if ((a0.Kids.length : Nat) : Int) = 0 then
                (G_slices_ContainsFunc_Expr_isFormed_1 a0.Kids a1).bind fun r9 =>
                some (!r9)
              else
                some false
          | false =>
            some false
        else
          if a0.Kind = 2 then
            (S_impl_in a0.N 0 1000000000000).bind fun r6 =>
            match r6 with
            | true =>
              if 0 < ((a0.S.length : Nat) : Int) then
                some false
              else
                if ((a0.Kids.length : Nat) : Int) = 0 then
                  (G_slices_ContainsFunc_Expr_isFormed_1 a0.Kids a1).bind fun r10 =>
                  some (!r10)
                else
                  some false
            | false =>
              some false
          else
            if a0.N = 0 then
              if a0.Kind = 0 then
                if 0 < ((a0.S.length : Nat) : Int) then
                  some false
                else
                  if ((a0.Kids.length : Nat) : Int) = 0 then
                    (G_slices_ContainsFunc_Expr_isFormed_1 a0.Kids a1).bind fun r10 =>
                    some (!r10)
                  else
                    some false
              else
                if a0.Kind = 10 then
                  if 0 < ((a0.S.length : Nat) : Int) then
                    some false
                  else
                    if ((a0.Kids.length : Nat) : Int) = 0 then
                      (G_slices_ContainsFunc_Expr_isFormed_1 a0.Kids a1).bind fun r11 =>
                      some (!r11)
                    else
                      some false
                else
                  if a0.Kind = 11 then
                    if 0 < ((a0.S.length : Nat) : Int) then
                      some false
                    else
                      if ((a0.Kids.length : Nat) : Int) = 0 then
                        (G_slices_ContainsFunc_Expr_isFormed_1 a0.Kids a1).bind fun r12 =>
                        some (!r12)
                      else
                        some false
                  else
                    if a0.Kind = 12 then
                      if 0 < ((a0.S.length : Nat) : Int) then
                        some false
                      else
                        if ((a0.Kids.length : Nat) : Int) = 0 then
                          (G_slices_ContainsFunc_Expr_isFormed_1 a0.Kids a1).bind fun r13 =>
                          some (!r13)
                        else
                          some false
                    else
                      if a0.Kind = 3 then
                        (S_impl_isText a0.S).bind fun r12 =>
                        match r12 with
                        | true =>
                          if ((a0.Kids.length : Nat) : Int) = 0 then
                            (G_slices_ContainsFunc_Expr_isFormed_1 a0.Kids a1).bind fun r15 =>
                            some (!r15)
                          else
                            some false
                        | false =>
                          some false
                      else
                        if a0.Kind = 6 then
                          (S_impl_isName a0.S).bind fun r13 =>
                          match r13 with
                          | true =>
                            if ((a0.Kids.length : Nat) : Int) = 0 then
                              (G_slices_ContainsFunc_Expr_isFormed_1 a0.Kids a1).bind fun r16 =>
                              some (!r16)
                            else
                              some false
                          | false =>
                            some false
                        else
                          if a0.Kind = 8 then
                            (S_impl_isName a0.S).bind fun r14 =>
                            match r14 with
                            | true =>
                              if ((a0.Kids.length : Nat) : Int) = 1 then
                                (G_slices_ContainsFunc_Expr_isFormed_1 a0.Kids a1).bind fun r17 =>
                                some (!r17)
                              else
                                some false
                            | false =>
                              some false
                          else
                            if a0.Kind = 7 then
                              (S_impl_isWord a0.S).bind fun r15 =>
                              match r15 with
                              | true =>
                                if ((a0.Kids.length : Nat) : Int) = 0 then
                                  (G_slices_ContainsFunc_Expr_isFormed_1 a0.Kids a1).bind fun r18 =>
                                  some (!r18)
                                else
                                  some false
                              | false =>
                                some false
                            else
                              if a0.Kind = 23 then
                                (S_impl_isWord a0.S).bind fun r16 =>
                                match r16 with
                                | true =>
                                  if 150 < ((a0.Kids.length : Nat) : Int) then
                                    some false
                                  else
                                    (G_slices_ContainsFunc_Expr_isFormed_1 a0.Kids a1).bind fun r19 =>
                                    some (!r19)
                                | false =>
                                  some false
                              else
                                if a0.Kind = 4 then
                                  if 0 < ((a0.S.length : Nat) : Int) then
                                    some false
                                  else
                                    if 150 < ((a0.Kids.length : Nat) : Int) then
                                      some false
                                    else
                                      (G_slices_ContainsFunc_Expr_isFormed_1 a0.Kids a1).bind fun r19 =>
                                      some (!r19)
                                else
                                  if a0.Kind = 13 then
                                    if 0 < ((a0.S.length : Nat) : Int) then
                                      some false
                                    else
                                      if ((a0.Kids.length : Nat) : Int) = 1 then
                                        (G_slices_ContainsFunc_Expr_isFormed_1 a0.Kids a1).bind fun r20 =>
                                        some (!r20)
                                      else
                                        some false
                                  else
                                    if a0.Kind = 14 then
                                      if 0 < ((a0.S.length : Nat) : Int) then
                                        some false
                                      else
                                        if ((a0.Kids.length : Nat) : Int) = 1 then
                                          (G_slices_ContainsFunc_Expr_isFormed_1 a0.Kids a1).bind fun r21 =>
                                          some (!r21)
                                        else
                                          some false
                                    else
                                      if a0.Kind = 9 then
                                        if 0 < ((a0.S.length : Nat) : Int) then
                                          some false
                                        else
                                          if ((a0.Kids.length : Nat) : Int) = 2 then
                                            (G_slices_ContainsFunc_Expr_isFormed_1 a0.Kids a1).bind fun r22 =>
                                            some (!r22)
                                          else
                                            some false
                                      else
                                        if a0.Kind = 15 then
                                          if 0 < ((a0.S.length : Nat) : Int) then
                                            some false
                                          else
                                            if ((a0.Kids.length : Nat) : Int) = 2 then
                                              (G_slices_ContainsFunc_Expr_isFormed_1 a0.Kids a1).bind fun r23 =>
                                              some (!r23)
                                            else
                                              some false
                                        else
                                          if a0.Kind = 16 then
                                            if 0 < ((a0.S.length : Nat) : Int) then
                                              some false
                                            else
                                              if ((a0.Kids.length : Nat) : Int) = 2 then
                                                (G_slices_ContainsFunc_Expr_isFormed_1 a0.Kids a1).bind fun r24 =>
                                                some (!r24)
                                              else
                                                some false
                                          else
                                            if a0.Kind = 17 then
                                              if 0 < ((a0.S.length : Nat) : Int) then
                                                some false
                                              else
                                                if ((a0.Kids.length : Nat) : Int) = 2 then
                                                  (G_slices_ContainsFunc_Expr_isFormed_1 a0.Kids a1).bind fun r25 =>
                                                  some (!r25)
                                                else
                                                  some false
                                            else
                                              if a0.Kind = 18 then
                                                if 0 < ((a0.S.length : Nat) : Int) then
                                                  some false
                                                else
                                                  if ((a0.Kids.length : Nat) : Int) = 2 then
                                                    (G_slices_ContainsFunc_Expr_isFormed_1 a0.Kids a1).bind fun r26 =>
                                                    some (!r26)
                                                  else
                                                    some false
                                              else
                                                if a0.Kind = 19 then
                                                  if 0 < ((a0.S.length : Nat) : Int) then
                                                    some false
                                                  else
                                                    if ((a0.Kids.length : Nat) : Int) = 2 then
                                                      (G_slices_ContainsFunc_Expr_isFormed_1 a0.Kids a1).bind fun r27 =>
                                                      some (!r27)
                                                    else
                                                      some false
                                                else
                                                  if a0.Kind = 20 then
                                                    if 0 < ((a0.S.length : Nat) : Int) then
                                                      some false
                                                    else
                                                      if ((a0.Kids.length : Nat) : Int) = 2 then
                                                        (G_slices_ContainsFunc_Expr_isFormed_1 a0.Kids a1).bind fun r28 =>
                                                        some (!r28)
                                                      else
                                                        some false
                                                  else
                                                    if a0.Kind = 21 then
                                                      if 0 < ((a0.S.length : Nat) : Int) then
                                                        some false
                                                      else
                                                        if ((a0.Kids.length : Nat) : Int) = 2 then
                                                          (G_slices_ContainsFunc_Expr_isFormed_1 a0.Kids a1).bind fun r29 =>
                                                          some (!r29)
                                                        else
                                                          some false
                                                    else
                                                      if a0.Kind = 22 then
                                                        if 0 < ((a0.S.length : Nat) : Int) then
                                                          some false
                                                        else
                                                          if ((a0.Kids.length : Nat) : Int) = 3 then
                                                            (G_slices_ContainsFunc_Expr_isFormed_1 a0.Kids a1).bind fun r30 =>
                                                            some (!r30)
                                                          else
                                                            some false
                                                      else
                                                        some false
            else
              some false

set_option maxRecDepth 100000 in
theorem fd_79 : cfg.funcs 79 = some (bodyOf Try.f79, Try.f79.ntmps, Try.f79.results.toList) := fn_of Try.func79 (by kernel_rfl) (by kernel_rfl)
theorem g_impl_isFormed (G_slices_ContainsFunc_Expr_isFormed_1 : (List GExpr) → Int → Option Bool) (H_slices_ContainsFunc_Expr_isFormed_1 : ∀ (a0 : (List GExpr)) (e0 : Int) (r : Bool), G_slices_ContainsFunc_Expr_isFormed_1 a0 e0 = some r → (mach cfg).call 107 [.var [.int .i64 e0]] [.val false [.seq (eL e_GExpr a0)], .val false [.fn 108 [.ptr 0 0]]] = some (.val false [.bool r], [.var [.int .i64 e0]])) (n : Nat) (a0 : GExpr) (a1 : Int) (r : Bool) (h : T_impl_isFormed G_slices_ContainsFunc_Expr_isFormed_1 n a0 a1 = some r) : (mach cfg).call 79 [] [.val true [.int .i64 a0.Kind, .int .i64 a0.N, .seq (eL e_u8 a0.S), .seq (eL (e_sl e_u8) a0.K), .seq (eL e_GExpr a0.Kids)], .val false [.int .i64 a1]] = some (.val false [.bool r], []) := by
  unfold T_impl_isFormed at h
  by_cases c1 : a1 = 0
  · rw [if_pos c1] at h
    obtain rfl := Option.some.inj h
    exact call_way cfg [(.eqI a1 0, .b true)] rfl fd_79 (by kernel_rfl) ⟨(A.eqI_t c1), trivial⟩
  · rw [if_neg c1] at h
    by_cases c2 : a0.Kind = 5
    · rw [if_pos c2] at h
      by_cases c3 : a0.N = 0
      · rw [if_pos c3] at h
        obtain ⟨o4, ho4, h⟩ := Option.bind_eq_some_iff.1 h
        rcases o4 with o4_0 | o4_1
        · try dsimp only at h
          obtain rfl := Option.some.inj h
          exact call_way cfg [(.eqI a1 0, .b false), (.eqI a0.Kind 5, .b true), (.notB true, .b false), (.eqI a0.Kind 1, .b false), (.notB false, .b true), (.eqI a0.Kind 2, .b false), (.notB false, .b true), (.eqI a0.N 0, .b true), (.notB true, .b false), (.eqI a0.Kind 1, .b false), (.eqI a0.Kind 2, .b false), (.eqI a0.Kind 0, .b false), (.eqI a0.Kind 10, .b false), (.eqI a0.Kind 11, .b false), (.eqI a0.Kind 12, .b false), (.eqI a0.Kind 3, .b false), (.eqI a0.Kind 6, .b false), (.eqI a0.Kind 8, .b false), (.eqI a0.Kind 7, .b false), (.eqI a0.Kind 23, .b false), (.eqI a0.Kind 4, .b false), (.eqI a0.Kind 5, .b true), (.len (eL (e_sl e_u8) a0.K), .i ((a0.K.length : Nat) : Int)), (.len (eL (e_sl e_u8) a0.K), .i ((a0.K.length : Nat) : Int)), (.loop 79 (loopB Try.f79 0) ⟨[(2, .val false [.ptr 0 0]), (3, .val false [.ptr 1 0]), (5, .val false [.int .i64 ((a0.K.length : Nat) : Int)]), (6, .val false [.bool false]), (96, .val false [.seq (eL (e_sl e_u8) a0.K)]), (97, .val false [.int .i64 ((a0.K.length : Nat) : Int)]), (98, .val false [.int .i64 0])], [.var [.int .i64 a0.Kind, .int .i64 a0.N, .seq (eL e_u8 a0.S), .seq (eL (e_sl e_u8) a0.K), .seq (eL e_GExpr a0.Kids)], .var [.int .i64 a1]], 0⟩, .x (.ret) ⟨[(4, .val false [.bool o4_0])], [], 0⟩)] rfl fd_79 (by kernel_rfl) ⟨(A.eqI_f c1), (A.eqI_t c2), rfl, (A.eqI_f (by omega)), rfl, (A.eqI_f (by omega)), rfl, (A.eqI_t c3), rfl, (A.eqI_f (by omega)), (A.eqI_f (by omega)), (A.eqI_f (by omega)), (A.eqI_f (by omega)), (A.eqI_f (by omega)), (A.eqI_f (by omega)), (A.eqI_f (by omega)), (A.eqI_f (by omega)), (A.eqI_f (by omega)), (A.eqI_f (by omega)), (A.eqI_f (by omega)), (A.eqI_f (by omega)), (A.eqI_t c2), A.len, A.len, (A.loop (gl_impl_isFormed_l0 G_slices_ContainsFunc_Expr_isFormed_1 H_slices_ContainsFunc_Expr_isFormed_1 ((a0.K.length : Nat) : Int) false a0.K a0 a1 _ 0 _ ho4)), trivial⟩
        · try dsimp only at h
          by_cases c5 : 0 < ((a0.S.length : Nat) : Int)
          · rw [if_pos c5] at h
            obtain rfl := Option.some.inj h
            exact call_way cfg [(.eqI a1 0, .b false), (.eqI a0.Kind 5, .b true), (.notB true, .b false), (.eqI a0.Kind 1, .b false), (.notB false, .b true), (.eqI a0.Kind 2, .b false), (.notB false, .b true), (.eqI a0.N 0, .b true), (.notB true, .b false), (.eqI a0.Kind 1, .b false), (.eqI a0.Kind 2, .b false), (.eqI a0.Kind 0, .b false), (.eqI a0.Kind 10, .b false), (.eqI a0.Kind 11, .b false), (.eqI a0.Kind 12, .b false), (.eqI a0.Kind 3, .b false), (.eqI a0.Kind 6, .b false), (.eqI a0.Kind 8, .b false), (.eqI a0.Kind 7, .b false), (.eqI a0.Kind 23, .b false), (.eqI a0.Kind 4, .b false), (.eqI a0.Kind 5, .b true), (.len (eL (e_sl e_u8) a0.K), .i ((a0.K.length : Nat) : Int)), (.len (eL (e_sl e_u8) a0.K), .i ((a0.K.length : Nat) : Int)), (.loop 79 (loopB Try.f79 0) ⟨[(2, .val false [.ptr 0 0]), (3, .val false [.ptr 1 0]), (5, .val false [.int .i64 ((a0.K.length : Nat) : Int)]), (6, .val false [.bool false]), (96, .val false [.seq (eL (e_sl e_u8) a0.K)]), (97, .val false [.int .i64 ((a0.K.length : Nat) : Int)]), (98, .val false [.int .i64 0])], [.var [.int .i64 a0.Kind, .int .i64 a0.N, .seq (eL e_u8 a0.S), .seq (eL (e_sl e_u8) a0.K), .seq (eL e_GExpr a0.Kids)], .var [.int .i64 a1]], 0⟩, .x (.exit 1) ⟨[(2, .val false [.ptr 0 0]), (3, .val false [.ptr 1 0]), (5, .val false [.int .i64 ((a0.K.length : Nat) : Int)]), (6, .val false [.bool false]), (96, .val false [.seq (eL (e_sl e_u8) a0.K)]), (97, .val false [.int .i64 ((a0.K.length : Nat) : Int)]), (98, .val false [.int .i64 o4_1]), (99, .val false [.bool false])], [.var [.int .i64 a0.Kind, .int .i64 a0.N, .seq (eL e_u8 a0.S), .seq (eL (e_sl e_u8) a0.K), .seq (eL e_GExpr a0.Kids)], .var [.int .i64 a1]], 0⟩), (.notB false, .b true), (.len (eL e_u8 a0.S), .i ((a0.S.length : Nat) : Int)), (.ltI 0 ((a0.S.length : Nat) : Int), .b true)] rfl fd_79 (by kernel_rfl) ⟨(A.eqI_f c1), (A.eqI_t c2), rfl, (A.eqI_f (by omega)), rfl, (A.eqI_f (by omega)), rfl, (A.eqI_t c3), rfl, (A.eqI_f (by omega)), (A.eqI_f (by omega)), (A.eqI_f (by omega)), (A.eqI_f (by omega)), (A.eqI_f (by omega)), (A.eqI_f (by omega)), (A.eqI_f (by omega)), (A.eqI_f (by omega)), (A.eqI_f (by omega)), (A.eqI_f (by omega)), (A.eqI_f (by omega)), (A.eqI_f (by omega)), (A.eqI_t c2), A.len, A.len, (A.loop (gl_impl_isFormed_l0 G_slices_ContainsFunc_Expr_isFormed_1 H_slices_ContainsFunc_Expr_isFormed_1 ((a0.K.length : Nat) : Int) false a0.K a0 a1 _ 0 _ ho4)), rfl, A.len, (A.ltI_t c5), trivial⟩
          · rw [if_neg c5] at h
            by_cases c6 : ((a0.Kids.length : Nat) : Int) = ((a0.K.length : Nat) : Int)
            · rw [if_pos c6] at h
              by_cases c7 : 150 < ((a0.K.length : Nat) : Int)
              · rw [if_pos c7] at h
                obtain rfl := Option.some.inj h
                exact call_way cfg [(.eqI a1 0, .b false), (.eqI a0.Kind 5, .b true), (.notB true, .b false), (.eqI a0.Kind 1, .b false), (.notB false, .b true), (.eqI a0.Kind 2, .b false), (.notB false, .b true), (.eqI a0.N 0, .b true), (.notB true, .b false), (.eqI a0.Kind 1, .b false), (.eqI a0.Kind 2, .b false), (.eqI a0.Kind 0, .b false), (.eqI a0.Kind 10, .b false), (.eqI a0.Kind 11, .b false), (.eqI a0.Kind 12, .b false), (.eqI a0.Kind 3, .b false), (.eqI a0.Kind 6, .b false), (.eqI a0.Kind 8, .b false), (.eqI a0.Kind 7, .b false), (.eqI a0.Kind 23, .b false), (.eqI a0.Kind 4, .b false), (.eqI a0.Kind 5, .b true), (.len (eL (e_sl e_u8) a0.K), .i ((a0.K.length : Nat) : Int)), (.len (eL (e_sl e_u8) a0.K), .i ((a0.K.length : Nat) : Int)), (.loop 79 (loopB Try.f79 0) ⟨[(2, .val false [.ptr 0 0]), (3, .val false [.ptr 1 0]), (5, .val false [.int .i64 ((a0.K.length : Nat) : Int)]), (6, .val false [.bool false]), (96, .val false [.seq (eL (e_sl e_u8) a0.K)]), (97, .val false [.int .i64 ((a0.K.length : Nat) : Int)]), (98, .val false [.int .i64 0])], [.var [.int .i64 a0.Kind, .int .i64 a0.N, .seq (eL e_u8 a0.S), .seq (eL (e_sl e_u8) a0.K), .seq (eL e_GExpr a0.Kids)], .var [.int .i64 a1]], 0⟩, .x (.exit 1) ⟨[(2, .val false [.ptr 0 0]), (3, .val false [.ptr 1 0]), (5, .val false [.int .i64 ((a0.K.length : Nat) : Int)]), (6, .val false [.bool false]), (96, .val false [.seq (eL (e_sl e_u8) a0.K)]), (97, .val false [.int .i64 ((a0.K.length : Nat) : Int)]), (98, .val false [.int .i64 o4_1]), (99, .val false [.bool false])], [.var [.int .i64 a0.Kind, .int .i64 a0.N, .seq (eL e_u8 a0.S), .seq (eL (e_sl e_u8) a0.K), .seq (eL e_GExpr a0.Kids)], .var [.int .i64 a1]], 0⟩), (.notB false, .b true), (.len (eL e_u8 a0.S), .i ((a0.S.length : Nat) : Int)), (.ltI 0 ((a0.S.length : Nat) : Int), .b false), (.len (eL e_GExpr a0.Kids), .i ((a0.Kids.length : Nat) : Int)), (.eqI ((a0.Kids.length : Nat) : Int) ((a0.K.length : Nat) : Int), .b true), (.notB true, .b false), (.ltI 150 ((a0.K.length : Nat) : Int), .b true)] rfl fd_79 (by kernel_rfl) ⟨(A.eqI_f c1), (A.eqI_t c2), rfl, (A.eqI_f (by omega)), rfl, (A.eqI_f (by omega)), rfl, (A.eqI_t c3), rfl, (A.eqI_f (by omega)), (A.eqI_f (by omega)), (A.eqI_f (by omega)), (A.eqI_f (by omega)), (A.eqI_f (by omega)), (A.eqI_f (by omega)), (A.eqI_f (by omega)), (A.eqI_f (by omega)), (A.eqI_f (by omega)), (A.eqI_f (by omega)), (A.eqI_f (by omega)), (A.eqI_f (by omega)), (A.eqI_t c2), A.len, A.len, (A.loop (gl_impl_isFormed_l0 G_slices_ContainsFunc_Expr_isFormed_1 H_slices_ContainsFunc_Expr_isFormed_1 ((a0.K.length : Nat) : Int) false a0.K a0 a1 _ 0 _ ho4)), rfl, A.len, (A.ltI_f c5), A.len, (A.eqI_t c6), rfl, (A.ltI_t c7), trivial⟩
              · rw [if_neg c7] at h
                obtain ⟨r8, hr8, h⟩ := Option.bind_eq_some_iff.1 h
                obtain rfl := Option.some.inj h
                exact call_way cfg [(.eqI a1 0, .b false), (.eqI a0.Kind 5, .b true), (.notB true, .b false), (.eqI a0.Kind 1, .b false), (.notB false, .b true), (.eqI a0.Kind 2, .b false), (.notB false, .b true), (.eqI a0.N 0, .b true), (.notB true, .b false), (.eqI a0.Kind 1, .b false), (.eqI a0.Kind 2, .b false), (.eqI a0.Kind 0, .b false), (.eqI a0.Kind 10, .b false), (.eqI a0.Kind 11, .b false), (.eqI a0.Kind 12, .b false), (.eqI a0.Kind 3, .b false), (.eqI a0.Kind 6, .b false), (.eqI a0.Kind 8, .b false), (.eqI a0.Kind 7, .b false), (.eqI a0.Kind 23, .b false), (.eqI a0.Kind 4, .b false), (.eqI a0.Kind 5, .b true), (.len (eL (e_sl e_u8) a0.K), .i ((a0.K.length : Nat) : Int)), (.len (eL (e_sl e_u8) a0.K), .i ((a0.K.length : Nat) : Int)), (.loop 79 (loopB Try.f79 0) ⟨[(2, .val false [.ptr 0 0]), (3, .val false [.ptr 1 0]), (5, .val false [.int .i64 ((a0.K.length : Nat) : Int)]), (6, .val false [.bool false]), (96, .val false [.seq (eL (e_sl e_u8) a0.K)]), (97, .val false [.int .i64 ((a0.K.length : Nat) : Int)]), (98, .val false [.int .i64 0])], [.var [.int .i64 a0.Kind, .int .i64 a0.N, .seq (eL e_u8 a0.S), .seq (eL (e_sl e_u8) a0.K), .seq (eL e_GExpr a0.Kids)], .var [.int .i64 a1]], 0⟩, .x (.exit 1) ⟨[(2, .val false [.ptr 0 0]), (3, .val false [.ptr 1 0]), (5, .val false [.int .i64 ((a0.K.length : Nat) : Int)]), (6, .val false [.bool false]), (96, .val false [.seq (eL (e_sl e_u8) a0.K)]), (97, .val false [.int .i64 ((a0.K.length : Nat) : Int)]), (98, .val false [.int .i64 o4_1]), (99, .val false [.bool false])], [.var [.int .i64 a0.Kind, .int .i64 a0.N, .seq (eL e_u8 a0.S), .seq (eL (e_sl e_u8) a0.K), .seq (eL e_GExpr a0.Kids)], .var [.int .i64 a1]], 0⟩), (.notB false, .b true), (.len (eL e_u8 a0.S), .i ((a0.S.length : Nat) : Int)), (.ltI 0 ((a0.S.length : Nat) : Int), .b false), (.len (eL e_GExpr a0.Kids), .i ((a0.Kids.length : Nat) : Int)), (.eqI ((a0.Kids.length : Nat) : Int) ((a0.K.length : Nat) : Int), .b true), (.notB true, .b false), (.ltI 150 ((a0.K.length : Nat) : Int), .b false), (.call 107 [.var [.int .i64 a1]] [.val false [.seq (eL e_GExpr a0.Kids)], .val false [.fn 108 [.ptr 0 0]]], .r (.val false [.bool r8]) [.var [.int .i64 a1]]), (.notB r8, .b (!r8))] rfl fd_79 (by kernel_rfl) ⟨(A.eqI_f c1), (A.eqI_t c2), rfl, (A.eqI_f (by omega)), rfl, (A.eqI_f (by omega)), rfl, (A.eqI_t c3), rfl, (A.eqI_f (by omega)), (A.eqI_f (by omega)), (A.eqI_f (by omega)), (A.eqI_f (by omega)), (A.eqI_f (by omega)), (A.eqI_f (by omega)), (A.eqI_f (by omega)), (A.eqI_f (by omega)), (A.eqI_f (by omega)), (A.eqI_f (by omega)), (A.eqI_f (by omega)), (A.eqI_f (by omega)), (A.eqI_t c2), A.len, A.len, (A.loop (gl_impl_isFormed_l0 G_slices_ContainsFunc_Expr_isFormed_1 H_slices_ContainsFunc_Expr_isFormed_1 ((a0.K.length : Nat) : Int) false a0.K a0 a1 _ 0 _ ho4)), rfl, A.len, (A.ltI_f c5), A.len, (A.eqI_t c6), rfl, (A.ltI_f c7), (A.call (H_slices_ContainsFunc_Expr_isFormed_1 a0.Kids a1 _ hr8)), rfl, trivial⟩
            · rw [if_neg c6] at h
              obtain rfl := Option.some.inj h
              exact call_way cfg [(.eqI a1 0, .b false), (.eqI a0.Kind 5, .b true), (.notB true, .b false), (.eqI a0.Kind 1, .b false), (.notB false, .b true), (.eqI a0.Kind 2, .b false), (.notB false, .b true), (.eqI a0.N 0, .b true), (.notB true, .b false), (.eqI a0.Kind 1, .b false), (.eqI a0.Kind 2, .b false), (.eqI a0.Kind 0, .b false), (.eqI a0.Kind 10, .b false), (.eqI a0.Kind 11, .b false), (.eqI a0.Kind 12, .b false), (.eqI a0.Kind 3, .b false), (.eqI a0.Kind 6, .b false), (.eqI a0.Kind 8, .b false), (.eqI a0.Kind 7, .b false), (.eqI a0.Kind 23, .b false), (.eqI a0.Kind 4, .b false), (.eqI a0.Kind 5, .b true), (.len (eL (e_sl e_u8) a0.K), .i ((a0.K.length : Nat) : Int)), (.len (eL (e_sl e_u8) a0.K), .i ((a0.K.length : Nat) : Int)), (.loop 79 (loopB Try.f79 0) ⟨[(2, .val false [.ptr 0 0]), (3, .val false [.ptr 1 0]), (5, .val false [.int .i64 ((a0.K.length : Nat) : Int)]), (6, .val false [.bool false]), (96, .val false [.seq (eL (e_sl e_u8) a0.K)]), (97, .val false [.int .i64 ((a0.K.length : Nat) : Int)]), (98, .val false [.int .i64 0])], [.var [.int .i64 a0.Kind, .int .i64 a0.N, .seq (eL e_u8 a0.S), .seq (eL (e_sl e_u8) a0.K), .seq (eL e_GExpr a0.Kids)], .var [.int .i64 a1]], 0⟩, .x (.exit 1) ⟨[(2, .val false [.ptr 0 0]), (3, .val false [.ptr 1 0]), (5, .val false [.int .i64 ((a0.K.length : Nat) : Int)]), (6, .val false [.bool false]), (96, .val false [.seq (eL (e_sl e_u8) a0.K)]), (97, .val false [.int .i64 ((a0.K.length : Nat) : Int)]), (98, .val false [.int .i64 o4_1]), (99, .val false [.bool false])], [.var [.int .i64 a0.Kind, .int .i64 a0.N, .seq (eL e_u8 a0.S), .seq (eL (e_sl e_u8) a0.K), .seq (eL e_GExpr a0.Kids)], .var [.int .i64 a1]], 0⟩), (.notB false, .b true), (.len (eL e_u8 a0.S), .i ((a0.S.length : Nat) : Int)), (.ltI 0 ((a0.S.length : Nat) : Int), .b false), (.len (eL e_GExpr a0.Kids), .i ((a0.Kids.length : Nat) : Int)), (.eqI ((a0.Kids.length : Nat) : Int) ((a0.K.length : Nat) : Int), .b false), (.notB false, .b true)] rfl fd_79 (by kernel_rfl) ⟨(A.eqI_f c1), (A.eqI_t c2), rfl, (A.eqI_f (by omega)), rfl, (A.eqI_f (by omega)), rfl, (A.eqI_t c3), rfl, (A.eqI_f (by omega)), (A.eqI_f (by omega)), (A.eqI_f (by omega)), (A.eqI_f (by omega)), (A.eqI_f (by omega)), (A.eqI_f (by omega)), (A.eqI_f (by omega)), (A.eqI_f (by omega)), (A.eqI_f (by omega)), (A.eqI_f (by omega)), (A.eqI_f (by omega)), (A.eqI_f (by omega)), (A.eqI_t c2), A.len, A.len, (A.loop (gl_impl_isFormed_l0 G_slices_ContainsFunc_Expr_isFormed_1 H_slices_ContainsFunc_Expr_isFormed_1 ((a0.K.length : Nat) : Int) false a0.K a0 a1 _ 0 _ ho4)), rfl, A.len, (A.ltI_f c5), A.len, (A.eqI_f c6), rfl, trivial⟩
      · rw [if_neg c3] at h
        obtain rfl := Option.some.inj h
        exact call_way cfg [(.eqI a1 0, .b false), (.eqI a0.Kind 5, .b true), (.notB true, .b false), (.eqI a0.Kind 1, .b false), (.notB false, .b true), (.eqI a0.Kind 2, .b false), (.notB false, .b true), (.eqI a0.N 0, .b false), (.notB false, .b true)] rfl fd_79 (by kernel_rfl) ⟨(A.eqI_f c1), (A.eqI_t c2), rfl, (A.eqI_f (by omega)), rfl, (A.eqI_f (by omega)), rfl, (A.eqI_f c3), rfl, trivial⟩
    · rw [if_neg c2] at h
      by_cases c3 : 0 < ((a0.K.length : Nat) : Int)
      · rw [if_pos c3] at h
        obtain rfl := Option.some.inj h
        exact call_way cfg [(.eqI a1 0, .b false), (.eqI a0.Kind 5, .b false), (.notB false, .b true), (.len (eL (e_sl e_u8) a0.K), .i ((a0.K.length : Nat) : Int)), (.ltI 0 ((a0.K.length : Nat) : Int), .b true)] rfl fd_79 (by kernel_rfl) ⟨(A.eqI_f c1), (A.eqI_f c2), rfl, A.len, (A.ltI_t c3), trivial⟩
      · rw [if_neg c3] at h
        by_cases c4 : a0.Kind = 1
        · rw [if_pos c4] at h
          obtain ⟨r5, hr5, h⟩ := Option.bind_eq_some_iff.1 h
          cases r5 with
          | true =>
            try dsimp only at h
            by_cases c7 : 0 < ((a0.S.length : Nat) : Int)
            · rw [if_pos c7] at h
              obtain rfl := Option.some.inj h
              exact call_way cfg [(.eqI a1 0, .b false), (.eqI a0.Kind 5, .b false), (.notB false, .b true), (.len (eL (e_sl e_u8) a0.K), .i ((a0.K.length : Nat) : Int)), (.ltI 0 ((a0.K.length : Nat) : Int), .b false), (.eqI a0.Kind 1, .b true), (.notB true, .b false), (.eqI a0.Kind 1, .b true), (.call 38 [] [.val false [.int .i64 a0.N], .val false [.int .i64 0], .val false [.int .i64 1]], .r (.val false [.bool true]) []), (.notB true, .b false), (.notB false, .b true), (.len (eL e_u8 a0.S), .i ((a0.S.length : Nat) : Int)), (.ltI 0 ((a0.S.length : Nat) : Int), .b true)] rfl fd_79 (by kernel_rfl) ⟨(A.eqI_f c1), (A.eqI_f c2), rfl, A.len, (A.ltI_f c3), (A.eqI_t c4), rfl, (A.eqI_t c4), (A.call (ok_impl_in a0.N 0 1 _ hr5)), rfl, rfl, A.len, (A.ltI_t c7), trivial⟩
            · rw [if_neg c7] at h
              by_cases c8 : ((a0.Kids.length : Nat) : Int) = 0
              · rw [if_pos c8] at h
                obtain ⟨r9, hr9, h⟩ := Option.bind_eq_some_iff.1 h
                obtain rfl := Option.some.inj h
                exact call_way cfg [(.eqI a1 0, .b false), (.eqI a0.Kind 5, .b false), (.notB false, .b true), (.len (eL (e_sl e_u8) a0.K), .i ((a0.K.length : Nat) : Int)), (.ltI 0 ((a0.K.length : Nat) : Int), .b false), (.eqI a0.Kind 1, .b true), (.notB true, .b false), (.eqI a0.Kind 1, .b true), (.call 38 [] [.val false [.int .i64 a0.N], .val false [.int .i64 0], .val false [.int .i64 1]], .r (.val false [.bool true]) []), (.notB true, .b false), (.notB false, .b true), (.len (eL e_u8 a0.S), .i ((a0.S.length : Nat) : Int)), (.ltI 0 ((a0.S.length : Nat) : Int), .b false), (.len (eL e_GExpr a0.Kids), .i ((a0.Kids.length : Nat) : Int)), (.eqI ((a0.Kids.length : Nat) : Int) 0, .b true), (.notB true, .b false), (.ltI 150 0, .b false), (.call 107 [.var [.int .i64 a1]] [.val false [.seq (eL e_GExpr a0.Kids)], .val false [.fn 108 [.ptr 0 0]]], .r (.val false [.bool r9]) [.var [.int .i64 a1]]), (.notB r9, .b (!r9))] rfl fd_79 (by kernel_rfl) ⟨(A.eqI_f c1), (A.eqI_f c2), rfl, A.len, (A.ltI_f c3), (A.eqI_t c4), rfl, (A.eqI_t c4), (A.call (ok_impl_in a0.N 0 1 _ hr5)), rfl, rfl, A.len, (A.ltI_f c7), A.len, (A.eqI_t c8), rfl, (A.ltI_f (by omega)), (A.call (H_slices_ContainsFunc_Expr_isFormed_1 a0.Kids a1 _ hr9)), rfl, trivial⟩
              · rw [if_neg c8] at h
                obtain rfl := Option.some.inj h
                exact call_way cfg [(.eqI a1 0, .b false), (.eqI a0.Kind 5, .b false), (.notB false, .b true), (.len (eL (e_sl e_u8) a0.K), .i ((a0.K.length : Nat) : Int)), (.ltI 0 ((a0.K.length : Nat) : Int), .b false), (.eqI a0.Kind 1, .b true), (.notB true, .b false), (.eqI a0.Kind 1, .b true), (.call 38 [] [.val false [.int .i64 a0.N], .val false [.int .i64 0], .val false [.int .i64 1]], .r (.val false [.bool true]) []), (.notB true, .b false), (.notB false, .b true), (.len (eL e_u8 a0.S), .i ((a0.S.length : Nat) : Int)), (.ltI 0 ((a0.S.length : Nat) : Int), .b false), (.len (eL e_GExpr a0.Kids), .i ((a0.Kids.length : Nat) : Int)), (.eqI ((a0.Kids.length : Nat) : Int) 0, .b false), (.notB false, .b true)] rfl fd_79 (by kernel_rfl) ⟨(A.eqI_f c1), (A.eqI_f c2), rfl, A.len, (A.ltI_f c3), (A.eqI_t c4), rfl, (A.eqI_t c4), (A.call (ok_impl_in a0.N 0 1 _ hr5)), rfl, rfl, A.len, (A.ltI_f c7), A.len, (A.eqI_f c8), rfl, trivial⟩
          | false =>
            try dsimp only at h
            obtain rfl := Option.some.inj h
            exact call_way cfg [(.eqI a1 0, .b false), (.eqI a0.Kind 5, .b false), (.notB false, .b true), (.len (eL (e_sl e_u8) a0.K), .i ((a0.K.length : Nat) : Int)), (.ltI 0 ((a0.K.length : Nat) : Int), .b false), (.eqI a0.Kind 1, .b true), (.notB true, .b false), (.eqI a0.Kind 1, .b true), (.call 38 [] [.val false [.int .i64 a0.N], .val false [.int .i64 0], .val false [.int .i64 1]], .r (.val false [.bool false]) []), (.notB false, .b true)] rfl fd_79 (by kernel_rfl) ⟨(A.eqI_f c1), (A.eqI_f c2), rfl, A.len, (A.ltI_f c3), (A.eqI_t c4), rfl, (A.eqI_t c4), (A.call (ok_impl_in a0.N 0 1 _ hr5)), rfl, trivial⟩
        · rw [if_neg c4] at h
          by_cases c5 : a0.Kind = 2
          · rw [if_pos c5] at h
            obtain ⟨r6, hr6, h⟩ := Option.bind_eq_some_iff.1 h
            cases r6 with
            | true =>
              try dsimp only at h
              by_cases c8 : 0 < ((a0.S.length : Nat) : Int)
              · rw [if_pos c8] at h
                obtain rfl := Option.some.inj h
                exact call_way cfg [(.eqI a1 0, .b false), (.eqI a0.Kind 5, .b false), (.notB false, .b true), (.len (eL (e_sl e_u8) a0.K), .i ((a0.K.length : Nat) : Int)), (.ltI 0 ((a0.K.length : Nat) : Int), .b false), (.eqI a0.Kind 1, .b false), (.notB false, .b true), (.eqI a0.Kind 2, .b true), (.notB true, .b false), (.eqI a0.Kind 1, .b false), (.eqI a0.Kind 2, .b true), (.call 38 [] [.val false [.int .i64 a0.N], .val false [.int .i64 0], .val false [.int .i64 1000000000000]], .r (.val false [.bool true]) []), (.notB true, .b false), (.notB false, .b true), (.len (eL e_u8 a0.S), .i ((a0.S.length : Nat) : Int)), (.ltI 0 ((a0.S.length : Nat) : Int), .b true)] rfl fd_79 (by kernel_rfl) ⟨(A.eqI_f c1), (A.eqI_f c2), rfl, A.len, (A.ltI_f c3), (A.eqI_f c4), rfl, (A.eqI_t c5), rfl, (A.eqI_f c4), (A.eqI_t c5), (A.call (ok_impl_in a0.N 0 1000000000000 _ hr6)), rfl, rfl, A.len, (A.ltI_t c8), trivial⟩
              · rw [if_neg c8] at h
                by_cases c9 : ((a0.Kids.length : Nat) : Int) = 0
                · rw [if_pos c9] at h
                  obtain ⟨r10, hr10, h⟩ := Option.bind_eq_some_iff.1 h
                  obtain rfl := Option.some.inj h
                  exact call_way cfg [(.eqI a1 0, .b false), (.eqI a0.Kind 5, .b false), (.notB false, .b true), (.len (eL (e_sl e_u8) a0.K), .i ((a0.K.length : Nat) : Int)), (.ltI 0 ((a0.K.length : Nat) : Int), .b false), (.eqI a0.Kind 1, .b false), (.notB false, .b true), (.eqI a0.Kind 2, .b true), (.notB true, .b false), (.eqI a0.Kind 1, .b false), (.eqI a0.Kind 2, .b true), (.call 38 [] [.val false [.int .i64 a0.N], .val false [.int .i64 0], .val false [.int .i64 1000000000000]], .r (.val false [.bool true]) []), (.notB true, .b false), (.notB false, .b true), (.len (eL e_u8 a0.S), .i ((a0.S.length : Nat) : Int)), (.ltI 0 ((a0.S.length : Nat) : Int), .b false), (.len (eL e_GExpr a0.Kids), .i ((a0.Kids.length : Nat) : Int)), (.eqI ((a0.Kids.length : Nat) : Int) 0, .b true), (.notB true, .b false), (.ltI 150 0, .b false), (.call 107 [.var [.int .i64 a1]] [.val false [.seq (eL e_GExpr a0.Kids)], .val false [.fn 108 [.ptr 0 0]]], .r (.val false [.bool r10]) [.var [.int .i64 a1]]), (.notB r10, .b (!r10))] rfl fd_79 (by kernel_rfl) ⟨(A.eqI_f c1), (A.eqI_f c2), rfl, A.len, (A.ltI_f c3), (A.eqI_f c4), rfl, (A.eqI_t c5), rfl, (A.eqI_f c4), (A.eqI_t c5), (A.call (ok_impl_in a0.N 0 1000000000000 _ hr6)), rfl, rfl, A.len, (A.ltI_f c8), A.len, (A.eqI_t c9), rfl, (A.ltI_f (by omega)), (A.call (H_slices_ContainsFunc_Expr_isFormed_1 a0.Kids a1 _ hr10)), rfl, trivial⟩
                · rw [if_neg c9] at h
                  obtain rfl := Option.some.inj h
                  exact call_way cfg [(.eqI a1 0, .b false), (.eqI a0.Kind 5, .b false), (.notB false, .b true), (.len (eL (e_sl e_u8) a0.K), .i ((a0.K.length : Nat) : Int)), (.ltI 0 ((a0.K.length : Nat) : Int), .b false), (.eqI a0.Kind 1, .b false), (.notB false, .b true), (.eqI a0.Kind 2, .b true), (.notB true, .b false), (.eqI a0.Kind 1, .b false), (.eqI a0.Kind 2, .b true), (.call 38 [] [.val false [.int .i64 a0.N], .val false [.int .i64 0], .val false [.int .i64 1000000000000]], .r (.val false [.bool true]) []), (.notB true, .b false), (.notB false, .b true), (.len (eL e_u8 a0.S), .i ((a0.S.length : Nat) : Int)), (.ltI 0 ((a0.S.length : Nat) : Int), .b false), (.len (eL e_GExpr a0.Kids), .i ((a0.Kids.length : Nat) : Int)), (.eqI ((a0.Kids.length : Nat) : Int) 0, .b false), (.notB false, .b true)] rfl fd_79 (by kernel_rfl) ⟨(A.eqI_f c1), (A.eqI_f c2), rfl, A.len, (A.ltI_f c3), (A.eqI_f c4), rfl, (A.eqI_t c5), rfl, (A.eqI_f c4), (A.eqI_t c5), (A.call (ok_impl_in a0.N 0 1000000000000 _ hr6)), rfl, rfl, A.len, (A.ltI_f c8), A.len, (A.eqI_f c9), rfl, trivial⟩
            | false =>
              try dsimp only at h
              obtain rfl := Option.some.inj h
              exact call_way cfg [(.eqI a1 0, .b false), (.eqI a0.Kind 5, .b false), (.notB false, .b true), (.len (eL (e_sl e_u8) a0.K), .i ((a0.K.length : Nat) : Int)), (.ltI 0 ((a0.K.length : Nat) : Int), .b false), (.eqI a0.Kind 1, .b false), (.notB false, .b true), (.eqI a0.Kind 2, .b true), (.notB true, .b false), (.eqI a0.Kind 1, .b false), (.eqI a0.Kind 2, .b true), (.call 38 [] [.val false [.int .i64 a0.N], .val false [.int .i64 0], .val false [.int .i64 1000000000000]], .r (.val false [.bool false]) []), (.notB false, .b true)] rfl fd_79 (by kernel_rfl) ⟨(A.eqI_f c1), (A.eqI_f c2), rfl, A.len, (A.ltI_f c3), (A.eqI_f c4), rfl, (A.eqI_t c5), rfl, (A.eqI_f c4), (A.eqI_t c5), (A.call (ok_impl_in a0.N 0 1000000000000 _ hr6)), rfl, trivial⟩
          · rw [if_neg c5] at h
            by_cases c6 : a0.N = 0
            · rw [if_pos c6] at h
              by_cases c7 : a0.Kind = 0
              · rw [if_pos c7] at h
                by_cases c8 : 0 < ((a0.S.length : Nat) : Int)
                · rw [if_pos c8] at h
                  obtain rfl := Option.some.inj h
                  exact call_way cfg [(.eqI a1 0, .b false), (.eqI a0.Kind 5, .b false), (.notB false, .b true), (.len (eL (e_sl e_u8) a0.K), .i ((a0.K.length : Nat) : Int)), (.ltI 0 ((a0.K.length : Nat) : Int), .b false), (.eqI a0.Kind 1, .b false), (.notB false, .b true), (.eqI a0.Kind 2, .b false), (.notB false, .b true), (.eqI a0.N 0, .b true), (.notB true, .b false), (.eqI a0.Kind 1, .b false), (.eqI a0.Kind 2, .b false), (.eqI a0.Kind 0, .b true), (.notB false, .b true), (.len (eL e_u8 a0.S), .i ((a0.S.length : Nat) : Int)), (.ltI 0 ((a0.S.length : Nat) : Int), .b true)] rfl fd_79 (by kernel_rfl) ⟨(A.eqI_f c1), (A.eqI_f c2), rfl, A.len, (A.ltI_f c3), (A.eqI_f c4), rfl, (A.eqI_f c5), rfl, (A.eqI_t c6), rfl, (A.eqI_f c4), (A.eqI_f c5), (A.eqI_t c7), rfl, A.len, (A.ltI_t c8), trivial⟩
                · rw [if_neg c8] at h
                  by_cases c9 : ((a0.Kids.length : Nat) : Int) = 0
                  · rw [if_pos c9] at h
                    obtain ⟨r10, hr10, h⟩ := Option.bind_eq_some_iff.1 h
                    obtain rfl := Option.some.inj h
                    exact call_way cfg [(.eqI a1 0, .b false), (.eqI a0.Kind 5, .b false), (.notB false, .b true), (.len (eL (e_sl e_u8) a0.K), .i ((a0.K.length : Nat) : Int)), (.ltI 0 ((a0.K.length : Nat) : Int), .b false), (.eqI a0.Kind 1, .b false), (.notB false, .b true), (.eqI a0.Kind 2, .b false), (.notB false, .b true), (.eqI a0.N 0, .b true), (.notB true, .b false), (.eqI a0.Kind 1, .b false), (.eqI a0.Kind 2, .b false), (.eqI a0.Kind 0, .b true), (.notB false, .b true), (.len (eL e_u8 a0.S), .i ((a0.S.length : Nat) : Int)), (.ltI 0 ((a0.S.length : Nat) : Int), .b false), (.len (eL e_GExpr a0.Kids), .i ((a0.Kids.length : Nat) : Int)), (.eqI ((a0.Kids.length : Nat) : Int) 0, .b true), (.notB true, .b false), (.ltI 150 0, .b false), (.call 107 [.var [.int .i64 a1]] [.val false [.seq (eL e_GExpr a0.Kids)], .val false [.fn 108 [.ptr 0 0]]], .r (.val false [.bool r10]) [.var [.int .i64 a1]]), (.notB r10, .b (!r10))] rfl fd_79 (by kernel_rfl) ⟨(A.eqI_f c1), (A.eqI_f c2), rfl, A.len, (A.ltI_f c3), (A.eqI_f c4), rfl, (A.eqI_f c5), rfl, (A.eqI_t c6), rfl, (A.eqI_f c4), (A.eqI_f c5), (A.eqI_t c7), rfl, A.len, (A.ltI_f c8), A.len, (A.eqI_t c9), rfl, (A.ltI_f (by omega)), (A.call (H_slices_ContainsFunc_Expr_isFormed_1 a0.Kids a1 _ hr10)), rfl, trivial⟩
                  · rw [if_neg c9] at h
                    obtain rfl := Option.some.inj h
                    exact call_way cfg [(.eqI a1 0, .b false), (.eqI a0.Kind 5, .b false), (.notB false, .b true), (.len (eL (e_sl e_u8) a0.K), .i ((a0.K.length : Nat) : Int)), (.ltI 0 ((a0.K.length : Nat) : Int), .b false), (.eqI a0.Kind 1, .b false), (.notB false, .b true), (.eqI a0.Kind 2, .b false), (.notB false, .b true), (.eqI a0.N 0, .b true), (.notB true, .b false), (.eqI a0.Kind 1, .b false), (.eqI a0.Kind 2, .b false), (.eqI a0.Kind 0, .b true), (.notB false, .b true), (.len (eL e_u8 a0.S), .i ((a0.S.length : Nat) : Int)), (.ltI 0 ((a0.S.length : Nat) : Int), .b false), (.len (eL e_GExpr a0.Kids), .i ((a0.Kids.length : Nat) : Int)), (.eqI ((a0.Kids.length : Nat) : Int) 0, .b false), (.notB false, .b true)] rfl fd_79 (by kernel_rfl) ⟨(A.eqI_f c1), (A.eqI_f c2), rfl, A.len, (A.ltI_f c3), (A.eqI_f c4), rfl, (A.eqI_f c5), rfl, (A.eqI_t c6), rfl, (A.eqI_f c4), (A.eqI_f c5), (A.eqI_t c7), rfl, A.len, (A.ltI_f c8), A.len, (A.eqI_f c9), rfl, trivial⟩
              · rw [if_neg c7] at h
                by_cases c8 : a0.Kind = 10
                · rw [if_pos c8] at h
                  by_cases c9 : 0 < ((a0.S.length : Nat) : Int)
                  · rw [if_pos c9] at h
                    obtain rfl := Option.some.inj h
                    exact call_way cfg [(.eqI a1 0, .b false), (.eqI a0.Kind 5, .b false), (.notB false, .b true), (.len (eL (e_sl e_u8) a0.K), .i ((a0.K.length : Nat) : Int)), (.ltI 0 ((a0.K.length : Nat) : Int), .b false), (.eqI a0.Kind 1, .b false), (.notB false, .b true), (.eqI a0.Kind 2, .b false), (.notB false, .b true), (.eqI a0.N 0, .b true), (.notB true, .b false), (.eqI a0.Kind 1, .b false), (.eqI a0.Kind 2, .b false), (.eqI a0.Kind 0, .b false), (.eqI a0.Kind 10, .b true), (.notB false, .b true), (.len (eL e_u8 a0.S), .i ((a0.S.length : Nat) : Int)), (.ltI 0 ((a0.S.length : Nat) : Int), .b true)] rfl fd_79 (by kernel_rfl) ⟨(A.eqI_f c1), (A.eqI_f c2), rfl, A.len, (A.ltI_f c3), (A.eqI_f c4), rfl, (A.eqI_f c5), rfl, (A.eqI_t c6), rfl, (A.eqI_f c4), (A.eqI_f c5), (A.eqI_f c7), (A.eqI_t c8), rfl, A.len, (A.ltI_t c9), trivial⟩
                  · rw [if_neg c9] at h
                    by_cases c10 : ((a0.Kids.length : Nat) : Int) = 0
                    · rw [if_pos c10] at h
                      obtain ⟨r11, hr11, h⟩ := Option.bind_eq_some_iff.1 h
                      obtain rfl := Option.some.inj h
                      exact call_way cfg [(.eqI a1 0, .b false), (.eqI a0.Kind 5, .b false), (.notB false, .b true), (.len (eL (e_sl e_u8) a0.K), .i ((a0.K.length : Nat) : Int)), (.ltI 0 ((a0.K.length : Nat) : Int), .b false), (.eqI a0.Kind 1, .b false), (.notB false, .b true), (.eqI a0.Kind 2, .b false), (.notB false, .b true), (.eqI a0.N 0, .b true), (.notB true, .b false), (.eqI a0.Kind 1, .b false), (.eqI a0.Kind 2, .b false), (.eqI a0.Kind 0, .b false), (.eqI a0.Kind 10, .b true), (.notB false, .b true), (.len (eL e_u8 a0.S), .i ((a0.S.length : Nat) : Int)), (.ltI 0 ((a0.S.length : Nat) : Int), .b false), (.len (eL e_GExpr a0.Kids), .i ((a0.Kids.length : Nat) : Int)), (.eqI ((a0.Kids.length : Nat) : Int) 0, .b true), (.notB true, .b false), (.ltI 150 0, .b false), (.call 107 [.var [.int .i64 a1]] [.val false [.seq (eL e_GExpr a0.Kids)], .val false [.fn 108 [.ptr 0 0]]], .r (.val false [.bool r11]) [.var [.int .i64 a1]]), (.notB r11, .b (!r11))] rfl fd_79 (by kernel_rfl) ⟨(A.eqI_f c1), (A.eqI_f c2), rfl, A.len, (A.ltI_f c3), (A.eqI_f c4), rfl, (A.eqI_f c5), rfl, (A.eqI_t c6), rfl, (A.eqI_f c4), (A.eqI_f c5), (A.eqI_f c7), (A.eqI_t c8), rfl, A.len, (A.ltI_f c9), A.len, (A.eqI_t c10), rfl, (A.ltI_f (by omega)), (A.call (H_slices_ContainsFunc_Expr_isFormed_1 a0.Kids a1 _ hr11)), rfl, trivial⟩
                    · rw [if_neg c10] at h
                      obtain rfl := Option.some.inj h
                      exact call_way cfg [(.eqI a1 0, .b false), (.eqI a0.Kind 5, .b false), (.notB false, .b true), (.len (eL (e_sl e_u8) a0.K), .i ((a0.K.length : Nat) : Int)), (.ltI 0 ((a0.K.length : Nat) : Int), .b false), (.eqI a0.Kind 1, .b false), (.notB false, .b true), (.eqI a0.Kind 2, .b false), (.notB false, .b true), (.eqI a0.N 0, .b true), (.notB true, .b false), (.eqI a0.Kind 1, .b false), (.eqI a0.Kind 2, .b false), (.eqI a0.Kind 0, .b false), (.eqI a0.Kind 10, .b true), (.notB false, .b true), (.len (eL e_u8 a0.S), .i ((a0.S.length : Nat) : Int)), (.ltI 0 ((a0.S.length : Nat) : Int), .b false), (.len (eL e_GExpr a0.Kids), .i ((a0.Kids.length : Nat) : Int)), (.eqI ((a0.Kids.length : Nat) : Int) 0, .b false), (.notB false, .b true)] rfl fd_79 (by kernel_rfl) ⟨(A.eqI_f c1), (A.eqI_f c2), rfl, A.len, (A.ltI_f c3), (A.eqI_f c4), rfl, (A.eqI_f c5), rfl, (A.eqI_t c6), rfl, (A.eqI_f c4), (A.eqI_f c5), (A.eqI_f c7), (A.eqI_t c8), rfl, A.len, (A.ltI_f c9), A.len, (A.eqI_f c10), rfl, trivial⟩
                · rw [if_neg c8] at h
                  by_cases c9 : a0.Kind = 11
                  · rw [if_pos c9] at h
                    by_cases c10 : 0 < ((a0.S.length : Nat) : Int)
                    · rw [if_pos c10] at h
                      obtain rfl := Option.some.inj h
                      exact call_way cfg [(.eqI a1 0, .b false), (.eqI a0.Kind 5, .b false), (.notB false, .b true), (.len (eL (e_sl e_u8) a0.K), .i ((a0.K.length : Nat) : Int)), (.ltI 0 ((a0.K.length : Nat) : Int), .b false), (.eqI a0.Kind 1, .b false), (.notB false, .b true), (.eqI a0.Kind 2, .b false), (.notB false, .b true), (.eqI a0.N 0, .b true), (.notB true, .b false), (.eqI a0.Kind 1, .b false), (.eqI a0.Kind 2, .b false), (.eqI a0.Kind 0, .b false), (.eqI a0.Kind 10, .b false), (.eqI a0.Kind 11, .b true), (.notB false, .b true), (.len (eL e_u8 a0.S), .i ((a0.S.length : Nat) : Int)), (.ltI 0 ((a0.S.length : Nat) : Int), .b true)] rfl fd_79 (by kernel_rfl) ⟨(A.eqI_f c1), (A.eqI_f c2), rfl, A.len, (A.ltI_f c3), (A.eqI_f c4), rfl, (A.eqI_f c5), rfl, (A.eqI_t c6), rfl, (A.eqI_f c4), (A.eqI_f c5), (A.eqI_f c7), (A.eqI_f c8), (A.eqI_t c9), rfl, A.len, (A.ltI_t c10), trivial⟩
                    · rw [if_neg c10] at h
                      by_cases c11 : ((a0.Kids.length : Nat) : Int) = 0
                      · rw [if_pos c11] at h
                        obtain ⟨r12, hr12, h⟩ := Option.bind_eq_some_iff.1 h
                        obtain rfl := Option.some.inj h
                        exact call_way cfg [(.eqI a1 0, .b false), (.eqI a0.Kind 5, .b false), (.notB false, .b true), (.len (eL (e_sl e_u8) a0.K), .i ((a0.K.length : Nat) : Int)), (.ltI 0 ((a0.K.length : Nat) : Int), .b false), (.eqI a0.Kind 1, .b false), (.notB false, .b true), (.eqI a0.Kind 2, .b false), (.notB false, .b true), (.eqI a0.N 0, .b true), (.notB true, .b false), (.eqI a0.Kind 1, .b false), (.eqI a0.Kind 2, .b false), (.eqI a0.Kind 0, .b false), (.eqI a0.Kind 10, .b false), (.eqI a0.Kind 11, .b true), (.notB false, .b true), (.len (eL e_u8 a0.S), .i ((a0.S.length : Nat) : Int)), (.ltI 0 ((a0.S.length : Nat) : Int), .b false), (.len (eL e_GExpr a0.Kids), .i ((a0.Kids.length : Nat) : Int)), (.eqI ((a0.Kids.length : Nat) : Int) 0, .b true), (.notB true, .b false), (.ltI 150 0, .b false), (.call 107 [.var [.int .i64 a1]] [.val false [.seq (eL e_GExpr a0.Kids)], .val false [.fn 108 [.ptr 0 0]]], .r (.val false [.bool r12]) [.var [.int .i64 a1]]), (.notB r12, .b (!r12))] rfl fd_79 (by kernel_rfl) ⟨(A.eqI_f c1), (A.eqI_f c2), rfl, A.len, (A.ltI_f c3), (A.eqI_f c4), rfl, (A.eqI_f c5), rfl, (A.eqI_t c6), rfl, (A.eqI_f c4), (A.eqI_f c5), (A.eqI_f c7), (A.eqI_f c8), (A.eqI_t c9), rfl, A.len, (A.ltI_f c10), A.len, (A.eqI_t c11), rfl, (A.ltI_f (by omega)), (A.call (H_slices_ContainsFunc_Expr_isFormed_1 a0.Kids a1 _ hr12)), rfl, trivial⟩
                      · rw [if_neg c11] at h
                        obtain rfl := Option.some.inj h
                        exact call_way cfg [(.eqI a1 0, .b false), (.eqI a0.Kind 5, .b false), (.notB false, .b true), (.len (eL (e_sl e_u8) a0.K), .i ((a0.K.length : Nat) : Int)), (.ltI 0 ((a0.K.length : Nat) : Int), .b false), (.eqI a0.Kind 1, .b false), (.notB false, .b true), (.eqI a0.Kind 2, .b false), (.notB false, .b true), (.eqI a0.N 0, .b true), (.notB true, .b false), (.eqI a0.Kind 1, .b false), (.eqI a0.Kind 2, .b false), (.eqI a0.Kind 0, .b false), (.eqI a0.Kind 10, .b false), (.eqI a0.Kind 11, .b true), (.notB false, .b true), (.len (eL e_u8 a0.S), .i ((a0.S.length : Nat) : Int)), (.ltI 0 ((a0.S.length : Nat) : Int), .b false), (.len (eL e_GExpr a0.Kids), .i ((a0.Kids.length : Nat) : Int)), (.eqI ((a0.Kids.length : Nat) : Int) 0, .b false), (.notB false, .b true)] rfl fd_79 (by kernel_rfl) ⟨(A.eqI_f c1), (A.eqI_f c2), rfl, A.len, (A.ltI_f c3), (A.eqI_f c4), rfl, (A.eqI_f c5), rfl, (A.eqI_t c6), rfl, (A.eqI_f c4), (A.eqI_f c5), (A.eqI_f c7), (A.eqI_f c8), (A.eqI_t c9), rfl, A.len, (A.ltI_f c10), A.len, (A.eqI_f c11), rfl, trivial⟩
                  · rw [if_neg c9] at h
                    by_cases c10 : a0.Kind = 12
                    · rw [if_pos c10] at h
                      by_cases c11 : 0 < ((a0.S.length : Nat) : Int)
                      · rw [if_pos c11] at h
                        obtain rfl := Option.some.inj h
                        exact call_way cfg [(.eqI a1 0, .b false), (.eqI a0.Kind 5, .b false), (.notB false, .b true), (.len (eL (e_sl e_u8) a0.K), .i ((a0.K.length : Nat) : Int)), (.ltI 0 ((a0.K.length : Nat) : Int), .b false), (.eqI a0.Kind 1, .b false), (.notB false, .b true), (.eqI a0.Kind 2, .b false), (.notB false, .b true), (.eqI a0.N 0, .b true), (.notB true, .b false), (.eqI a0.Kind 1, .b false), (.eqI a0.Kind 2, .b false), (.eqI a0.Kind 0, .b false), (.eqI a0.Kind 10, .b false), (.eqI a0.Kind 11, .b false), (.eqI a0.Kind 12, .b true), (.notB false, .b true), (.len (eL e_u8 a0.S), .i ((a0.S.length : Nat) : Int)), (.ltI 0 ((a0.S.length : Nat) : Int), .b true)] rfl fd_79 (by kernel_rfl) ⟨(A.eqI_f c1), (A.eqI_f c2), rfl, A.len, (A.ltI_f c3), (A.eqI_f c4), rfl, (A.eqI_f c5), rfl, (A.eqI_t c6), rfl, (A.eqI_f c4), (A.eqI_f c5), (A.eqI_f c7), (A.eqI_f c8), (A.eqI_f c9), (A.eqI_t c10), rfl, A.len, (A.ltI_t c11), trivial⟩
                      · rw [if_neg c11] at h
                        by_cases c12 : ((a0.Kids.length : Nat) : Int) = 0
                        · rw [if_pos c12] at h
                          obtain ⟨r13, hr13, h⟩ := Option.bind_eq_some_iff.1 h
                          obtain rfl := Option.some.inj h
                          exact call_way cfg [(.eqI a1 0, .b false), (.eqI a0.Kind 5, .b false), (.notB false, .b true), (.len (eL (e_sl e_u8) a0.K), .i ((a0.K.length : Nat) : Int)), (.ltI 0 ((a0.K.length : Nat) : Int), .b false), (.eqI a0.Kind 1, .b false), (.notB false, .b true), (.eqI a0.Kind 2, .b false), (.notB false, .b true), (.eqI a0.N 0, .b true), (.notB true, .b false), (.eqI a0.Kind 1, .b false), (.eqI a0.Kind 2, .b false), (.eqI a0.Kind 0, .b false), (.eqI a0.Kind 10, .b false), (.eqI a0.Kind 11, .b false), (.eqI a0.Kind 12, .b true), (.notB false, .b true), (.len (eL e_u8 a0.S), .i ((a0.S.length : Nat) : Int)), (.ltI 0 ((a0.S.length : Nat) : Int), .b false), (.len (eL e_GExpr a0.Kids), .i ((a0.Kids.length : Nat) : Int)), (.eqI ((a0.Kids.length : Nat) : Int) 0, .b true), (.notB true, .b false), (.ltI 150 0, .b false), (.call 107 [.var [.int .i64 a1]] [.val false [.seq (eL e_GExpr a0.Kids)], .val false [.fn 108 [.ptr 0 0]]], .r (.val false [.bool r13]) [.var [.int .i64 a1]]), (.notB r13, .b (!r13))] rfl fd_79 (by kernel_rfl) ⟨(A.eqI_f c1), (A.eqI_f c2), rfl, A.len, (A.ltI_f c3), (A.eqI_f c4), rfl, (A.eqI_f c5), rfl, (A.eqI_t c6), rfl, (A.eqI_f c4), (A.eqI_f c5), (A.eqI_f c7), (A.eqI_f c8), (A.eqI_f c9), (A.eqI_t c10), rfl, A.len, (A.ltI_f c11), A.len, (A.eqI_t c12), rfl, (A.ltI_f (by omega)), (A.call (H_slices_ContainsFunc_Expr_isFormed_1 a0.Kids a1 _ hr13)), rfl, trivial⟩
                        · rw [if_neg c12] at h
                          obtain rfl := Option.some.inj h
                          exact call_way cfg [(.eqI a1 0, .b false), (.eqI a0.Kind 5, .b false), (.notB false, .b true), (.len (eL (e_sl e_u8) a0.K), .i ((a0.K.length : Nat) : Int)), (.ltI 0 ((a0.K.length : Nat) : Int), .b false), (.eqI a0.Kind 1, .b false), (.notB false, .b true), (.eqI a0.Kind 2, .b false), (.notB false, .b true), (.eqI a0.N 0, .b true), (.notB true, .b false), (.eqI a0.Kind 1, .b false), (.eqI a0.Kind 2, .b false), (.eqI a0.Kind 0, .b false), (.eqI a0.Kind 10, .b false), (.eqI a0.Kind 11, .b false), (.eqI a0.Kind 12, .b true), (.notB false, .b true), (.len (eL e_u8 a0.S), .i ((a0.S.length : Nat) : Int)), (.ltI 0 ((a0.S.length : Nat) : Int), .b false), (.len (eL e_GExpr a0.Kids), .i ((a0.Kids.length : Nat) : Int)), (.eqI ((a0.Kids.length : Nat) : Int) 0, .b false), (.notB false, .b true)] rfl fd_79 (by kernel_rfl) ⟨(A.eqI_f c1), (A.eqI_f c2), rfl, A.len, (A.ltI_f c3), (A.eqI_f c4), rfl, (A.eqI_f c5), rfl, (A.eqI_t c6), rfl, (A.eqI_f c4), (A.eqI_f c5), (A.eqI_f c7), (A.eqI_f c8), (A.eqI_f c9), (A.eqI_t c10), rfl, A.len, (A.ltI_f c11), A.len, (A.eqI_f c12), rfl, trivial⟩
                    · rw [if_neg c10] at h
                      by_cases c11 : a0.Kind = 3
                      · rw [if_pos c11] at h
                        obtain ⟨r12, hr12, h⟩ := Option.bind_eq_some_iff.1 h
                        cases r12 with
                        | true =>
                          try dsimp only at h
                          by_cases c14 : ((a0.Kids.length : Nat) : Int) = 0
                          · rw [if_pos c14] at h
                            obtain ⟨r15, hr15, h⟩ := Option.bind_eq_some_iff.1 h
                            obtain rfl := Option.some.inj h
                            exact call_way cfg [(.eqI a1 0, .b false), (.eqI a0.Kind 5, .b false), (.notB false, .b true), (.len (eL (e_sl e_u8) a0.K), .i ((a0.K.length : Nat) : Int)), (.ltI 0 ((a0.K.length : Nat) : Int), .b false), (.eqI a0.Kind 1, .b false), (.notB false, .b true), (.eqI a0.Kind 2, .b false), (.notB false, .b true), (.eqI a0.N 0, .b true), (.notB true, .b false), (.eqI a0.Kind 1, .b false), (.eqI a0.Kind 2, .b false), (.eqI a0.Kind 0, .b false), (.eqI a0.Kind 10, .b false), (.eqI a0.Kind 11, .b false), (.eqI a0.Kind 12, .b false), (.eqI a0.Kind 3, .b true), (.call 104 [] [.val false [.seq (eL e_u8 a0.S)]], .r (.val false [.bool true]) []), (.notB true, .b false), (.notB true, .b false), (.len (eL e_GExpr a0.Kids), .i ((a0.Kids.length : Nat) : Int)), (.eqI ((a0.Kids.length : Nat) : Int) 0, .b true), (.notB true, .b false), (.ltI 150 0, .b false), (.call 107 [.var [.int .i64 a1]] [.val false [.seq (eL e_GExpr a0.Kids)], .val false [.fn 108 [.ptr 0 0]]], .r (.val false [.bool r15]) [.var [.int .i64 a1]]), (.notB r15, .b (!r15))] rfl fd_79 (by kernel_rfl) ⟨(A.eqI_f c1), (A.eqI_f c2), rfl, A.len, (A.ltI_f c3), (A.eqI_f c4), rfl, (A.eqI_f c5), rfl, (A.eqI_t c6), rfl, (A.eqI_f c4), (A.eqI_f c5), (A.eqI_f c7), (A.eqI_f c8), (A.eqI_f c9), (A.eqI_f c10), (A.eqI_t c11), (A.call (ok_impl_isText a0.S _ hr12)), rfl, rfl, A.len, (A.eqI_t c14), rfl, (A.ltI_f (by omega)), (A.call (H_slices_ContainsFunc_Expr_isFormed_1 a0.Kids a1 _ hr15)), rfl, trivial⟩
                          · rw [if_neg c14] at h
                            obtain rfl := Option.some.inj h
                            exact call_way cfg [(.eqI a1 0, .b false), (.eqI a0.Kind 5, .b false), (.notB false, .b true), (.len (eL (e_sl e_u8) a0.K), .i ((a0.K.length : Nat) : Int)), (.ltI 0 ((a0.K.length : Nat) : Int), .b false), (.eqI a0.Kind 1, .b false), (.notB false, .b true), (.eqI a0.Kind 2, .b false), (.notB false, .b true), (.eqI a0.N 0, .b true), (.notB true, .b false), (.eqI a0.Kind 1, .b false), (.eqI a0.Kind 2, .b false), (.eqI a0.Kind 0, .b false), (.eqI a0.Kind 10, .b false), (.eqI a0.Kind 11, .b false), (.eqI a0.Kind 12, .b false), (.eqI a0.Kind 3, .b true), (.call 104 [] [.val false [.seq (eL e_u8 a0.S)]], .r (.val false [.bool true]) []), (.notB true, .b false), (.notB true, .b false), (.len (eL e_GExpr a0.Kids), .i ((a0.Kids.length : Nat) : Int)), (.eqI ((a0.Kids.length : Nat) : Int) 0, .b false), (.notB false, .b true)] rfl fd_79 (by kernel_rfl) ⟨(A.eqI_f c1), (A.eqI_f c2), rfl, A.len, (A.ltI_f c3), (A.eqI_f c4), rfl, (A.eqI_f c5), rfl, (A.eqI_t c6), rfl, (A.eqI_f c4), (A.eqI_f c5), (A.eqI_f c7), (A.eqI_f c8), (A.eqI_f c9), (A.eqI_f c10), (A.eqI_t c11), (A.call (ok_impl_isText a0.S _ hr12)), rfl, rfl, A.len, (A.eqI_f c14), rfl, trivial⟩
                        | false =>
                          try dsimp only at h
                          obtain rfl := Option.some.inj h
                          exact call_way cfg [(.eqI a1 0, .b false), (.eqI a0.Kind 5, .b false), (.notB false, .b true), (.len (eL (e_sl e_u8) a0.K), .i ((a0.K.length : Nat) : Int)), (.ltI 0 ((a0.K.length : Nat) : Int), .b false), (.eqI a0.Kind 1, .b false), (.notB false, .b true), (.eqI a0.Kind 2, .b false), (.notB false, .b true), (.eqI a0.N 0, .b true), (.notB true, .b false), (.eqI a0.Kind 1, .b false), (.eqI a0.Kind 2, .b false), (.eqI a0.Kind 0, .b false), (.eqI a0.Kind 10, .b false), (.eqI a0.Kind 11, .b false), (.eqI a0.Kind 12, .b false), (.eqI a0.Kind 3, .b true), (.call 104 [] [.val false [.seq (eL e_u8 a0.S)]], .r (.val false [.bool false]) []), (.notB false, .b true)] rfl fd_79 (by kernel_rfl) ⟨(A.eqI_f c1), (A.eqI_f c2), rfl, A.len, (A.ltI_f c3), (A.eqI_f c4), rfl, (A.eqI_f c5), rfl, (A.eqI_t c6), rfl, (A.eqI_f c4), (A.eqI_f c5), (A.eqI_f c7), (A.eqI_f c8), (A.eqI_f c9), (A.eqI_f c10), (A.eqI_t c11), (A.call (ok_impl_isText a0.S _ hr12)), rfl, trivial⟩
                      · rw [if_neg c11] at h
                        by_cases c12 : a0.Kind = 6
                        · rw [if_pos c12] at h
                          obtain ⟨r13, hr13, h⟩ := Option.bind_eq_some_iff.1 h
                          cases r13 with
                          | true =>
                            try dsimp only at h
                            by_cases c15 : ((a0.Kids.length : Nat) : Int) = 0
                            · rw [if_pos c15] at h
                              obtain ⟨r16, hr16, h⟩ := Option.bind_eq_some_iff.1 h
                              obtain rfl := Option.some.inj h
                              exact call_way cfg [(.eqI a1 0, .b false), (.eqI a0.Kind 5, .b false), (.notB false, .b true), (.len (eL (e_sl e_u8) a0.K), .i ((a0.K.length : Nat) : Int)), (.ltI 0 ((a0.K.length : Nat) : Int), .b false), (.eqI a0.Kind 1, .b false), (.notB false, .b true), (.eqI a0.Kind 2, .b false), (.notB false, .b true), (.eqI a0.N 0, .b true), (.notB true, .b false), (.eqI a0.Kind 1, .b false), (.eqI a0.Kind 2, .b false), (.eqI a0.Kind 0, .b false), (.eqI a0.Kind 10, .b false), (.eqI a0.Kind 11, .b false), (.eqI a0.Kind 12, .b false), (.eqI a0.Kind 3, .b false), (.eqI a0.Kind 6, .b true), (.call 105 [] [.val false [.seq (eL e_u8 a0.S)]], .r (.val false [.bool true]) []), (.notB true, .b false), (.eqI a0.Kind 8, .b false), (.notB true, .b false), (.len (eL e_GExpr a0.Kids), .i ((a0.Kids.length : Nat) : Int)), (.eqI ((a0.Kids.length : Nat) : Int) 0, .b true), (.notB true, .b false), (.ltI 150 0, .b false), (.call 107 [.var [.int .i64 a1]] [.val false [.seq (eL e_GExpr a0.Kids)], .val false [.fn 108 [.ptr 0 0]]], .r (.val false [.bool r16]) [.var [.int .i64 a1]]), (.notB r16, .b (!r16))] rfl fd_79 (by kernel_rfl) ⟨(A.eqI_f c1), (A.eqI_f c2), rfl, A.len, (A.ltI_f c3), (A.eqI_f c4), rfl, (A.eqI_f c5), rfl, (A.eqI_t c6), rfl, (A.eqI_f c4), (A.eqI_f c5), (A.eqI_f c7), (A.eqI_f c8), (A.eqI_f c9), (A.eqI_f c10), (A.eqI_f c11), (A.eqI_t c12), (A.call (ok_impl_isName a0.S _ hr13)), rfl, (A.eqI_f (by omega)), rfl, A.len, (A.eqI_t c15), rfl, (A.ltI_f (by omega)), (A.call (H_slices_ContainsFunc_Expr_isFormed_1 a0.Kids a1 _ hr16)), rfl, trivial⟩
                            · rw [if_neg c15] at h
                              obtain rfl := Option.some.inj h
                              exact call_way cfg [(.eqI a1 0, .b false), (.eqI a0.Kind 5, .b false), (.notB false, .b true), (.len (eL (e_sl e_u8) a0.K), .i ((a0.K.length : Nat) : Int)), (.ltI 0 ((a0.K.length : Nat) : Int), .b false), (.eqI a0.Kind 1, .b false), (.notB false, .b true), (.eqI a0.Kind 2, .b false), (.notB false, .b true), (.eqI a0.N 0, .b true), (.notB true, .b false), (.eqI a0.Kind 1, .b false), (.eqI a0.Kind 2, .b false), (.eqI a0.Kind 0, .b false), (.eqI a0.Kind 10, .b false), (.eqI a0.Kind 11, .b false), (.eqI a0.Kind 12, .b false), (.eqI a0.Kind 3, .b false), (.eqI a0.Kind 6, .b true), (.call 105 [] [.val false [.seq (eL e_u8 a0.S)]], .r (.val false [.bool true]) []), (.notB true, .b false), (.eqI a0.Kind 8, .b false), (.notB true, .b false), (.len (eL e_GExpr a0.Kids), .i ((a0.Kids.length : Nat) : Int)), (.eqI ((a0.Kids.length : Nat) : Int) 0, .b false), (.notB false, .b true)] rfl fd_79 (by kernel_rfl) ⟨(A.eqI_f c1), (A.eqI_f c2), rfl, A.len, (A.ltI_f c3), (A.eqI_f c4), rfl, (A.eqI_f c5), rfl, (A.eqI_t c6), rfl, (A.eqI_f c4), (A.eqI_f c5), (A.eqI_f c7), (A.eqI_f c8), (A.eqI_f c9), (A.eqI_f c10), (A.eqI_f c11), (A.eqI_t c12), (A.call (ok_impl_isName a0.S _ hr13)), rfl, (A.eqI_f (by omega)), rfl, A.len, (A.eqI_f c15), rfl, trivial⟩
                          | false =>
                            try dsimp only at h
                            obtain rfl := Option.some.inj h
                            exact call_way cfg [(.eqI a1 0, .b false), (.eqI a0.Kind 5, .b false), (.notB false, .b true), (.len (eL (e_sl e_u8) a0.K), .i ((a0.K.length : Nat) : Int)), (.ltI 0 ((a0.K.length : Nat) : Int), .b false), (.eqI a0.Kind 1, .b false), (.notB false, .b true), (.eqI a0.Kind 2, .b false), (.notB false, .b true), (.eqI a0.N 0, .b true), (.notB true, .b false), (.eqI a0.Kind 1, .b false), (.eqI a0.Kind 2, .b false), (.eqI a0.Kind 0, .b false), (.eqI a0.Kind 10, .b false), (.eqI a0.Kind 11, .b false), (.eqI a0.Kind 12, .b false), (.eqI a0.Kind 3, .b false), (.eqI a0.Kind 6, .b true), (.call 105 [] [.val false [.seq (eL e_u8 a0.S)]], .r (.val false [.bool false]) []), (.notB false, .b true)] rfl fd_79 (by kernel_rfl) ⟨(A.eqI_f c1), (A.eqI_f c2), rfl, A.len, (A.ltI_f c3), (A.eqI_f c4), rfl, (A.eqI_f c5), rfl, (A.eqI_t c6), rfl, (A.eqI_f c4), (A.eqI_f c5), (A.eqI_f c7), (A.eqI_f c8), (A.eqI_f c9), (A.eqI_f c10), (A.eqI_f c11), (A.eqI_t c12), (A.call (ok_impl_isName a0.S _ hr13)), rfl, trivial⟩
                        · rw [if_neg c12] at h
                          by_cases c13 : a0.Kind = 8
                          · rw [if_pos c13] at h
                            obtain ⟨r14, hr14, h⟩ := Option.bind_eq_some_iff.1 h
                            cases r14 with
                            | true =>
                              try dsimp only at h
                              by_cases c16 : ((a0.Kids.length : Nat) : Int) = 1
                              · rw [if_pos c16] at h
                                obtain ⟨r17, hr17, h⟩ := Option.bind_eq_some_iff.1 h
                                obtain rfl := Option.some.inj h
                                exact call_way cfg [(.eqI a1 0, .b false), (.eqI a0.Kind 5, .b false), (.notB false, .b true), (.len (eL (e_sl e_u8) a0.K), .i ((a0.K.length : Nat) : Int)), (.ltI 0 ((a0.K.length : Nat) : Int), .b false), (.eqI a0.Kind 1, .b false), (.notB false, .b true), (.eqI a0.Kind 2, .b false), (.notB false, .b true), (.eqI a0.N 0, .b true), (.notB true, .b false), (.eqI a0.Kind 1, .b false), (.eqI a0.Kind 2, .b false), (.eqI a0.Kind 0, .b false), (.eqI a0.Kind 10, .b false), (.eqI a0.Kind 11, .b false), (.eqI a0.Kind 12, .b false), (.eqI a0.Kind 3, .b false), (.eqI a0.Kind 6, .b false), (.eqI a0.Kind 8, .b true), (.call 105 [] [.val false [.seq (eL e_u8 a0.S)]], .r (.val false [.bool true]) []), (.notB true, .b false), (.eqI a0.Kind 8, .b true), (.notB true, .b false), (.len (eL e_GExpr a0.Kids), .i ((a0.Kids.length : Nat) : Int)), (.eqI ((a0.Kids.length : Nat) : Int) 1, .b true), (.notB true, .b false), (.ltI 150 1, .b false), (.call 107 [.var [.int .i64 a1]] [.val false [.seq (eL e_GExpr a0.Kids)], .val false [.fn 108 [.ptr 0 0]]], .r (.val false [.bool r17]) [.var [.int .i64 a1]]), (.notB r17, .b (!r17))] rfl fd_79 (by kernel_rfl) ⟨(A.eqI_f c1), (A.eqI_f c2), rfl, A.len, (A.ltI_f c3), (A.eqI_f c4), rfl, (A.eqI_f c5), rfl, (A.eqI_t c6), rfl, (A.eqI_f c4), (A.eqI_f c5), (A.eqI_f c7), (A.eqI_f c8), (A.eqI_f c9), (A.eqI_f c10), (A.eqI_f c11), (A.eqI_f c12), (A.eqI_t c13), (A.call (ok_impl_isName a0.S _ hr14)), rfl, (A.eqI_t c13), rfl, A.len, (A.eqI_t c16), rfl, (A.ltI_f (by omega)), (A.call (H_slices_ContainsFunc_Expr_isFormed_1 a0.Kids a1 _ hr17)), rfl, trivial⟩
                              · rw [if_neg c16] at h
                                obtain rfl := Option.some.inj h
                                exact call_way cfg [(.eqI a1 0, .b false), (.eqI a0.Kind 5, .b false), (.notB false, .b true), (.len (eL (e_sl e_u8) a0.K), .i ((a0.K.length : Nat) : Int)), (.ltI 0 ((a0.K.length : Nat) : Int), .b false), (.eqI a0.Kind 1, .b false), (.notB false, .b true), (.eqI a0.Kind 2, .b false), (.notB false, .b true), (.eqI a0.N 0, .b true), (.notB true, .b false), (.eqI a0.Kind 1, .b false), (.eqI a0.Kind 2, .b false), (.eqI a0.Kind 0, .b false), (.eqI a0.Kind 10, .b false), (.eqI a0.Kind 11, .b false), (.eqI a0.Kind 12, .b false), (.eqI a0.Kind 3, .b false), (.eqI a0.Kind 6, .b false), (.eqI a0.Kind 8, .b true), (.call 105 [] [.val false [.seq (eL e_u8 a0.S)]], .r (.val false [.bool true]) []), (.notB true, .b false), (.eqI a0.Kind 8, .b true), (.notB true, .b false), (.len (eL e_GExpr a0.Kids), .i ((a0.Kids.length : Nat) : Int)), (.eqI ((a0.Kids.length : Nat) : Int) 1, .b false), (.notB false, .b true)] rfl fd_79 (by kernel_rfl) ⟨(A.eqI_f c1), (A.eqI_f c2), rfl, A.len, (A.ltI_f c3), (A.eqI_f c4), rfl, (A.eqI_f c5), rfl, (A.eqI_t c6), rfl, (A.eqI_f c4), (A.eqI_f c5), (A.eqI_f c7), (A.eqI_f c8), (A.eqI_f c9), (A.eqI_f c10), (A.eqI_f c11), (A.eqI_f c12), (A.eqI_t c13), (A.call (ok_impl_isName a0.S _ hr14)), rfl, (A.eqI_t c13), rfl, A.len, (A.eqI_f c16), rfl, trivial⟩
                            | false =>
                              try dsimp only at h
                              obtain rfl := Option.some.inj h
                              exact call_way cfg [(.eqI a1 0, .b false), (.eqI a0.Kind 5, .b false), (.notB false, .b true), (.len (eL (e_sl e_u8) a0.K), .i ((a0.K.length : Nat) : Int)), (.ltI 0 ((a0.K.length : Nat) : Int), .b false), (.eqI a0.Kind 1, .b false), (.notB false, .b true), (.eqI a0.Kind 2, .b false), (.notB false, .b true), (.eqI a0.N 0, .b true), (.notB true, .b false), (.eqI a0.Kind 1, .b false), (.eqI a0.Kind 2, .b false), (.eqI a0.Kind 0, .b false), (.eqI a0.Kind 10, .b false), (.eqI a0.Kind 11, .b false), (.eqI a0.Kind 12, .b false), (.eqI a0.Kind 3, .b false), (.eqI a0.Kind 6, .b false), (.eqI a0.Kind 8, .b true), (.call 105 [] [.val false [.seq (eL e_u8 a0.S)]], .r (.val false [.bool false]) []), (.notB false, .b true)] rfl fd_79 (by kernel_rfl) ⟨(A.eqI_f c1), (A.eqI_f c2), rfl, A.len, (A.ltI_f c3), (A.eqI_f c4), rfl, (A.eqI_f c5), rfl, (A.eqI_t c6), rfl, (A.eqI_f c4), (A.eqI_f c5), (A.eqI_f c7), (A.eqI_f c8), (A.eqI_f c9), (A.eqI_f c10), (A.eqI_f c11), (A.eqI_f c12), (A.eqI_t c13), (A.call (ok_impl_isName a0.S _ hr14)), rfl, trivial⟩
                          · rw [if_neg c13] at h
                            by_cases c14 : a0.Kind = 7
                            · rw [if_pos c14] at h
                              obtain ⟨r15, hr15, h⟩ := Option.bind_eq_some_iff.1 h
                              cases r15 with
                              | true =>
                                try dsimp only at h
                                by_cases c17 : ((a0.Kids.length : Nat) : Int) = 0
                                · rw [if_pos c17] at h
                                  obtain ⟨r18, hr18, h⟩ := Option.bind_eq_some_iff.1 h
                                  obtain rfl := Option.some.inj h
                                  exact call_way cfg [(.eqI a1 0, .b false), (.eqI a0.Kind 5, .b false), (.notB false, .b true), (.len (eL (e_sl e_u8) a0.K), .i ((a0.K.length : Nat) : Int)), (.ltI 0 ((a0.K.length : Nat) : Int), .b false), (.eqI a0.Kind 1, .b false), (.notB false, .b true), (.eqI a0.Kind 2, .b false), (.notB false, .b true), (.eqI a0.N 0, .b true), (.notB true, .b false), (.eqI a0.Kind 1, .b false), (.eqI a0.Kind 2, .b false), (.eqI a0.Kind 0, .b false), (.eqI a0.Kind 10, .b false), (.eqI a0.Kind 11, .b false), (.eqI a0.Kind 12, .b false), (.eqI a0.Kind 3, .b false), (.eqI a0.Kind 6, .b false), (.eqI a0.Kind 8, .b false), (.eqI a0.Kind 7, .b true), (.call 106 [] [.val false [.seq (eL e_u8 a0.S)]], .r (.val false [.bool true]) []), (.notB true, .b false), (.eqI a0.Kind 23, .b false), (.notB true, .b false), (.len (eL e_GExpr a0.Kids), .i ((a0.Kids.length : Nat) : Int)), (.eqI ((a0.Kids.length : Nat) : Int) 0, .b true), (.notB true, .b false), (.ltI 150 0, .b false), (.call 107 [.var [.int .i64 a1]] [.val false [.seq (eL e_GExpr a0.Kids)], .val false [.fn 108 [.ptr 0 0]]], .r (.val false [.bool r18]) [.var [.int .i64 a1]]), (.notB r18, .b (!r18))] rfl fd_79 (by kernel_rfl) ⟨(A.eqI_f c1), (A.eqI_f c2), rfl, A.len, (A.ltI_f c3), (A.eqI_f c4), rfl, (A.eqI_f c5), rfl, (A.eqI_t c6), rfl, (A.eqI_f c4), (A.eqI_f c5), (A.eqI_f c7), (A.eqI_f c8), (A.eqI_f c9), (A.eqI_f c10), (A.eqI_f c11), (A.eqI_f c12), (A.eqI_f c13), (A.eqI_t c14), (A.call (ok_impl_isWord a0.S _ hr15)), rfl, (A.eqI_f (by omega)), rfl, A.len, (A.eqI_t c17), rfl, (A.ltI_f (by omega)), (A.call (H_slices_ContainsFunc_Expr_isFormed_1 a0.Kids a1 _ hr18)), rfl, trivial⟩
                                · rw [if_neg c17] at h
                                  obtain rfl := Option.some.inj h
                                  exact call_way cfg [(.eqI a1 0, .b false), (.eqI a0.Kind 5, .b false), (.notB false, .b true), (.len (eL (e_sl e_u8) a0.K), .i ((a0.K.length : Nat) : Int)), (.ltI 0 ((a0.K.length : Nat) : Int), .b false), (.eqI a0.Kind 1, .b false), (.notB false, .b true), (.eqI a0.Kind 2, .b false), (.notB false, .b true), (.eqI a0.N 0, .b true), (.notB true, .b false), (.eqI a0.Kind 1, .b false), (.eqI a0.Kind 2, .b false), (.eqI a0.Kind 0, .b false), (.eqI a0.Kind 10, .b false), (.eqI a0.Kind 11, .b false), (.eqI a0.Kind 12, .b false), (.eqI a0.Kind 3, .b false), (.eqI a0.Kind 6, .b false), (.eqI a0.Kind 8, .b false), (.eqI a0.Kind 7, .b true), (.call 106 [] [.val false [.seq (eL e_u8 a0.S)]], .r (.val false [.bool true]) []), (.notB true, .b false), (.eqI a0.Kind 23, .b false), (.notB true, .b false), (.len (eL e_GExpr a0.Kids), .i ((a0.Kids.length : Nat) : Int)), (.eqI ((a0.Kids.length : Nat) : Int) 0, .b false), (.notB false, .b true)] rfl fd_79 (by kernel_rfl) ⟨(A.eqI_f c1), (A.eqI_f c2), rfl, A.len, (A.ltI_f c3), (A.eqI_f c4), rfl, (A.eqI_f c5), rfl, (A.eqI_t c6), rfl, (A.eqI_f c4), (A.eqI_f c5), (A.eqI_f c7), (A.eqI_f c8), (A.eqI_f c9), (A.eqI_f c10), (A.eqI_f c11), (A.eqI_f c12), (A.eqI_f c13), (A.eqI_t c14), (A.call (ok_impl_isWord a0.S _ hr15)), rfl, (A.eqI_f (by omega)), rfl, A.len, (A.eqI_f c17), rfl, trivial⟩
                              | false =>
                                try dsimp only at h
                                obtain rfl := Option.some.inj h
                                exact call_way cfg [(.eqI a1 0, .b false), (.eqI a0.Kind 5, .b false), (.notB false, .b true), (.len (eL (e_sl e_u8) a0.K), .i ((a0.K.length : Nat) : Int)), (.ltI 0 ((a0.K.length : Nat) : Int), .b false), (.eqI a0.Kind 1, .b false), (.notB false, .b true), (.eqI a0.Kind 2, .b false), (.notB false, .b true), (.eqI a0.N 0, .b true), (.notB true, .b false), (.eqI a0.Kind 1, .b false), (.eqI a0.Kind 2, .b false), (.eqI a0.Kind 0, .b false), (.eqI a0.Kind 10, .b false), (.eqI a0.Kind 11, .b false), (.eqI a0.Kind 12, .b false), (.eqI a0.Kind 3, .b false), (.eqI a0.Kind 6, .b false), (.eqI a0.Kind 8, .b false), (.eqI a0.Kind 7, .b true), (.call 106 [] [.val false [.seq (eL e_u8 a0.S)]], .r (.val false [.bool false]) []), (.notB false, .b true)] rfl fd_79 (by kernel_rfl) ⟨(A.eqI_f c1), (A.eqI_f c2), rfl, A.len, (A.ltI_f c3), (A.eqI_f c4), rfl, (A.eqI_f c5), rfl, (A.eqI_t c6), rfl, (A.eqI_f c4), (A.eqI_f c5), (A.eqI_f c7), (A.eqI_f c8), (A.eqI_f c9), (A.eqI_f c10), (A.eqI_f c11), (A.eqI_f c12), (A.eqI_f c13), (A.eqI_t c14), (A.call (ok_impl_isWord a0.S _ hr15)), rfl, trivial⟩
                            · rw [if_neg c14] at h
                              by_cases c15 : a0.Kind = 23
                              · rw [if_pos c15] at h
                                obtain ⟨r16, hr16, h⟩ := Option.bind_eq_some_iff.1 h
                                cases r16 with
                                | true =>
                                  try dsimp only at h
                                  by_cases c18 : 150 < ((a0.Kids.length : Nat) : Int)
                                  · rw [if_pos c18] at h
                                    obtain rfl := Option.some.inj h
                                    exact call_way cfg [(.eqI a1 0, .b false), (.eqI a0.Kind 5, .b false), (.notB false, .b true), (.len (eL (e_sl e_u8) a0.K), .i ((a0.K.length : Nat) : Int)), (.ltI 0 ((a0.K.length : Nat) : Int), .b false), (.eqI a0.Kind 1, .b false), (.notB false, .b true), (.eqI a0.Kind 2, .b false), (.notB false, .b true), (.eqI a0.N 0, .b true), (.notB true, .b false), (.eqI a0.Kind 1, .b false), (.eqI a0.Kind 2, .b false), (.eqI a0.Kind 0, .b false), (.eqI a0.Kind 10, .b false), (.eqI a0.Kind 11, .b false), (.eqI a0.Kind 12, .b false), (.eqI a0.Kind 3, .b false), (.eqI a0.Kind 6, .b false), (.eqI a0.Kind 8, .b false), (.eqI a0.Kind 7, .b false), (.eqI a0.Kind 23, .b true), (.call 106 [] [.val false [.seq (eL e_u8 a0.S)]], .r (.val false [.bool true]) []), (.notB true, .b false), (.eqI a0.Kind 23, .b true), (.len (eL e_GExpr a0.Kids), .i ((a0.Kids.length : Nat) : Int)), (.notB true, .b false), (.len (eL e_GExpr a0.Kids), .i ((a0.Kids.length : Nat) : Int)), (.eqI ((a0.Kids.length : Nat) : Int) ((a0.Kids.length : Nat) : Int), .b true), (.notB true, .b false), (.ltI 150 ((a0.Kids.length : Nat) : Int), .b true)] rfl fd_79 (by kernel_rfl) ⟨(A.eqI_f c1), (A.eqI_f c2), rfl, A.len, (A.ltI_f c3), (A.eqI_f c4), rfl, (A.eqI_f c5), rfl, (A.eqI_t c6), rfl, (A.eqI_f c4), (A.eqI_f c5), (A.eqI_f c7), (A.eqI_f c8), (A.eqI_f c9), (A.eqI_f c10), (A.eqI_f c11), (A.eqI_f c12), (A.eqI_f c13), (A.eqI_f c14), (A.eqI_t c15), (A.call (ok_impl_isWord a0.S _ hr16)), rfl, (A.eqI_t c15), A.len, rfl, A.len, (A.eqI_t (by omega)), rfl, (A.ltI_t c18), trivial⟩
                                  · rw [if_neg c18] at h
                                    obtain ⟨r19, hr19, h⟩ := Option.bind_eq_some_iff.1 h
                                    obtain rfl := Option.some.inj h
                                    exact call_way cfg [(.eqI a1 0, .b false), (.eqI a0.Kind 5, .b false), (.notB false, .b true), (.len (eL (e_sl e_u8) a0.K), .i ((a0.K.length : Nat) : Int)), (.ltI 0 ((a0.K.length : Nat) : Int), .b false), (.eqI a0.Kind 1, .b false), (.notB false, .b true), (.eqI a0.Kind 2, .b false), (.notB false, .b true), (.eqI a0.N 0, .b true), (.notB true, .b false), (.eqI a0.Kind 1, .b false), (.eqI a0.Kind 2, .b false), (.eqI a0.Kind 0, .b false), (.eqI a0.Kind 10, .b false), (.eqI a0.Kind 11, .b false), (.eqI a0.Kind 12, .b false), (.eqI a0.Kind 3, .b false), (.eqI a0.Kind 6, .b false), (.eqI a0.Kind 8, .b false), (.eqI a0.Kind 7, .b false), (.eqI a0.Kind 23, .b true), (.call 106 [] [.val false [.seq (eL e_u8 a0.S)]], .r (.val false [.bool true]) []), (.notB true, .b false), (.eqI a0.Kind 23, .b true), (.len (eL e_GExpr a0.Kids), .i ((a0.Kids.length : Nat) : Int)), (.notB true, .b false), (.len (eL e_GExpr a0.Kids), .i ((a0.Kids.length : Nat) : Int)), (.eqI ((a0.Kids.length : Nat) : Int) ((a0.Kids.length : Nat) : Int), .b true), (.notB true, .b false), (.ltI 150 ((a0.Kids.length : Nat) : Int), .b false), (.call 107 [.var [.int .i64 a1]] [.val false [.seq (eL e_GExpr a0.Kids)], .val false [.fn 108 [.ptr 0 0]]], .r (.val false [.bool r19]) [.var [.int .i64 a1]]), (.notB r19, .b (!r19))] rfl fd_79 (by kernel_rfl) ⟨(A.eqI_f c1), (A.eqI_f c2), rfl, A.len, (A.ltI_f c3), (A.eqI_f c4), rfl, (A.eqI_f c5), rfl, (A.eqI_t c6), rfl, (A.eqI_f c4), (A.eqI_f c5), (A.eqI_f c7), (A.eqI_f c8), (A.eqI_f c9), (A.eqI_f c10), (A.eqI_f c11), (A.eqI_f c12), (A.eqI_f c13), (A.eqI_f c14), (A.eqI_t c15), (A.call (ok_impl_isWord a0.S _ hr16)), rfl, (A.eqI_t c15), A.len, rfl, A.len, (A.eqI_t (by omega)), rfl, (A.ltI_f c18), (A.call (H_slices_ContainsFunc_Expr_isFormed_1 a0.Kids a1 _ hr19)), rfl, trivial⟩
                                | false =>
                                  try dsimp only at h
                                  obtain rfl := Option.some.inj h
                                  exact call_way cfg [(.eqI a1 0, .b false), (.eqI a0.Kind 5, .b false), (.notB false, .b true), (.len (eL (e_sl e_u8) a0.K), .i ((a0.K.length : Nat) : Int)), (.ltI 0 ((a0.K.length : Nat) : Int), .b false), (.eqI a0.Kind 1, .b false), (.notB false, .b true), (.eqI a0.Kind 2, .b false), (.notB false, .b true), (.eqI a0.N 0, .b true), (.notB true, .b false), (.eqI a0.Kind 1, .b false), (.eqI a0.Kind 2, .b false), (.eqI a0.Kind 0, .b false), (.eqI a0.Kind 10, .b false), (.eqI a0.Kind 11, .b false), (.eqI a0.Kind 12, .b false), (.eqI a0.Kind 3, .b false), (.eqI a0.Kind 6, .b false), (.eqI a0.Kind 8, .b false), (.eqI a0.Kind 7, .b false), (.eqI a0.Kind 23, .b true), (.call 106 [] [.val false [.seq (eL e_u8 a0.S)]], .r (.val false [.bool false]) []), (.notB false, .b true)] rfl fd_79 (by kernel_rfl) ⟨(A.eqI_f c1), (A.eqI_f c2), rfl, A.len, (A.ltI_f c3), (A.eqI_f c4), rfl, (A.eqI_f c5), rfl, (A.eqI_t c6), rfl, (A.eqI_f c4), (A.eqI_f c5), (A.eqI_f c7), (A.eqI_f c8), (A.eqI_f c9), (A.eqI_f c10), (A.eqI_f c11), (A.eqI_f c12), (A.eqI_f c13), (A.eqI_f c14), (A.eqI_t c15), (A.call (ok_impl_isWord a0.S _ hr16)), rfl, trivial⟩
                              · rw [if_neg c15] at h
                                by_cases c16 : a0.Kind = 4
                                · rw [if_pos c16] at h
                                  by_cases c17 : 0 < ((a0.S.length : Nat) : Int)
                                  · rw [if_pos c17] at h
                                    obtain rfl := Option.some.inj h
                                    exact call_way cfg [(.eqI a1 0, .b false), (.eqI a0.Kind 5, .b false), (.notB false, .b true), (.len (eL (e_sl e_u8) a0.K), .i ((a0.K.length : Nat) : Int)), (.ltI 0 ((a0.K.length : Nat) : Int), .b false), (.eqI a0.Kind 1, .b false), (.notB false, .b true), (.eqI a0.Kind 2, .b false), (.notB false, .b true), (.eqI a0.N 0, .b true), (.notB true, .b false), (.eqI a0.Kind 1, .b false), (.eqI a0.Kind 2, .b false), (.eqI a0.Kind 0, .b false), (.eqI a0.Kind 10, .b false), (.eqI a0.Kind 11, .b false), (.eqI a0.Kind 12, .b false), (.eqI a0.Kind 3, .b false), (.eqI a0.Kind 6, .b false), (.eqI a0.Kind 8, .b false), (.eqI a0.Kind 7, .b false), (.eqI a0.Kind 23, .b false), (.eqI a0.Kind 4, .b true), (.len (eL e_GExpr a0.Kids), .i ((a0.Kids.length : Nat) : Int)), (.notB false, .b true), (.len (eL e_u8 a0.S), .i ((a0.S.length : Nat) : Int)), (.ltI 0 ((a0.S.length : Nat) : Int), .b true)] rfl fd_79 (by kernel_rfl) ⟨(A.eqI_f c1), (A.eqI_f c2), rfl, A.len, (A.ltI_f c3), (A.eqI_f c4), rfl, (A.eqI_f c5), rfl, (A.eqI_t c6), rfl, (A.eqI_f c4), (A.eqI_f c5), (A.eqI_f c7), (A.eqI_f c8), (A.eqI_f c9), (A.eqI_f c10), (A.eqI_f c11), (A.eqI_f c12), (A.eqI_f c13), (A.eqI_f c14), (A.eqI_f c15), (A.eqI_t c16), A.len, rfl, A.len, (A.ltI_t c17), trivial⟩
                                  · rw [if_neg c17] at h
                                    by_cases c18 : 150 < ((a0.Kids.length : Nat) : Int)
                                    · rw [if_pos c18] at h
                                      obtain rfl := Option.some.inj h
                                      exact call_way cfg [(.eqI a1 0, .b false), (.eqI a0.Kind 5, .b false), (.notB false, .b true), (.len (eL (e_sl e_u8) a0.K), .i ((a0.K.length : Nat) : Int)), (.ltI 0 ((a0.K.length : Nat) : Int), .b false), (.eqI a0.Kind 1, .b false), (.notB false, .b true), (.eqI a0.Kind 2, .b false), (.notB false, .b true), (.eqI a0.N 0, .b true), (.notB true, .b false), (.eqI a0.Kind 1, .b false), (.eqI a0.Kind 2, .b false), (.eqI a0.Kind 0, .b false), (.eqI a0.Kind 10, .b false), (.eqI a0.Kind 11, .b false), (.eqI a0.Kind 12, .b false), (.eqI a0.Kind 3, .b false), (.eqI a0.Kind 6, .b false), (.eqI a0.Kind 8, .b false), (.eqI a0.Kind 7, .b false), (.eqI a0.Kind 23, .b false), (.eqI a0.Kind 4, .b true), (.len (eL e_GExpr a0.Kids), .i ((a0.Kids.length : Nat) : Int)), (.notB false, .b true), (.len (eL e_u8 a0.S), .i ((a0.S.length : Nat) : Int)), (.ltI 0 ((a0.S.length : Nat) : Int), .b false), (.len (eL e_GExpr a0.Kids), .i ((a0.Kids.length : Nat) : Int)), (.eqI ((a0.Kids.length : Nat) : Int) ((a0.Kids.length : Nat) : Int), .b true), (.notB true, .b false), (.ltI 150 ((a0.Kids.length : Nat) : Int), .b true)] rfl fd_79 (by kernel_rfl) ⟨(A.eqI_f c1), (A.eqI_f c2), rfl, A.len, (A.ltI_f c3), (A.eqI_f c4), rfl, (A.eqI_f c5), rfl, (A.eqI_t c6), rfl, (A.eqI_f c4), (A.eqI_f c5), (A.eqI_f c7), (A.eqI_f c8), (A.eqI_f c9), (A.eqI_f c10), (A.eqI_f c11), (A.eqI_f c12), (A.eqI_f c13), (A.eqI_f c14), (A.eqI_f c15), (A.eqI_t c16), A.len, rfl, A.len, (A.ltI_f c17), A.len, (A.eqI_t (by omega)), rfl, (A.ltI_t c18), trivial⟩
                                    · rw [if_neg c18] at h
                                      obtain ⟨r19, hr19, h⟩ := Option.bind_eq_some_iff.1 h
                                      obtain rfl := Option.some.inj h
                                      exact call_way cfg [(.eqI a1 0, .b false), (.eqI a0.Kind 5, .b false), (.notB false, .b true), (.len (eL (e_sl e_u8) a0.K), .i ((a0.K.length : Nat) : Int)), (.ltI 0 ((a0.K.length : Nat) : Int), .b false), (.eqI a0.Kind 1, .b false), (.notB false, .b true), (.eqI a0.Kind 2, .b false), (.notB false, .b true), (.eqI a0.N 0, .b true), (.notB true, .b false), (.eqI a0.Kind 1, .b false), (.eqI a0.Kind 2, .b false), (.eqI a0.Kind 0, .b false), (.eqI a0.Kind 10, .b false), (.eqI a0.Kind 11, .b false), (.eqI a0.Kind 12, .b false), (.eqI a0.Kind 3, .b false), (.eqI a0.Kind 6, .b false), (.eqI a0.Kind 8, .b false), (.eqI a0.Kind 7, .b false), (.eqI a0.Kind 23, .b false), (.eqI a0.Kind 4, .b true), (.len (eL e_GExpr a0.Kids), .i ((a0.Kids.length : Nat) : Int)), (.notB false, .b true), (.len (eL e_u8 a0.S), .i ((a0.S.length : Nat) : Int)), (.ltI 0 ((a0.S.length : Nat) : Int), .b false), (.len (eL e_GExpr a0.Kids), .i ((a0.Kids.length : Nat) : Int)), (.eqI ((a0.Kids.length : Nat) : Int) ((a0.Kids.length : Nat) : Int), .b true), (.notB true, .b false), (.ltI 150 ((a0.Kids.length : Nat) : Int), .b false), (.call 107 [.var [.int .i64 a1]] [.val false [.seq (eL e_GExpr a0.Kids)], .val false [.fn 108 [.ptr 0 0]]], .r (.val false [.bool r19]) [.var [.int .i64 a1]]), (.notB r19, .b (!r19))] rfl fd_79 (by kernel_rfl) ⟨(A.eqI_f c1), (A.eqI_f c2), rfl, A.len, (A.ltI_f c3), (A.eqI_f c4), rfl, (A.eqI_f c5), rfl, (A.eqI_t c6), rfl, (A.eqI_f c4), (A.eqI_f c5), (A.eqI_f c7), (A.eqI_f c8), (A.eqI_f c9), (A.eqI_f c10), (A.eqI_f c11), (A.eqI_f c12), (A.eqI_f c13), (A.eqI_f c14), (A.eqI_f c15), (A.eqI_t c16), A.len, rfl, A.len, (A.ltI_f c17), A.len, (A.eqI_t (by omega)), rfl, (A.ltI_f c18), (A.call (H_slices_ContainsFunc_Expr_isFormed_1 a0.Kids a1 _ hr19)), rfl, trivial⟩
                                · rw [if_neg c16] at h
                                  by_cases c17 : a0.Kind = 13
                                  · rw [if_pos c17] at h
                                    by_cases c18 : 0 < ((a0.S.length : Nat) : Int)
                                    · rw [if_pos c18] at h
                                      obtain rfl := Option.some.inj h
                                      exact call_way cfg [(.eqI a1 0, .b false), (.eqI a0.Kind 5, .b false), (.notB false, .b true), (.len (eL (e_sl e_u8) a0.K), .i ((a0.K.length : Nat) : Int)), (.ltI 0 ((a0.K.length : Nat) : Int), .b false), (.eqI a0.Kind 1, .b false), (.notB false, .b true), (.eqI a0.Kind 2, .b false), (.notB false, .b true), (.eqI a0.N 0, .b true), (.notB true, .b false), (.eqI a0.Kind 1, .b false), (.eqI a0.Kind 2, .b false), (.eqI a0.Kind 0, .b false), (.eqI a0.Kind 10, .b false), (.eqI a0.Kind 11, .b false), (.eqI a0.Kind 12, .b false), (.eqI a0.Kind 3, .b false), (.eqI a0.Kind 6, .b false), (.eqI a0.Kind 8, .b false), (.eqI a0.Kind 7, .b false), (.eqI a0.Kind 23, .b false), (.eqI a0.Kind 4, .b false), (.eqI a0.Kind 5, .b false), (.eqI a0.Kind 13, .b true), (.notB false, .b true), (.len (eL e_u8 a0.S), .i ((a0.S.length : Nat) : Int)), (.ltI 0 ((a0.S.length : Nat) : Int), .b true)] rfl fd_79 (by kernel_rfl) ⟨(A.eqI_f c1), (A.eqI_f c2), rfl, A.len, (A.ltI_f c3), (A.eqI_f c4), rfl, (A.eqI_f c5), rfl, (A.eqI_t c6), rfl, (A.eqI_f c4), (A.eqI_f c5), (A.eqI_f c7), (A.eqI_f c8), (A.eqI_f c9), (A.eqI_f c10), (A.eqI_f c11), (A.eqI_f c12), (A.eqI_f c13), (A.eqI_f c14), (A.eqI_f c15), (A.eqI_f c16), (A.eqI_f c2), (A.eqI_t c17), rfl, A.len, (A.ltI_t c18), trivial⟩
                                    · rw [if_neg c18] at h
                                      by_cases c19 : ((a0.Kids.length : Nat) : Int) = 1
                                      · rw [if_pos c19] at h
                                        obtain ⟨r20, hr20, h⟩ := Option.bind_eq_some_iff.1 h
                                        obtain rfl := Option.some.inj h
                                        exact call_way cfg [(.eqI a1 0, .b false), (.eqI a0.Kind 5, .b false), (.notB false, .b true), (.len (eL (e_sl e_u8) a0.K), .i ((a0.K.length : Nat) : Int)), (.ltI 0 ((a0.K.length : Nat) : Int), .b false), (.eqI a0.Kind 1, .b false), (.notB false, .b true), (.eqI a0.Kind 2, .b false), (.notB false, .b true), (.eqI a0.N 0, .b true), (.notB true, .b false), (.eqI a0.Kind 1, .b false), (.eqI a0.Kind 2, .b false), (.eqI a0.Kind 0, .b false), (.eqI a0.Kind 10, .b false), (.eqI a0.Kind 11, .b false), (.eqI a0.Kind 12, .b false), (.eqI a0.Kind 3, .b false), (.eqI a0.Kind 6, .b false), (.eqI a0.Kind 8, .b false), (.eqI a0.Kind 7, .b false), (.eqI a0.Kind 23, .b false), (.eqI a0.Kind 4, .b false), (.eqI a0.Kind 5, .b false), (.eqI a0.Kind 13, .b true), (.notB false, .b true), (.len (eL e_u8 a0.S), .i ((a0.S.length : Nat) : Int)), (.ltI 0 ((a0.S.length : Nat) : Int), .b false), (.len (eL e_GExpr a0.Kids), .i ((a0.Kids.length : Nat) : Int)), (.eqI ((a0.Kids.length : Nat) : Int) 1, .b true), (.notB true, .b false), (.ltI 150 1, .b false), (.call 107 [.var [.int .i64 a1]] [.val false [.seq (eL e_GExpr a0.Kids)], .val false [.fn 108 [.ptr 0 0]]], .r (.val false [.bool r20]) [.var [.int .i64 a1]]), (.notB r20, .b (!r20))] rfl fd_79 (by kernel_rfl) ⟨(A.eqI_f c1), (A.eqI_f c2), rfl, A.len, (A.ltI_f c3), (A.eqI_f c4), rfl, (A.eqI_f c5), rfl, (A.eqI_t c6), rfl, (A.eqI_f c4), (A.eqI_f c5), (A.eqI_f c7), (A.eqI_f c8), (A.eqI_f c9), (A.eqI_f c10), (A.eqI_f c11), (A.eqI_f c12), (A.eqI_f c13), (A.eqI_f c14), (A.eqI_f c15), (A.eqI_f c16), (A.eqI_f c2), (A.eqI_t c17), rfl, A.len, (A.ltI_f c18), A.len, (A.eqI_t c19), rfl, (A.ltI_f (by omega)), (A.call (H_slices_ContainsFunc_Expr_isFormed_1 a0.Kids a1 _ hr20)), rfl, trivial⟩
                                      · rw [if_neg c19] at h
                                        obtain rfl := Option.some.inj h
                                        exact call_way cfg [(.eqI a1 0, .b false), (.eqI a0.Kind 5, .b false), (.notB false, .b true), (.len (eL (e_sl e_u8) a0.K), .i ((a0.K.length : Nat) : Int)), (.ltI 0 ((a0.K.length : Nat) : Int), .b false), (.eqI a0.Kind 1, .b false), (.notB false, .b true), (.eqI a0.Kind 2, .b false), (.notB false, .b true), (.eqI a0.N 0, .b true), (.notB true, .b false), (.eqI a0.Kind 1, .b false), (.eqI a0.Kind 2, .b false), (.eqI a0.Kind 0, .b false), (.eqI a0.Kind 10, .b false), (.eqI a0.Kind 11, .b false), (.eqI a0.Kind 12, .b false), (.eqI a0.Kind 3, .b false), (.eqI a0.Kind 6, .b false), (.eqI a0.Kind 8, .b false), (.eqI a0.Kind 7, .b false), (.eqI a0.Kind 23, .b false), (.eqI a0.Kind 4, .b false), (.eqI a0.Kind 5, .b false), (.eqI a0.Kind 13, .b true), (.notB false, .b true), (.len (eL e_u8 a0.S), .i ((a0.S.length : Nat) : Int)), (.ltI 0 ((a0.S.length : Nat) : Int), .b false), (.len (eL e_GExpr a0.Kids), .i ((a0.Kids.length : Nat) : Int)), (.eqI ((a0.Kids.length : Nat) : Int) 1, .b false), (.notB false, .b true)] rfl fd_79 (by kernel_rfl) ⟨(A.eqI_f c1), (A.eqI_f c2), rfl, A.len, (A.ltI_f c3), (A.eqI_f c4), rfl, (A.eqI_f c5), rfl, (A.eqI_t c6), rfl, (A.eqI_f c4), (A.eqI_f c5), (A.eqI_f c7), (A.eqI_f c8), (A.eqI_f c9), (A.eqI_f c10), (A.eqI_f c11), (A.eqI_f c12), (A.eqI_f c13), (A.eqI_f c14), (A.eqI_f c15), (A.eqI_f c16), (A.eqI_f c2), (A.eqI_t c17), rfl, A.len, (A.ltI_f c18), A.len, (A.eqI_f c19), rfl, trivial⟩
                                  · rw [if_neg c17] at h
                                    by_cases c18 : a0.Kind = 14
                                    · rw [if_pos c18] at h
                                      by_cases c19 : 0 < ((a0.S.length : Nat) : Int)
                                      · rw [if_pos c19] at h
                                        obtain rfl := Option.some.inj h
                                        exact call_way cfg [(.eqI a1 0, .b false), (.eqI a0.Kind 5, .b false), (.notB false, .b true), (.len (eL (e_sl e_u8) a0.K), .i ((a0.K.length : Nat) : Int)), (.ltI 0 ((a0.K.length : Nat) : Int), .b false), (.eqI a0.Kind 1, .b false), (.notB false, .b true), (.eqI a0.Kind 2, .b false), (.notB false, .b true), (.eqI a0.N 0, .b true), (.notB true, .b false), (.eqI a0.Kind 1, .b false), (.eqI a0.Kind 2, .b false), (.eqI a0.Kind 0, .b false), (.eqI a0.Kind 10, .b false), (.eqI a0.Kind 11, .b false), (.eqI a0.Kind 12, .b false), (.eqI a0.Kind 3, .b false), (.eqI a0.Kind 6, .b false), (.eqI a0.Kind 8, .b false), (.eqI a0.Kind 7, .b false), (.eqI a0.Kind 23, .b false), (.eqI a0.Kind 4, .b false), (.eqI a0.Kind 5, .b false), (.eqI a0.Kind 13, .b false), (.eqI a0.Kind 14, .b true), (.notB false, .b true), (.len (eL e_u8 a0.S), .i ((a0.S.length : Nat) : Int)), (.ltI 0 ((a0.S.length : Nat) : Int), .b true)] rfl fd_79 (by kernel_rfl) ⟨(A.eqI_f c1), (A.eqI_f c2), rfl, A.len, (A.ltI_f c3), (A.eqI_f c4), rfl, (A.eqI_f c5), rfl, (A.eqI_t c6), rfl, (A.eqI_f c4), (A.eqI_f c5), (A.eqI_f c7), (A.eqI_f c8), (A.eqI_f c9), (A.eqI_f c10), (A.eqI_f c11), (A.eqI_f c12), (A.eqI_f c13), (A.eqI_f c14), (A.eqI_f c15), (A.eqI_f c16), (A.eqI_f c2), (A.eqI_f c17), (A.eqI_t c18), rfl, A.len, (A.ltI_t c19), trivial⟩
                                      · rw [if_neg c19] at h
                                        by_cases c20 : ((a0.Kids.length : Nat) : Int) = 1
                                        · rw [if_pos c20] at h
                                          obtain ⟨r21, hr21, h⟩ := Option.bind_eq_some_iff.1 h
                                          obtain rfl := Option.some.inj h
                                          exact call_way cfg [(.eqI a1 0, .b false), (.eqI a0.Kind 5, .b false), (.notB false, .b true), (.len (eL (e_sl e_u8) a0.K), .i ((a0.K.length : Nat) : Int)), (.ltI 0 ((a0.K.length : Nat) : Int), .b false), (.eqI a0.Kind 1, .b false), (.notB false, .b true), (.eqI a0.Kind 2, .b false), (.notB false, .b true), (.eqI a0.N 0, .b true), (.notB true, .b false), (.eqI a0.Kind 1, .b false), (.eqI a0.Kind 2, .b false), (.eqI a0.Kind 0, .b false), (.eqI a0.Kind 10, .b false), (.eqI a0.Kind 11, .b false), (.eqI a0.Kind 12, .b false), (.eqI a0.Kind 3, .b false), (.eqI a0.Kind 6, .b false), (.eqI a0.Kind 8, .b false), (.eqI a0.Kind 7, .b false), (.eqI a0.Kind 23, .b false), (.eqI a0.Kind 4, .b false), (.eqI a0.Kind 5, .b false), (.eqI a0.Kind 13, .b false), (.eqI a0.Kind 14, .b true), (.notB false, .b true), (.len (eL e_u8 a0.S), .i ((a0.S.length : Nat) : Int)), (.ltI 0 ((a0.S.length : Nat) : Int), .b false), (.len (eL e_GExpr a0.Kids), .i ((a0.Kids.length : Nat) : Int)), (.eqI ((a0.Kids.length : Nat) : Int) 1, .b true), (.notB true, .b false), (.ltI 150 1, .b false), (.call 107 [.var [.int .i64 a1]] [.val false [.seq (eL e_GExpr a0.Kids)], .val false [.fn 108 [.ptr 0 0]]], .r (.val false [.bool r21]) [.var [.int .i64 a1]]), (.notB r21, .b (!r21))] rfl fd_79 (by kernel_rfl) ⟨(A.eqI_f c1), (A.eqI_f c2), rfl, A.len, (A.ltI_f c3), (A.eqI_f c4), rfl, (A.eqI_f c5), rfl, (A.eqI_t c6), rfl, (A.eqI_f c4), (A.eqI_f c5), (A.eqI_f c7), (A.eqI_f c8), (A.eqI_f c9), (A.eqI_f c10), (A.eqI_f c11), (A.eqI_f c12), (A.eqI_f c13), (A.eqI_f c14), (A.eqI_f c15), (A.eqI_f c16), (A.eqI_f c2), (A.eqI_f c17), (A.eqI_t c18), rfl, A.len, (A.ltI_f c19), A.len, (A.eqI_t c20), rfl, (A.ltI_f (by omega)), (A.call (H_slices_ContainsFunc_Expr_isFormed_1 a0.Kids a1 _ hr21)), rfl, trivial⟩
                                        · rw [if_neg c20] at h
                                          obtain rfl := Option.some.inj h
                                          exact call_way cfg [(.eqI a1 0, .b false), (.eqI a0.Kind 5, .b false), (.notB false, .b true), (.len (eL (e_sl e_u8) a0.K), .i ((a0.K.length : Nat) : Int)), (.ltI 0 ((a0.K.length : Nat) : Int), .b false), (.eqI a0.Kind 1, .b false), (.notB false, .b true), (.eqI a0.Kind 2, .b false), (.notB false, .b true), (.eqI a0.N 0, .b true), (.notB true, .b false), (.eqI a0.Kind 1, .b false), (.eqI a0.Kind 2, .b false), (.eqI a0.Kind 0, .b false), (.eqI a0.Kind 10, .b false), (.eqI a0.Kind 11, .b false), (.eqI a0.Kind 12, .b false), (.eqI a0.Kind 3, .b false), (.eqI a0.Kind 6, .b false), (.eqI a0.Kind 8, .b false), (.eqI a0.Kind 7, .b false), (.eqI a0.Kind 23, .b false), (.eqI a0.Kind 4, .b false), (.eqI a0.Kind 5, .b false), (.eqI a0.Kind 13, .b false), (.eqI a0.Kind 14, .b true), (.notB false, .b true), (.len (eL e_u8 a0.S), .i ((a0.S.length : Nat) : Int)), (.ltI 0 ((a0.S.length : Nat) : Int), .b false), (.len (eL e_GExpr a0.Kids), .i ((a0.Kids.length : Nat) : Int)), (.eqI ((a0.Kids.length : Nat) : Int) 1, .b false), (.notB false, .b true)] rfl fd_79 (by kernel_rfl) ⟨(A.eqI_f c1), (A.eqI_f c2), rfl, A.len, (A.ltI_f c3), (A.eqI_f c4), rfl, (A.eqI_f c5), rfl, (A.eqI_t c6), rfl, (A.eqI_f c4), (A.eqI_f c5), (A.eqI_f c7), (A.eqI_f c8), (A.eqI_f c9), (A.eqI_f c10), (A.eqI_f c11), (A.eqI_f c12), (A.eqI_f c13), (A.eqI_f c14), (A.eqI_f c15), (A.eqI_f c16), (A.eqI_f c2), (A.eqI_f c17), (A.eqI_t c18), rfl, A.len, (A.ltI_f c19), A.len, (A.eqI_f c20), rfl, trivial⟩
                                    · rw [if_neg c18] at h
                                      by_cases c19 : a0.Kind = 9
                                      · rw [if_pos c19] at h
                                        by_cases c20 : 0 < ((a0.S.length : Nat) : Int)
                                        · rw [if_pos c20] at h
                                          obtain rfl := Option.some.inj h
                                          exact call_way cfg [(.eqI a1 0, .b false), (.eqI a0.Kind 5, .b false), (.notB false, .b true), (.len (eL (e_sl e_u8) a0.K), .i ((a0.K.length : Nat) : Int)), (.ltI 0 ((a0.K.length : Nat) : Int), .b false), (.eqI a0.Kind 1, .b false), (.notB false, .b true), (.eqI a0.Kind 2, .b false), (.notB false, .b true), (.eqI a0.N 0, .b true), (.notB true, .b false), (.eqI a0.Kind 1, .b false), (.eqI a0.Kind 2, .b false), (.eqI a0.Kind 0, .b false), (.eqI a0.Kind 10, .b false), (.eqI a0.Kind 11, .b false), (.eqI a0.Kind 12, .b false), (.eqI a0.Kind 3, .b false), (.eqI a0.Kind 6, .b false), (.eqI a0.Kind 8, .b false), (.eqI a0.Kind 7, .b false), (.eqI a0.Kind 23, .b false), (.eqI a0.Kind 4, .b false), (.eqI a0.Kind 5, .b false), (.eqI a0.Kind 13, .b false), (.eqI a0.Kind 14, .b false), (.eqI a0.Kind 9, .b true), (.notB false, .b true), (.len (eL e_u8 a0.S), .i ((a0.S.length : Nat) : Int)), (.ltI 0 ((a0.S.length : Nat) : Int), .b true)] rfl fd_79 (by kernel_rfl) ⟨(A.eqI_f c1), (A.eqI_f c2), rfl, A.len, (A.ltI_f c3), (A.eqI_f c4), rfl, (A.eqI_f c5), rfl, (A.eqI_t c6), rfl, (A.eqI_f c4), (A.eqI_f c5), (A.eqI_f c7), (A.eqI_f c8), (A.eqI_f c9), (A.eqI_f c10), (A.eqI_f c11), (A.eqI_f c12), (A.eqI_f c13), (A.eqI_f c14), (A.eqI_f c15), (A.eqI_f c16), (A.eqI_f c2), (A.eqI_f c17), (A.eqI_f c18), (A.eqI_t c19), rfl, A.len, (A.ltI_t c20), trivial⟩
                                        · rw [if_neg c20] at h
                                          by_cases c21 : ((a0.Kids.length : Nat) : Int) = 2
                                          · rw [if_pos c21] at h
                                            obtain ⟨r22, hr22, h⟩ := Option.bind_eq_some_iff.1 h
                                            obtain rfl := Option.some.inj h
                                            exact call_way cfg [(.eqI a1 0, .b false), (.eqI a0.Kind 5, .b false), (.notB false, .b true), (.len (eL (e_sl e_u8) a0.K), .i ((a0.K.length : Nat) : Int)), (.ltI 0 ((a0.K.length : Nat) : Int), .b false), (.eqI a0.Kind 1, .b false), (.notB false, .b true), (.eqI a0.Kind 2, .b false), (.notB false, .b true), (.eqI a0.N 0, .b true), (.notB true, .b false), (.eqI a0.Kind 1, .b false), (.eqI a0.Kind 2, .b false), (.eqI a0.Kind 0, .b false), (.eqI a0.Kind 10, .b false), (.eqI a0.Kind 11, .b false), (.eqI a0.Kind 12, .b false), (.eqI a0.Kind 3, .b false), (.eqI a0.Kind 6, .b false), (.eqI a0.Kind 8, .b false), (.eqI a0.Kind 7, .b false), (.eqI a0.Kind 23, .b false), (.eqI a0.Kind 4, .b false), (.eqI a0.Kind 5, .b false), (.eqI a0.Kind 13, .b false), (.eqI a0.Kind 14, .b false), (.eqI a0.Kind 9, .b true), (.notB false, .b true), (.len (eL e_u8 a0.S), .i ((a0.S.length : Nat) : Int)), (.ltI 0 ((a0.S.length : Nat) : Int), .b false), (.len (eL e_GExpr a0.Kids), .i ((a0.Kids.length : Nat) : Int)), (.eqI ((a0.Kids.length : Nat) : Int) 2, .b true), (.notB true, .b false), (.ltI 150 2, .b false), (.call 107 [.var [.int .i64 a1]] [.val false [.seq (eL e_GExpr a0.Kids)], .val false [.fn 108 [.ptr 0 0]]], .r (.val false [.bool r22]) [.var [.int .i64 a1]]), (.notB r22, .b (!r22))] rfl fd_79 (by kernel_rfl) ⟨(A.eqI_f c1), (A.eqI_f c2), rfl, A.len, (A.ltI_f c3), (A.eqI_f c4), rfl, (A.eqI_f c5), rfl, (A.eqI_t c6), rfl, (A.eqI_f c4), (A.eqI_f c5), (A.eqI_f c7), (A.eqI_f c8), (A.eqI_f c9), (A.eqI_f c10), (A.eqI_f c11), (A.eqI_f c12), (A.eqI_f c13), (A.eqI_f c14), (A.eqI_f c15), (A.eqI_f c16), (A.eqI_f c2), (A.eqI_f c17), (A.eqI_f c18), (A.eqI_t c19), rfl, A.len, (A.ltI_f c20), A.len, (A.eqI_t c21), rfl, (A.ltI_f (by omega)), (A.call (H_slices_ContainsFunc_Expr_isFormed_1 a0.Kids a1 _ hr22)), rfl, trivial⟩
                                          · rw [if_neg c21] at h
                                            obtain rfl := Option.some.inj h
                                            exact call_way cfg [(.eqI a1 0, .b false), (.eqI a0.Kind 5, .b false), (.notB false, .b true), (.len (eL (e_sl e_u8) a0.K), .i ((a0.K.length : Nat) : Int)), (.ltI 0 ((a0.K.length : Nat) : Int), .b false), (.eqI a0.Kind 1, .b false), (.notB false, .b true), (.eqI a0.Kind 2, .b false), (.notB false, .b true), (.eqI a0.N 0, .b true), (.notB true, .b false), (.eqI a0.Kind 1, .b false), (.eqI a0.Kind 2, .b false), (.eqI a0.Kind 0, .b false), (.eqI a0.Kind 10, .b false), (.eqI a0.Kind 11, .b false), (.eqI a0.Kind 12, .b false), (.eqI a0.Kind 3, .b false), (.eqI a0.Kind 6, .b false), (.eqI a0.Kind 8, .b false), (.eqI a0.Kind 7, .b false), (.eqI a0.Kind 23, .b false), (.eqI a0.Kind 4, .b false), (.eqI a0.Kind 5, .b false), (.eqI a0.Kind 13, .b false), (.eqI a0.Kind 14, .b false), (.eqI a0.Kind 9, .b true), (.notB false, .b true), (.len (eL e_u8 a0.S), .i ((a0.S.length : Nat) : Int)), (.ltI 0 ((a0.S.length : Nat) : Int), .b false), (.len (eL e_GExpr a0.Kids), .i ((a0.Kids.length : Nat) : Int)), (.eqI ((a0.Kids.length : Nat) : Int) 2, .b false), (.notB false, .b true)] rfl fd_79 (by kernel_rfl) ⟨(A.eqI_f c1), (A.eqI_f c2), rfl, A.len, (A.ltI_f c3), (A.eqI_f c4), rfl, (A.eqI_f c5), rfl, (A.eqI_t c6), rfl, (A.eqI_f c4), (A.eqI_f c5), (A.eqI_f c7), (A.eqI_f c8), (A.eqI_f c9), (A.eqI_f c10), (A.eqI_f c11), (A.eqI_f c12), (A.eqI_f c13), (A.eqI_f c14), (A.eqI_f c15), (A.eqI_f c16), (A.eqI_f c2), (A.eqI_f c17), (A.eqI_f c18), (A.eqI_t c19), rfl, A.len, (A.ltI_f c20), A.len, (A.eqI_f c21), rfl, trivial⟩
                                      · rw [if_neg c19] at h
                                        by_cases c20 : a0.Kind = 15
                                        · rw [if_pos c20] at h
                                          by_cases c21 : 0 < ((a0.S.length : Nat) : Int)
                                          · rw [if_pos c21] at h
                                            obtain rfl := Option.some.inj h
                                            exact call_way cfg [(.eqI a1 0, .b false), (.eqI a0.Kind 5, .b false), (.notB false, .b true), (.len (eL (e_sl e_u8) a0.K), .i ((a0.K.length : Nat) : Int)), (.ltI 0 ((a0.K.length : Nat) : Int), .b false), (.eqI a0.Kind 1, .b false), (.notB false, .b true), (.eqI a0.Kind 2, .b false), (.notB false, .b true), (.eqI a0.N 0, .b true), (.notB true, .b false), (.eqI a0.Kind 1, .b false), (.eqI a0.Kind 2, .b false), (.eqI a0.Kind 0, .b false), (.eqI a0.Kind 10, .b false), (.eqI a0.Kind 11, .b false), (.eqI a0.Kind 12, .b false), (.eqI a0.Kind 3, .b false), (.eqI a0.Kind 6, .b false), (.eqI a0.Kind 8, .b false), (.eqI a0.Kind 7, .b false), (.eqI a0.Kind 23, .b false), (.eqI a0.Kind 4, .b false), (.eqI a0.Kind 5, .b false), (.eqI a0.Kind 13, .b false), (.eqI a0.Kind 14, .b false), (.eqI a0.Kind 9, .b false), (.eqI a0.Kind 15, .b true), (.notB false, .b true), (.len (eL e_u8 a0.S), .i ((a0.S.length : Nat) : Int)), (.ltI 0 ((a0.S.length : Nat) : Int), .b true)] rfl fd_79 (by kernel_rfl) ⟨(A.eqI_f c1), (A.eqI_f c2), rfl, A.len, (A.ltI_f c3), (A.eqI_f c4), rfl, (A.eqI_f c5), rfl, (A.eqI_t c6), rfl, (A.eqI_f c4), (A.eqI_f c5), (A.eqI_f c7), (A.eqI_f c8), (A.eqI_f c9), (A.eqI_f c10), (A.eqI_f c11), (A.eqI_f c12), (A.eqI_f c13), (A.eqI_f c14), (A.eqI_f c15), (A.eqI_f c16), (A.eqI_f c2), (A.eqI_f c17), (A.eqI_f c18), (A.eqI_f c19), (A.eqI_t c20), rfl, A.len, (A.ltI_t c21), trivial⟩
                                          · rw [if_neg c21] at h
                                            by_cases c22 : ((a0.Kids.length : Nat) : Int) = 2
                                            · rw [if_pos c22] at h
                                              obtain ⟨r23, hr23, h⟩ := Option.bind_eq_some_iff.1 h
                                              obtain rfl := Option.some.inj h
                                              exact call_way cfg [(.eqI a1 0, .b false), (.eqI a0.Kind 5, .b false), (.notB false, .b true), (.len (eL (e_sl e_u8) a0.K), .i ((a0.K.length : Nat) : Int)), (.ltI 0 ((a0.K.length : Nat) : Int), .b false), (.eqI a0.Kind 1, .b false), (.notB false, .b true), (.eqI a0.Kind 2, .b false), (.notB false, .b true), (.eqI a0.N 0, .b true), (.notB true, .b false), (.eqI a0.Kind 1, .b false), (.eqI a0.Kind 2, .b false), (.eqI a0.Kind 0, .b false), (.eqI a0.Kind 10, .b false), (.eqI a0.Kind 11, .b false), (.eqI a0.Kind 12, .b false), (.eqI a0.Kind 3, .b false), (.eqI a0.Kind 6, .b false), (.eqI a0.Kind 8, .b false), (.eqI a0.Kind 7, .b false), (.eqI a0.Kind 23, .b false), (.eqI a0.Kind 4, .b false), (.eqI a0.Kind 5, .b false), (.eqI a0.Kind 13, .b false), (.eqI a0.Kind 14, .b false), (.eqI a0.Kind 9, .b false), (.eqI a0.Kind 15, .b true), (.notB false, .b true), (.len (eL e_u8 a0.S), .i ((a0.S.length : Nat) : Int)), (.ltI 0 ((a0.S.length : Nat) : Int), .b false), (.len (eL e_GExpr a0.Kids), .i ((a0.Kids.length : Nat) : Int)), (.eqI ((a0.Kids.length : Nat) : Int) 2, .b true), (.notB true, .b false), (.ltI 150 2, .b false), (.call 107 [.var [.int .i64 a1]] [.val false [.seq (eL e_GExpr a0.Kids)], .val false [.fn 108 [.ptr 0 0]]], .r (.val false [.bool r23]) [.var [.int .i64 a1]]), (.notB r23, .b (!r23))] rfl fd_79 (by kernel_rfl) ⟨(A.eqI_f c1), (A.eqI_f c2), rfl, A.len, (A.ltI_f c3), (A.eqI_f c4), rfl, (A.eqI_f c5), rfl, (A.eqI_t c6), rfl, (A.eqI_f c4), (A.eqI_f c5), (A.eqI_f c7), (A.eqI_f c8), (A.eqI_f c9), (A.eqI_f c10), (A.eqI_f c11), (A.eqI_f c12), (A.eqI_f c13), (A.eqI_f c14), (A.eqI_f c15), (A.eqI_f c16), (A.eqI_f c2), (A.eqI_f c17), (A.eqI_f c18), (A.eqI_f c19), (A.eqI_t c20), rfl, A.len, (A.ltI_f c21), A.len, (A.eqI_t c22), rfl, (A.ltI_f (by omega)), (A.call (H_slices_ContainsFunc_Expr_isFormed_1 a0.Kids a1 _ hr23)), rfl, trivial⟩
                                            · rw [if_neg c22] at h
                                              obtain rfl := Option.some.inj h
                                              exact call_way cfg [(.eqI a1 0, .b false), (.eqI a0.Kind 5, .b false), (.notB false, .b true), (.len (eL (e_sl e_u8) a0.K), .i ((a0.K.length : Nat) : Int)), (.ltI 0 ((a0.K.length : Nat) : Int), .b false), (.eqI a0.Kind 1, .b false), (.notB false, .b true), (.eqI a0.Kind 2, .b false), (.notB false, .b true), (.eqI a0.N 0, .b true), (.notB true, .b false), (.eqI a0.Kind 1, .b false), (.eqI a0.Kind 2, .b false), (.eqI a0.Kind 0, .b false), (.eqI a0.Kind 10, .b false), (.eqI a0.Kind 11, .b false), (.eqI a0.Kind 12, .b false), (.eqI a0.Kind 3, .b false), (.eqI a0.Kind 6, .b false), (.eqI a0.Kind 8, .b false), (.eqI a0.Kind 7, .b false), (.eqI a0.Kind 23, .b false), (.eqI a0.Kind 4, .b false), (.eqI a0.Kind 5, .b false), (.eqI a0.Kind 13, .b false), (.eqI a0.Kind 14, .b false), (.eqI a0.Kind 9, .b false), (.eqI a0.Kind 15, .b true), (.notB false, .b true), (.len (eL e_u8 a0.S), .i ((a0.S.length : Nat) : Int)), (.ltI 0 ((a0.S.length : Nat) : Int), .b false), (.len (eL e_GExpr a0.Kids), .i ((a0.Kids.length : Nat) : Int)), (.eqI ((a0.Kids.length : Nat) : Int) 2, .b false), (.notB false, .b true)] rfl fd_79 (by kernel_rfl) ⟨(A.eqI_f c1), (A.eqI_f c2), rfl, A.len, (A.ltI_f c3), (A.eqI_f c4), rfl, (A.eqI_f c5), rfl, (A.eqI_t c6), rfl, (A.eqI_f c4), (A.eqI_f c5), (A.eqI_f c7), (A.eqI_f c8), (A.eqI_f c9), (A.eqI_f c10), (A.eqI_f c11), (A.eqI_f c12), (A.eqI_f c13), (A.eqI_f c14), (A.eqI_f c15), (A.eqI_f c16), (A.eqI_f c2), (A.eqI_f c17), (A.eqI_f c18), (A.eqI_f c19), (A.eqI_t c20), rfl, A.len, (A.ltI_f c21), A.len, (A.eqI_f c22), rfl, trivial⟩
                                        · rw [if_neg c20] at h
                                          by_cases c21 : a0.Kind = 16
                                          · rw [if_pos c21] at h
                                            by_cases c22 : 0 < ((a0.S.length : Nat) : Int)
                                            · rw [if_pos c22] at h
                                              obtain rfl := Option.some.inj h
                                              exact call_way cfg [(.eqI a1 0, .b false), (.eqI a0.Kind 5, .b false), (.notB false, .b true), (.len (eL (e_sl e_u8) a0.K), .i ((a0.K.length : Nat) : Int)), (.ltI 0 ((a0.K.length : Nat) : Int), .b false), (.eqI a0.Kind 1, .b false), (.notB false, .b true), (.eqI a0.Kind 2, .b false), (.notB false, .b true), (.eqI a0.N 0, .b true), (.notB true, .b false), (.eqI a0.Kind 1, .b false), (.eqI a0.Kind 2, .b false), (.eqI a0.Kind 0, .b false), (.eqI a0.Kind 10, .b false), (.eqI a0.Kind 11, .b false), (.eqI a0.Kind 12, .b false), (.eqI a0.Kind 3, .b false), (.eqI a0.Kind 6, .b false), (.eqI a0.Kind 8, .b false), (.eqI a0.Kind 7, .b false), (.eqI a0.Kind 23, .b false), (.eqI a0.Kind 4, .b false), (.eqI a0.Kind 5, .b false), (.eqI a0.Kind 13, .b false), (.eqI a0.Kind 14, .b false), (.eqI a0.Kind 9, .b false), (.eqI a0.Kind 15, .b false), (.eqI a0.Kind 16, .b true), (.notB false, .b true), (.len (eL e_u8 a0.S), .i ((a0.S.length : Nat) : Int)), (.ltI 0 ((a0.S.length : Nat) : Int), .b true)] rfl fd_79 (by kernel_rfl) ⟨(A.eqI_f c1), (A.eqI_f c2), rfl, A.len, (A.ltI_f c3), (A.eqI_f c4), rfl, (A.eqI_f c5), rfl, (A.eqI_t c6), rfl, (A.eqI_f c4), (A.eqI_f c5), (A.eqI_f c7), (A.eqI_f c8), (A.eqI_f c9), (A.eqI_f c10), (A.eqI_f c11), (A.eqI_f c12), (A.eqI_f c13), (A.eqI_f c14), (A.eqI_f c15), (A.eqI_f c16), (A.eqI_f c2), (A.eqI_f c17), (A.eqI_f c18), (A.eqI_f c19), (A.eqI_f c20), (A.eqI_t c21), rfl, A.len, (A.ltI_t c22), trivial⟩
                                            · rw [if_neg c22] at h
                                              by_cases c23 : ((a0.Kids.length : Nat) : Int) = 2
                                              · rw [if_pos c23] at h
                                                obtain ⟨r24, hr24, h⟩ := Option.bind_eq_some_iff.1 h
                                                obtain rfl := Option.some.inj h
                                                exact call_way cfg [(.eqI a1 0, .b false), (.eqI a0.Kind 5, .b false), (.notB false, .b true), (.len (eL (e_sl e_u8) a0.K), .i ((a0.K.length : Nat) : Int)), (.ltI 0 ((a0.K.length : Nat) : Int), .b false), (.eqI a0.Kind 1, .b false), (.notB false, .b true), (.eqI a0.Kind 2, .b false), (.notB false, .b true), (.eqI a0.N 0, .b true), (.notB true, .b false), (.eqI a0.Kind 1, .b false), (.eqI a0.Kind 2, .b false), (.eqI a0.Kind 0, .b false), (.eqI a0.Kind 10, .b false), (.eqI a0.Kind 11, .b false), (.eqI a0.Kind 12, .b false), (.eqI a0.Kind 3, .b false), (.eqI a0.Kind 6, .b false), (.eqI a0.Kind 8, .b false), (.eqI a0.Kind 7, .b false), (.eqI a0.Kind 23, .b false), (.eqI a0.Kind 4, .b false), (.eqI a0.Kind 5, .b false), (.eqI a0.Kind 13, .b false), (.eqI a0.Kind 14, .b false), (.eqI a0.Kind 9, .b false), (.eqI a0.Kind 15, .b false), (.eqI a0.Kind 16, .b true), (.notB false, .b true), (.len (eL e_u8 a0.S), .i ((a0.S.length : Nat) : Int)), (.ltI 0 ((a0.S.length : Nat) : Int), .b false), (.len (eL e_GExpr a0.Kids), .i ((a0.Kids.length : Nat) : Int)), (.eqI ((a0.Kids.length : Nat) : Int) 2, .b true), (.notB true, .b false), (.ltI 150 2, .b false), (.call 107 [.var [.int .i64 a1]] [.val false [.seq (eL e_GExpr a0.Kids)], .val false [.fn 108 [.ptr 0 0]]], .r (.val false [.bool r24]) [.var [.int .i64 a1]]), (.notB r24, .b (!r24))] rfl fd_79 (by kernel_rfl) ⟨(A.eqI_f c1), (A.eqI_f c2), rfl, A.len, (A.ltI_f c3), (A.eqI_f c4), rfl, (A.eqI_f c5), rfl, (A.eqI_t c6), rfl, (A.eqI_f c4), (A.eqI_f c5), (A.eqI_f c7), (A.eqI_f c8), (A.eqI_f c9), (A.eqI_f c10), (A.eqI_f c11), (A.eqI_f c12), (A.eqI_f c13), (A.eqI_f c14), (A.eqI_f c15), (A.eqI_f c16), (A.eqI_f c2), (A.eqI_f c17), (A.eqI_f c18), (A.eqI_f c19), (A.eqI_f c20), (A.eqI_t c21), rfl, A.len, (A.ltI_f c22), A.len, (A.eqI_t c23), rfl, (A.ltI_f (by omega)), (A.call (H_slices_ContainsFunc_Expr_isFormed_1 a0.Kids a1 _ hr24)), rfl, trivial⟩
                                              · rw [if_neg c23] at h
                                                obtain rfl := Option.some.inj h
                                                exact call_way cfg [(.eqI a1 0, .b false), (.eqI a0.Kind 5, .b false), (.notB false, .b true), (.len (eL (e_sl e_u8) a0.K), .i ((a0.K.length : Nat) : Int)), (.ltI 0 ((a0.K.length : Nat) : Int), .b false), (.eqI a0.Kind 1, .b false), (.notB false, .b true), (.eqI a0.Kind 2, .b false), (.notB false, .b true), (.eqI a0.N 0, .b true), (.notB true, .b false), (.eqI a0.Kind 1, .b false), (.eqI a0.Kind 2, .b false), (.eqI a0.Kind 0, .b false), (.eqI a0.Kind 10, .b false), (.eqI a0.Kind 11, .b false), (.eqI a0.Kind 12, .b false), (.eqI a0.Kind 3, .b false), (.eqI a0.Kind 6, .b false), (.eqI a0.Kind 8, .b false), (.eqI a0.Kind 7, .b false), (.eqI a0.Kind 23, .b false), (.eqI a0.Kind 4, .b false), (.eqI a0.Kind 5, .b false), (.eqI a0.Kind 13, .b false), (.eqI a0.Kind 14, .b false), (.eqI a0.Kind 9, .b false), (.eqI a0.Kind 15, .b false), (.eqI a0.Kind 16, .b true), (.notB false, .b true), (.len (eL e_u8 a0.S), .i ((a0.S.length : Nat) : Int)), (.ltI 0 ((a0.S.length : Nat) : Int), .b false), (.len (eL e_GExpr a0.Kids), .i ((a0.Kids.length : Nat) : Int)), (.eqI ((a0.Kids.length : Nat) : Int) 2, .b false), (.notB false, .b true)] rfl fd_79 (by kernel_rfl) ⟨(A.eqI_f c1), (A.eqI_f c2), rfl, A.len, (A.ltI_f c3), (A.eqI_f c4), rfl, (A.eqI_f c5), rfl, (A.eqI_t c6), rfl, (A.eqI_f c4), (A.eqI_f c5), (A.eqI_f c7), (A.eqI_f c8), (A.eqI_f c9), (A.eqI_f c10), (A.eqI_f c11), (A.eqI_f c12), (A.eqI_f c13), (A.eqI_f c14), (A.eqI_f c15), (A.eqI_f c16), (A.eqI_f c2), (A.eqI_f c17), (A.eqI_f c18), (A.eqI_f c19), (A.eqI_f c20), (A.eqI_t c21), rfl, A.len, (A.ltI_f c22), A.len, (A.eqI_f c23), rfl, trivial⟩
                                          · rw [if_neg c21] at h
                                            by_cases c22 : a0.Kind = 17
                                            · rw [if_pos c22] at h
                                              by_cases c23 : 0 < ((a0.S.length : Nat) : Int)
                                              · rw [if_pos c23] at h
                                                obtain rfl := Option.some.inj h
                                                exact call_way cfg [(.eqI a1 0, .b false), (.eqI a0.Kind 5, .b false), (.notB false, .b true), (.len (eL (e_sl e_u8) a0.K), .i ((a0.K.length : Nat) : Int)), (.ltI 0 ((a0.K.length : Nat) : Int), .b false), (.eqI a0.Kind 1, .b false), (.notB false, .b true), (.eqI a0.Kind 2, .b false), (.notB false, .b true), (.eqI a0.N 0, .b true), (.notB true, .b false), (.eqI a0.Kind 1, .b false), (.eqI a0.Kind 2, .b false), (.eqI a0.Kind 0, .b false), (.eqI a0.Kind 10, .b false), (.eqI a0.Kind 11, .b false), (.eqI a0.Kind 12, .b false), (.eqI a0.Kind 3, .b false), (.eqI a0.Kind 6, .b false), (.eqI a0.Kind 8, .b false), (.eqI a0.Kind 7, .b false), (.eqI a0.Kind 23, .b false), (.eqI a0.Kind 4, .b false), (.eqI a0.Kind 5, .b false), (.eqI a0.Kind 13, .b false), (.eqI a0.Kind 14, .b false), (.eqI a0.Kind 9, .b false), (.eqI a0.Kind 15, .b false), (.eqI a0.Kind 16, .b false), (.eqI a0.Kind 17, .b true), (.notB false, .b true), (.len (eL e_u8 a0.S), .i ((a0.S.length : Nat) : Int)), (.ltI 0 ((a0.S.length : Nat) : Int), .b true)] rfl fd_79 (by kernel_rfl) ⟨(A.eqI_f c1), (A.eqI_f c2), rfl, A.len, (A.ltI_f c3), (A.eqI_f c4), rfl, (A.eqI_f c5), rfl, (A.eqI_t c6), rfl, (A.eqI_f c4), (A.eqI_f c5), (A.eqI_f c7), (A.eqI_f c8), (A.eqI_f c9), (A.eqI_f c10), (A.eqI_f c11), (A.eqI_f c12), (A.eqI_f c13), (A.eqI_f c14), (A.eqI_f c15), (A.eqI_f c16), (A.eqI_f c2), (A.eqI_f c17), (A.eqI_f c18), (A.eqI_f c19), (A.eqI_f c20), (A.eqI_f c21), (A.eqI_t c22), rfl, A.len, (A.ltI_t c23), trivial⟩
                                              · rw [if_neg c23] at h
                                                by_cases c24 : ((a0.Kids.length : Nat) : Int) = 2
                                                · rw [if_pos c24] at h
                                                  obtain ⟨r25, hr25, h⟩ := Option.bind_eq_some_iff.1 h
                                                  obtain rfl := Option.some.inj h
                                                  exact call_way cfg [(.eqI a1 0, .b false), (.eqI a0.Kind 5, .b false), (.notB false, .b true), (.len (eL (e_sl e_u8) a0.K), .i ((a0.K.length : Nat) : Int)), (.ltI 0 ((a0.K.length : Nat) : Int), .b false), (.eqI a0.Kind 1, .b false), (.notB false, .b true), (.eqI a0.Kind 2, .b false), (.notB false, .b true), (.eqI a0.N 0, .b true), (.notB true, .b false), (.eqI a0.Kind 1, .b false), (.eqI a0.Kind 2, .b false), (.eqI a0.Kind 0, .b false), (.eqI a0.Kind 10, .b false), (.eqI a0.Kind 11, .b false), (.eqI a0.Kind 12, .b false), (.eqI a0.Kind 3, .b false), (.eqI a0.Kind 6, .b false), (.eqI a0.Kind 8, .b false), (.eqI a0.Kind 7, .b false), (.eqI a0.Kind 23, .b false), (.eqI a0.Kind 4, .b false), (.eqI a0.Kind 5, .b false), (.eqI a0.Kind 13, .b false), (.eqI a0.Kind 14, .b false), (.eqI a0.Kind 9, .b false), (.eqI a0.Kind 15, .b false), (.eqI a0.Kind 16, .b false), (.eqI a0.Kind 17, .b true), (.notB false, .b true), (.len (eL e_u8 a0.S), .i ((a0.S.length : Nat) : Int)), (.ltI 0 ((a0.S.length : Nat) : Int), .b false), (.len (eL e_GExpr a0.Kids), .i ((a0.Kids.length : Nat) : Int)), (.eqI ((a0.Kids.length : Nat) : Int) 2, .b true), (.notB true, .b false), (.ltI 150 2, .b false), (.call 107 [.var [.int .i64 a1]] [.val false [.seq (eL e_GExpr a0.Kids)], .val false [.fn 108 [.ptr 0 0]]], .r (.val false [.bool r25]) [.var [.int .i64 a1]]), (.notB r25, .b (!r25))] rfl fd_79 (by kernel_rfl) ⟨(A.eqI_f c1), (A.eqI_f c2), rfl, A.len, (A.ltI_f c3), (A.eqI_f c4), rfl, (A.eqI_f c5), rfl, (A.eqI_t c6), rfl, (A.eqI_f c4), (A.eqI_f c5), (A.eqI_f c7), (A.eqI_f c8), (A.eqI_f c9), (A.eqI_f c10), (A.eqI_f c11), (A.eqI_f c12), (A.eqI_f c13), (A.eqI_f c14), (A.eqI_f c15), (A.eqI_f c16), (A.eqI_f c2), (A.eqI_f c17), (A.eqI_f c18), (A.eqI_f c19), (A.eqI_f c20), (A.eqI_f c21), (A.eqI_t c22), rfl, A.len, (A.ltI_f c23), A.len, (A.eqI_t c24), rfl, (A.ltI_f (by omega)), (A.call (H_slices_ContainsFunc_Expr_isFormed_1 a0.Kids a1 _ hr25)), rfl, trivial⟩
                                                · rw [if_neg c24] at h
                                                  obtain rfl := Option.some.inj h
                                                  exact call_way cfg [(.eqI a1 0, .b false), (.eqI a0.Kind 5, .b false), (.notB false, .b true), (.len (eL (e_sl e_u8) a0.K), .i ((a0.K.length : Nat) : Int)), (.ltI 0 ((a0.K.length : Nat) : Int), .b false), (.eqI a0.Kind 1, .b false), (.notB false, .b true), (.eqI a0.Kind 2, .b false), (.notB false, .b true), (.eqI a0.N 0, .b true), (.notB true, .b false), (.eqI a0.Kind 1, .b false), (.eqI a0.Kind 2, .b false), (.eqI a0.Kind 0, .b false), (.eqI a0.Kind 10, .b false), (.eqI a0.Kind 11, .b false), (.eqI a0.Kind 12, .b false), (.eqI a0.Kind 3, .b false), (.eqI a0.Kind 6, .b false), (.eqI a0.Kind 8, .b false), (.eqI a0.Kind 7, .b false), (.eqI a0.Kind 23, .b false), (.eqI a0.Kind 4, .b false), (.eqI a0.Kind 5, .b false), (.eqI a0.Kind 13, .b false), (.eqI a0.Kind 14, .b false), (.eqI a0.Kind 9, .b false), (.eqI a0.Kind 15, .b false), (.eqI a0.Kind 16, .b false), (.eqI a0.Kind 17, .b true), (.notB false, .b true), (.len (eL e_u8 a0.S), .i ((a0.S.length : Nat) : Int)), (.ltI 0 ((a0.S.length : Nat) : Int), .b false), (.len (eL e_GExpr a0.Kids), .i ((a0.Kids.length : Nat) : Int)), (.eqI ((a0.Kids.length : Nat) : Int) 2, .b false), (.notB false, .b true)] rfl fd_79 (by kernel_rfl) ⟨(A.eqI_f c1), (A.eqI_f c2), rfl, A.len, (A.ltI_f c3), (A.eqI_f c4), rfl, (A.eqI_f c5), rfl, (A.eqI_t c6), rfl, (A.eqI_f c4), (A.eqI_f c5), (A.eqI_f c7), (A.eqI_f c8), (A.eqI_f c9), (A.eqI_f c10), (A.eqI_f c11), (A.eqI_f c12), (A.eqI_f c13), (A.eqI_f c14), (A.eqI_f c15), (A.eqI_f c16), (A.eqI_f c2), (A.eqI_f c17), (A.eqI_f c18), (A.eqI_f c19), (A.eqI_f c20), (A.eqI_f c21), (A.eqI_t c22), rfl, A.len, (A.ltI_f c23), A.len, (A.eqI_f c24), rfl, trivial⟩
                                            · rw [if_neg c22] at h
                                              by_cases c23 : a0.Kind = 18
                                              · rw [if_pos c23] at h
                                                by_cases c24 : 0 < ((a0.S.length : Nat) : Int)
                                                · rw [if_pos c24] at h
                                                  obtain rfl := Option.some.inj h
                                                  exact call_way cfg [(.eqI a1 0, .b false), (.eqI a0.Kind 5, .b false), (.notB false, .b true), (.len (eL (e_sl e_u8) a0.K), .i ((a0.K.length : Nat) : Int)), (.ltI 0 ((a0.K.length : Nat) : Int), .b false), (.eqI a0.Kind 1, .b false), (.notB false, .b true), (.eqI a0.Kind 2, .b false), (.notB false, .b true), (.eqI a0.N 0, .b true), (.notB true, .b false), (.eqI a0.Kind 1, .b false), (.eqI a0.Kind 2, .b false), (.eqI a0.Kind 0, .b false), (.eqI a0.Kind 10, .b false), (.eqI a0.Kind 11, .b false), (.eqI a0.Kind 12, .b false), (.eqI a0.Kind 3, .b false), (.eqI a0.Kind 6, .b false), (.eqI a0.Kind 8, .b false), (.eqI a0.Kind 7, .b false), (.eqI a0.Kind 23, .b false), (.eqI a0.Kind 4, .b false), (.eqI a0.Kind 5, .b false), (.eqI a0.Kind 13, .b false), (.eqI a0.Kind 14, .b false), (.eqI a0.Kind 9, .b false), (.eqI a0.Kind 15, .b false), (.eqI a0.Kind 16, .b false), (.eqI a0.Kind 17, .b false), (.eqI a0.Kind 18, .b true), (.notB false, .b true), (.len (eL e_u8 a0.S), .i ((a0.S.length : Nat) : Int)), (.ltI 0 ((a0.S.length : Nat) : Int), .b true)] rfl fd_79 (by kernel_rfl) ⟨(A.eqI_f c1), (A.eqI_f c2), rfl, A.len, (A.ltI_f c3), (A.eqI_f c4), rfl, (A.eqI_f c5), rfl, (A.eqI_t c6), rfl, (A.eqI_f c4), (A.eqI_f c5), (A.eqI_f c7), (A.eqI_f c8), (A.eqI_f c9), (A.eqI_f c10), (A.eqI_f c11), (A.eqI_f c12), (A.eqI_f c13), (A.eqI_f c14), (A.eqI_f c15), (A.eqI_f c16), (A.eqI_f c2), (A.eqI_f c17), (A.eqI_f c18), (A.eqI_f c19), (A.eqI_f c20), (A.eqI_f c21), (A.eqI_f c22), (A.eqI_t c23), rfl, A.len, (A.ltI_t c24), trivial⟩
                                                · rw [if_neg c24] at h
                                                  by_cases c25 : ((a0.Kids.length : Nat) : Int) = 2
                                                  · rw [if_pos c25] at h
                                                    obtain ⟨r26, hr26, h⟩ := Option.bind_eq_some_iff.1 h
                                                    obtain rfl := Option.some.inj h
                                                    exact call_way cfg [(.eqI a1 0, .b false), (.eqI a0.Kind 5, .b false), (.notB false, .b true), (.len (eL (e_sl e_u8) a0.K), .i ((a0.K.length : Nat) : Int)), (.ltI 0 ((a0.K.length : Nat) : Int), .b false), (.eqI a0.Kind 1, .b false), (.notB false, .b true), (.eqI a0.Kind 2, .b false), (.notB false, .b true), (.eqI a0.N 0, .b true), (.notB true, .b false), (.eqI a0.Kind 1, .b false), (.eqI a0.Kind 2, .b false), (.eqI a0.Kind 0, .b false), (.eqI a0.Kind 10, .b false), (.eqI a0.Kind 11, .b false), (.eqI a0.Kind 12, .b false), (.eqI a0.Kind 3, .b false), (.eqI a0.Kind 6, .b false), (.eqI a0.Kind 8, .b false), (.eqI a0.Kind 7, .b false), (.eqI a0.Kind 23, .b false), (.eqI a0.Kind 4, .b false), (.eqI a0.Kind 5, .b false), (.eqI a0.Kind 13, .b false), (.eqI a0.Kind 14, .b false), (.eqI a0.Kind 9, .b false), (.eqI a0.Kind 15, .b false), (.eqI a0.Kind 16, .b false), (.eqI a0.Kind 17, .b false), (.eqI a0.Kind 18, .b true), (.notB false, .b true), (.len (eL e_u8 a0.S), .i ((a0.S.length : Nat) : Int)), (.ltI 0 ((a0.S.length : Nat) : Int), .b false), (.len (eL e_GExpr a0.Kids), .i ((a0.Kids.length : Nat) : Int)), (.eqI ((a0.Kids.length : Nat) : Int) 2, .b true), (.notB true, .b false), (.ltI 150 2, .b false), (.call 107 [.var [.int .i64 a1]] [.val false [.seq (eL e_GExpr a0.Kids)], .val false [.fn 108 [.ptr 0 0]]], .r (.val false [.bool r26]) [.var [.int .i64 a1]]), (.notB r26, .b (!r26))] rfl fd_79 (by kernel_rfl) ⟨(A.eqI_f c1), (A.eqI_f c2), rfl, A.len, (A.ltI_f c3), (A.eqI_f c4), rfl, (A.eqI_f c5), rfl, (A.eqI_t c6), rfl, (A.eqI_f c4), (A.eqI_f c5), (A.eqI_f c7), (A.eqI_f c8), (A.eqI_f c9), (A.eqI_f c10), (A.eqI_f c11), (A.eqI_f c12), (A.eqI_f c13), (A.eqI_f c14), (A.eqI_f c15), (A.eqI_f c16), (A.eqI_f c2), (A.eqI_f c17), (A.eqI_f c18), (A.eqI_f c19), (A.eqI_f c20), (A.eqI_f c21), (A.eqI_f c22), (A.eqI_t c23), rfl, A.len, (A.ltI_f c24), A.len, (A.eqI_t c25), rfl, (A.ltI_f (by omega)), (A.call (H_slices_ContainsFunc_Expr_isFormed_1 a0.Kids a1 _ hr26)), rfl, trivial⟩
                                                  · rw [if_neg c25] at h
                                                    obtain rfl := Option.some.inj h
                                                    exact call_way cfg [(.eqI a1 0, .b false), (.eqI a0.Kind 5, .b false), (.notB false, .b true), (.len (eL (e_sl e_u8) a0.K), .i ((a0.K.length : Nat) : Int)), (.ltI 0 ((a0.K.length : Nat) : Int), .b false), (.eqI a0.Kind 1, .b false), (.notB false, .b true), (.eqI a0.Kind 2, .b false), (.notB false, .b true), (.eqI a0.N 0, .b true), (.notB true, .b false), (.eqI a0.Kind 1, .b false), (.eqI a0.Kind 2, .b false), (.eqI a0.Kind 0, .b false), (.eqI a0.Kind 10, .b false), (.eqI a0.Kind 11, .b false), (.eqI a0.Kind 12, .b false), (.eqI a0.Kind 3, .b false), (.eqI a0.Kind 6, .b false), (.eqI a0.Kind 8, .b false), (.eqI a0.Kind 7, .b false), (.eqI a0.Kind 23, .b false), (.eqI a0.Kind 4, .b false), (.eqI a0.Kind 5, .b false), (.eqI a0.Kind 13, .b false), (.eqI a0.Kind 14, .b false), (.eqI a0.Kind 9, .b false), (.eqI a0.Kind 15, .b false), (.eqI a0.Kind 16, .b false), (.eqI a0.Kind 17, .b false), (.eqI a0.Kind 18, .b true), (.notB false, .b true), (.len (eL e_u8 a0.S), .i ((a0.S.length : Nat) : Int)), (.ltI 0 ((a0.S.length : Nat) : Int), .b false), (.len (eL e_GExpr a0.Kids), .i ((a0.Kids.length : Nat) : Int)), (.eqI ((a0.Kids.length : Nat) : Int) 2, .b false), (.notB false, .b true)] rfl fd_79 (by kernel_rfl) ⟨(A.eqI_f c1), (A.eqI_f c2), rfl, A.len, (A.ltI_f c3), (A.eqI_f c4), rfl, (A.eqI_f c5), rfl, (A.eqI_t c6), rfl, (A.eqI_f c4), (A.eqI_f c5), (A.eqI_f c7), (A.eqI_f c8), (A.eqI_f c9), (A.eqI_f c10), (A.eqI_f c11), (A.eqI_f c12), (A.eqI_f c13), (A.eqI_f c14), (A.eqI_f c15), (A.eqI_f c16), (A.eqI_f c2), (A.eqI_f c17), (A.eqI_f c18), (A.eqI_f c19), (A.eqI_f c20), (A.eqI_f c21), (A.eqI_f c22), (A.eqI_t c23), rfl, A.len, (A.ltI_f c24), A.len, (A.eqI_f c25), rfl, trivial⟩
                                              · rw [if_neg c23] at h
                                                by_cases c24 : a0.Kind = 19
                                                · rw [if_pos c24] at h
                                                  by_cases c25 : 0 < ((a0.S.length : Nat) : Int)
                                                  · rw [if_pos c25] at h
                                                    obtain rfl := Option.some.inj h
                                                    exact call_way cfg [(.eqI a1 0, .b false), (.eqI a0.Kind 5, .b false), (.notB false, .b true), (.len (eL (e_sl e_u8) a0.K), .i ((a0.K.length : Nat) : Int)), (.ltI 0 ((a0.K.length : Nat) : Int), .b false), (.eqI a0.Kind 1, .b false), (.notB false, .b true), (.eqI a0.Kind 2, .b false), (.notB false, .b true), (.eqI a0.N 0, .b true), (.notB true, .b false), (.eqI a0.Kind 1, .b false), (.eqI a0.Kind 2, .b false), (.eqI a0.Kind 0, .b false), (.eqI a0.Kind 10, .b false), (.eqI a0.Kind 11, .b false), (.eqI a0.Kind 12, .b false), (.eqI a0.Kind 3, .b false), (.eqI a0.Kind 6, .b false), (.eqI a0.Kind 8, .b false), (.eqI a0.Kind 7, .b false), (.eqI a0.Kind 23, .b false), (.eqI a0.Kind 4, .b false), (.eqI a0.Kind 5, .b false), (.eqI a0.Kind 13, .b false), (.eqI a0.Kind 14, .b false), (.eqI a0.Kind 9, .b false), (.eqI a0.Kind 15, .b false), (.eqI a0.Kind 16, .b false), (.eqI a0.Kind 17, .b false), (.eqI a0.Kind 18, .b false), (.eqI a0.Kind 19, .b true), (.notB false, .b true), (.len (eL e_u8 a0.S), .i ((a0.S.length : Nat) : Int)), (.ltI 0 ((a0.S.length : Nat) : Int), .b true)] rfl fd_79 (by kernel_rfl) ⟨(A.eqI_f c1), (A.eqI_f c2), rfl, A.len, (A.ltI_f c3), (A.eqI_f c4), rfl, (A.eqI_f c5), rfl, (A.eqI_t c6), rfl, (A.eqI_f c4), (A.eqI_f c5), (A.eqI_f c7), (A.eqI_f c8), (A.eqI_f c9), (A.eqI_f c10), (A.eqI_f c11), (A.eqI_f c12), (A.eqI_f c13), (A.eqI_f c14), (A.eqI_f c15), (A.eqI_f c16), (A.eqI_f c2), (A.eqI_f c17), (A.eqI_f c18), (A.eqI_f c19), (A.eqI_f c20), (A.eqI_f c21), (A.eqI_f c22), (A.eqI_f c23), (A.eqI_t c24), rfl, A.len, (A.ltI_t c25), trivial⟩
                                                  · rw [if_neg c25] at h
                                                    by_cases c26 : ((a0.Kids.length : Nat) : Int) = 2
                                                    · rw [if_pos c26] at h
                                                      obtain ⟨r27, hr27, h⟩ := Option.bind_eq_some_iff.1 h
                                                      obtain rfl := Option.some.inj h
                                                      exact call_way cfg [(.eqI a1 0, .b false), (.eqI a0.Kind 5, .b false), (.notB false, .b true), (.len (eL (e_sl e_u8) a0.K), .i ((a0.K.length : Nat) : Int)), (.ltI 0 ((a0.K.length : Nat) : Int), .b false), (.eqI a0.Kind 1, .b false), (.notB false, .b true), (.eqI a0.Kind 2, .b false), (.notB false, .b true), (.eqI a0.N 0, .b true), (.notB true, .b false), (.eqI a0.Kind 1, .b false), (.eqI a0.Kind 2, .b false), (.eqI a0.Kind 0, .b false), (.eqI a0.Kind 10, .b false), (.eqI a0.Kind 11, .b false), (.eqI a0.Kind 12, .b false), (.eqI a0.Kind 3, .b false), (.eqI a0.Kind 6, .b false), (.eqI a0.Kind 8, .b false), (.eqI a0.Kind 7, .b false), (.eqI a0.Kind 23, .b false), (.eqI a0.Kind 4, .b false), (.eqI a0.Kind 5, .b false), (.eqI a0.Kind 13, .b false), (.eqI a0.Kind 14, .b false), (.eqI a0.Kind 9, .b false), (.eqI a0.Kind 15, .b false), (.eqI a0.Kind 16, .b false), (.eqI a0.Kind 17, .b false), (.eqI a0.Kind 18, .b false), (.eqI a0.Kind 19, .b true), (.notB false, .b true), (.len (eL e_u8 a0.S), .i ((a0.S.length : Nat) : Int)), (.ltI 0 ((a0.S.length : Nat) : Int), .b false), (.len (eL e_GExpr a0.Kids), .i ((a0.Kids.length : Nat) : Int)), (.eqI ((a0.Kids.length : Nat) : Int) 2, .b true), (.notB true, .b false), (.ltI 150 2, .b false), (.call 107 [.var [.int .i64 a1]] [.val false [.seq (eL e_GExpr a0.Kids)], .val false [.fn 108 [.ptr 0 0]]], .r (.val false [.bool r27]) [.var [.int .i64 a1]]), (.notB r27, .b (!r27))] rfl fd_79 (by kernel_rfl) ⟨(A.eqI_f c1), (A.eqI_f c2), rfl, A.len, (A.ltI_f c3), (A.eqI_f c4), rfl, (A.eqI_f c5), rfl, (A.eqI_t c6), rfl, (A.eqI_f c4), (A.eqI_f c5), (A.eqI_f c7), (A.eqI_f c8), (A.eqI_f c9), (A.eqI_f c10), (A.eqI_f c11), (A.eqI_f c12), (A.eqI_f c13), (A.eqI_f c14), (A.eqI_f c15), (A.eqI_f c16), (A.eqI_f c2), (A.eqI_f c17), (A.eqI_f c18), (A.eqI_f c19), (A.eqI_f c20), (A.eqI_f c21), (A.eqI_f c22), (A.eqI_f c23), (A.eqI_t c24), rfl, A.len, (A.ltI_f c25), A.len, (A.eqI_t c26), rfl, (A.ltI_f (by omega)), (A.call (H_slices_ContainsFunc_Expr_isFormed_1 a0.Kids a1 _ hr27)), rfl, trivial⟩
                                                    · rw [if_neg c26] at h
                                                      obtain rfl := Option.some.inj h
                                                      exact call_way cfg [(.eqI a1 0, .b false), (.eqI a0.Kind 5, .b false), (.notB false, .b true), (.len (eL (e_sl e_u8) a0.K), .i ((a0.K.length : Nat) : Int)), (.ltI 0 ((a0.K.length : Nat) : Int), .b false), (.eqI a0.Kind 1, .b false), (.notB false, .b true), (.eqI a0.Kind 2, .b false), (.notB false, .b true), (.eqI a0.N 0, .b true), (.notB true, .b false), (.eqI a0.Kind 1, .b false), (.eqI a0.Kind 2, .b false), (.eqI a0.Kind 0, .b false), (.eqI a0.Kind 10, .b false), (.eqI a0.Kind 11, .b false), (.eqI a0.Kind 12, .b false), (.eqI a0.Kind 3, .b false), (.eqI a0.Kind 6, .b false), (.eqI a0.Kind 8, .b false), (.eqI a0.Kind 7, .b false), (.eqI a0.Kind 23, .b false), (.eqI a0.Kind 4, .b false), (.eqI a0.Kind 5, .b false), (.eqI a0.Kind 13, .b false), (.eqI a0.Kind 14, .b false), (.eqI a0.Kind 9, .b false), (.eqI a0.Kind 15, .b false), (.eqI a0.Kind 16, .b false), (.eqI a0.Kind 17, .b false), (.eqI a0.Kind 18, .b false), (.eqI a0.Kind 19, .b true), (.notB false, .b true), (.len (eL e_u8 a0.S), .i ((a0.S.length : Nat) : Int)), (.ltI 0 ((a0.S.length : Nat) : Int), .b false), (.len (eL e_GExpr a0.Kids), .i ((a0.Kids.length : Nat) : Int)), (.eqI ((a0.Kids.length : Nat) : Int) 2, .b false), (.notB false, .b true)] rfl fd_79 (by kernel_rfl) ⟨(A.eqI_f c1), (A.eqI_f c2), rfl, A.len, (A.ltI_f c3), (A.eqI_f c4), rfl, (A.eqI_f c5), rfl, (A.eqI_t c6), rfl, (A.eqI_f c4), (A.eqI_f c5), (A.eqI_f c7), (A.eqI_f c8), (A.eqI_f c9), (A.eqI_f c10), (A.eqI_f c11), (A.eqI_f c12), (A.eqI_f c13), (A.eqI_f c14), (A.eqI_f c15), (A.eqI_f c16), (A.eqI_f c2), (A.eqI_f c17), (A.eqI_f c18), (A.eqI_f c19), (A.eqI_f c20), (A.eqI_f c21), (A.eqI_f c22), (A.eqI_f c23), (A.eqI_t c24), rfl, A.len, (A.ltI_f c25), A.len, (A.eqI_f c26), rfl, trivial⟩
                                                · rw [if_neg c24] at h
                                                  by_cases c25 : a0.Kind = 20
                                                  · rw [if_pos c25] at h
                                                    by_cases c26 : 0 < ((a0.S.length : Nat) : Int)
                                                    · rw [if_pos c26] at h
                                                      obtain rfl := Option.some.inj h
                                                      exact call_way cfg [(.eqI a1 0, .b false), (.eqI a0.Kind 5, .b false), (.notB false, .b true), (.len (eL (e_sl e_u8) a0.K), .i ((a0.K.length : Nat) : Int)), (.ltI 0 ((a0.K.length : Nat) : Int), .b false), (.eqI a0.Kind 1, .b false), (.notB false, .b true), (.eqI a0.Kind 2, .b false), (.notB false, .b true), (.eqI a0.N 0, .b true), (.notB true, .b false), (.eqI a0.Kind 1, .b false), (.eqI a0.Kind 2, .b false), (.eqI a0.Kind 0, .b false), (.eqI a0.Kind 10, .b false), (.eqI a0.Kind 11, .b false), (.eqI a0.Kind 12, .b false), (.eqI a0.Kind 3, .b false), (.eqI a0.Kind 6, .b false), (.eqI a0.Kind 8, .b false), (.eqI a0.Kind 7, .b false), (.eqI a0.Kind 23, .b false), (.eqI a0.Kind 4, .b false), (.eqI a0.Kind 5, .b false), (.eqI a0.Kind 13, .b false), (.eqI a0.Kind 14, .b false), (.eqI a0.Kind 9, .b false), (.eqI a0.Kind 15, .b false), (.eqI a0.Kind 16, .b false), (.eqI a0.Kind 17, .b false), (.eqI a0.Kind 18, .b false), (.eqI a0.Kind 19, .b false), (.eqI a0.Kind 20, .b true), (.notB false, .b true), (.len (eL e_u8 a0.S), .i ((a0.S.length : Nat) : Int)), (.ltI 0 ((a0.S.length : Nat) : Int), .b true)] rfl fd_79 (by kernel_rfl) ⟨(A.eqI_f c1), (A.eqI_f c2), rfl, A.len, (A.ltI_f c3), (A.eqI_f c4), rfl, (A.eqI_f c5), rfl, (A.eqI_t c6), rfl, (A.eqI_f c4), (A.eqI_f c5), (A.eqI_f c7), (A.eqI_f c8), (A.eqI_f c9), (A.eqI_f c10), (A.eqI_f c11), (A.eqI_f c12), (A.eqI_f c13), (A.eqI_f c14), (A.eqI_f c15), (A.eqI_f c16), (A.eqI_f c2), (A.eqI_f c17), (A.eqI_f c18), (A.eqI_f c19), (A.eqI_f c20), (A.eqI_f c21), (A.eqI_f c22), (A.eqI_f c23), (A.eqI_f c24), (A.eqI_t c25), rfl, A.len, (A.ltI_t c26), trivial⟩
                                                    · rw [if_neg c26] at h
                                                      by_cases c27 : ((a0.Kids.length : Nat) : Int) = 2
                                                      · rw [if_pos c27] at h
                                                        obtain ⟨r28, hr28, h⟩ := Option.bind_eq_some_iff.1 h
                                                        obtain rfl := Option.some.inj h
                                                        exact call_way cfg [(.eqI a1 0, .b false), (.eqI a0.Kind 5, .b false), (.notB false, .b true), (.len (eL (e_sl e_u8) a0.K), .i ((a0.K.length : Nat) : Int)), (.ltI 0 ((a0.K.length : Nat) : Int), .b false), (.eqI a0.Kind 1, .b false), (.notB false, .b true), (.eqI a0.Kind 2, .b false), (.notB false, .b true), (.eqI a0.N 0, .b true), (.notB true, .b false), (.eqI a0.Kind 1, .b false), (.eqI a0.Kind 2, .b false), (.eqI a0.Kind 0, .b false), (.eqI a0.Kind 10, .b false), (.eqI a0.Kind 11, .b false), (.eqI a0.Kind 12, .b false), (.eqI a0.Kind 3, .b false), (.eqI a0.Kind 6, .b false), (.eqI a0.Kind 8, .b false), (.eqI a0.Kind 7, .b false), (.eqI a0.Kind 23, .b false), (.eqI a0.Kind 4, .b false), (.eqI a0.Kind 5, .b false), (.eqI a0.Kind 13, .b false), (.eqI a0.Kind 14, .b false), (.eqI a0.Kind 9, .b false), (.eqI a0.Kind 15, .b false), (.eqI a0.Kind 16, .b false), (.eqI a0.Kind 17, .b false), (.eqI a0.Kind 18, .b false), (.eqI a0.Kind 19, .b false), (.eqI a0.Kind 20, .b true), (.notB false, .b true), (.len (eL e_u8 a0.S), .i ((a0.S.length : Nat) : Int)), (.ltI 0 ((a0.S.length : Nat) : Int), .b false), (.len (eL e_GExpr a0.Kids), .i ((a0.Kids.length : Nat) : Int)), (.eqI ((a0.Kids.length : Nat) : Int) 2, .b true), (.notB true, .b false), (.ltI 150 2, .b false), (.call 107 [.var [.int .i64 a1]] [.val false [.seq (eL e_GExpr a0.Kids)], .val false [.fn 108 [.ptr 0 0]]], .r (.val false [.bool r28]) [.var [.int .i64 a1]]), (.notB r28, .b (!r28))] rfl fd_79 (by kernel_rfl) ⟨(A.eqI_f c1), (A.eqI_f c2), rfl, A.len, (A.ltI_f c3), (A.eqI_f c4), rfl, (A.eqI_f c5), rfl, (A.eqI_t c6), rfl, (A.eqI_f c4), (A.eqI_f c5), (A.eqI_f c7), (A.eqI_f c8), (A.eqI_f c9), (A.eqI_f c10), (A.eqI_f c11), (A.eqI_f c12), (A.eqI_f c13), (A.eqI_f c14), (A.eqI_f c15), (A.eqI_f c16), (A.eqI_f c2), (A.eqI_f c17), (A.eqI_f c18), (A.eqI_f c19), (A.eqI_f c20), (A.eqI_f c21), (A.eqI_f c22), (A.eqI_f c23), (A.eqI_f c24), (A.eqI_t c25), rfl, A.len, (A.ltI_f c26), A.len, (A.eqI_t c27), rfl, (A.ltI_f (by omega)), (A.call (H_slices_ContainsFunc_Expr_isFormed_1 a0.Kids a1 _ hr28)), rfl, trivial⟩
                                                      · rw [if_neg c27] at h
                                                        obtain rfl := Option.some.inj h
                                                        exact call_way cfg [(.eqI a1 0, .b false), (.eqI a0.Kind 5, .b false), (.notB false, .b true), (.len (eL (e_sl e_u8) a0.K), .i ((a0.K.length : Nat) : Int)), (.ltI 0 ((a0.K.length : Nat) : Int), .b false), (.eqI a0.Kind 1, .b false), (.notB false, .b true), (.eqI a0.Kind 2, .b false), (.notB false, .b true), (.eqI a0.N 0, .b true), (.notB true, .b false), (.eqI a0.Kind 1, .b false), (.eqI a0.Kind 2, .b false), (.eqI a0.Kind 0, .b false), (.eqI a0.Kind 10, .b false), (.eqI a0.Kind 11, .b false), (.eqI a0.Kind 12, .b false), (.eqI a0.Kind 3, .b false), (.eqI a0.Kind 6, .b false), (.eqI a0.Kind 8, .b false), (.eqI a0.Kind 7, .b false), (.eqI a0.Kind 23, .b false), (.eqI a0.Kind 4, .b false), (.eqI a0.Kind 5, .b false), (.eqI a0.Kind 13, .b false), (.eqI a0.Kind 14, .b false), (.eqI a0.Kind 9, .b false), (.eqI a0.Kind 15, .b false), (.eqI a0.Kind 16, .b false), (.eqI a0.Kind 17, .b false), (.eqI a0.Kind 18, .b false), (.eqI a0.Kind 19, .b false), (.eqI a0.Kind 20, .b true), (.notB false, .b true), (.len (eL e_u8 a0.S), .i ((a0.S.length : Nat) : Int)), (.ltI 0 ((a0.S.length : Nat) : Int), .b false), (.len (eL e_GExpr a0.Kids), .i ((a0.Kids.length : Nat) : Int)), (.eqI ((a0.Kids.length : Nat) : Int) 2, .b false), (.notB false, .b true)] rfl fd_79 (by kernel_rfl) ⟨(A.eqI_f c1), (A.eqI_f c2), rfl, A.len, (A.ltI_f c3), (A.eqI_f c4), rfl, (A.eqI_f c5), rfl, (A.eqI_t c6), rfl, (A.eqI_f c4), (A.eqI_f c5), (A.eqI_f c7), (A.eqI_f c8), (A.eqI_f c9), (A.eqI_f c10), (A.eqI_f c11), (A.eqI_f c12), (A.eqI_f c13), (A.eqI_f c14), (A.eqI_f c15), (A.eqI_f c16), (A.eqI_f c2), (A.eqI_f c17), (A.eqI_f c18), (A.eqI_f c19), (A.eqI_f c20), (A.eqI_f c21), (A.eqI_f c22), (A.eqI_f c23), (A.eqI_f c24), (A.eqI_t c25), rfl, A.len, (A.ltI_f c26), A.len, (A.eqI_f c27), rfl, trivial⟩
                                                  · rw [if_neg c25] at h
                                                    by_cases c26 : a0.Kind = 21
                                                    · rw [if_pos c26] at h
                                                      by_cases c27 : 0 < ((a0.S.length : Nat) : Int)
                                                      · rw [if_pos c27] at h
                                                        obtain rfl := Option.some.inj h
                                                        exact call_way cfg [(.eqI a1 0, .b false), (.eqI a0.Kind 5, .b false), (.notB false, .b true), (.len (eL (e_sl e_u8) a0.K), .i ((a0.K.length : Nat) : Int)), (.ltI 0 ((a0.K.length : Nat) : Int), .b false), (.eqI a0.Kind 1, .b false), (.notB false, .b true), (.eqI a0.Kind 2, .b false), (.notB false, .b true), (.eqI a0.N 0, .b true), (.notB true, .b false), (.eqI a0.Kind 1, .b false), (.eqI a0.Kind 2, .b false), (.eqI a0.Kind 0, .b false), (.eqI a0.Kind 10, .b false), (.eqI a0.Kind 11, .b false), (.eqI a0.Kind 12, .b false), (.eqI a0.Kind 3, .b false), (.eqI a0.Kind 6, .b false), (.eqI a0.Kind 8, .b false), (.eqI a0.Kind 7, .b false), (.eqI a0.Kind 23, .b false), (.eqI a0.Kind 4, .b false), (.eqI a0.Kind 5, .b false), (.eqI a0.Kind 13, .b false), (.eqI a0.Kind 14, .b false), (.eqI a0.Kind 9, .b false), (.eqI a0.Kind 15, .b false), (.eqI a0.Kind 16, .b false), (.eqI a0.Kind 17, .b false), (.eqI a0.Kind 18, .b false), (.eqI a0.Kind 19, .b false), (.eqI a0.Kind 20, .b false), (.eqI a0.Kind 21, .b true), (.notB false, .b true), (.len (eL e_u8 a0.S), .i ((a0.S.length : Nat) : Int)), (.ltI 0 ((a0.S.length : Nat) : Int), .b true)] rfl fd_79 (by kernel_rfl) ⟨(A.eqI_f c1), (A.eqI_f c2), rfl, A.len, (A.ltI_f c3), (A.eqI_f c4), rfl, (A.eqI_f c5), rfl, (A.eqI_t c6), rfl, (A.eqI_f c4), (A.eqI_f c5), (A.eqI_f c7), (A.eqI_f c8), (A.eqI_f c9), (A.eqI_f c10), (A.eqI_f c11), (A.eqI_f c12), (A.eqI_f c13), (A.eqI_f c14), (A.eqI_f c15), (A.eqI_f c16), (A.eqI_f c2), (A.eqI_f c17), (A.eqI_f c18), (A.eqI_f c19), (A.eqI_f c20), (A.eqI_f c21), (A.eqI_f c22), (A.eqI_f c23), (A.eqI_f c24), (A.eqI_f c25), (A.eqI_t c26), rfl, A.len, (A.ltI_t c27), trivial⟩
                                                      · rw [if_neg c27] at h
                                                        by_cases c28 : ((a0.Kids.length : Nat) : Int) = 2
                                                        · rw [if_pos c28] at h
                                                          obtain ⟨r29, hr29, h⟩ := Option.bind_eq_some_iff.1 h
                                                          obtain rfl := Option.some.inj h
                                                          exact call_way cfg [(.eqI a1 0, .b false), (.eqI a0.Kind 5, .b false), (.notB false, .b true), (.len (eL (e_sl e_u8) a0.K), .i ((a0.K.length : Nat) : Int)), (.ltI 0 ((a0.K.length : Nat) : Int), .b false), (.eqI a0.Kind 1, .b false), (.notB false, .b true), (.eqI a0.Kind 2, .b false), (.notB false, .b true), (.eqI a0.N 0, .b true), (.notB true, .b false), (.eqI a0.Kind 1, .b false), (.eqI a0.Kind 2, .b false), (.eqI a0.Kind 0, .b false), (.eqI a0.Kind 10, .b false), (.eqI a0.Kind 11, .b false), (.eqI a0.Kind 12, .b false), (.eqI a0.Kind 3, .b false), (.eqI a0.Kind 6, .b false), (.eqI a0.Kind 8, .b false), (.eqI a0.Kind 7, .b false), (.eqI a0.Kind 23, .b false), (.eqI a0.Kind 4, .b false), (.eqI a0.Kind 5, .b false), (.eqI a0.Kind 13, .b false), (.eqI a0.Kind 14, .b false), (.eqI a0.Kind 9, .b false), (.eqI a0.Kind 15, .b false), (.eqI a0.Kind 16, .b false), (.eqI a0.Kind 17, .b false), (.eqI a0.Kind 18, .b false), (.eqI a0.Kind 19, .b false), (.eqI a0.Kind 20, .b false), (.eqI a0.Kind 21, .b true), (.notB false, .b true), (.len (eL e_u8 a0.S), .i ((a0.S.length : Nat) : Int)), (.ltI 0 ((a0.S.length : Nat) : Int), .b false), (.len (eL e_GExpr a0.Kids), .i ((a0.Kids.length : Nat) : Int)), (.eqI ((a0.Kids.length : Nat) : Int) 2, .b true), (.notB true, .b false), (.ltI 150 2, .b false), (.call 107 [.var [.int .i64 a1]] [.val false [.seq (eL e_GExpr a0.Kids)], .val false [.fn 108 [.ptr 0 0]]], .r (.val false [.bool r29]) [.var [.int .i64 a1]]), (.notB r29, .b (!r29))] rfl fd_79 (by kernel_rfl) ⟨(A.eqI_f c1), (A.eqI_f c2), rfl, A.len, (A.ltI_f c3), (A.eqI_f c4), rfl, (A.eqI_f c5), rfl, (A.eqI_t c6), rfl, (A.eqI_f c4), (A.eqI_f c5), (A.eqI_f c7), (A.eqI_f c8), (A.eqI_f c9), (A.eqI_f c10), (A.eqI_f c11), (A.eqI_f c12), (A.eqI_f c13), (A.eqI_f c14), (A.eqI_f c15), (A.eqI_f c16), (A.eqI_f c2), (A.eqI_f c17), (A.eqI_f c18), (A.eqI_f c19), (A.eqI_f c20), (A.eqI_f c21), (A.eqI_f c22), (A.eqI_f c23), (A.eqI_f c24), (A.eqI_f c25), (A.eqI_t c26), rfl, A.len, (A.ltI_f c27), A.len, (A.eqI_t c28), rfl, (A.ltI_f (by omega)), (A.call (H_slices_ContainsFunc_Expr_isFormed_1 a0.Kids a1 _ hr29)), rfl, trivial⟩
                                                        · rw [if_neg c28] at h
                                                          obtain rfl := Option.some.inj h
                                                          exact call_way cfg [(.eqI a1 0, .b false), (.eqI a0.Kind 5, .b false), (.notB false, .b true), (.len (eL (e_sl e_u8) a0.K), .i ((a0.K.length : Nat) : Int)), (.ltI 0 ((a0.K.length : Nat) : Int), .b false), (.eqI a0.Kind 1, .b false), (.notB false, .b true), (.eqI a0.Kind 2, .b false), (.notB false, .b true), (.eqI a0.N 0, .b true), (.notB true, .b false), (.eqI a0.Kind 1, .b false), (.eqI a0.Kind 2, .b false), (.eqI a0.Kind 0, .b false), (.eqI a0.Kind 10, .b false), (.eqI a0.Kind 11, .b false), (.eqI a0.Kind 12, .b false), (.eqI a0.Kind 3, .b false), (.eqI a0.Kind 6, .b false), (.eqI a0.Kind 8, .b false), (.eqI a0.Kind 7, .b false), (.eqI a0.Kind 23, .b false), (.eqI a0.Kind 4, .b false), (.eqI a0.Kind 5, .b false), (.eqI a0.Kind 13, .b false), (.eqI a0.Kind 14, .b false), (.eqI a0.Kind 9, .b false), (.eqI a0.Kind 15, .b false), (.eqI a0.Kind 16, .b false), (.eqI a0.Kind 17, .b false), (.eqI a0.Kind 18, .b false), (.eqI a0.Kind 19, .b false), (.eqI a0.Kind 20, .b false), (.eqI a0.Kind 21, .b true), (.notB false, .b true), (.len (eL e_u8 a0.S), .i ((a0.S.length : Nat) : Int)), (.ltI 0 ((a0.S.length : Nat) : Int), .b false), (.len (eL e_GExpr a0.Kids), .i ((a0.Kids.length : Nat) : Int)), (.eqI ((a0.Kids.length : Nat) : Int) 2, .b false), (.notB false, .b true)] rfl fd_79 (by kernel_rfl) ⟨(A.eqI_f c1), (A.eqI_f c2), rfl, A.len, (A.ltI_f c3), (A.eqI_f c4), rfl, (A.eqI_f c5), rfl, (A.eqI_t c6), rfl, (A.eqI_f c4), (A.eqI_f c5), (A.eqI_f c7), (A.eqI_f c8), (A.eqI_f c9), (A.eqI_f c10), (A.eqI_f c11), (A.eqI_f c12), (A.eqI_f c13), (A.eqI_f c14), (A.eqI_f c15), (A.eqI_f c16), (A.eqI_f c2), (A.eqI_f c17), (A.eqI_f c18), (A.eqI_f c19), (A.eqI_f c20), (A.eqI_f c21), (A.eqI_f c22), (A.eqI_f c23), (A.eqI_f c24), (A.eqI_f c25), (A.eqI_t c26), rfl, A.len, (A.ltI_f c27), A.len, (A.eqI_f c28), rfl, trivial⟩
                                                    · rw [if_neg c26] at h
                                                      by_cases c27 : a0.Kind = 22
                                                      · rw [if_pos c27] at h
                                                        by_cases c28 : 0 < ((a0.S.length : Nat) : Int)
                                                        · rw [if_pos c28] at h
                                                          obtain rfl := Option.some.inj h
                                                          exact call_way cfg [(.eqI a1 0, .b false), (.eqI a0.Kind 5, .b false), (.notB false, .b true), (.len (eL (e_sl e_u8) a0.K), .i ((a0.K.length : Nat) : Int)), (.ltI 0 ((a0.K.length : Nat) : Int), .b false), (.eqI a0.Kind 1, .b false), (.notB false, .b true), (.eqI a0.Kind 2, .b false), (.notB false, .b true), (.eqI a0.N 0, .b true), (.notB true, .b false), (.eqI a0.Kind 1, .b false), (.eqI a0.Kind 2, .b false), (.eqI a0.Kind 0, .b false), (.eqI a0.Kind 10, .b false), (.eqI a0.Kind 11, .b false), (.eqI a0.Kind 12, .b false), (.eqI a0.Kind 3, .b false), (.eqI a0.Kind 6, .b false), (.eqI a0.Kind 8, .b false), (.eqI a0.Kind 7, .b false), (.eqI a0.Kind 23, .b false), (.eqI a0.Kind 4, .b false), (.eqI a0.Kind 5, .b false), (.eqI a0.Kind 13, .b false), (.eqI a0.Kind 14, .b false), (.eqI a0.Kind 9, .b false), (.eqI a0.Kind 15, .b false), (.eqI a0.Kind 16, .b false), (.eqI a0.Kind 17, .b false), (.eqI a0.Kind 18, .b false), (.eqI a0.Kind 19, .b false), (.eqI a0.Kind 20, .b false), (.eqI a0.Kind 21, .b false), (.eqI a0.Kind 22, .b true), (.notB false, .b true), (.len (eL e_u8 a0.S), .i ((a0.S.length : Nat) : Int)), (.ltI 0 ((a0.S.length : Nat) : Int), .b true)] rfl fd_79 (by kernel_rfl) ⟨(A.eqI_f c1), (A.eqI_f c2), rfl, A.len, (A.ltI_f c3), (A.eqI_f c4), rfl, (A.eqI_f c5), rfl, (A.eqI_t c6), rfl, (A.eqI_f c4), (A.eqI_f c5), (A.eqI_f c7), (A.eqI_f c8), (A.eqI_f c9), (A.eqI_f c10), (A.eqI_f c11), (A.eqI_f c12), (A.eqI_f c13), (A.eqI_f c14), (A.eqI_f c15), (A.eqI_f c16), (A.eqI_f c2), (A.eqI_f c17), (A.eqI_f c18), (A.eqI_f c19), (A.eqI_f c20), (A.eqI_f c21), (A.eqI_f c22), (A.eqI_f c23), (A.eqI_f c24), (A.eqI_f c25), (A.eqI_f c26), (A.eqI_t c27), rfl, A.len, (A.ltI_t c28), trivial⟩
                                                        · rw [if_neg c28] at h
                                                          by_cases c29 : ((a0.Kids.length : Nat) : Int) = 3
                                                          · rw [if_pos c29] at h
                                                            obtain ⟨r30, hr30, h⟩ := Option.bind_eq_some_iff.1 h
                                                            obtain rfl := Option.some.inj h
                                                            exact call_way cfg [(.eqI a1 0, .b false), (.eqI a0.Kind 5, .b false), (.notB false, .b true), (.len (eL (e_sl e_u8) a0.K), .i ((a0.K.length : Nat) : Int)), (.ltI 0 ((a0.K.length : Nat) : Int), .b false), (.eqI a0.Kind 1, .b false), (.notB false, .b true), (.eqI a0.Kind 2, .b false), (.notB false, .b true), (.eqI a0.N 0, .b true), (.notB true, .b false), (.eqI a0.Kind 1, .b false), (.eqI a0.Kind 2, .b false), (.eqI a0.Kind 0, .b false), (.eqI a0.Kind 10, .b false), (.eqI a0.Kind 11, .b false), (.eqI a0.Kind 12, .b false), (.eqI a0.Kind 3, .b false), (.eqI a0.Kind 6, .b false), (.eqI a0.Kind 8, .b false), (.eqI a0.Kind 7, .b false), (.eqI a0.Kind 23, .b false), (.eqI a0.Kind 4, .b false), (.eqI a0.Kind 5, .b false), (.eqI a0.Kind 13, .b false), (.eqI a0.Kind 14, .b false), (.eqI a0.Kind 9, .b false), (.eqI a0.Kind 15, .b false), (.eqI a0.Kind 16, .b false), (.eqI a0.Kind 17, .b false), (.eqI a0.Kind 18, .b false), (.eqI a0.Kind 19, .b false), (.eqI a0.Kind 20, .b false), (.eqI a0.Kind 21, .b false), (.eqI a0.Kind 22, .b true), (.notB false, .b true), (.len (eL e_u8 a0.S), .i ((a0.S.length : Nat) : Int)), (.ltI 0 ((a0.S.length : Nat) : Int), .b false), (.len (eL e_GExpr a0.Kids), .i ((a0.Kids.length : Nat) : Int)), (.eqI ((a0.Kids.length : Nat) : Int) 3, .b true), (.notB true, .b false), (.ltI 150 3, .b false), (.call 107 [.var [.int .i64 a1]] [.val false [.seq (eL e_GExpr a0.Kids)], .val false [.fn 108 [.ptr 0 0]]], .r (.val false [.bool r30]) [.var [.int .i64 a1]]), (.notB r30, .b (!r30))] rfl fd_79 (by kernel_rfl) ⟨(A.eqI_f c1), (A.eqI_f c2), rfl, A.len, (A.ltI_f c3), (A.eqI_f c4), rfl, (A.eqI_f c5), rfl, (A.eqI_t c6), rfl, (A.eqI_f c4), (A.eqI_f c5), (A.eqI_f c7), (A.eqI_f c8), (A.eqI_f c9), (A.eqI_f c10), (A.eqI_f c11), (A.eqI_f c12), (A.eqI_f c13), (A.eqI_f c14), (A.eqI_f c15), (A.eqI_f c16), (A.eqI_f c2), (A.eqI_f c17), (A.eqI_f c18), (A.eqI_f c19), (A.eqI_f c20), (A.eqI_f c21), (A.eqI_f c22), (A.eqI_f c23), (A.eqI_f c24), (A.eqI_f c25), (A.eqI_f c26), (A.eqI_t c27), rfl, A.len, (A.ltI_f c28), A.len, (A.eqI_t c29), rfl, (A.ltI_f (by omega)), (A.call (H_slices_ContainsFunc_Expr_isFormed_1 a0.Kids a1 _ hr30)), rfl, trivial⟩
                                                          · rw [if_neg c29] at h
                                                            obtain rfl := Option.some.inj h
                                                            exact call_way cfg [(.eqI a1 0, .b false), (.eqI a0.Kind 5, .b false), (.notB false, .b true), (.len (eL (e_sl e_u8) a0.K), .i ((a0.K.length : Nat) : Int)), (.ltI 0 ((a0.K.length : Nat) : Int), .b false), (.eqI a0.Kind 1, .b false), (.notB false, .b true), (.eqI a0.Kind 2, .b false), (.notB false, .b true), (.eqI a0.N 0, .b true), (.notB true, .b false), (.eqI a0.Kind 1, .b false), (.eqI a0.Kind 2, .b false), (.eqI a0.Kind 0, .b false), (.eqI a0.Kind 10, .b false), (.eqI a0.Kind 11, .b false), (.eqI a0.Kind 12, .b false), (.eqI a0.Kind 3, .b false), (.eqI a0.Kind 6, .b false), (.eqI a0.Kind 8, .b false), (.eqI a0.Kind 7, .b false), (.eqI a0.Kind 23, .b false), (.eqI a0.Kind 4, .b false), (.eqI a0.Kind 5, .b false), (.eqI a0.Kind 13, .b false), (.eqI a0.Kind 14, .b false), (.eqI a0.Kind 9, .b false), (.eqI a0.Kind 15, .b false), (.eqI a0.Kind 16, .b false), (.eqI a0.Kind 17, .b false), (.eqI a0.Kind 18, .b false), (.eqI a0.Kind 19, .b false), (.eqI a0.Kind 20, .b false), (.eqI a0.Kind 21, .b false), (.eqI a0.Kind 22, .b true), (.notB false, .b true), (.len (eL e_u8 a0.S), .i ((a0.S.length : Nat) : Int)), (.ltI 0 ((a0.S.length : Nat) : Int), .b false), (.len (eL e_GExpr a0.Kids), .i ((a0.Kids.length : Nat) : Int)), (.eqI ((a0.Kids.length : Nat) : Int) 3, .b false), (.notB false, .b true)] rfl fd_79 (by kernel_rfl) ⟨(A.eqI_f c1), (A.eqI_f c2), rfl, A.len, (A.ltI_f c3), (A.eqI_f c4), rfl, (A.eqI_f c5), rfl, (A.eqI_t c6), rfl, (A.eqI_f c4), (A.eqI_f c5), (A.eqI_f c7), (A.eqI_f c8), (A.eqI_f c9), (A.eqI_f c10), (A.eqI_f c11), (A.eqI_f c12), (A.eqI_f c13), (A.eqI_f c14), (A.eqI_f c15), (A.eqI_f c16), (A.eqI_f c2), (A.eqI_f c17), (A.eqI_f c18), (A.eqI_f c19), (A.eqI_f c20), (A.eqI_f c21), (A.eqI_f c22), (A.eqI_f c23), (A.eqI_f c24), (A.eqI_f c25), (A.eqI_f c26), (A.eqI_t c27), rfl, A.len, (A.ltI_f c28), A.len, (A.eqI_f c29), rfl, trivial⟩
                                                      · rw [if_neg c27] at h
                                                        obtain rfl := Option.some.inj h
                                                        exact call_way cfg [(.eqI a1 0, .b false), (.eqI a0.Kind 5, .b false), (.notB false, .b true), (.len (eL (e_sl e_u8) a0.K), .i ((a0.K.length : Nat) : Int)), (.ltI 0 ((a0.K.length : Nat) : Int), .b false), (.eqI a0.Kind 1, .b false), (.notB false, .b true), (.eqI a0.Kind 2, .b false), (.notB false, .b true), (.eqI a0.N 0, .b true), (.notB true, .b false), (.eqI a0.Kind 1, .b false), (.eqI a0.Kind 2, .b false), (.eqI a0.Kind 0, .b false), (.eqI a0.Kind 10, .b false), (.eqI a0.Kind 11, .b false), (.eqI a0.Kind 12, .b false), (.eqI a0.Kind 3, .b false), (.eqI a0.Kind 6, .b false), (.eqI a0.Kind 8, .b false), (.eqI a0.Kind 7, .b false), (.eqI a0.Kind 23, .b false), (.eqI a0.Kind 4, .b false), (.eqI a0.Kind 5, .b false), (.eqI a0.Kind 13, .b false), (.eqI a0.Kind 14, .b false), (.eqI a0.Kind 9, .b false), (.eqI a0.Kind 15, .b false), (.eqI a0.Kind 16, .b false), (.eqI a0.Kind 17, .b false), (.eqI a0.Kind 18, .b false), (.eqI a0.Kind 19, .b false), (.eqI a0.Kind 20, .b false), (.eqI a0.Kind 21, .b false), (.eqI a0.Kind 22, .b false)] rfl fd_79 (by kernel_rfl) ⟨(A.eqI_f c1), (A.eqI_f c2), rfl, A.len, (A.ltI_f c3), (A.eqI_f c4), rfl, (A.eqI_f c5), rfl, (A.eqI_t c6), rfl, (A.eqI_f c4), (A.eqI_f c5), (A.eqI_f c7), (A.eqI_f c8), (A.eqI_f c9), (A.eqI_f c10), (A.eqI_f c11), (A.eqI_f c12), (A.eqI_f c13), (A.eqI_f c14), (A.eqI_f c15), (A.eqI_f c16), (A.eqI_f c2), (A.eqI_f c17), (A.eqI_f c18), (A.eqI_f c19), (A.eqI_f c20), (A.eqI_f c21), (A.eqI_f c22), (A.eqI_f c23), (A.eqI_f c24), (A.eqI_f c25), (A.eqI_f c26), (A.eqI_f c27), trivial⟩
            · rw [if_neg c6] at h
              obtain rfl := Option.some.inj h
              exact call_way cfg [(.eqI a1 0, .b false), (.eqI a0.Kind 5, .b false), (.notB false, .b true), (.len (eL (e_sl e_u8) a0.K), .i ((a0.K.length : Nat) : Int)), (.ltI 0 ((a0.K.length : Nat) : Int), .b false), (.eqI a0.Kind 1, .b false), (.notB false, .b true), (.eqI a0.Kind 2, .b false), (.notB false, .b true), (.eqI a0.N 0, .b false), (.notB false, .b true)] rfl fd_79 (by kernel_rfl) ⟨(A.eqI_f c1), (A.eqI_f c2), rfl, A.len, (A.ltI_f c3), (A.eqI_f c4), rfl, (A.eqI_f c5), rfl, (A.eqI_f c6), rfl, trivial⟩

mutual
def U_impl_isFormed_1 : Nat → GExpr → Int → Option Bool
  | 0, _, _ => none
  | n + 1, a0, e0 => T_impl_isFormed_1 (U_impl_isFormed n) a0 e0
def U_slices_IndexFunc_Expr_isFormed_1 : Nat → (List GExpr) → Int → Option Int
  | 0, _, _ => none
  | n + 1, a0, e0 => T_slices_IndexFunc_Expr_isFormed_1 (U_impl_isFormed_1 n) n a0 e0
def U_slices_ContainsFunc_Expr_isFormed_1 : Nat → (List GExpr) → Int → Option Bool
  | 0, _, _ => none
  | n + 1, a0, e0 => T_slices_ContainsFunc_Expr_isFormed_1 (U_slices_IndexFunc_Expr_isFormed_1 n) a0 e0
def U_impl_isFormed : Nat → GExpr → Int → Option Bool
  | 0, _, _ => none
  | n + 1, a0, a1 => T_impl_isFormed (U_slices_ContainsFunc_Expr_isFormed_1 n) n a0 a1
end
theorem rec_impl_isFormed_1 (n : Nat) : (∀ (a0 : GExpr) (e0 : Int) (r : Bool), U_impl_isFormed_1 n a0 e0 = some r → (mach cfg).call 108 [.var [.int .i64 e0]] [.val true [.int .i64 a0.Kind, .int .i64 a0.N, .seq (eL e_u8 a0.S), .seq (eL (e_sl e_u8) a0.K), .seq (eL e_GExpr a0.Kids)], .val false [.ptr 0 0]] = some (.val false [.bool r], [.var [.int .i64 e0]])) ∧ (∀ (a0 : (List GExpr)) (e0 : Int) (r : Int), U_slices_IndexFunc_Expr_isFormed_1 n a0 e0 = some r → (mach cfg).call 117 [.var [.int .i64 e0]] [.val false [.seq (eL e_GExpr a0)], .val false [.fn 108 [.ptr 0 0]]] = some (.val false [.int .i64 r], [.var [.int .i64 e0]])) ∧ (∀ (a0 : (List GExpr)) (e0 : Int) (r : Bool), U_slices_ContainsFunc_Expr_isFormed_1 n a0 e0 = some r → (mach cfg).call 107 [.var [.int .i64 e0]] [.val false [.seq (eL e_GExpr a0)], .val false [.fn 108 [.ptr 0 0]]] = some (.val false [.bool r], [.var [.int .i64 e0]])) ∧ (∀ (a0 : GExpr) (a1 : Int) (r : Bool), U_impl_isFormed n a0 a1 = some r → (mach cfg).call 79 [] [.val true [.int .i64 a0.Kind, .int .i64 a0.N, .seq (eL e_u8 a0.S), .seq (eL (e_sl e_u8) a0.K), .seq (eL e_GExpr a0.Kids)], .val false [.int .i64 a1]] = some (.val false [.bool r], [])) := by
  induction n with
  | zero => exact ⟨fun _ _ _ h => (by rw [U_impl_isFormed_1] at h; cases h), fun _ _ _ h => (by rw [U_slices_IndexFunc_Expr_isFormed_1] at h; cases h), fun _ _ _ h => (by rw [U_slices_ContainsFunc_Expr_isFormed_1] at h; cases h), fun _ _ _ h => (by rw [U_impl_isFormed] at h; cases h)⟩
  | succ n ih =>
    obtain ⟨ih_impl_isFormed_1, ih_slices_IndexFunc_Expr_isFormed_1, ih_slices_ContainsFunc_Expr_isFormed_1, ih_impl_isFormed⟩ := ih
    exact ⟨fun a0 e0 r h => g_impl_isFormed_1 (U_impl_isFormed n) ih_impl_isFormed a0 e0 r (by rw [U_impl_isFormed_1] at h; exact h),
      fun a0 e0 r h => g_slices_IndexFunc_Expr_isFormed_1 (U_impl_isFormed_1 n) ih_impl_isFormed_1 n a0 e0 r (by rw [U_slices_IndexFunc_Expr_isFormed_1] at h; exact h),
      fun a0 e0 r h => g_slices_ContainsFunc_Expr_isFormed_1 (U_slices_IndexFunc_Expr_isFormed_1 n) ih_slices_IndexFunc_Expr_isFormed_1 a0 e0 r (by rw [U_slices_ContainsFunc_Expr_isFormed_1] at h; exact h),
      fun a0 a1 r h => g_impl_isFormed (U_slices_ContainsFunc_Expr_isFormed_1 n) ih_slices_ContainsFunc_Expr_isFormed_1 n a0 a1 r (by rw [U_impl_isFormed] at h; exact h)⟩
theorem cmpS_eq (a b : List UInt8) : S_bytes_Compare a b = some (Lib.compareBytes a b) := rfl
theorem isName_eq {a : List UInt8} (h : a.length ≤ 2 ^ 20) : S_impl_isName a = some (nameB a) := if_pos h
theorem isText_eq {a : List UInt8} (h : a.length ≤ 2 ^ 20) : S_impl_isText a = some (textB a) := if_pos h
theorem slices_ContainsFunc_Expr_isFormed_1_T {G : GExpr → Int → Option Bool} {a : List GExpr} {f : Nat} {e : Int} {p : GExpr → Bool} (ha : a.length ≤ 2 ^ 20) (hf : a.length < f) (hG : ∀ x ∈ a, G x e = some (!p x)) : ∃ r : Int, T_slices_IndexFunc_Expr_isFormed_1 G f a e = some r ∧ decide (0 ≤ r) = !(a.all p) := by
  have loop : ∀ (d i m : Nat), i + d = a.length → d < m → ∃ (q : Nat) (z : Int), L_slices_IndexFunc_Expr_isFormed_1_l0 G a ((a.length : Nat) : Int) e m (i : Int) = some (if (a.drop i).all p = true then .inr z else .inl (q : Int)) := by
    intro d
    induction d with
    | zero =>
      intro i m hi hm
      obtain ⟨m, rfl, _⟩ := fuel hm
      exact ⟨0, _, by rw [L_slices_IndexFunc_Expr_isFormed_1_l0, if_neg (by omega), List.drop_eq_nil_of_le (by omega)]; rfl⟩
    | succ d ih =>
      intro i m hi hm
      obtain ⟨m, rfl, hm'⟩ := fuel hm
      have hil : i < a.length := by omega
      rw [L_slices_IndexFunc_Expr_isFormed_1_l0, if_pos (by omega), natO_nat, Option.bind_some, get_some hil, Option.bind_some, hG _ (List.getElem_mem hil), Option.bind_some, w64_succ (by omega), drop_cons hil, List.all_cons]
      cases hp : p a[i] with
      | false => exact ⟨i, 0, rfl⟩
      | true =>
        obtain ⟨q, z, hz⟩ := ih (i + 1) m (by omega) (by omega)
        exact ⟨q, z, by rw [Bool.true_and]; exact hz⟩
  obtain ⟨q, z, hz⟩ := loop a.length 0 f (by omega) (by omega)
  rw [show ((0 : Nat) : Int) = 0 from rfl, List.drop_zero] at hz
  unfold T_slices_IndexFunc_Expr_isFormed_1
  rw [hz, Option.bind_some]
  cases hp : a.all p with
  | true => exact ⟨-1, rfl, rfl⟩
  | false => exact ⟨(q : Int), rfl, by simp⟩
theorem isFormed_keys {G : List GExpr → Int → Option Bool} {v : GExpr} {v1 : Bool} {a1 : Int} (hs : xsz v ≤ 2 ^ 20) : ∀ (d i m : Nat), i + d = v.K.length → d < m → ∃ z, L_impl_isFormed_l0 G ((v.K.length : Nat) : Int) v1 v.K v a1 m (i : Int) = some (if kAll v.K i d = true then .inr z else .inl false) := by
  have he := xsz_eq v
  have hl := bsz_len v.K
  intro d
  induction d with
  | zero =>
    intro i m hi hm
    obtain ⟨m, rfl, _⟩ := fuel hm
    exact ⟨_, by rw [L_impl_isFormed_l0, if_neg (by omega)]; rfl⟩
  | succ d ih =>
    intro i m hi hm
    obtain ⟨m, rfl, hm'⟩ := fuel hm
    have hil : i < v.K.length := by omega
    have hx := bsz_mem (List.getElem_mem hil)
    rw [L_impl_isFormed_l0, if_pos (by omega), natO_nat, Option.bind_some, get_some hil, Option.bind_some, isName_eq (by omega), Option.bind_some, w64_succ (by omega), kAll_succ]
    obtain ⟨z, hz⟩ := ih (i + 1) m (by omega) (by omega)
    cases hnm : nameB v.K[i] with
    | false =>
      refine ⟨0, ?_⟩
      have : kOk v.K i = false := by
        by_cases h0 : i = 0
        · subst h0; rw [kOk_zero hil, hnm]
        · rw [kOk_eq hil (by omega), hnm]; rfl
      rw [this]; rfl
    | true =>
      dsimp only
      by_cases h0 : 0 < i
      · rw [if_pos (by omega), w64_pred (by omega) h0, natO_nat, Option.bind_some, get_some (show i - 1 < v.K.length by omega), Option.bind_some, cmpS_eq, Option.bind_some]
        by_cases hb : Op.bytesLess (v.K[i - 1]'(by omega)) v.K[i] = true
        · rw [if_neg (by rw [less_cmp]; exact fun h => h hb), kOk_eq hil h0, hnm, hb]
          exact ⟨z, hz⟩
        · rw [if_pos (by rw [less_cmp]; exact hb), kOk_eq hil h0, hnm, show Op.bytesLess (v.K[i - 1]'(by omega)) v.K[i] = false by simpa using hb]
          exact ⟨0, rfl⟩
      · have : i = 0 := by omega
        subst this
        rw [if_neg (by omega), kOk_zero hil, hnm]
        exact ⟨z, hz⟩
theorem isWord_eq {a : List UInt8} (h : a.length ≤ 2 ^ 20) : S_impl_isWord a = some (nameB a && !keptB a) := by
  unfold S_impl_isWord
  rw [isName_eq h, Option.bind_some]
  cases nameB a with
  | false => rfl
  | true =>
    dsimp only
    rw [show S_impl_keptWords = some keptL from rfl, Option.bind_some]
    unfold S_slices_Contains_string S_slices_Index_string
    rw [if_pos (by decide), Option.bind_some, Option.bind_some, ixF_any]
    rfl
theorem isFormed_dec {G : List GExpr → Int → Option Bool} {v : GExpr} {n : Nat} {a1 : Int} {X : Option Bool} (hs : v.S.length ≤ 2 ^ 20) (h1 : ¬ a1 = 0) (h5 : ¬ v.Kind = 5)
    (hX : ((G v.Kids a1).bind fun r => some (!r)) = X) : Dec X (some false) (LocX v ∧ v.Kids.length ≤ 150) (T_impl_isFormed G n v a1) := by
  have hw := bi_and (nameB v.S) (keptB v.S)
  unfold T_impl_isFormed LocX
  rw [if_neg h1, if_neg h5]
  have q1 : (0 : Int) ≤ ((v.S.length : Nat) : Int) := by omega
  have q2 : (0 : Int) ≤ ((v.K.length : Nat) : Int) := by omega
  have q3 : (0 : Int) ≤ ((v.Kids.length : Nat) : Int) := by omega
  rw [show (v.Kids.length ≤ 150) = (((v.Kids.length : Nat) : Int) ≤ 150) from propext (by omega)]
  generalize v.Kind = k at h5
  generalize ((v.S.length : Nat) : Int) = s at q1
  generalize ((v.K.length : Nat) : Int) = kk at q2
  generalize ((v.Kids.length : Nat) : Int) = kl at q3
  repeat' first
    | refine Dec.ite (fun _ => ?_) (fun _ => ?_)
    | refine Dec.bndD (in_eq _ _ _) (fun _ => ?_) (fun _ => ?_)
    | refine Dec.bndB (isText_eq hs) (fun _ => ?_) (fun _ => ?_)
    | refine Dec.bndB (isName_eq hs) (fun _ => ?_) (fun _ => ?_)
    | refine Dec.bndB (isWord_eq hs) (fun _ => ?_) (fun _ => ?_)
  all_goals first
    | (refine .inl ⟨hX, ?_⟩; (try subst_vars); first | (simp [LocA, arI]; done) | (simp [LocA, arI]; omega))
    | (refine .inr ⟨rfl, ?_⟩; rintro ⟨h, hk⟩; (try subst_vars); first
      | (have g := h.1; clear h hw; omega)
      | (have g := h.2.2.2.1; clear h hw; omega)
      | (have g := h.2.2.2.2.2.2.1; clear h hw; omega)
      | (simp [LocA, arI] at h; done)
      | (simp [LocA, arI] at h; omega))
theorem isFormed_T {G : List GExpr → Int → Option Bool} {v : GExpr} {f d : Nat} (hs : xsz v ≤ 2 ^ 20) (hf : v.K.length < f) (hd : 0 < d) (hG : G v.Kids (d : Int) = some (!(v.Kids.all (frX (d - 1))))) : T_impl_isFormed G f v (d : Int) = some (frX d v) := by
  obtain ⟨e, rfl⟩ : ∃ e, d = e + 1 := ⟨d - 1, by omega⟩
  have he := xsz_eq v
  have hl := xszs_len v.Kids
  have hb := bsz_len v.K
  rw [show e + 1 - 1 = e by omega] at hG
  rw [frX_succ]
  have no : locX v = false → some false = some (locX v && v.Kids.all (frX e)) := fun h => by rw [h]; rfl
  have yes : locX v = true → ((G v.Kids ((e + 1 : Nat) : Int)).bind fun r => some (!r)) = some (locX v && v.Kids.all (frX e)) := fun h => by rw [hG, Option.bind_some, h, Bool.not_not, Bool.true_and]
  by_cases h5 : v.Kind = 5
  · have har := arI_all v.Kind
    have hbad : ∀ {p : Prop}, p → (p → ¬ (LocX v ∧ v.Kids.length ≤ 150 ∧ (v.Kind = 5 → kAll v.K 0 v.K.length = true))) → locX v = false := fun hp h => by
      cases hx : locX v with
      | false => rfl
      | true => exact (h hp (locX_inv hx)).elim
    unfold T_impl_isFormed
    rw [if_neg (by omega), if_pos h5]
    by_cases a2 : v.N = 0
    · rw [if_pos a2]
      obtain ⟨z, hz⟩ := isFormed_keys (G := G) (v1 := false) (a1 := ((e + 1 : Nat) : Int)) hs v.K.length 0 f (by omega) (by omega)
      rw [show ((0 : Nat) : Int) = 0 from rfl] at hz
      rw [hz, Option.bind_some]
      cases hk : kAll v.K 0 v.K.length with
      | false => exact no (hbad hk fun h h' => by have := h'.2.2 h5; rw [h] at this; cases this)
      | true =>
        rw [if_pos rfl]
        dsimp only
        by_cases a3 : 0 < ((v.S.length : Nat) : Int)
        · rw [if_pos a3]; exact no (hbad a3 fun h h' => by have := h'.1; unfold LocX LocA at this; omega)
        · rw [if_neg a3]
          by_cases a4 : ((v.Kids.length : Nat) : Int) = ((v.K.length : Nat) : Int)
          · rw [if_pos a4]
            by_cases a5 : 150 < ((v.K.length : Nat) : Int)
            · rw [if_pos a5]; exact no (hbad a5 fun h h' => by have := h'.2.1; omega)
            · rw [if_neg a5]
              refine yes (locX_true ?_ (by omega) fun _ => hk)
              unfold LocX LocA; omega
          · rw [if_neg a4]; exact no (hbad a4 fun h h' => by have := h'.1; unfold LocX LocA at this; omega)
    · rw [if_neg a2]; exact no (hbad a2 fun h h' => by have := h'.1; unfold LocX LocA at this; omega)
  · rcases isFormed_dec (G := G) (n := f) (v := v) (a1 := ((e + 1 : Nat) : Int)) (by omega) (by omega) h5 rfl with ⟨h, hL⟩ | ⟨h, hL⟩
    · rw [h]; exact yes (locX_true hL.1 hL.2 fun k => (h5 k).elim)
    · rw [h]
      refine no ?_
      cases hx : locX v with
      | false => rfl
      | true => have := locX_inv hx; exact (hL ⟨this.1, this.2.1⟩).elim
theorem isFormed_U : ∀ (N : Nat) (v : GExpr), xsz v < N → xsz v ≤ 2 ^ 20 → ∀ (f d : Nat), 4 * xsz v + 6 ≤ f → d ≤ 2 ^ 20 → U_impl_isFormed f v (d : Int) = some (frX d v) := by
  intro N
  induction N with
  | zero => intro v hv; omega
  | succ N ih =>
    intro v hv hs f d hf hd
    have he := xsz_eq v
    have hl := xszs_len v.Kids
    have hb := bsz_len v.K
    obtain ⟨f, rfl, _⟩ := fuel (show 0 < f by omega)
    rw [U_impl_isFormed]
    by_cases h0 : d = 0
    · subst h0; unfold T_impl_isFormed; rw [if_pos (show ((0 : Nat) : Int) = 0 from rfl)]; rfl
    refine isFormed_T hs (by omega) (by omega) ?_
    obtain ⟨f, rfl, _⟩ := fuel (show 0 < f by omega)
    obtain ⟨f, rfl, _⟩ := fuel (show 0 < f by omega)
    obtain ⟨f, rfl, _⟩ := fuel (show 0 < f by omega)
    rw [U_slices_ContainsFunc_Expr_isFormed_1]
    unfold T_slices_ContainsFunc_Expr_isFormed_1
    rw [U_slices_IndexFunc_Expr_isFormed_1]
    obtain ⟨r, hr, hr2⟩ := slices_ContainsFunc_Expr_isFormed_1_T (G := U_impl_isFormed_1 (f + 1)) (a := v.Kids) (f := f + 1) (e := (d : Int)) (p := frX (d - 1)) (by omega) (by omega) fun x hx => by
      have := xszs_mem hx
      rw [U_impl_isFormed_1]
      unfold T_impl_isFormed_1
      rw [w64_pred (by omega) (by omega), ih x (by omega) (by omega) f (d - 1) (by omega) (by omega)]
      rfl
    rw [hr, Option.bind_some, hr2]
def S_impl_isFormed_1 (a0 : GExpr) (e0 : Int) : Option Bool := none
theorem spec_impl_isFormed_1 (a0 : GExpr) (e0 : Int) (r : Bool) (h : S_impl_isFormed_1 a0 e0 = some r) : ∃ n, U_impl_isFormed_1 n a0 e0 = some r := by cases h
def S_slices_IndexFunc_Expr_isFormed_1 (a0 : (List GExpr)) (e0 : Int) : Option Int := none
theorem spec_slices_IndexFunc_Expr_isFormed_1 (a0 : (List GExpr)) (e0 : Int) (r : Int) (h : S_slices_IndexFunc_Expr_isFormed_1 a0 e0 = some r) : ∃ n, U_slices_IndexFunc_Expr_isFormed_1 n a0 e0 = some r := by cases h
def S_slices_ContainsFunc_Expr_isFormed_1 (a0 : (List GExpr)) (e0 : Int) : Option Bool := none
theorem spec_slices_ContainsFunc_Expr_isFormed_1 (a0 : (List GExpr)) (e0 : Int) (r : Bool) (h : S_slices_ContainsFunc_Expr_isFormed_1 a0 e0 = some r) : ∃ n, U_slices_ContainsFunc_Expr_isFormed_1 n a0 e0 = some r := by cases h
noncomputable def S_impl_isFormed (a0 : GExpr) (a1 : Int) : Option Bool := if xsz a0 ≤ 2 ^ 20 ∧ 0 ≤ a1 ∧ a1 ≤ 2 ^ 20 then some (frX a1.toNat a0) else none
theorem spec_impl_isFormed (a0 : GExpr) (a1 : Int) (r : Bool) (h : S_impl_isFormed a0 a1 = some r) : ∃ n, U_impl_isFormed n a0 a1 = some r := by
  unfold S_impl_isFormed at h
  obtain ⟨⟨hs, h0, h1⟩, h⟩ := need_c h
  refine ⟨4 * xsz a0 + 6, ?_⟩
  have := isFormed_U _ a0 (Nat.lt_succ_self _) hs _ a1.toNat (Nat.le_refl _) (by omega)
  rw [show ((a1.toNat : Nat) : Int) = a1 by omega] at this
  rw [this]; exact h
theorem ok_impl_isFormed_1 (a0 : GExpr) (e0 : Int) (r : Bool) (h : S_impl_isFormed_1 a0 e0 = some r) : (mach cfg).call 108 [.var [.int .i64 e0]] [.val true [.int .i64 a0.Kind, .int .i64 a0.N, .seq (eL e_u8 a0.S), .seq (eL (e_sl e_u8) a0.K), .seq (eL e_GExpr a0.Kids)], .val false [.ptr 0 0]] = some (.val false [.bool r], [.var [.int .i64 e0]]) := by
  obtain ⟨n, hn⟩ := spec_impl_isFormed_1 a0 e0 r h
  exact (rec_impl_isFormed_1 n).1 a0 e0 r hn
theorem ok_slices_IndexFunc_Expr_isFormed_1 (a0 : (List GExpr)) (e0 : Int) (r : Int) (h : S_slices_IndexFunc_Expr_isFormed_1 a0 e0 = some r) : (mach cfg).call 117 [.var [.int .i64 e0]] [.val false [.seq (eL e_GExpr a0)], .val false [.fn 108 [.ptr 0 0]]] = some (.val false [.int .i64 r], [.var [.int .i64 e0]]) := by
  obtain ⟨n, hn⟩ := spec_slices_IndexFunc_Expr_isFormed_1 a0 e0 r h
  exact (rec_impl_isFormed_1 n).2.1 a0 e0 r hn
theorem ok_slices_ContainsFunc_Expr_isFormed_1 (a0 : (List GExpr)) (e0 : Int) (r : Bool) (h : S_slices_ContainsFunc_Expr_isFormed_1 a0 e0 = some r) : (mach cfg).call 107 [.var [.int .i64 e0]] [.val false [.seq (eL e_GExpr a0)], .val false [.fn 108 [.ptr 0 0]]] = some (.val false [.bool r], [.var [.int .i64 e0]]) := by
  obtain ⟨n, hn⟩ := spec_slices_ContainsFunc_Expr_isFormed_1 a0 e0 r h
  exact (rec_impl_isFormed_1 n).2.2.1 a0 e0 r hn
theorem ok_impl_isFormed (a0 : GExpr) (a1 : Int) (r : Bool) (h : S_impl_isFormed a0 a1 = some r) : (mach cfg).call 79 [] [.val true [.int .i64 a0.Kind, .int .i64 a0.N, .seq (eL e_u8 a0.S), .seq (eL (e_sl e_u8) a0.K), .seq (eL e_GExpr a0.Kids)], .val false [.int .i64 a1]] = some (.val false [.bool r], []) := by
  obtain ⟨n, hn⟩ := spec_impl_isFormed a0 a1 r h
  exact (rec_impl_isFormed_1 n).2.2.2 a0 a1 r hn
end
end Go.Am.Try
