/- The functions of the program in plain Lean, and that the machine answers as they do; conditions at each theorem. -/
import Derived.Test.YtoopljdbjefgoaaEG3
set_option linter.unusedVariables false
set_option linter.unusedSimpArgs false
namespace Go.Am.Try
open Go.Am Go.Proofs
set_option linter.unusedVariables false
set_option maxRecDepth 20000
set_option maxHeartbeats 2000000
noncomputable section
def T_impl_isShaped_1 (G_impl_isShaped : GValue → Int → Option Bool) (a0 : GValue) (e0 : Int) : Option Bool :=
  (G_impl_isShaped a0 (w64 (e0 - 1))).bind fun r1 =>
  some (!r1)

set_option maxRecDepth 100000 in
theorem fd_111 : cfg.funcs 111 = some (bodyOf Try.f111, Try.f111.ntmps, Try.f111.results.toList) := fn_of Try.func111 (by kernel_rfl) (by kernel_rfl)
theorem g_impl_isShaped_1 (G_impl_isShaped : GValue → Int → Option Bool) (H_impl_isShaped : ∀ (a0 : GValue) (a1 : Int) (r : Bool), G_impl_isShaped a0 a1 = some r → (mach cfg).call 73 [] [.val true [.int .i64 a0.Kind, .int .i64 a0.N, .seq (eL e_u8 a0.S), .seq (eL (e_sl e_u8) a0.K), .seq (eL e_GValue a0.L)], .val false [.int .i64 a1]] = some (.val false [.bool r], [])) (a0 : GValue) (e0 : Int) (r : Bool) (h : T_impl_isShaped_1 G_impl_isShaped a0 e0 = some r) : (mach cfg).call 111 [.var [.int .i64 e0]] [.val true [.int .i64 a0.Kind, .int .i64 a0.N, .seq (eL e_u8 a0.S), .seq (eL (e_sl e_u8) a0.K), .seq (eL e_GValue a0.L)], .val false [.ptr 0 0]] = some (.val false [.bool r], [.var [.int .i64 e0]]) := by
  unfold T_impl_isShaped_1 at h
  obtain ⟨r1, hr1, h⟩ := Option.bind_eq_some_iff.1 h
  obtain rfl := Option.some.inj h
  exact call_way cfg [(.sub .i64 e0 1, .i (w64 (e0 - 1))), (.call 73 [] [.val true [.int .i64 a0.Kind, .int .i64 a0.N, .seq (eL e_u8 a0.S), .seq (eL (e_sl e_u8) a0.K), .seq (eL e_GValue a0.L)], .val false [.int .i64 (w64 (e0 - 1))]], .r (.val false [.bool r1]) []), (.notB r1, .b (!r1))] rfl fd_111 (by kernel_rfl) ⟨rfl, (A.call (H_impl_isShaped a0 (w64 (e0 - 1)) _ hr1)), rfl, trivial⟩

def L_slices_IndexFunc_Value_isShaped_1_l0 (G_impl_isShaped_1 : GValue → Int → Option Bool) (a0 : (List GValue)) (v1 : Int) (e0 : Int) : Nat → Int → Option (Int ⊕ Int)
  | 0, _ => none
  | m + 1, v2 =>
    if v2 < v1 then
      (natO v2).bind fun i2 =>
      (a0[i2]?).bind fun x3 =>
      (G_impl_isShaped_1 x3 e0).bind fun r4 =>
      match r4 with
      | true =>
        some (.inl v2)
      | false =>
        L_slices_IndexFunc_Value_isShaped_1_l0 G_impl_isShaped_1 a0 v1 e0 m (w64 (v2 + 1))
    else
      some (.inr v2)

theorem gl_slices_IndexFunc_Value_isShaped_1_l0 (G_impl_isShaped_1 : GValue → Int → Option Bool) (H_impl_isShaped_1 : ∀ (a0 : GValue) (e0 : Int) (r : Bool), G_impl_isShaped_1 a0 e0 = some r → (mach cfg).call 111 [.var [.int .i64 e0]] [.val true [.int .i64 a0.Kind, .int .i64 a0.N, .seq (eL e_u8 a0.S), .seq (eL (e_sl e_u8) a0.K), .seq (eL e_GValue a0.L)], .val false [.ptr 0 0]] = some (.val false [.bool r], [.var [.int .i64 e0]])) (a0 : (List GValue)) (v1 : Int) (e0 : Int) (m : Nat) : ∀ (v2 : Int) (o : (Int ⊕ Int)), L_slices_IndexFunc_Value_isShaped_1_l0 G_impl_isShaped_1 a0 v1 e0 m v2 = some o → (mach cfg).loop 112 (loopB Try.f112 0) ⟨[(0, .val false [.seq (eL e_GValue a0)]), (1, .val false [.fn 111 [.ptr 0 0]]), (7, .val false [.int .i64 v1]), (8, .val false [.int .i64 v2])], [.var [.int .i64 e0]], 1⟩ = some (match o with | .inl o_0 => (.ret, (⟨[(4, .val false [.int .i64 o_0])], [.var [.int .i64 e0]], 1⟩ : S)) | .inr (o_1) => (.exit 0, (⟨[(0, .val false [.seq (eL e_GValue a0)]), (1, .val false [.fn 111 [.ptr 0 0]]), (7, .val false [.int .i64 v1]), (8, .val false [.int .i64 o_1]), (9, .val false [.bool false])], [.var [.int .i64 e0]], 1⟩ : S))) := by
  induction m with
  | zero => intro v2 o h; cases h
  | succ m ih =>
    intro v2 o h
    rw [L_slices_IndexFunc_Value_isShaped_1_l0] at h
    by_cases c1 : v2 < v1
    · rw [if_pos c1] at h
      obtain ⟨i2, hi2, h⟩ := Option.bind_eq_some_iff.1 h
      obtain ⟨x3, hx3, h⟩ := Option.bind_eq_some_iff.1 h
      obtain ⟨r4, hr4, h⟩ := Option.bind_eq_some_iff.1 h
      cases r4 with
      | true =>
        try dsimp only at h
        obtain rfl := Option.some.inj h
        exact loop_end cfg [(.ltI v2 v1, .b true), (.nat v2, .n i2), (.idx (eL e_GValue a0) i2, .e [.int .i64 x3.Kind, .int .i64 x3.N, .seq (eL e_u8 x3.S), .seq (eL (e_sl e_u8) x3.K), .seq (eL e_GValue x3.L)]), (.call 111 [.var [.int .i64 e0]] [.val true [.int .i64 x3.Kind, .int .i64 x3.N, .seq (eL e_u8 x3.S), .seq (eL (e_sl e_u8) x3.K), .seq (eL e_GValue x3.L)], .val false [.ptr 0 0]], .r (.val false [.bool true]) [.var [.int .i64 e0]])] (by kernel_rfl) ⟨(A.ltI_t c1), (A.nat hi2), (A.idx hx3 (eq_GValue x3)), (A.call (H_impl_isShaped_1 x3 e0 _ hr4)), trivial⟩ (by intro h; cases h)
      | false =>
        try dsimp only at h
        exact loop_on cfg [(.ltI v2 v1, .b true), (.nat v2, .n i2), (.idx (eL e_GValue a0) i2, .e [.int .i64 x3.Kind, .int .i64 x3.N, .seq (eL e_u8 x3.S), .seq (eL (e_sl e_u8) x3.K), .seq (eL e_GValue x3.L)]), (.call 111 [.var [.int .i64 e0]] [.val true [.int .i64 x3.Kind, .int .i64 x3.N, .seq (eL e_u8 x3.S), .seq (eL (e_sl e_u8) x3.K), .seq (eL e_GValue x3.L)], .val false [.ptr 0 0]], .r (.val false [.bool false]) [.var [.int .i64 e0]]), (.add .i64 v2 1, .i (w64 (v2 + 1)))] (by kernel_rfl) ⟨(A.ltI_t c1), (A.nat hi2), (A.idx hx3 (eq_GValue x3)), (A.call (H_impl_isShaped_1 x3 e0 _ hr4)), rfl, trivial⟩ (ih (w64 (v2 + 1)) o h)
    · rw [if_neg c1] at h
      obtain rfl := Option.some.inj h
      exact loop_end cfg [(.ltI v2 v1, .b false)] (by kernel_rfl) ⟨(A.ltI_f c1), trivial⟩ (by intro h; cases h)

def T_slices_IndexFunc_Value_isShaped_1 (G_impl_isShaped_1 : GValue → Int → Option Bool) (n : Nat) (a0 : (List GValue)) (e0 : Int) : Option Int :=
  (L_slices_IndexFunc_Value_isShaped_1_l0 G_impl_isShaped_1 a0 ((a0.length : Nat) : Int) e0 n 0).bind fun o1 =>
  match o1 with
  | .inl o1_0 =>
    some o1_0
  | .inr (o1_1) =>
    some (-1)

set_option maxRecDepth 100000 in
theorem fd_112 : cfg.funcs 112 = some (bodyOf Try.f112, Try.f112.ntmps, Try.f112.results.toList) := fn_of Try.func112 (by kernel_rfl) (by kernel_rfl)
theorem g_slices_IndexFunc_Value_isShaped_1 (G_impl_isShaped_1 : GValue → Int → Option Bool) (H_impl_isShaped_1 : ∀ (a0 : GValue) (e0 : Int) (r : Bool), G_impl_isShaped_1 a0 e0 = some r → (mach cfg).call 111 [.var [.int .i64 e0]] [.val true [.int .i64 a0.Kind, .int .i64 a0.N, .seq (eL e_u8 a0.S), .seq (eL (e_sl e_u8) a0.K), .seq (eL e_GValue a0.L)], .val false [.ptr 0 0]] = some (.val false [.bool r], [.var [.int .i64 e0]])) (n : Nat) (a0 : (List GValue)) (e0 : Int) (r : Int) (h : T_slices_IndexFunc_Value_isShaped_1 G_impl_isShaped_1 n a0 e0 = some r) : (mach cfg).call 112 [.var [.int .i64 e0]] [.val false [.seq (eL e_GValue a0)], .val false [.fn 111 [.ptr 0 0]]] = some (.val false [.int .i64 r], [.var [.int .i64 e0]]) := by
  unfold T_slices_IndexFunc_Value_isShaped_1 at h
  obtain ⟨o1, ho1, h⟩ := Option.bind_eq_some_iff.1 h
  rcases o1 with o1_0 | o1_1
  · try dsimp only at h
    obtain rfl := Option.some.inj h
    exact call_way cfg [(.len (eL e_GValue a0), .i ((a0.length : Nat) : Int)), (.loop 112 (loopB Try.f112 0) ⟨[(0, .val false [.seq (eL e_GValue a0)]), (1, .val false [.fn 111 [.ptr 0 0]]), (7, .val false [.int .i64 ((a0.length : Nat) : Int)]), (8, .val false [.int .i64 0])], [.var [.int .i64 e0]], 1⟩, .x (.ret) ⟨[(4, .val false [.int .i64 o1_0])], [.var [.int .i64 e0]], 1⟩)] rfl fd_112 (by kernel_rfl) ⟨A.len, (A.loop (gl_slices_IndexFunc_Value_isShaped_1_l0 G_impl_isShaped_1 H_impl_isShaped_1 a0 ((a0.length : Nat) : Int) e0 _ 0 _ ho1)), trivial⟩
  · try dsimp only at h
    obtain rfl := Option.some.inj h
    exact call_way cfg [(.len (eL e_GValue a0), .i ((a0.length : Nat) : Int)), (.loop 112 (loopB Try.f112 0) ⟨[(0, .val false [.seq (eL e_GValue a0)]), (1, .val false [.fn 111 [.ptr 0 0]]), (7, .val false [.int .i64 ((a0.length : Nat) : Int)]), (8, .val false [.int .i64 0])], [.var [.int .i64 e0]], 1⟩, .x (.exit 0) ⟨[(0, .val false [.seq (eL e_GValue a0)]), (1, .val false [.fn 111 [.ptr 0 0]]), (7, .val false [.int .i64 ((a0.length : Nat) : Int)]), (8, .val false [.int .i64 o1_1]), (9, .val false [.bool false])], [.var [.int .i64 e0]], 1⟩)] rfl fd_112 (by kernel_rfl) ⟨A.len, (A.loop (gl_slices_IndexFunc_Value_isShaped_1_l0 G_impl_isShaped_1 H_impl_isShaped_1 a0 ((a0.length : Nat) : Int) e0 _ 0 _ ho1)), trivial⟩

def T_slices_ContainsFunc_Value_isShaped_1 (G_slices_IndexFunc_Value_isShaped_1 : (List GValue) → Int → Option Int) (a0 : (List GValue)) (e0 : Int) : Option Bool :=
  (G_slices_IndexFunc_Value_isShaped_1 a0 e0).bind fun r1 =>
  some (decide (0 ≤ r1))

set_option maxRecDepth 100000 in
theorem fd_75 : cfg.funcs 75 = some (bodyOf Try.f75, Try.f75.ntmps, Try.f75.results.toList) := fn_of Try.func75 (by kernel_rfl) (by kernel_rfl)
theorem g_slices_ContainsFunc_Value_isShaped_1 (G_slices_IndexFunc_Value_isShaped_1 : (List GValue) → Int → Option Int) (H_slices_IndexFunc_Value_isShaped_1 : ∀ (a0 : (List GValue)) (e0 : Int) (r : Int), G_slices_IndexFunc_Value_isShaped_1 a0 e0 = some r → (mach cfg).call 112 [.var [.int .i64 e0]] [.val false [.seq (eL e_GValue a0)], .val false [.fn 111 [.ptr 0 0]]] = some (.val false [.int .i64 r], [.var [.int .i64 e0]])) (a0 : (List GValue)) (e0 : Int) (r : Bool) (h : T_slices_ContainsFunc_Value_isShaped_1 G_slices_IndexFunc_Value_isShaped_1 a0 e0 = some r) : (mach cfg).call 75 [.var [.int .i64 e0]] [.val false [.seq (eL e_GValue a0)], .val false [.fn 111 [.ptr 0 0]]] = some (.val false [.bool r], [.var [.int .i64 e0]]) := by
  unfold T_slices_ContainsFunc_Value_isShaped_1 at h
  obtain ⟨r1, hr1, h⟩ := Option.bind_eq_some_iff.1 h
  obtain rfl := Option.some.inj h
  exact call_way cfg [(.call 112 [.var [.int .i64 e0]] [.val false [.seq (eL e_GValue a0)], .val false [.fn 111 [.ptr 0 0]]], .r (.val false [.int .i64 r1]) [.var [.int .i64 e0]]), (.leI 0 r1, .b (decide (0 ≤ r1)))] rfl fd_75 (by kernel_rfl) ⟨(A.call (H_slices_IndexFunc_Value_isShaped_1 a0 e0 _ hr1)), A.leI_d, trivial⟩

def L_impl_isShaped_l0 (G_slices_ContainsFunc_Value_isShaped_1 : (List GValue) → Int → Option Bool) (v0 : Bool) (v1 : Bool) (v2 : (List (List UInt8))) (v3 : Int) (a0 : GValue) (a1 : Int) : Nat → Int → Option (Bool ⊕ Int)
  | 0, _ => none
  | m + 1, v4 =>
    if v4 < v3 then
      (natO v4).bind fun i2 =>
      (v2[i2]?).bind fun x3 =>
      (S_impl_isName x3).bind fun r4 =>
      match r4 with
      | true =>
        if 0 < v4 then
          (natO (w64 (v4 - 1))).bind fun i7 =>
          (a0.K[i7]?).bind fun x8 =>
          (S_bytes_Compare x8 x3).bind fun r9 =>
          if 0 ≤ r9 then
            some (.inl false)
          else
            L_impl_isShaped_l0 G_slices_ContainsFunc_Value_isShaped_1 v0 v1 v2 v3 a0 a1 m (w64 (v4 + 1))
        else
          L_impl_isShaped_l0 G_slices_ContainsFunc_Value_isShaped_1 v0 v1 v2 v3 a0 a1 m (w64 (v4 + 1))
      | false =>
        some (.inl false)
    else
      some (.inr v4)

theorem gl_impl_isShaped_l0 (G_slices_ContainsFunc_Value_isShaped_1 : (List GValue) → Int → Option Bool) (H_slices_ContainsFunc_Value_isShaped_1 : ∀ (a0 : (List GValue)) (e0 : Int) (r : Bool), G_slices_ContainsFunc_Value_isShaped_1 a0 e0 = some r → (mach cfg).call 75 [.var [.int .i64 e0]] [.val false [.seq (eL e_GValue a0)], .val false [.fn 111 [.ptr 0 0]]] = some (.val false [.bool r], [.var [.int .i64 e0]])) (v0 : Bool) (v1 : Bool) (v2 : (List (List UInt8))) (v3 : Int) (a0 : GValue) (a1 : Int) (m : Nat) : ∀ (v4 : Int) (o : (Bool ⊕ Int)), L_impl_isShaped_l0 G_slices_ContainsFunc_Value_isShaped_1 v0 v1 v2 v3 a0 a1 m v4 = some o → (mach cfg).loop 73 (loopB Try.f73 0) ⟨[(2, .val false [.ptr 0 0]), (3, .val false [.ptr 1 0]), (5, .val false [.bool v0]), (6, .val false [.bool v1]), (99, .val false [.seq (eL (e_sl e_u8) v2)]), (100, .val false [.int .i64 v3]), (101, .val false [.int .i64 v4])], [.var [.int .i64 a0.Kind, .int .i64 a0.N, .seq (eL e_u8 a0.S), .seq (eL (e_sl e_u8) a0.K), .seq (eL e_GValue a0.L)], .var [.int .i64 a1]], 0⟩ = some (match o with | .inl o_0 => (.ret, (⟨[(4, .val false [.bool o_0])], [], 0⟩ : S)) | .inr (o_1) => (.exit 1, (⟨[(2, .val false [.ptr 0 0]), (3, .val false [.ptr 1 0]), (5, .val false [.bool v0]), (6, .val false [.bool v1]), (99, .val false [.seq (eL (e_sl e_u8) v2)]), (100, .val false [.int .i64 v3]), (101, .val false [.int .i64 o_1]), (102, .val false [.bool false])], [.var [.int .i64 a0.Kind, .int .i64 a0.N, .seq (eL e_u8 a0.S), .seq (eL (e_sl e_u8) a0.K), .seq (eL e_GValue a0.L)], .var [.int .i64 a1]], 0⟩ : S))) := by
  induction m with
  | zero => intro v4 o h; cases h
  | succ m ih =>
    intro v4 o h
    rw [L_impl_isShaped_l0] at h
    by_cases c1 : v4 < v3
    · rw [if_pos c1] at h
      obtain ⟨i2, hi2, h⟩ := Option.bind_eq_some_iff.1 h
      obtain ⟨x3, hx3, h⟩ := Option.bind_eq_some_iff.1 h
      obtain ⟨r4, hr4, h⟩ := Option.bind_eq_some_iff.1 h
      cases r4 with
      | true =>
        try dsimp only at h
        by_cases c6 : 0 < v4
        · rw [if_pos c6] at h
          obtain ⟨i7, hi7, h⟩ := Option.bind_eq_some_iff.1 h
          obtain ⟨x8, hx8, h⟩ := Option.bind_eq_some_iff.1 h
          obtain ⟨r9, hr9, h⟩ := Option.bind_eq_some_iff.1 h
          by_cases c10 : 0 ≤ r9
          · rw [if_pos c10] at h
            obtain rfl := Option.some.inj h
            exact loop_end cfg [(.ltI v4 v3, .b true), (.nat v4, .n i2), (.idx (eL (e_sl e_u8) v2) i2, .e [.seq (eL e_u8 x3)]), (.call 58 [] [.val false [.seq (eL e_u8 x3)]], .r (.val false [.bool true]) []), (.notB true, .b false), (.ltI 0 v4, .b true), (.sub .i64 v4 1, .i (w64 (v4 - 1))), (.nat (w64 (v4 - 1)), .n i7), (.idx (eL (e_sl e_u8) a0.K) i7, .e [.seq (eL e_u8 x8)]), (.call 110 [] [.val false [.seq (eL e_u8 x8)], .val false [.seq (eL e_u8 x3)]], .r (.val false [.int .i64 r9]) []), (.leI 0 r9, .b true)] (by kernel_rfl) ⟨(A.ltI_t c1), (A.nat hi2), (A.idx hx3 rfl), (A.call (ok_impl_isName x3 _ hr4)), rfl, (A.ltI_t c6), rfl, (A.nat hi7), (A.idx hx8 rfl), (A.call (ok_bytes_Compare x8 x3 _ hr9)), (A.leI_t c10), trivial⟩ (by intro h; cases h)
          · rw [if_neg c10] at h
            exact loop_on cfg [(.ltI v4 v3, .b true), (.nat v4, .n i2), (.idx (eL (e_sl e_u8) v2) i2, .e [.seq (eL e_u8 x3)]), (.call 58 [] [.val false [.seq (eL e_u8 x3)]], .r (.val false [.bool true]) []), (.notB true, .b false), (.ltI 0 v4, .b true), (.sub .i64 v4 1, .i (w64 (v4 - 1))), (.nat (w64 (v4 - 1)), .n i7), (.idx (eL (e_sl e_u8) a0.K) i7, .e [.seq (eL e_u8 x8)]), (.call 110 [] [.val false [.seq (eL e_u8 x8)], .val false [.seq (eL e_u8 x3)]], .r (.val false [.int .i64 r9]) []), (.leI 0 r9, .b false), (.add .i64 v4 1, .i (w64 (v4 + 1)))] (by kernel_rfl) ⟨(A.ltI_t c1), (A.nat hi2), (A.idx hx3 rfl), (A.call (ok_impl_isName x3 _ hr4)), rfl, (A.ltI_t c6), rfl, (A.nat hi7), (A.idx hx8 rfl), (A.call (ok_bytes_Compare x8 x3 _ hr9)), (A.leI_f c10), rfl, trivial⟩ (ih (w64 (v4 + 1)) o h)
        · rw [if_neg c6] at h
          exact loop_on cfg [(.ltI v4 v3, .b true), (.nat v4, .n i2), (.idx (eL (e_sl e_u8) v2) i2, .e [.seq (eL e_u8 x3)]), (.call 58 [] [.val false [.seq (eL e_u8 x3)]], .r (.val false [.bool true]) []), (.notB true, .b false), (.ltI 0 v4, .b false), (.add .i64 v4 1, .i (w64 (v4 + 1)))] (by kernel_rfl) ⟨(A.ltI_t c1), (A.nat hi2), (A.idx hx3 rfl), (A.call (ok_impl_isName x3 _ hr4)), rfl, (A.ltI_f c6), rfl, trivial⟩ (ih (w64 (v4 + 1)) o h)
      | false =>
        try dsimp only at h
        obtain rfl := Option.some.inj h
        exact loop_end cfg [(.ltI v4 v3, .b true), (.nat v4, .n i2), (.idx (eL (e_sl e_u8) v2) i2, .e [.seq (eL e_u8 x3)]), (.call 58 [] [.val false [.seq (eL e_u8 x3)]], .r (.val false [.bool false]) []), (.notB false, .b true)] (by kernel_rfl) ⟨(A.ltI_t c1), (A.nat hi2), (A.idx hx3 rfl), (A.call (ok_impl_isName x3 _ hr4)), rfl, trivial⟩ (by intro h; cases h)
    · rw [if_neg c1] at h
      obtain rfl := Option.some.inj h
      exact loop_end cfg [(.ltI v4 v3, .b false)] (by kernel_rfl) ⟨(A.ltI_f c1), trivial⟩ (by intro h; cases h)

def T_impl_isShaped (G_slices_ContainsFunc_Value_isShaped_1 : (List GValue) → Int → Option Bool) (n : Nat) (a0 : GValue) (a1 : Int) : Option Bool :=
  if a1 = 0 then
    some false
  else
    if a0.Kind = 0 then
      if a0.N = 0 then
        if ((a0.S.length : Nat) : Int) = 0 then
          if ((a0.K.length : Nat) : Int) = 0 then
            some (decide (((a0.L.length : Nat) : Int) = 0))
          else
            some false
        else
          some false
      else
        some false
    else
      if a0.Kind = 6 then
        if a0.N = 0 then
          if ((a0.S.length : Nat) : Int) = 0 then
            if ((a0.K.length : Nat) : Int) = 0 then
              some (decide (((a0.L.length : Nat) : Int) = 0))
            else
              some false
          else
            some false
        else
          some false
      else
        if a0.Kind = 1 then
          (S_impl_in a0.N 0 1).bind fun r5 =>
          match r5 with
          | true =>
            if ((a0.S.length : Nat) : Int) = 0 then
              if ((a0.K.length : Nat) : Int) = 0 then
                some (decide (((a0.L.length : Nat) : Int) = 0))
              else
                some false
            else
              some false
          | false =>
            some false
        else
          if a0.Kind = 2 then
            (S_impl_in a0.N (-1000000000000) 1000000000000).bind fun r6 =>
            match r6 with
            | true =>
              if ((a0.S.length : Nat) : Int) = 0 then
                if ((a0.K.length : Nat) : Int) = 0 then
                  some (decide (((a0.L.length : Nat) : Int) = 0))
                else
                  some false
              else
                some false
            | false =>
              some false
          else
            if a0.Kind = 3 then
              (S_impl_isText a0.S).bind fun r7 =>
              match r7 with
              | true =>
                if a0.N = 0 then
                  if ((a0.K.length : Nat) : Int) = 0 then
                    some (decide (((a0.L.length : Nat) : Int) = 0))
                  else
                    some false
                else
                  some false
              | false =>
                some false
            else
              if a0.Kind = 4 then
                if ((a0.K.length : Nat) : Int) = 0 then
                  if a0.N = 0 then
                    if ((a0.S.length : Nat) : Int) = 0 then
                      if ((a0.L.length : Nat) : Int) ≤ 40 then
                        (G_slices_ContainsFunc_Value_isShaped_1 a0.L a1).bind fun r12 =>
                        some (!r12)
                      else
                        some false
                    else
                      some false
                  else
                    some false
                else
                  some false
              else
                if a0.Kind = 5 then
                  if ((a0.K.length : Nat) : Int) = ((a0.L.length : Nat) : Int) then
                    if a0.N = 0 then
                      if ((a0.S.length : Nat) : Int) = 0 then
                        (L_impl_isShaped_l0 G_slices_ContainsFunc_Value_isShaped_1 true true a0.K ((a0.K.length : Nat) : Int) a0 a1 n 0).bind fun o12 =>
                        match o12 with
                        | .inl o12_0 =>
                          some o12_0
                        | .inr (o12_1) =>
                          if ((a0.L.length : Nat) : Int) ≤ 40 then
                            (G_slices_ContainsFunc_Value_isShaped_1 a0.L a1).bind fun r14 =>
                            some (!r14)
                          else
                            some false
                      else
                        (L_impl_isShaped_l0 G_slices_ContainsFunc_Value_isShaped_1 true false a0.K ((a0.K.length : Nat) : Int) a0 a1 n 0).bind fun o12 =>
                        match o12 with
                        | .inl o12_0 =>
                          some o12_0
                        | .inr (o12_1) =>
                          some false
                    else
                      if ((a0.S.length : Nat) : Int) = 0 then
                        (L_impl_isShaped_l0 G_slices_ContainsFunc_Value_isShaped_1 false true a0.K ((a0.K.length : Nat) : Int) a0 a1 n 0).bind fun o12 =>
                        match o12 with
                        | .inl o12_0 =>
                          some o12_0
                        | .inr (o12_1) =>
                          some false
                      else
                        (L_impl_isShaped_l0 G_slices_ContainsFunc_Value_isShaped_1 false false a0.K ((a0.K.length : Nat) : Int) a0 a1 n 0).bind fun o12 =>
                        match o12 with
                        | .inl o12_0 =>
                          some o12_0
                        | .inr (o12_1) =>
                          some false
                  else
                    some false
                else
                  some false

set_option maxRecDepth 100000 in
theorem fd_73 : cfg.funcs 73 = some (bodyOf Try.f73, Try.f73.ntmps, Try.f73.results.toList) := fn_of Try.func73 (by kernel_rfl) (by kernel_rfl)
theorem g_impl_isShaped (G_slices_ContainsFunc_Value_isShaped_1 : (List GValue) → Int → Option Bool) (H_slices_ContainsFunc_Value_isShaped_1 : ∀ (a0 : (List GValue)) (e0 : Int) (r : Bool), G_slices_ContainsFunc_Value_isShaped_1 a0 e0 = some r → (mach cfg).call 75 [.var [.int .i64 e0]] [.val false [.seq (eL e_GValue a0)], .val false [.fn 111 [.ptr 0 0]]] = some (.val false [.bool r], [.var [.int .i64 e0]])) (n : Nat) (a0 : GValue) (a1 : Int) (r : Bool) (h : T_impl_isShaped G_slices_ContainsFunc_Value_isShaped_1 n a0 a1 = some r) : (mach cfg).call 73 [] [.val true [.int .i64 a0.Kind, .int .i64 a0.N, .seq (eL e_u8 a0.S), .seq (eL (e_sl e_u8) a0.K), .seq (eL e_GValue a0.L)], .val false [.int .i64 a1]] = some (.val false [.bool r], []) := by
  unfold T_impl_isShaped at h
  by_cases c1 : a1 = 0
  · rw [if_pos c1] at h
    obtain rfl := Option.some.inj h
    exact call_way cfg [(.eqI a1 0, .b true)] rfl fd_73 (by kernel_rfl) ⟨(A.eqI_t c1), trivial⟩
  · rw [if_neg c1] at h
    by_cases c2 : a0.Kind = 0
    · rw [if_pos c2] at h
      by_cases c3 : a0.N = 0
      · rw [if_pos c3] at h
        by_cases c4 : ((a0.S.length : Nat) : Int) = 0
        · rw [if_pos c4] at h
          by_cases c5 : ((a0.K.length : Nat) : Int) = 0
          · rw [if_pos c5] at h
            obtain rfl := Option.some.inj h
            exact call_way cfg [(.eqI a1 0, .b false), (.eqI a0.N 0, .b true), (.len (eL e_u8 a0.S), .i ((a0.S.length : Nat) : Int)), (.eqI ((a0.S.length : Nat) : Int) 0, .b true), (.len (eL (e_sl e_u8) a0.K), .i ((a0.K.length : Nat) : Int)), (.eqI ((a0.K.length : Nat) : Int) 0, .b true), (.len (eL e_GValue a0.L), .i ((a0.L.length : Nat) : Int)), (.eqI ((a0.L.length : Nat) : Int) 0, .b (decide (((a0.L.length : Nat) : Int) = 0))), (.eqI a0.Kind 0, .b true)] rfl fd_73 (by kernel_rfl) ⟨(A.eqI_f c1), (A.eqI_t c3), A.len, (A.eqI_t c4), A.len, (A.eqI_t c5), A.len, A.eqI_d, (A.eqI_t c2), trivial⟩
          · rw [if_neg c5] at h
            obtain rfl := Option.some.inj h
            exact call_way cfg [(.eqI a1 0, .b false), (.eqI a0.N 0, .b true), (.len (eL e_u8 a0.S), .i ((a0.S.length : Nat) : Int)), (.eqI ((a0.S.length : Nat) : Int) 0, .b true), (.len (eL (e_sl e_u8) a0.K), .i ((a0.K.length : Nat) : Int)), (.eqI ((a0.K.length : Nat) : Int) 0, .b false), (.len (eL e_GValue a0.L), .i ((a0.L.length : Nat) : Int)), (.eqI ((a0.L.length : Nat) : Int) 0, .b (decide (((a0.L.length : Nat) : Int) = 0))), (.eqI a0.Kind 0, .b true)] rfl fd_73 (by kernel_rfl) ⟨(A.eqI_f c1), (A.eqI_t c3), A.len, (A.eqI_t c4), A.len, (A.eqI_f c5), A.len, A.eqI_d, (A.eqI_t c2), trivial⟩
        · rw [if_neg c4] at h
          obtain rfl := Option.some.inj h
          exact call_way cfg [(.eqI a1 0, .b false), (.eqI a0.N 0, .b true), (.len (eL e_u8 a0.S), .i ((a0.S.length : Nat) : Int)), (.eqI ((a0.S.length : Nat) : Int) 0, .b false), (.len (eL (e_sl e_u8) a0.K), .i ((a0.K.length : Nat) : Int)), (.eqI ((a0.K.length : Nat) : Int) 0, .b (decide (((a0.K.length : Nat) : Int) = 0))), (.len (eL e_GValue a0.L), .i ((a0.L.length : Nat) : Int)), (.eqI ((a0.L.length : Nat) : Int) 0, .b (decide (((a0.L.length : Nat) : Int) = 0))), (.eqI a0.Kind 0, .b true)] rfl fd_73 (by kernel_rfl) ⟨(A.eqI_f c1), (A.eqI_t c3), A.len, (A.eqI_f c4), A.len, A.eqI_d, A.len, A.eqI_d, (A.eqI_t c2), trivial⟩
      · rw [if_neg c3] at h
        obtain rfl := Option.some.inj h
        exact call_way cfg [(.eqI a1 0, .b false), (.eqI a0.N 0, .b false), (.len (eL e_u8 a0.S), .i ((a0.S.length : Nat) : Int)), (.eqI ((a0.S.length : Nat) : Int) 0, .b (decide (((a0.S.length : Nat) : Int) = 0))), (.len (eL (e_sl e_u8) a0.K), .i ((a0.K.length : Nat) : Int)), (.eqI ((a0.K.length : Nat) : Int) 0, .b (decide (((a0.K.length : Nat) : Int) = 0))), (.len (eL e_GValue a0.L), .i ((a0.L.length : Nat) : Int)), (.eqI ((a0.L.length : Nat) : Int) 0, .b (decide (((a0.L.length : Nat) : Int) = 0))), (.eqI a0.Kind 0, .b true)] rfl fd_73 (by kernel_rfl) ⟨(A.eqI_f c1), (A.eqI_f c3), A.len, A.eqI_d, A.len, A.eqI_d, A.len, A.eqI_d, (A.eqI_t c2), trivial⟩
    · rw [if_neg c2] at h
      by_cases c3 : a0.Kind = 6
      · rw [if_pos c3] at h
        by_cases c4 : a0.N = 0
        · rw [if_pos c4] at h
          by_cases c5 : ((a0.S.length : Nat) : Int) = 0
          · rw [if_pos c5] at h
            by_cases c6 : ((a0.K.length : Nat) : Int) = 0
            · rw [if_pos c6] at h
              obtain rfl := Option.some.inj h
              exact call_way cfg [(.eqI a1 0, .b false), (.eqI a0.N 0, .b true), (.len (eL e_u8 a0.S), .i ((a0.S.length : Nat) : Int)), (.eqI ((a0.S.length : Nat) : Int) 0, .b true), (.len (eL (e_sl e_u8) a0.K), .i ((a0.K.length : Nat) : Int)), (.eqI ((a0.K.length : Nat) : Int) 0, .b true), (.len (eL e_GValue a0.L), .i ((a0.L.length : Nat) : Int)), (.eqI ((a0.L.length : Nat) : Int) 0, .b (decide (((a0.L.length : Nat) : Int) = 0))), (.eqI a0.Kind 0, .b false), (.eqI a0.Kind 6, .b true)] rfl fd_73 (by kernel_rfl) ⟨(A.eqI_f c1), (A.eqI_t c4), A.len, (A.eqI_t c5), A.len, (A.eqI_t c6), A.len, A.eqI_d, (A.eqI_f c2), (A.eqI_t c3), trivial⟩
            · rw [if_neg c6] at h
              obtain rfl := Option.some.inj h
              exact call_way cfg [(.eqI a1 0, .b false), (.eqI a0.N 0, .b true), (.len (eL e_u8 a0.S), .i ((a0.S.length : Nat) : Int)), (.eqI ((a0.S.length : Nat) : Int) 0, .b true), (.len (eL (e_sl e_u8) a0.K), .i ((a0.K.length : Nat) : Int)), (.eqI ((a0.K.length : Nat) : Int) 0, .b false), (.len (eL e_GValue a0.L), .i ((a0.L.length : Nat) : Int)), (.eqI ((a0.L.length : Nat) : Int) 0, .b (decide (((a0.L.length : Nat) : Int) = 0))), (.eqI a0.Kind 0, .b false), (.eqI a0.Kind 6, .b true)] rfl fd_73 (by kernel_rfl) ⟨(A.eqI_f c1), (A.eqI_t c4), A.len, (A.eqI_t c5), A.len, (A.eqI_f c6), A.len, A.eqI_d, (A.eqI_f c2), (A.eqI_t c3), trivial⟩
          · rw [if_neg c5] at h
            obtain rfl := Option.some.inj h
            exact call_way cfg [(.eqI a1 0, .b false), (.eqI a0.N 0, .b true), (.len (eL e_u8 a0.S), .i ((a0.S.length : Nat) : Int)), (.eqI ((a0.S.length : Nat) : Int) 0, .b false), (.len (eL (e_sl e_u8) a0.K), .i ((a0.K.length : Nat) : Int)), (.eqI ((a0.K.length : Nat) : Int) 0, .b (decide (((a0.K.length : Nat) : Int) = 0))), (.len (eL e_GValue a0.L), .i ((a0.L.length : Nat) : Int)), (.eqI ((a0.L.length : Nat) : Int) 0, .b (decide (((a0.L.length : Nat) : Int) = 0))), (.eqI a0.Kind 0, .b false), (.eqI a0.Kind 6, .b true)] rfl fd_73 (by kernel_rfl) ⟨(A.eqI_f c1), (A.eqI_t c4), A.len, (A.eqI_f c5), A.len, A.eqI_d, A.len, A.eqI_d, (A.eqI_f c2), (A.eqI_t c3), trivial⟩
        · rw [if_neg c4] at h
          obtain rfl := Option.some.inj h
          exact call_way cfg [(.eqI a1 0, .b false), (.eqI a0.N 0, .b false), (.len (eL e_u8 a0.S), .i ((a0.S.length : Nat) : Int)), (.eqI ((a0.S.length : Nat) : Int) 0, .b (decide (((a0.S.length : Nat) : Int) = 0))), (.len (eL (e_sl e_u8) a0.K), .i ((a0.K.length : Nat) : Int)), (.eqI ((a0.K.length : Nat) : Int) 0, .b (decide (((a0.K.length : Nat) : Int) = 0))), (.len (eL e_GValue a0.L), .i ((a0.L.length : Nat) : Int)), (.eqI ((a0.L.length : Nat) : Int) 0, .b (decide (((a0.L.length : Nat) : Int) = 0))), (.eqI a0.Kind 0, .b false), (.eqI a0.Kind 6, .b true)] rfl fd_73 (by kernel_rfl) ⟨(A.eqI_f c1), (A.eqI_f c4), A.len, A.eqI_d, A.len, A.eqI_d, A.len, A.eqI_d, (A.eqI_f c2), (A.eqI_t c3), trivial⟩
      · rw [if_neg c3] at h
        by_cases c4 : a0.Kind = 1
        · rw [if_pos c4] at h
          obtain ⟨r5, hr5, h⟩ := Option.bind_eq_some_iff.1 h
          cases r5 with
          | true =>
            try dsimp only at h
            by_cases c7 : ((a0.S.length : Nat) : Int) = 0
            · rw [if_pos c7] at h
              by_cases c8 : ((a0.K.length : Nat) : Int) = 0
              · rw [if_pos c8] at h
                obtain rfl := Option.some.inj h
                exact call_way cfg [(.eqI a1 0, .b false), (.eqI a0.N 0, .b (decide (a0.N = 0))), (.len (eL e_u8 a0.S), .i ((a0.S.length : Nat) : Int)), (.eqI ((a0.S.length : Nat) : Int) 0, .b true), (.len (eL (e_sl e_u8) a0.K), .i ((a0.K.length : Nat) : Int)), (.eqI ((a0.K.length : Nat) : Int) 0, .b true), (.len (eL e_GValue a0.L), .i ((a0.L.length : Nat) : Int)), (.eqI ((a0.L.length : Nat) : Int) 0, .b (decide (((a0.L.length : Nat) : Int) = 0))), (.eqI a0.Kind 0, .b false), (.eqI a0.Kind 6, .b false), (.eqI a0.Kind 1, .b true), (.call 82 [] [.val false [.int .i64 a0.N], .val false [.int .i64 0], .val false [.int .i64 1]], .r (.val false [.bool true]) [])] rfl fd_73 (by kernel_rfl) ⟨(A.eqI_f c1), A.eqI_d, A.len, (A.eqI_t c7), A.len, (A.eqI_t c8), A.len, A.eqI_d, (A.eqI_f c2), (A.eqI_f c3), (A.eqI_t c4), (A.call (ok_impl_in a0.N 0 1 _ hr5)), trivial⟩
              · rw [if_neg c8] at h
                obtain rfl := Option.some.inj h
                exact call_way cfg [(.eqI a1 0, .b false), (.eqI a0.N 0, .b (decide (a0.N = 0))), (.len (eL e_u8 a0.S), .i ((a0.S.length : Nat) : Int)), (.eqI ((a0.S.length : Nat) : Int) 0, .b true), (.len (eL (e_sl e_u8) a0.K), .i ((a0.K.length : Nat) : Int)), (.eqI ((a0.K.length : Nat) : Int) 0, .b false), (.len (eL e_GValue a0.L), .i ((a0.L.length : Nat) : Int)), (.eqI ((a0.L.length : Nat) : Int) 0, .b (decide (((a0.L.length : Nat) : Int) = 0))), (.eqI a0.Kind 0, .b false), (.eqI a0.Kind 6, .b false), (.eqI a0.Kind 1, .b true), (.call 82 [] [.val false [.int .i64 a0.N], .val false [.int .i64 0], .val false [.int .i64 1]], .r (.val false [.bool true]) [])] rfl fd_73 (by kernel_rfl) ⟨(A.eqI_f c1), A.eqI_d, A.len, (A.eqI_t c7), A.len, (A.eqI_f c8), A.len, A.eqI_d, (A.eqI_f c2), (A.eqI_f c3), (A.eqI_t c4), (A.call (ok_impl_in a0.N 0 1 _ hr5)), trivial⟩
            · rw [if_neg c7] at h
              obtain rfl := Option.some.inj h
              exact call_way cfg [(.eqI a1 0, .b false), (.eqI a0.N 0, .b (decide (a0.N = 0))), (.len (eL e_u8 a0.S), .i ((a0.S.length : Nat) : Int)), (.eqI ((a0.S.length : Nat) : Int) 0, .b false), (.len (eL (e_sl e_u8) a0.K), .i ((a0.K.length : Nat) : Int)), (.eqI ((a0.K.length : Nat) : Int) 0, .b (decide (((a0.K.length : Nat) : Int) = 0))), (.len (eL e_GValue a0.L), .i ((a0.L.length : Nat) : Int)), (.eqI ((a0.L.length : Nat) : Int) 0, .b (decide (((a0.L.length : Nat) : Int) = 0))), (.eqI a0.Kind 0, .b false), (.eqI a0.Kind 6, .b false), (.eqI a0.Kind 1, .b true), (.call 82 [] [.val false [.int .i64 a0.N], .val false [.int .i64 0], .val false [.int .i64 1]], .r (.val false [.bool true]) [])] rfl fd_73 (by kernel_rfl) ⟨(A.eqI_f c1), A.eqI_d, A.len, (A.eqI_f c7), A.len, A.eqI_d, A.len, A.eqI_d, (A.eqI_f c2), (A.eqI_f c3), (A.eqI_t c4), (A.call (ok_impl_in a0.N 0 1 _ hr5)), trivial⟩
          | false =>
            try dsimp only at h
            obtain rfl := Option.some.inj h
            exact call_way cfg [(.eqI a1 0, .b false), (.eqI a0.N 0, .b (decide (a0.N = 0))), (.len (eL e_u8 a0.S), .i ((a0.S.length : Nat) : Int)), (.eqI ((a0.S.length : Nat) : Int) 0, .b (decide (((a0.S.length : Nat) : Int) = 0))), (.len (eL (e_sl e_u8) a0.K), .i ((a0.K.length : Nat) : Int)), (.eqI ((a0.K.length : Nat) : Int) 0, .b (decide (((a0.K.length : Nat) : Int) = 0))), (.len (eL e_GValue a0.L), .i ((a0.L.length : Nat) : Int)), (.eqI ((a0.L.length : Nat) : Int) 0, .b (decide (((a0.L.length : Nat) : Int) = 0))), (.eqI a0.Kind 0, .b false), (.eqI a0.Kind 6, .b false), (.eqI a0.Kind 1, .b true), (.call 82 [] [.val false [.int .i64 a0.N], .val false [.int .i64 0], .val false [.int .i64 1]], .r (.val false [.bool false]) [])] rfl fd_73 (by kernel_rfl) ⟨(A.eqI_f c1), A.eqI_d, A.len, A.eqI_d, A.len, A.eqI_d, A.len, A.eqI_d, (A.eqI_f c2), (A.eqI_f c3), (A.eqI_t c4), (A.call (ok_impl_in a0.N 0 1 _ hr5)), trivial⟩
        · rw [if_neg c4] at h
          by_cases c5 : a0.Kind = 2
          · rw [if_pos c5] at h
            obtain ⟨r6, hr6, h⟩ := Option.bind_eq_some_iff.1 h
            cases r6 with
            | true =>
              try dsimp only at h
              by_cases c8 : ((a0.S.length : Nat) : Int) = 0
              · rw [if_pos c8] at h
                by_cases c9 : ((a0.K.length : Nat) : Int) = 0
                · rw [if_pos c9] at h
                  obtain rfl := Option.some.inj h
                  exact call_way cfg [(.eqI a1 0, .b false), (.eqI a0.N 0, .b (decide (a0.N = 0))), (.len (eL e_u8 a0.S), .i ((a0.S.length : Nat) : Int)), (.eqI ((a0.S.length : Nat) : Int) 0, .b true), (.len (eL (e_sl e_u8) a0.K), .i ((a0.K.length : Nat) : Int)), (.eqI ((a0.K.length : Nat) : Int) 0, .b true), (.len (eL e_GValue a0.L), .i ((a0.L.length : Nat) : Int)), (.eqI ((a0.L.length : Nat) : Int) 0, .b (decide (((a0.L.length : Nat) : Int) = 0))), (.eqI a0.Kind 0, .b false), (.eqI a0.Kind 6, .b false), (.eqI a0.Kind 1, .b false), (.eqI a0.Kind 2, .b true), (.call 82 [] [.val false [.int .i64 a0.N], .val false [.int .i64 (-1000000000000)], .val false [.int .i64 1000000000000]], .r (.val false [.bool true]) [])] rfl fd_73 (by kernel_rfl) ⟨(A.eqI_f c1), A.eqI_d, A.len, (A.eqI_t c8), A.len, (A.eqI_t c9), A.len, A.eqI_d, (A.eqI_f c2), (A.eqI_f c3), (A.eqI_f c4), (A.eqI_t c5), (A.call (ok_impl_in a0.N (-1000000000000) 1000000000000 _ hr6)), trivial⟩
                · rw [if_neg c9] at h
                  obtain rfl := Option.some.inj h
                  exact call_way cfg [(.eqI a1 0, .b false), (.eqI a0.N 0, .b (decide (a0.N = 0))), (.len (eL e_u8 a0.S), .i ((a0.S.length : Nat) : Int)), (.eqI ((a0.S.length : Nat) : Int) 0, .b true), (.len (eL (e_sl e_u8) a0.K), .i ((a0.K.length : Nat) : Int)), (.eqI ((a0.K.length : Nat) : Int) 0, .b false), (.len (eL e_GValue a0.L), .i ((a0.L.length : Nat) : Int)), (.eqI ((a0.L.length : Nat) : Int) 0, .b (decide (((a0.L.length : Nat) : Int) = 0))), (.eqI a0.Kind 0, .b false), (.eqI a0.Kind 6, .b false), (.eqI a0.Kind 1, .b false), (.eqI a0.Kind 2, .b true), (.call 82 [] [.val false [.int .i64 a0.N], .val false [.int .i64 (-1000000000000)], .val false [.int .i64 1000000000000]], .r (.val false [.bool true]) [])] rfl fd_73 (by kernel_rfl) ⟨(A.eqI_f c1), A.eqI_d, A.len, (A.eqI_t c8), A.len, (A.eqI_f c9), A.len, A.eqI_d, (A.eqI_f c2), (A.eqI_f c3), (A.eqI_f c4), (A.eqI_t c5), (A.call (ok_impl_in a0.N (-1000000000000) 1000000000000 _ hr6)), trivial⟩
              · rw [if_neg c8] at h
                obtain rfl := Option.some.inj h
                exact call_way cfg [(.eqI a1 0, .b false), (.eqI a0.N 0, .b (decide (a0.N = 0))), (.len (eL e_u8 a0.S), .i ((a0.S.length : Nat) : Int)), (.eqI ((a0.S.length : Nat) : Int) 0, .b false), (.len (eL (e_sl e_u8) a0.K), .i ((a0.K.length : Nat) : Int)), (.eqI ((a0.K.length : Nat) : Int) 0, .b (decide (((a0.K.length : Nat) : Int) = 0))), (.len (eL e_GValue a0.L), .i ((a0.L.length : Nat) : Int)), (.eqI ((a0.L.length : Nat) : Int) 0, .b (decide (((a0.L.length : Nat) : Int) = 0))), (.eqI a0.Kind 0, .b false), (.eqI a0.Kind 6, .b false), (.eqI a0.Kind 1, .b false), (.eqI a0.Kind 2, .b true), (.call 82 [] [.val false [.int .i64 a0.N], .val false [.int .i64 (-1000000000000)], .val false [.int .i64 1000000000000]], .r (.val false [.bool true]) [])] rfl fd_73 (by kernel_rfl) ⟨(A.eqI_f c1), A.eqI_d, A.len, (A.eqI_f c8), A.len, A.eqI_d, A.len, A.eqI_d, (A.eqI_f c2), (A.eqI_f c3), (A.eqI_f c4), (A.eqI_t c5), (A.call (ok_impl_in a0.N (-1000000000000) 1000000000000 _ hr6)), trivial⟩
            | false =>
              try dsimp only at h
              obtain rfl := Option.some.inj h
              exact call_way cfg [(.eqI a1 0, .b false), (.eqI a0.N 0, .b (decide (a0.N = 0))), (.len (eL e_u8 a0.S), .i ((a0.S.length : Nat) : Int)), (.eqI ((a0.S.length : Nat) : Int) 0, .b (decide (((a0.S.length : Nat) : Int) = 0))), (.len (eL (e_sl e_u8) a0.K), .i ((a0.K.length : Nat) : Int)), (.eqI ((a0.K.length : Nat) : Int) 0, .b (decide (((a0.K.length : Nat) : Int) = 0))), (.len (eL e_GValue a0.L), .i ((a0.L.length : Nat) : Int)), (.eqI ((a0.L.length : Nat) : Int) 0, .b (decide (((a0.L.length : Nat) : Int) = 0))), (.eqI a0.Kind 0, .b false), (.eqI a0.Kind 6, .b false), (.eqI a0.Kind 1, .b false), (.eqI a0.Kind 2, .b true), (.call 82 [] [.val false [.int .i64 a0.N], .val false [.int .i64 (-1000000000000)], .val false [.int .i64 1000000000000]], .r (.val false [.bool false]) [])] rfl fd_73 (by kernel_rfl) ⟨(A.eqI_f c1), A.eqI_d, A.len, A.eqI_d, A.len, A.eqI_d, A.len, A.eqI_d, (A.eqI_f c2), (A.eqI_f c3), (A.eqI_f c4), (A.eqI_t c5), (A.call (ok_impl_in a0.N (-1000000000000) 1000000000000 _ hr6)), trivial⟩
          · rw [if_neg c5] at h
            by_cases c6 : a0.Kind = 3
            · rw [if_pos c6] at h
              obtain ⟨r7, hr7, h⟩ := Option.bind_eq_some_iff.1 h
              cases r7 with
              | true =>
                try dsimp only at h
                by_cases c9 : a0.N = 0
                · rw [if_pos c9] at h
                  by_cases c10 : ((a0.K.length : Nat) : Int) = 0
                  · rw [if_pos c10] at h
                    obtain rfl := Option.some.inj h
                    exact call_way cfg [(.eqI a1 0, .b false), (.eqI a0.N 0, .b true), (.len (eL e_u8 a0.S), .i ((a0.S.length : Nat) : Int)), (.eqI ((a0.S.length : Nat) : Int) 0, .b (decide (((a0.S.length : Nat) : Int) = 0))), (.len (eL (e_sl e_u8) a0.K), .i ((a0.K.length : Nat) : Int)), (.eqI ((a0.K.length : Nat) : Int) 0, .b true), (.len (eL e_GValue a0.L), .i ((a0.L.length : Nat) : Int)), (.eqI ((a0.L.length : Nat) : Int) 0, .b (decide (((a0.L.length : Nat) : Int) = 0))), (.eqI a0.Kind 0, .b false), (.eqI a0.Kind 6, .b false), (.eqI a0.Kind 1, .b false), (.eqI a0.Kind 2, .b false), (.eqI a0.Kind 3, .b true), (.call 109 [] [.val false [.seq (eL e_u8 a0.S)]], .r (.val false [.bool true]) [])] rfl fd_73 (by kernel_rfl) ⟨(A.eqI_f c1), (A.eqI_t c9), A.len, A.eqI_d, A.len, (A.eqI_t c10), A.len, A.eqI_d, (A.eqI_f c2), (A.eqI_f c3), (A.eqI_f c4), (A.eqI_f c5), (A.eqI_t c6), (A.call (ok_impl_isText a0.S _ hr7)), trivial⟩
                  · rw [if_neg c10] at h
                    obtain rfl := Option.some.inj h
                    exact call_way cfg [(.eqI a1 0, .b false), (.eqI a0.N 0, .b true), (.len (eL e_u8 a0.S), .i ((a0.S.length : Nat) : Int)), (.eqI ((a0.S.length : Nat) : Int) 0, .b (decide (((a0.S.length : Nat) : Int) = 0))), (.len (eL (e_sl e_u8) a0.K), .i ((a0.K.length : Nat) : Int)), (.eqI ((a0.K.length : Nat) : Int) 0, .b false), (.len (eL e_GValue a0.L), .i ((a0.L.length : Nat) : Int)), (.eqI ((a0.L.length : Nat) : Int) 0, .b (decide (((a0.L.length : Nat) : Int) = 0))), (.eqI a0.Kind 0, .b false), (.eqI a0.Kind 6, .b false), (.eqI a0.Kind 1, .b false), (.eqI a0.Kind 2, .b false), (.eqI a0.Kind 3, .b true), (.call 109 [] [.val false [.seq (eL e_u8 a0.S)]], .r (.val false [.bool true]) [])] rfl fd_73 (by kernel_rfl) ⟨(A.eqI_f c1), (A.eqI_t c9), A.len, A.eqI_d, A.len, (A.eqI_f c10), A.len, A.eqI_d, (A.eqI_f c2), (A.eqI_f c3), (A.eqI_f c4), (A.eqI_f c5), (A.eqI_t c6), (A.call (ok_impl_isText a0.S _ hr7)), trivial⟩
                · rw [if_neg c9] at h
                  obtain rfl := Option.some.inj h
                  exact call_way cfg [(.eqI a1 0, .b false), (.eqI a0.N 0, .b false), (.len (eL e_u8 a0.S), .i ((a0.S.length : Nat) : Int)), (.eqI ((a0.S.length : Nat) : Int) 0, .b (decide (((a0.S.length : Nat) : Int) = 0))), (.len (eL (e_sl e_u8) a0.K), .i ((a0.K.length : Nat) : Int)), (.eqI ((a0.K.length : Nat) : Int) 0, .b (decide (((a0.K.length : Nat) : Int) = 0))), (.len (eL e_GValue a0.L), .i ((a0.L.length : Nat) : Int)), (.eqI ((a0.L.length : Nat) : Int) 0, .b (decide (((a0.L.length : Nat) : Int) = 0))), (.eqI a0.Kind 0, .b false), (.eqI a0.Kind 6, .b false), (.eqI a0.Kind 1, .b false), (.eqI a0.Kind 2, .b false), (.eqI a0.Kind 3, .b true), (.call 109 [] [.val false [.seq (eL e_u8 a0.S)]], .r (.val false [.bool true]) [])] rfl fd_73 (by kernel_rfl) ⟨(A.eqI_f c1), (A.eqI_f c9), A.len, A.eqI_d, A.len, A.eqI_d, A.len, A.eqI_d, (A.eqI_f c2), (A.eqI_f c3), (A.eqI_f c4), (A.eqI_f c5), (A.eqI_t c6), (A.call (ok_impl_isText a0.S _ hr7)), trivial⟩
              | false =>
                try dsimp only at h
                obtain rfl := Option.some.inj h
                exact call_way cfg [(.eqI a1 0, .b false), (.eqI a0.N 0, .b (decide (a0.N = 0))), (.len (eL e_u8 a0.S), .i ((a0.S.length : Nat) : Int)), (.eqI ((a0.S.length : Nat) : Int) 0, .b (decide (((a0.S.length : Nat) : Int) = 0))), (.len (eL (e_sl e_u8) a0.K), .i ((a0.K.length : Nat) : Int)), (.eqI ((a0.K.length : Nat) : Int) 0, .b (decide (((a0.K.length : Nat) : Int) = 0))), (.len (eL e_GValue a0.L), .i ((a0.L.length : Nat) : Int)), (.eqI ((a0.L.length : Nat) : Int) 0, .b (decide (((a0.L.length : Nat) : Int) = 0))), (.eqI a0.Kind 0, .b false), (.eqI a0.Kind 6, .b false), (.eqI a0.Kind 1, .b false), (.eqI a0.Kind 2, .b false), (.eqI a0.Kind 3, .b true), (.call 109 [] [.val false [.seq (eL e_u8 a0.S)]], .r (.val false [.bool false]) [])] rfl fd_73 (by kernel_rfl) ⟨(A.eqI_f c1), A.eqI_d, A.len, A.eqI_d, A.len, A.eqI_d, A.len, A.eqI_d, (A.eqI_f c2), (A.eqI_f c3), (A.eqI_f c4), (A.eqI_f c5), (A.eqI_t c6), (A.call (ok_impl_isText a0.S _ hr7)), trivial⟩
            · rw [if_neg c6] at h
              by_cases c7 : a0.Kind = 4
              · rw [if_pos c7] at h
                by_cases c8 : ((a0.K.length : Nat) : Int) = 0
                · rw [if_pos c8] at h
                  by_cases c9 : a0.N = 0
                  · rw [if_pos c9] at h
                    by_cases c10 : ((a0.S.length : Nat) : Int) = 0
                    · rw [if_pos c10] at h
                      by_cases c11 : ((a0.L.length : Nat) : Int) ≤ 40
                      · rw [if_pos c11] at h
                        obtain ⟨r12, hr12, h⟩ := Option.bind_eq_some_iff.1 h
                        obtain rfl := Option.some.inj h
                        exact call_way cfg [(.eqI a1 0, .b false), (.eqI a0.N 0, .b true), (.len (eL e_u8 a0.S), .i ((a0.S.length : Nat) : Int)), (.eqI ((a0.S.length : Nat) : Int) 0, .b true), (.len (eL (e_sl e_u8) a0.K), .i ((a0.K.length : Nat) : Int)), (.eqI ((a0.K.length : Nat) : Int) 0, .b true), (.len (eL e_GValue a0.L), .i ((a0.L.length : Nat) : Int)), (.eqI ((a0.L.length : Nat) : Int) 0, .b (decide (((a0.L.length : Nat) : Int) = 0))), (.eqI a0.Kind 0, .b false), (.eqI a0.Kind 6, .b false), (.eqI a0.Kind 1, .b false), (.eqI a0.Kind 2, .b false), (.eqI a0.Kind 3, .b false), (.eqI a0.Kind 4, .b true), (.notB true, .b false), (.len (eL e_GValue a0.L), .i ((a0.L.length : Nat) : Int)), (.leI ((a0.L.length : Nat) : Int) 40, .b true), (.call 75 [.var [.int .i64 a1]] [.val false [.seq (eL e_GValue a0.L)], .val false [.fn 111 [.ptr 0 0]]], .r (.val false [.bool r12]) [.var [.int .i64 a1]]), (.notB r12, .b (!r12))] rfl fd_73 (by kernel_rfl) ⟨(A.eqI_f c1), (A.eqI_t c9), A.len, (A.eqI_t c10), A.len, (A.eqI_t c8), A.len, A.eqI_d, (A.eqI_f c2), (A.eqI_f c3), (A.eqI_f c4), (A.eqI_f c5), (A.eqI_f c6), (A.eqI_t c7), rfl, A.len, (A.leI_t c11), (A.call (H_slices_ContainsFunc_Value_isShaped_1 a0.L a1 _ hr12)), rfl, trivial⟩
                      · rw [if_neg c11] at h
                        obtain rfl := Option.some.inj h
                        exact call_way cfg [(.eqI a1 0, .b false), (.eqI a0.N 0, .b true), (.len (eL e_u8 a0.S), .i ((a0.S.length : Nat) : Int)), (.eqI ((a0.S.length : Nat) : Int) 0, .b true), (.len (eL (e_sl e_u8) a0.K), .i ((a0.K.length : Nat) : Int)), (.eqI ((a0.K.length : Nat) : Int) 0, .b true), (.len (eL e_GValue a0.L), .i ((a0.L.length : Nat) : Int)), (.eqI ((a0.L.length : Nat) : Int) 0, .b (decide (((a0.L.length : Nat) : Int) = 0))), (.eqI a0.Kind 0, .b false), (.eqI a0.Kind 6, .b false), (.eqI a0.Kind 1, .b false), (.eqI a0.Kind 2, .b false), (.eqI a0.Kind 3, .b false), (.eqI a0.Kind 4, .b true), (.notB true, .b false), (.len (eL e_GValue a0.L), .i ((a0.L.length : Nat) : Int)), (.leI ((a0.L.length : Nat) : Int) 40, .b false)] rfl fd_73 (by kernel_rfl) ⟨(A.eqI_f c1), (A.eqI_t c9), A.len, (A.eqI_t c10), A.len, (A.eqI_t c8), A.len, A.eqI_d, (A.eqI_f c2), (A.eqI_f c3), (A.eqI_f c4), (A.eqI_f c5), (A.eqI_f c6), (A.eqI_t c7), rfl, A.len, (A.leI_f c11), trivial⟩
                    · rw [if_neg c10] at h
                      obtain rfl := Option.some.inj h
                      exact call_way cfg [(.eqI a1 0, .b false), (.eqI a0.N 0, .b true), (.len (eL e_u8 a0.S), .i ((a0.S.length : Nat) : Int)), (.eqI ((a0.S.length : Nat) : Int) 0, .b false), (.len (eL (e_sl e_u8) a0.K), .i ((a0.K.length : Nat) : Int)), (.eqI ((a0.K.length : Nat) : Int) 0, .b true), (.len (eL e_GValue a0.L), .i ((a0.L.length : Nat) : Int)), (.eqI ((a0.L.length : Nat) : Int) 0, .b (decide (((a0.L.length : Nat) : Int) = 0))), (.eqI a0.Kind 0, .b false), (.eqI a0.Kind 6, .b false), (.eqI a0.Kind 1, .b false), (.eqI a0.Kind 2, .b false), (.eqI a0.Kind 3, .b false), (.eqI a0.Kind 4, .b true), (.notB true, .b false)] rfl fd_73 (by kernel_rfl) ⟨(A.eqI_f c1), (A.eqI_t c9), A.len, (A.eqI_f c10), A.len, (A.eqI_t c8), A.len, A.eqI_d, (A.eqI_f c2), (A.eqI_f c3), (A.eqI_f c4), (A.eqI_f c5), (A.eqI_f c6), (A.eqI_t c7), rfl, trivial⟩
                  · rw [if_neg c9] at h
                    obtain rfl := Option.some.inj h
                    exact call_way cfg [(.eqI a1 0, .b false), (.eqI a0.N 0, .b false), (.len (eL e_u8 a0.S), .i ((a0.S.length : Nat) : Int)), (.eqI ((a0.S.length : Nat) : Int) 0, .b (decide (((a0.S.length : Nat) : Int) = 0))), (.len (eL (e_sl e_u8) a0.K), .i ((a0.K.length : Nat) : Int)), (.eqI ((a0.K.length : Nat) : Int) 0, .b true), (.len (eL e_GValue a0.L), .i ((a0.L.length : Nat) : Int)), (.eqI ((a0.L.length : Nat) : Int) 0, .b (decide (((a0.L.length : Nat) : Int) = 0))), (.eqI a0.Kind 0, .b false), (.eqI a0.Kind 6, .b false), (.eqI a0.Kind 1, .b false), (.eqI a0.Kind 2, .b false), (.eqI a0.Kind 3, .b false), (.eqI a0.Kind 4, .b true), (.notB true, .b false)] rfl fd_73 (by kernel_rfl) ⟨(A.eqI_f c1), (A.eqI_f c9), A.len, A.eqI_d, A.len, (A.eqI_t c8), A.len, A.eqI_d, (A.eqI_f c2), (A.eqI_f c3), (A.eqI_f c4), (A.eqI_f c5), (A.eqI_f c6), (A.eqI_t c7), rfl, trivial⟩
                · rw [if_neg c8] at h
                  obtain rfl := Option.some.inj h
                  exact call_way cfg [(.eqI a1 0, .b false), (.eqI a0.N 0, .b (decide (a0.N = 0))), (.len (eL e_u8 a0.S), .i ((a0.S.length : Nat) : Int)), (.eqI ((a0.S.length : Nat) : Int) 0, .b (decide (((a0.S.length : Nat) : Int) = 0))), (.len (eL (e_sl e_u8) a0.K), .i ((a0.K.length : Nat) : Int)), (.eqI ((a0.K.length : Nat) : Int) 0, .b false), (.len (eL e_GValue a0.L), .i ((a0.L.length : Nat) : Int)), (.eqI ((a0.L.length : Nat) : Int) 0, .b (decide (((a0.L.length : Nat) : Int) = 0))), (.eqI a0.Kind 0, .b false), (.eqI a0.Kind 6, .b false), (.eqI a0.Kind 1, .b false), (.eqI a0.Kind 2, .b false), (.eqI a0.Kind 3, .b false), (.eqI a0.Kind 4, .b true), (.notB false, .b true)] rfl fd_73 (by kernel_rfl) ⟨(A.eqI_f c1), A.eqI_d, A.len, A.eqI_d, A.len, (A.eqI_f c8), A.len, A.eqI_d, (A.eqI_f c2), (A.eqI_f c3), (A.eqI_f c4), (A.eqI_f c5), (A.eqI_f c6), (A.eqI_t c7), rfl, trivial⟩
              · rw [if_neg c7] at h
                by_cases c8 : a0.Kind = 5
                · rw [if_pos c8] at h
                  by_cases c9 : ((a0.K.length : Nat) : Int) = ((a0.L.length : Nat) : Int)
                  · rw [if_pos c9] at h
                    by_cases c10 : a0.N = 0
                    · rw [if_pos c10] at h
                      by_cases c11 : ((a0.S.length : Nat) : Int) = 0
                      · rw [if_pos c11] at h
                        obtain ⟨o12, ho12, h⟩ := Option.bind_eq_some_iff.1 h
                        rcases o12 with o12_0 | o12_1
                        · try dsimp only at h
                          obtain rfl := Option.some.inj h
                          exact call_way cfg [(.eqI a1 0, .b false), (.eqI a0.N 0, .b true), (.len (eL e_u8 a0.S), .i ((a0.S.length : Nat) : Int)), (.eqI ((a0.S.length : Nat) : Int) 0, .b true), (.len (eL (e_sl e_u8) a0.K), .i ((a0.K.length : Nat) : Int)), (.eqI ((a0.K.length : Nat) : Int) 0, .b (decide (((a0.K.length : Nat) : Int) = 0))), (.len (eL e_GValue a0.L), .i ((a0.L.length : Nat) : Int)), (.eqI ((a0.L.length : Nat) : Int) 0, .b (decide (((a0.L.length : Nat) : Int) = 0))), (.eqI a0.Kind 0, .b false), (.eqI a0.Kind 6, .b false), (.eqI a0.Kind 1, .b false), (.eqI a0.Kind 2, .b false), (.eqI a0.Kind 3, .b false), (.eqI a0.Kind 4, .b false), (.eqI a0.Kind 5, .b true), (.len (eL (e_sl e_u8) a0.K), .i ((a0.K.length : Nat) : Int)), (.len (eL e_GValue a0.L), .i ((a0.L.length : Nat) : Int)), (.eqI ((a0.K.length : Nat) : Int) ((a0.L.length : Nat) : Int), .b true), (.notB true, .b false), (.len (eL (e_sl e_u8) a0.K), .i ((a0.K.length : Nat) : Int)), (.loop 73 (loopB Try.f73 0) ⟨[(2, .val false [.ptr 0 0]), (3, .val false [.ptr 1 0]), (5, .val false [.bool true]), (6, .val false [.bool true]), (99, .val false [.seq (eL (e_sl e_u8) a0.K)]), (100, .val false [.int .i64 ((a0.K.length : Nat) : Int)]), (101, .val false [.int .i64 0])], [.var [.int .i64 a0.Kind, .int .i64 a0.N, .seq (eL e_u8 a0.S), .seq (eL (e_sl e_u8) a0.K), .seq (eL e_GValue a0.L)], .var [.int .i64 a1]], 0⟩, .x (.ret) ⟨[(4, .val false [.bool o12_0])], [], 0⟩)] rfl fd_73 (by kernel_rfl) ⟨(A.eqI_f c1), (A.eqI_t c10), A.len, (A.eqI_t c11), A.len, A.eqI_d, A.len, A.eqI_d, (A.eqI_f c2), (A.eqI_f c3), (A.eqI_f c4), (A.eqI_f c5), (A.eqI_f c6), (A.eqI_f c7), (A.eqI_t c8), A.len, A.len, (A.eqI_t c9), rfl, A.len, (A.loop (gl_impl_isShaped_l0 G_slices_ContainsFunc_Value_isShaped_1 H_slices_ContainsFunc_Value_isShaped_1 true true a0.K ((a0.K.length : Nat) : Int) a0 a1 _ 0 _ ho12)), trivial⟩
                        · try dsimp only at h
                          by_cases c13 : ((a0.L.length : Nat) : Int) ≤ 40
                          · rw [if_pos c13] at h
                            obtain ⟨r14, hr14, h⟩ := Option.bind_eq_some_iff.1 h
                            obtain rfl := Option.some.inj h
                            exact call_way cfg [(.eqI a1 0, .b false), (.eqI a0.N 0, .b true), (.len (eL e_u8 a0.S), .i ((a0.S.length : Nat) : Int)), (.eqI ((a0.S.length : Nat) : Int) 0, .b true), (.len (eL (e_sl e_u8) a0.K), .i ((a0.K.length : Nat) : Int)), (.eqI ((a0.K.length : Nat) : Int) 0, .b (decide (((a0.K.length : Nat) : Int) = 0))), (.len (eL e_GValue a0.L), .i ((a0.L.length : Nat) : Int)), (.eqI ((a0.L.length : Nat) : Int) 0, .b (decide (((a0.L.length : Nat) : Int) = 0))), (.eqI a0.Kind 0, .b false), (.eqI a0.Kind 6, .b false), (.eqI a0.Kind 1, .b false), (.eqI a0.Kind 2, .b false), (.eqI a0.Kind 3, .b false), (.eqI a0.Kind 4, .b false), (.eqI a0.Kind 5, .b true), (.len (eL (e_sl e_u8) a0.K), .i ((a0.K.length : Nat) : Int)), (.len (eL e_GValue a0.L), .i ((a0.L.length : Nat) : Int)), (.eqI ((a0.K.length : Nat) : Int) ((a0.L.length : Nat) : Int), .b true), (.notB true, .b false), (.len (eL (e_sl e_u8) a0.K), .i ((a0.K.length : Nat) : Int)), (.loop 73 (loopB Try.f73 0) ⟨[(2, .val false [.ptr 0 0]), (3, .val false [.ptr 1 0]), (5, .val false [.bool true]), (6, .val false [.bool true]), (99, .val false [.seq (eL (e_sl e_u8) a0.K)]), (100, .val false [.int .i64 ((a0.K.length : Nat) : Int)]), (101, .val false [.int .i64 0])], [.var [.int .i64 a0.Kind, .int .i64 a0.N, .seq (eL e_u8 a0.S), .seq (eL (e_sl e_u8) a0.K), .seq (eL e_GValue a0.L)], .var [.int .i64 a1]], 0⟩, .x (.exit 1) ⟨[(2, .val false [.ptr 0 0]), (3, .val false [.ptr 1 0]), (5, .val false [.bool true]), (6, .val false [.bool true]), (99, .val false [.seq (eL (e_sl e_u8) a0.K)]), (100, .val false [.int .i64 ((a0.K.length : Nat) : Int)]), (101, .val false [.int .i64 o12_1]), (102, .val false [.bool false])], [.var [.int .i64 a0.Kind, .int .i64 a0.N, .seq (eL e_u8 a0.S), .seq (eL (e_sl e_u8) a0.K), .seq (eL e_GValue a0.L)], .var [.int .i64 a1]], 0⟩), (.len (eL e_GValue a0.L), .i ((a0.L.length : Nat) : Int)), (.leI ((a0.L.length : Nat) : Int) 40, .b true), (.call 75 [.var [.int .i64 a1]] [.val false [.seq (eL e_GValue a0.L)], .val false [.fn 111 [.ptr 0 0]]], .r (.val false [.bool r14]) [.var [.int .i64 a1]]), (.notB r14, .b (!r14))] rfl fd_73 (by kernel_rfl) ⟨(A.eqI_f c1), (A.eqI_t c10), A.len, (A.eqI_t c11), A.len, A.eqI_d, A.len, A.eqI_d, (A.eqI_f c2), (A.eqI_f c3), (A.eqI_f c4), (A.eqI_f c5), (A.eqI_f c6), (A.eqI_f c7), (A.eqI_t c8), A.len, A.len, (A.eqI_t c9), rfl, A.len, (A.loop (gl_impl_isShaped_l0 G_slices_ContainsFunc_Value_isShaped_1 H_slices_ContainsFunc_Value_isShaped_1 true true a0.K ((a0.K.length : Nat) : Int) a0 a1 _ 0 _ ho12)), A.len, (A.leI_t c13), (A.call (H_slices_ContainsFunc_Value_isShaped_1 a0.L a1 _ hr14)), rfl, trivial⟩
                          · rw [if_neg c13] at h
                            obtain rfl := Option.some.inj h
                            exact call_way cfg [(.eqI a1 0, .b false), (.eqI a0.N 0, .b true), (.len (eL e_u8 a0.S), .i ((a0.S.length : Nat) : Int)), (.eqI ((a0.S.length : Nat) : Int) 0, .b true), (.len (eL (e_sl e_u8) a0.K), .i ((a0.K.length : Nat) : Int)), (.eqI ((a0.K.length : Nat) : Int) 0, .b (decide (((a0.K.length : Nat) : Int) = 0))), (.len (eL e_GValue a0.L), .i ((a0.L.length : Nat) : Int)), (.eqI ((a0.L.length : Nat) : Int) 0, .b (decide (((a0.L.length : Nat) : Int) = 0))), (.eqI a0.Kind 0, .b false), (.eqI a0.Kind 6, .b false), (.eqI a0.Kind 1, .b false), (.eqI a0.Kind 2, .b false), (.eqI a0.Kind 3, .b false), (.eqI a0.Kind 4, .b false), (.eqI a0.Kind 5, .b true), (.len (eL (e_sl e_u8) a0.K), .i ((a0.K.length : Nat) : Int)), (.len (eL e_GValue a0.L), .i ((a0.L.length : Nat) : Int)), (.eqI ((a0.K.length : Nat) : Int) ((a0.L.length : Nat) : Int), .b true), (.notB true, .b false), (.len (eL (e_sl e_u8) a0.K), .i ((a0.K.length : Nat) : Int)), (.loop 73 (loopB Try.f73 0) ⟨[(2, .val false [.ptr 0 0]), (3, .val false [.ptr 1 0]), (5, .val false [.bool true]), (6, .val false [.bool true]), (99, .val false [.seq (eL (e_sl e_u8) a0.K)]), (100, .val false [.int .i64 ((a0.K.length : Nat) : Int)]), (101, .val false [.int .i64 0])], [.var [.int .i64 a0.Kind, .int .i64 a0.N, .seq (eL e_u8 a0.S), .seq (eL (e_sl e_u8) a0.K), .seq (eL e_GValue a0.L)], .var [.int .i64 a1]], 0⟩, .x (.exit 1) ⟨[(2, .val false [.ptr 0 0]), (3, .val false [.ptr 1 0]), (5, .val false [.bool true]), (6, .val false [.bool true]), (99, .val false [.seq (eL (e_sl e_u8) a0.K)]), (100, .val false [.int .i64 ((a0.K.length : Nat) : Int)]), (101, .val false [.int .i64 o12_1]), (102, .val false [.bool false])], [.var [.int .i64 a0.Kind, .int .i64 a0.N, .seq (eL e_u8 a0.S), .seq (eL (e_sl e_u8) a0.K), .seq (eL e_GValue a0.L)], .var [.int .i64 a1]], 0⟩), (.len (eL e_GValue a0.L), .i ((a0.L.length : Nat) : Int)), (.leI ((a0.L.length : Nat) : Int) 40, .b false)] rfl fd_73 (by kernel_rfl) ⟨(A.eqI_f c1), (A.eqI_t c10), A.len, (A.eqI_t c11), A.len, A.eqI_d, A.len, A.eqI_d, (A.eqI_f c2), (A.eqI_f c3), (A.eqI_f c4), (A.eqI_f c5), (A.eqI_f c6), (A.eqI_f c7), (A.eqI_t c8), A.len, A.len, (A.eqI_t c9), rfl, A.len, (A.loop (gl_impl_isShaped_l0 G_slices_ContainsFunc_Value_isShaped_1 H_slices_ContainsFunc_Value_isShaped_1 true true a0.K ((a0.K.length : Nat) : Int) a0 a1 _ 0 _ ho12)), A.len, (A.leI_f c13), trivial⟩
                      · rw [if_neg c11] at h
                        obtain ⟨o12, ho12, h⟩ := Option.bind_eq_some_iff.1 h
                        rcases o12 with o12_0 | o12_1
                        · try dsimp only at h
                          obtain rfl := Option.some.inj h
                          exact call_way cfg [(.eqI a1 0, .b false), (.eqI a0.N 0, .b true), (.len (eL e_u8 a0.S), .i ((a0.S.length : Nat) : Int)), (.eqI ((a0.S.length : Nat) : Int) 0, .b false), (.len (eL (e_sl e_u8) a0.K), .i ((a0.K.length : Nat) : Int)), (.eqI ((a0.K.length : Nat) : Int) 0, .b (decide (((a0.K.length : Nat) : Int) = 0))), (.len (eL e_GValue a0.L), .i ((a0.L.length : Nat) : Int)), (.eqI ((a0.L.length : Nat) : Int) 0, .b (decide (((a0.L.length : Nat) : Int) = 0))), (.eqI a0.Kind 0, .b false), (.eqI a0.Kind 6, .b false), (.eqI a0.Kind 1, .b false), (.eqI a0.Kind 2, .b false), (.eqI a0.Kind 3, .b false), (.eqI a0.Kind 4, .b false), (.eqI a0.Kind 5, .b true), (.len (eL (e_sl e_u8) a0.K), .i ((a0.K.length : Nat) : Int)), (.len (eL e_GValue a0.L), .i ((a0.L.length : Nat) : Int)), (.eqI ((a0.K.length : Nat) : Int) ((a0.L.length : Nat) : Int), .b true), (.notB true, .b false), (.len (eL (e_sl e_u8) a0.K), .i ((a0.K.length : Nat) : Int)), (.loop 73 (loopB Try.f73 0) ⟨[(2, .val false [.ptr 0 0]), (3, .val false [.ptr 1 0]), (5, .val false [.bool true]), (6, .val false [.bool false]), (99, .val false [.seq (eL (e_sl e_u8) a0.K)]), (100, .val false [.int .i64 ((a0.K.length : Nat) : Int)]), (101, .val false [.int .i64 0])], [.var [.int .i64 a0.Kind, .int .i64 a0.N, .seq (eL e_u8 a0.S), .seq (eL (e_sl e_u8) a0.K), .seq (eL e_GValue a0.L)], .var [.int .i64 a1]], 0⟩, .x (.ret) ⟨[(4, .val false [.bool o12_0])], [], 0⟩)] rfl fd_73 (by kernel_rfl) ⟨(A.eqI_f c1), (A.eqI_t c10), A.len, (A.eqI_f c11), A.len, A.eqI_d, A.len, A.eqI_d, (A.eqI_f c2), (A.eqI_f c3), (A.eqI_f c4), (A.eqI_f c5), (A.eqI_f c6), (A.eqI_f c7), (A.eqI_t c8), A.len, A.len, (A.eqI_t c9), rfl, A.len, (A.loop (gl_impl_isShaped_l0 G_slices_ContainsFunc_Value_isShaped_1 H_slices_ContainsFunc_Value_isShaped_1 true false a0.K ((a0.K.length : Nat) : Int) a0 a1 _ 0 _ ho12)), trivial⟩
                        · try dsimp only at h
                          obtain rfl := Option.some.inj h
                          exact call_way cfg [(.eqI a1 0, .b false), (.eqI a0.N 0, .b true), (.len (eL e_u8 a0.S), .i ((a0.S.length : Nat) : Int)), (.eqI ((a0.S.length : Nat) : Int) 0, .b false), (.len (eL (e_sl e_u8) a0.K), .i ((a0.K.length : Nat) : Int)), (.eqI ((a0.K.length : Nat) : Int) 0, .b (decide (((a0.K.length : Nat) : Int) = 0))), (.len (eL e_GValue a0.L), .i ((a0.L.length : Nat) : Int)), (.eqI ((a0.L.length : Nat) : Int) 0, .b (decide (((a0.L.length : Nat) : Int) = 0))), (.eqI a0.Kind 0, .b false), (.eqI a0.Kind 6, .b false), (.eqI a0.Kind 1, .b false), (.eqI a0.Kind 2, .b false), (.eqI a0.Kind 3, .b false), (.eqI a0.Kind 4, .b false), (.eqI a0.Kind 5, .b true), (.len (eL (e_sl e_u8) a0.K), .i ((a0.K.length : Nat) : Int)), (.len (eL e_GValue a0.L), .i ((a0.L.length : Nat) : Int)), (.eqI ((a0.K.length : Nat) : Int) ((a0.L.length : Nat) : Int), .b true), (.notB true, .b false), (.len (eL (e_sl e_u8) a0.K), .i ((a0.K.length : Nat) : Int)), (.loop 73 (loopB Try.f73 0) ⟨[(2, .val false [.ptr 0 0]), (3, .val false [.ptr 1 0]), (5, .val false [.bool true]), (6, .val false [.bool false]), (99, .val false [.seq (eL (e_sl e_u8) a0.K)]), (100, .val false [.int .i64 ((a0.K.length : Nat) : Int)]), (101, .val false [.int .i64 0])], [.var [.int .i64 a0.Kind, .int .i64 a0.N, .seq (eL e_u8 a0.S), .seq (eL (e_sl e_u8) a0.K), .seq (eL e_GValue a0.L)], .var [.int .i64 a1]], 0⟩, .x (.exit 1) ⟨[(2, .val false [.ptr 0 0]), (3, .val false [.ptr 1 0]), (5, .val false [.bool true]), (6, .val false [.bool false]), (99, .val false [.seq (eL (e_sl e_u8) a0.K)]), (100, .val false [.int .i64 ((a0.K.length : Nat) : Int)]), (101, .val false [.int .i64 o12_1]), (102, .val false [.bool false])], [.var [.int .i64 a0.Kind, .int .i64 a0.N, .seq (eL e_u8 a0.S), .seq (eL (e_sl e_u8) a0.K), .seq (eL e_GValue a0.L)], .var [.int .i64 a1]], 0⟩)] rfl fd_73 (by kernel_rfl) ⟨(A.eqI_f c1), (A.eqI_t c10), A.len, (A.eqI_f c11), A.len, A.eqI_d, A.len, A.eqI_d, (A.eqI_f c2), (A.eqI_f c3), (A.eqI_f c4), (A.eqI_f c5), (A.eqI_f c6), (A.eqI_f c7), (A.eqI_t c8), A.len, A.len, (A.eqI_t c9), rfl, A.len, (A.loop (gl_impl_isShaped_l0 G_slices_ContainsFunc_Value_isShaped_1 H_slices_ContainsFunc_Value_isShaped_1 true false a0.K ((a0.K.length : Nat) : Int) a0 a1 _ 0 _ ho12)), trivial⟩
                    · rw [if_neg c10] at h
                      by_cases c11 : ((a0.S.length : Nat) : Int) = 0
                      · rw [if_pos c11] at h
                        obtain ⟨o12, ho12, h⟩ := Option.bind_eq_some_iff.1 h
                        rcases o12 with o12_0 | o12_1
                        · try dsimp only at h
                          obtain rfl := Option.some.inj h
                          exact call_way cfg [(.eqI a1 0, .b false), (.eqI a0.N 0, .b false), (.len (eL e_u8 a0.S), .i ((a0.S.length : Nat) : Int)), (.eqI ((a0.S.length : Nat) : Int) 0, .b true), (.len (eL (e_sl e_u8) a0.K), .i ((a0.K.length : Nat) : Int)), (.eqI ((a0.K.length : Nat) : Int) 0, .b (decide (((a0.K.length : Nat) : Int) = 0))), (.len (eL e_GValue a0.L), .i ((a0.L.length : Nat) : Int)), (.eqI ((a0.L.length : Nat) : Int) 0, .b (decide (((a0.L.length : Nat) : Int) = 0))), (.eqI a0.Kind 0, .b false), (.eqI a0.Kind 6, .b false), (.eqI a0.Kind 1, .b false), (.eqI a0.Kind 2, .b false), (.eqI a0.Kind 3, .b false), (.eqI a0.Kind 4, .b false), (.eqI a0.Kind 5, .b true), (.len (eL (e_sl e_u8) a0.K), .i ((a0.K.length : Nat) : Int)), (.len (eL e_GValue a0.L), .i ((a0.L.length : Nat) : Int)), (.eqI ((a0.K.length : Nat) : Int) ((a0.L.length : Nat) : Int), .b true), (.notB true, .b false), (.len (eL (e_sl e_u8) a0.K), .i ((a0.K.length : Nat) : Int)), (.loop 73 (loopB Try.f73 0) ⟨[(2, .val false [.ptr 0 0]), (3, .val false [.ptr 1 0]), (5, .val false [.bool false]), (6, .val false [.bool true]), (99, .val false [.seq (eL (e_sl e_u8) a0.K)]), (100, .val false [.int .i64 ((a0.K.length : Nat) : Int)]), (101, .val false [.int .i64 0])], [.var [.int .i64 a0.Kind, .int .i64 a0.N, .seq (eL e_u8 a0.S), .seq (eL (e_sl e_u8) a0.K), .seq (eL e_GValue a0.L)], .var [.int .i64 a1]], 0⟩, .x (.ret) ⟨[(4, .val false [.bool o12_0])], [], 0⟩)] rfl fd_73 (by kernel_rfl) ⟨(A.eqI_f c1), (A.eqI_f c10), A.len, (A.eqI_t c11), A.len, A.eqI_d, A.len, A.eqI_d, (A.eqI_f c2), (A.eqI_f c3), (A.eqI_f c4), (A.eqI_f c5), (A.eqI_f c6), (A.eqI_f c7), (A.eqI_t c8), A.len, A.len, (A.eqI_t c9), rfl, A.len, (A.loop (gl_impl_isShaped_l0 G_slices_ContainsFunc_Value_isShaped_1 H_slices_ContainsFunc_Value_isShaped_1 false true a0.K ((a0.K.length : Nat) : Int) a0 a1 _ 0 _ ho12)), trivial⟩
                        · try dsimp only at h
                          obtain rfl := Option.some.inj h
                          exact call_way cfg [(.eqI a1 0, .b false), (.eqI a0.N 0, .b false), (.len (eL e_u8 a0.S), .i ((a0.S.length : Nat) : Int)), (.eqI ((a0.S.length : Nat) : Int) 0, .b true), (.len (eL (e_sl e_u8) a0.K), .i ((a0.K.length : Nat) : Int)), (.eqI ((a0.K.length : Nat) : Int) 0, .b (decide (((a0.K.length : Nat) : Int) = 0))), (.len (eL e_GValue a0.L), .i ((a0.L.length : Nat) : Int)), (.eqI ((a0.L.length : Nat) : Int) 0, .b (decide (((a0.L.length : Nat) : Int) = 0))), (.eqI a0.Kind 0, .b false), (.eqI a0.Kind 6, .b false), (.eqI a0.Kind 1, .b false), (.eqI a0.Kind 2, .b false), (.eqI a0.Kind 3, .b false), (.eqI a0.Kind 4, .b false), (.eqI a0.Kind 5, .b true), (.len (eL (e_sl e_u8) a0.K), .i ((a0.K.length : Nat) : Int)), (.len (eL e_GValue a0.L), .i ((a0.L.length : Nat) : Int)), (.eqI ((a0.K.length : Nat) : Int) ((a0.L.length : Nat) : Int), .b true), (.notB true, .b false), (.len (eL (e_sl e_u8) a0.K), .i ((a0.K.length : Nat) : Int)), (.loop 73 (loopB Try.f73 0) ⟨[(2, .val false [.ptr 0 0]), (3, .val false [.ptr 1 0]), (5, .val false [.bool false]), (6, .val false [.bool true]), (99, .val false [.seq (eL (e_sl e_u8) a0.K)]), (100, .val false [.int .i64 ((a0.K.length : Nat) : Int)]), (101, .val false [.int .i64 0])], [.var [.int .i64 a0.Kind, .int .i64 a0.N, .seq (eL e_u8 a0.S), .seq (eL (e_sl e_u8) a0.K), .seq (eL e_GValue a0.L)], .var [.int .i64 a1]], 0⟩, .x (.exit 1) ⟨[(2, .val false [.ptr 0 0]), (3, .val false [.ptr 1 0]), (5, .val false [.bool false]), (6, .val false [.bool true]), (99, .val false [.seq (eL (e_sl e_u8) a0.K)]), (100, .val false [.int .i64 ((a0.K.length : Nat) : Int)]), (101, .val false [.int .i64 o12_1]), (102, .val false [.bool false])], [.var [.int .i64 a0.Kind, .int .i64 a0.N, .seq (eL e_u8 a0.S), .seq (eL (e_sl e_u8) a0.K), .seq (eL e_GValue a0.L)], .var [.int .i64 a1]], 0⟩)] rfl fd_73 (by kernel_rfl) ⟨(A.eqI_f c1), (A.eqI_f c10), A.len, (A.eqI_t c11), A.len, A.eqI_d, A.len, A.eqI_d, (A.eqI_f c2), (A.eqI_f c3), (A.eqI_f c4), (A.eqI_f c5), (A.eqI_f c6), (A.eqI_f c7), (A.eqI_t c8), A.len, A.len, (A.eqI_t c9), rfl, A.len, (A.loop (gl_impl_isShaped_l0 G_slices_ContainsFunc_Value_isShaped_1 H_slices_ContainsFunc_Value_isShaped_1 false true a0.K ((a0.K.length : Nat) : Int) a0 a1 _ 0 _ ho12)), trivial⟩
                      · rw [if_neg c11] at h
                        obtain ⟨o12, ho12, h⟩ := Option.bind_eq_some_iff.1 h
                        rcases o12 with o12_0 | o12_1
                        · try dsimp only at h
                          obtain rfl := Option.some.inj h
                          exact call_way cfg [(.eqI a1 0, .b false), (.eqI a0.N 0, .b false), (.len (eL e_u8 a0.S), .i ((a0.S.length : Nat) : Int)), (.eqI ((a0.S.length : Nat) : Int) 0, .b false), (.len (eL (e_sl e_u8) a0.K), .i ((a0.K.length : Nat) : Int)), (.eqI ((a0.K.length : Nat) : Int) 0, .b (decide (((a0.K.length : Nat) : Int) = 0))), (.len (eL e_GValue a0.L), .i ((a0.L.length : Nat) : Int)), (.eqI ((a0.L.length : Nat) : Int) 0, .b (decide (((a0.L.length : Nat) : Int) = 0))), (.eqI a0.Kind 0, .b false), (.eqI a0.Kind 6, .b false), (.eqI a0.Kind 1, .b false), (.eqI a0.Kind 2, .b false), (.eqI a0.Kind 3, .b false), (.eqI a0.Kind 4, .b false), (.eqI a0.Kind 5, .b true), (.len (eL (e_sl e_u8) a0.K), .i ((a0.K.length : Nat) : Int)), (.len (eL e_GValue a0.L), .i ((a0.L.length : Nat) : Int)), (.eqI ((a0.K.length : Nat) : Int) ((a0.L.length : Nat) : Int), .b true), (.notB true, .b false), (.len (eL (e_sl e_u8) a0.K), .i ((a0.K.length : Nat) : Int)), (.loop 73 (loopB Try.f73 0) ⟨[(2, .val false [.ptr 0 0]), (3, .val false [.ptr 1 0]), (5, .val false [.bool false]), (6, .val false [.bool false]), (99, .val false [.seq (eL (e_sl e_u8) a0.K)]), (100, .val false [.int .i64 ((a0.K.length : Nat) : Int)]), (101, .val false [.int .i64 0])], [.var [.int .i64 a0.Kind, .int .i64 a0.N, .seq (eL e_u8 a0.S), .seq (eL (e_sl e_u8) a0.K), .seq (eL e_GValue a0.L)], .var [.int .i64 a1]], 0⟩, .x (.ret) ⟨[(4, .val false [.bool o12_0])], [], 0⟩)] rfl fd_73 (by kernel_rfl) ⟨(A.eqI_f c1), (A.eqI_f c10), A.len, (A.eqI_f c11), A.len, A.eqI_d, A.len, A.eqI_d, (A.eqI_f c2), (A.eqI_f c3), (A.eqI_f c4), (A.eqI_f c5), (A.eqI_f c6), (A.eqI_f c7), (A.eqI_t c8), A.len, A.len, (A.eqI_t c9), rfl, A.len, (A.loop (gl_impl_isShaped_l0 G_slices_ContainsFunc_Value_isShaped_1 H_slices_ContainsFunc_Value_isShaped_1 false false a0.K ((a0.K.length : Nat) : Int) a0 a1 _ 0 _ ho12)), trivial⟩
                        · try dsimp only at h
                          obtain rfl := Option.some.inj h
                          exact call_way cfg [(.eqI a1 0, .b false), (.eqI a0.N 0, .b false), (.len (eL e_u8 a0.S), .i ((a0.S.length : Nat) : Int)), (.eqI ((a0.S.length : Nat) : Int) 0, .b false), (.len (eL (e_sl e_u8) a0.K), .i ((a0.K.length : Nat) : Int)), (.eqI ((a0.K.length : Nat) : Int) 0, .b (decide (((a0.K.length : Nat) : Int) = 0))), (.len (eL e_GValue a0.L), .i ((a0.L.length : Nat) : Int)), (.eqI ((a0.L.length : Nat) : Int) 0, .b (decide (((a0.L.length : Nat) : Int) = 0))), (.eqI a0.Kind 0, .b false), (.eqI a0.Kind 6, .b false), (.eqI a0.Kind 1, .b false), (.eqI a0.Kind 2, .b false), (.eqI a0.Kind 3, .b false), (.eqI a0.Kind 4, .b false), (.eqI a0.Kind 5, .b true), (.len (eL (e_sl e_u8) a0.K), .i ((a0.K.length : Nat) : Int)), (.len (eL e_GValue a0.L), .i ((a0.L.length : Nat) : Int)), (.eqI ((a0.K.length : Nat) : Int) ((a0.L.length : Nat) : Int), .b true), (.notB true, .b false), (.len (eL (e_sl e_u8) a0.K), .i ((a0.K.length : Nat) : Int)), (.loop 73 (loopB Try.f73 0) ⟨[(2, .val false [.ptr 0 0]), (3, .val false [.ptr 1 0]), (5, .val false [.bool false]), (6, .val false [.bool false]), (99, .val false [.seq (eL (e_sl e_u8) a0.K)]), (100, .val false [.int .i64 ((a0.K.length : Nat) : Int)]), (101, .val false [.int .i64 0])], [.var [.int .i64 a0.Kind, .int .i64 a0.N, .seq (eL e_u8 a0.S), .seq (eL (e_sl e_u8) a0.K), .seq (eL e_GValue a0.L)], .var [.int .i64 a1]], 0⟩, .x (.exit 1) ⟨[(2, .val false [.ptr 0 0]), (3, .val false [.ptr 1 0]), (5, .val false [.bool false]), (6, .val false [.bool false]), (99, .val false [.seq (eL (e_sl e_u8) a0.K)]), (100, .val false [.int .i64 ((a0.K.length : Nat) : Int)]), (101, .val false [.int .i64 o12_1]), (102, .val false [.bool false])], [.var [.int .i64 a0.Kind, .int .i64 a0.N, .seq (eL e_u8 a0.S), .seq (eL (e_sl e_u8) a0.K), .seq (eL e_GValue a0.L)], .var [.int .i64 a1]], 0⟩)] rfl fd_73 (by kernel_rfl) ⟨(A.eqI_f c1), (A.eqI_f c10), A.len, (A.eqI_f c11), A.len, A.eqI_d, A.len, A.eqI_d, (A.eqI_f c2), (A.eqI_f c3), (A.eqI_f c4), (A.eqI_f c5), (A.eqI_f c6), (A.eqI_f c7), (A.eqI_t c8), A.len, A.len, (A.eqI_t c9), rfl, A.len, (A.loop (gl_impl_isShaped_l0 G_slices_ContainsFunc_Value_isShaped_1 H_slices_ContainsFunc_Value_isShaped_1 false false a0.K ((a0.K.length : Nat) : Int) a0 a1 _ 0 _ ho12)), trivial⟩
                  · rw [if_neg c9] at h
                    obtain rfl := Option.some.inj h
                    exact call_way cfg [(.eqI a1 0, .b false), (.eqI a0.N 0, .b (decide (a0.N = 0))), (.len (eL e_u8 a0.S), .i ((a0.S.length : Nat) : Int)), (.eqI ((a0.S.length : Nat) : Int) 0, .b (decide (((a0.S.length : Nat) : Int) = 0))), (.len (eL (e_sl e_u8) a0.K), .i ((a0.K.length : Nat) : Int)), (.eqI ((a0.K.length : Nat) : Int) 0, .b (decide (((a0.K.length : Nat) : Int) = 0))), (.len (eL e_GValue a0.L), .i ((a0.L.length : Nat) : Int)), (.eqI ((a0.L.length : Nat) : Int) 0, .b (decide (((a0.L.length : Nat) : Int) = 0))), (.eqI a0.Kind 0, .b false), (.eqI a0.Kind 6, .b false), (.eqI a0.Kind 1, .b false), (.eqI a0.Kind 2, .b false), (.eqI a0.Kind 3, .b false), (.eqI a0.Kind 4, .b false), (.eqI a0.Kind 5, .b true), (.len (eL (e_sl e_u8) a0.K), .i ((a0.K.length : Nat) : Int)), (.len (eL e_GValue a0.L), .i ((a0.L.length : Nat) : Int)), (.eqI ((a0.K.length : Nat) : Int) ((a0.L.length : Nat) : Int), .b false), (.notB false, .b true)] rfl fd_73 (by kernel_rfl) ⟨(A.eqI_f c1), A.eqI_d, A.len, A.eqI_d, A.len, A.eqI_d, A.len, A.eqI_d, (A.eqI_f c2), (A.eqI_f c3), (A.eqI_f c4), (A.eqI_f c5), (A.eqI_f c6), (A.eqI_f c7), (A.eqI_t c8), A.len, A.len, (A.eqI_f c9), rfl, trivial⟩
                · rw [if_neg c8] at h
                  obtain rfl := Option.some.inj h
                  exact call_way cfg [(.eqI a1 0, .b false), (.eqI a0.N 0, .b (decide (a0.N = 0))), (.len (eL e_u8 a0.S), .i ((a0.S.length : Nat) : Int)), (.eqI ((a0.S.length : Nat) : Int) 0, .b (decide (((a0.S.length : Nat) : Int) = 0))), (.len (eL (e_sl e_u8) a0.K), .i ((a0.K.length : Nat) : Int)), (.eqI ((a0.K.length : Nat) : Int) 0, .b (decide (((a0.K.length : Nat) : Int) = 0))), (.len (eL e_GValue a0.L), .i ((a0.L.length : Nat) : Int)), (.eqI ((a0.L.length : Nat) : Int) 0, .b (decide (((a0.L.length : Nat) : Int) = 0))), (.eqI a0.Kind 0, .b false), (.eqI a0.Kind 6, .b false), (.eqI a0.Kind 1, .b false), (.eqI a0.Kind 2, .b false), (.eqI a0.Kind 3, .b false), (.eqI a0.Kind 4, .b false), (.eqI a0.Kind 5, .b false)] rfl fd_73 (by kernel_rfl) ⟨(A.eqI_f c1), A.eqI_d, A.len, A.eqI_d, A.len, A.eqI_d, A.len, A.eqI_d, (A.eqI_f c2), (A.eqI_f c3), (A.eqI_f c4), (A.eqI_f c5), (A.eqI_f c6), (A.eqI_f c7), (A.eqI_f c8), trivial⟩

mutual
def U_impl_isShaped_1 : Nat → GValue → Int → Option Bool
  | 0, _, _ => none
  | n + 1, a0, e0 => T_impl_isShaped_1 (U_impl_isShaped n) a0 e0
def U_slices_IndexFunc_Value_isShaped_1 : Nat → (List GValue) → Int → Option Int
  | 0, _, _ => none
  | n + 1, a0, e0 => T_slices_IndexFunc_Value_isShaped_1 (U_impl_isShaped_1 n) n a0 e0
def U_slices_ContainsFunc_Value_isShaped_1 : Nat → (List GValue) → Int → Option Bool
  | 0, _, _ => none
  | n + 1, a0, e0 => T_slices_ContainsFunc_Value_isShaped_1 (U_slices_IndexFunc_Value_isShaped_1 n) a0 e0
def U_impl_isShaped : Nat → GValue → Int → Option Bool
  | 0, _, _ => none
  | n + 1, a0, a1 => T_impl_isShaped (U_slices_ContainsFunc_Value_isShaped_1 n) n a0 a1
end
theorem rec_impl_isShaped_1 (n : Nat) : (∀ (a0 : GValue) (e0 : Int) (r : Bool), U_impl_isShaped_1 n a0 e0 = some r → (mach cfg).call 111 [.var [.int .i64 e0]] [.val true [.int .i64 a0.Kind, .int .i64 a0.N, .seq (eL e_u8 a0.S), .seq (eL (e_sl e_u8) a0.K), .seq (eL e_GValue a0.L)], .val false [.ptr 0 0]] = some (.val false [.bool r], [.var [.int .i64 e0]])) ∧ (∀ (a0 : (List GValue)) (e0 : Int) (r : Int), U_slices_IndexFunc_Value_isShaped_1 n a0 e0 = some r → (mach cfg).call 112 [.var [.int .i64 e0]] [.val false [.seq (eL e_GValue a0)], .val false [.fn 111 [.ptr 0 0]]] = some (.val false [.int .i64 r], [.var [.int .i64 e0]])) ∧ (∀ (a0 : (List GValue)) (e0 : Int) (r : Bool), U_slices_ContainsFunc_Value_isShaped_1 n a0 e0 = some r → (mach cfg).call 75 [.var [.int .i64 e0]] [.val false [.seq (eL e_GValue a0)], .val false [.fn 111 [.ptr 0 0]]] = some (.val false [.bool r], [.var [.int .i64 e0]])) ∧ (∀ (a0 : GValue) (a1 : Int) (r : Bool), U_impl_isShaped n a0 a1 = some r → (mach cfg).call 73 [] [.val true [.int .i64 a0.Kind, .int .i64 a0.N, .seq (eL e_u8 a0.S), .seq (eL (e_sl e_u8) a0.K), .seq (eL e_GValue a0.L)], .val false [.int .i64 a1]] = some (.val false [.bool r], [])) := by
  induction n with
  | zero => exact ⟨fun _ _ _ h => (by rw [U_impl_isShaped_1] at h; cases h), fun _ _ _ h => (by rw [U_slices_IndexFunc_Value_isShaped_1] at h; cases h), fun _ _ _ h => (by rw [U_slices_ContainsFunc_Value_isShaped_1] at h; cases h), fun _ _ _ h => (by rw [U_impl_isShaped] at h; cases h)⟩
  | succ n ih =>
    obtain ⟨ih_impl_isShaped_1, ih_slices_IndexFunc_Value_isShaped_1, ih_slices_ContainsFunc_Value_isShaped_1, ih_impl_isShaped⟩ := ih
    exact ⟨fun a0 e0 r h => g_impl_isShaped_1 (U_impl_isShaped n) ih_impl_isShaped a0 e0 r (by rw [U_impl_isShaped_1] at h; exact h),
      fun a0 e0 r h => g_slices_IndexFunc_Value_isShaped_1 (U_impl_isShaped_1 n) ih_impl_isShaped_1 n a0 e0 r (by rw [U_slices_IndexFunc_Value_isShaped_1] at h; exact h),
      fun a0 e0 r h => g_slices_ContainsFunc_Value_isShaped_1 (U_slices_IndexFunc_Value_isShaped_1 n) ih_slices_IndexFunc_Value_isShaped_1 a0 e0 r (by rw [U_slices_ContainsFunc_Value_isShaped_1] at h; exact h),
      fun a0 a1 r h => g_impl_isShaped (U_slices_ContainsFunc_Value_isShaped_1 n) ih_slices_ContainsFunc_Value_isShaped_1 n a0 a1 r (by rw [U_impl_isShaped] at h; exact h)⟩
theorem cmpS_eq (a b : List UInt8) : S_bytes_Compare a b = some (Lib.compareBytes a b) := rfl
theorem isName_eq {a : List UInt8} (h : a.length ≤ 2 ^ 20) : S_impl_isName a = some (nameB a) := if_pos h
theorem isText_eq {a : List UInt8} (h : a.length ≤ 2 ^ 20) : S_impl_isText a = some (textB a) := if_pos h
theorem slices_ContainsFunc_Value_isShaped_1_T {G : GValue → Int → Option Bool} {a : List GValue} {f : Nat} {e : Int} {p : GValue → Bool} (ha : a.length ≤ 2 ^ 20) (hf : a.length < f) (hG : ∀ x ∈ a, G x e = some (!p x)) : ∃ r : Int, T_slices_IndexFunc_Value_isShaped_1 G f a e = some r ∧ decide (0 ≤ r) = !(a.all p) := by
  have loop : ∀ (d i m : Nat), i + d = a.length → d < m → ∃ (q : Nat) (z : Int), L_slices_IndexFunc_Value_isShaped_1_l0 G a ((a.length : Nat) : Int) e m (i : Int) = some (if (a.drop i).all p = true then .inr z else .inl (q : Int)) := by
    intro d
    induction d with
    | zero =>
      intro i m hi hm
      obtain ⟨m, rfl, _⟩ := fuel hm
      exact ⟨0, _, by rw [L_slices_IndexFunc_Value_isShaped_1_l0, if_neg (by omega), List.drop_eq_nil_of_le (by omega)]; rfl⟩
    | succ d ih =>
      intro i m hi hm
      obtain ⟨m, rfl, hm'⟩ := fuel hm
      have hil : i < a.length := by omega
      rw [L_slices_IndexFunc_Value_isShaped_1_l0, if_pos (by omega), natO_nat, Option.bind_some, get_some hil, Option.bind_some, hG _ (List.getElem_mem hil), Option.bind_some, w64_succ (by omega), drop_cons hil, List.all_cons]
      cases hp : p a[i] with
      | false => exact ⟨i, 0, rfl⟩
      | true =>
        obtain ⟨q, z, hz⟩ := ih (i + 1) m (by omega) (by omega)
        exact ⟨q, z, by rw [Bool.true_and]; exact hz⟩
  obtain ⟨q, z, hz⟩ := loop a.length 0 f (by omega) (by omega)
  rw [show ((0 : Nat) : Int) = 0 from rfl, List.drop_zero] at hz
  unfold T_slices_IndexFunc_Value_isShaped_1
  rw [hz, Option.bind_some]
  cases hp : a.all p with
  | true => exact ⟨-1, rfl, rfl⟩
  | false => exact ⟨(q : Int), rfl, by simp⟩
theorem isShaped_keys {G : List GValue → Int → Option Bool} {v : GValue} {v0 v1 : Bool} {a1 : Int} (hs : vsz v ≤ 2 ^ 20) : ∀ (d i m : Nat), i + d = v.K.length → d < m → ∃ z, L_impl_isShaped_l0 G v0 v1 v.K ((v.K.length : Nat) : Int) v a1 m (i : Int) = some (if kAll v.K i d = true then .inr z else .inl false) := by
  have he := vsz_eq v
  have hl := bsz_len v.K
  intro d
  induction d with
  | zero =>
    intro i m hi hm
    obtain ⟨m, rfl, _⟩ := fuel hm
    exact ⟨_, by rw [L_impl_isShaped_l0, if_neg (by omega)]; rfl⟩
  | succ d ih =>
    intro i m hi hm
    obtain ⟨m, rfl, hm'⟩ := fuel hm
    have hil : i < v.K.length := by omega
    have hx := bsz_mem (List.getElem_mem hil)
    rw [L_impl_isShaped_l0, if_pos (by omega), natO_nat, Option.bind_some, get_some hil, Option.bind_some, isName_eq (by omega), Option.bind_some, w64_succ (by omega), kAll_succ]
    obtain ⟨z, hz⟩ := ih (i + 1) m (by omega) (by omega)
    cases hnm : nameB v.K[i] with
    | false =>
      refine ⟨0, ?_⟩
      have : kOk v.K i = false := by
        by_cases h0 : i = 0
        · subst h0; rw [kOk_zero hil, hnm]
        · rw [kOk_eq hil (by omega), hnm]; rfl
      rw [this]; rfl
    | true =>
      dsimp only
      by_cases h0 : 0 < i
      · rw [if_pos (by omega), w64_pred (by omega) h0, natO_nat, Option.bind_some, get_some (show i - 1 < v.K.length by omega), Option.bind_some, cmpS_eq, Option.bind_some]
        by_cases hb : Op.bytesLess (v.K[i - 1]'(by omega)) v.K[i] = true
        · rw [if_neg (by rw [less_cmp]; exact fun h => h hb), kOk_eq hil h0, hnm, hb]
          exact ⟨z, hz⟩
        · rw [if_pos (by rw [less_cmp]; exact hb), kOk_eq hil h0, hnm, show Op.bytesLess (v.K[i - 1]'(by omega)) v.K[i] = false by simpa using hb]
          exact ⟨0, rfl⟩
      · have : i = 0 := by omega
        subst this
        rw [if_neg (by omega), kOk_zero hil, hnm]
        exact ⟨z, hz⟩
theorem isShaped_T {G : List GValue → Int → Option Bool} {v : GValue} {f d : Nat} (hs : vsz v ≤ 2 ^ 20) (hf : v.K.length < f) (hd : 0 < d) (hG : G v.L (d : Int) = some (!(v.L.all (shV (d - 1))))) : T_impl_isShaped G f v (d : Int) = some (shV d v) := by
  obtain ⟨e, rfl⟩ : ∃ e, d = e + 1 := ⟨d - 1, by omega⟩
  have he := vsz_eq v
  have hl := vszs_len v.L
  have hb := bsz_len v.K
  rw [show e + 1 - 1 = e by omega] at hG
  unfold T_impl_isShaped
  rw [if_neg (by omega)]
  simp only [shV]
  have nil : v.L.length = 0 → v.L.all (shV e) = true := fun h => by rw [List.eq_nil_of_length_eq_zero h]; rfl
  have c0 : ∀ n : Nat, (((n : Nat) : Int) = 0) = (n = 0) := fun n => by simp
  simp only [c0]
  have leaf : ∀ {b : Bool}, locV v = (b && decide (v.L.length = 0)) → b = true → some (decide (v.L.length = 0)) = some (locV v && v.L.all (shV e)) := fun h hb' => by
    rw [h, hb', Bool.true_and]
    by_cases hz : v.L.length = 0
    · rw [decide_eq_true hz, nil hz]; rfl
    · rw [decide_eq_false hz]; rfl
  have no : locV v = false → some false = some (locV v && v.L.all (shV e)) := fun h => by rw [h]; rfl
  have four : ∀ {p : Prop} [Decidable p], locV v = decide (p ∧ v.S.length = 0 ∧ v.K.length = 0 ∧ v.L.length = 0) → p → (if v.S.length = 0 then if v.K.length = 0 then some (decide (v.L.length = 0)) else some false else some false) = some (locV v && v.L.all (shV e)) := fun h hp => by
    by_cases h1 : v.S.length = 0
    · rw [if_pos h1]
      by_cases h2 : v.K.length = 0
      · rw [if_pos h2]
        exact leaf (b := true) (by rw [h]; simp [hp, h1, h2]) rfl
      · rw [if_neg h2]; exact no (by rw [h, decide_eq_false (fun h => h2 h.2.2.1)])
    · rw [if_neg h1]; exact no (by rw [h, decide_eq_false (fun h => h1 h.2.1)])
  by_cases k0 : v.Kind = 0
  · rw [if_pos k0]
    have hv : locV v = decide (v.N = 0 ∧ v.S.length = 0 ∧ v.K.length = 0 ∧ v.L.length = 0) := by unfold locV; rw [if_pos (.inl k0)]
    by_cases a1 : v.N = 0
    · rw [if_pos a1]; exact four hv a1
    · rw [if_neg a1]; exact no (by rw [hv, decide_eq_false (fun h => a1 h.1)])
  rw [if_neg k0]
  by_cases k6 : v.Kind = 6
  · rw [if_pos k6]
    have hv : locV v = decide (v.N = 0 ∧ v.S.length = 0 ∧ v.K.length = 0 ∧ v.L.length = 0) := by unfold locV; rw [if_pos (.inr k6)]
    by_cases a1 : v.N = 0
    · rw [if_pos a1]; exact four hv a1
    · rw [if_neg a1]; exact no (by rw [hv, decide_eq_false (fun h => a1 h.1)])
  rw [if_neg k6]
  have n06 : ¬ (v.Kind = 0 ∨ v.Kind = 6) := by omega
  by_cases k1 : v.Kind = 1
  · rw [if_pos k1, in_eq, Option.bind_some]
    have hv : locV v = decide ((0 ≤ v.N ∧ v.N ≤ 1) ∧ v.S.length = 0 ∧ v.K.length = 0 ∧ v.L.length = 0) := by unfold locV; rw [if_neg n06, if_pos k1]
    by_cases a1 : 0 ≤ v.N ∧ v.N ≤ 1
    · rw [decide_eq_true a1]; exact four hv a1
    · rw [decide_eq_false a1]; exact no (by rw [hv, decide_eq_false (fun h => a1 h.1)])
  rw [if_neg k1]
  by_cases k2 : v.Kind = 2
  · rw [if_pos k2, in_eq, Option.bind_some]
    have hv : locV v = decide ((-1000000000000 ≤ v.N ∧ v.N ≤ 1000000000000) ∧ v.S.length = 0 ∧ v.K.length = 0 ∧ v.L.length = 0) := by unfold locV; rw [if_neg n06, if_neg k1, if_pos k2]
    by_cases a1 : -1000000000000 ≤ v.N ∧ v.N ≤ 1000000000000
    · rw [decide_eq_true a1]; exact four hv a1
    · rw [decide_eq_false a1]; exact no (by rw [hv, decide_eq_false (fun h => a1 h.1)])
  rw [if_neg k2]
  by_cases k3 : v.Kind = 3
  · rw [if_pos k3, isText_eq (by omega), Option.bind_some]
    have hv : locV v = (textB v.S && decide (v.N = 0 ∧ v.K.length = 0 ∧ v.L.length = 0)) := by unfold locV; rw [if_neg n06, if_neg k1, if_neg k2, if_pos k3]
    cases ht : textB v.S with
    | false => exact no (by rw [hv, ht]; rfl)
    | true =>
      rw [ht, Bool.true_and] at hv
      dsimp only
      by_cases a1 : v.N = 0
      · rw [if_pos a1]
        by_cases a2 : v.K.length = 0
        · rw [if_pos a2]; exact leaf (b := true) (by rw [hv]; simp [a1, a2]) rfl
        · rw [if_neg a2]; exact no (by rw [hv, decide_eq_false (fun h => a2 h.2.1)])
      · rw [if_neg a1]; exact no (by rw [hv, decide_eq_false (fun h => a1 h.1)])
  rw [if_neg k3]
  have ends : ∀ {b : Bool}, locV v = (b && decide (v.L.length ≤ 40)) → b = true → (if ((v.L.length : Nat) : Int) ≤ 40 then (G v.L ((e + 1 : Nat) : Int)).bind fun r12 => some (!r12) else some false) = some (locV v && v.L.all (shV e)) := fun h hb' => by
    by_cases h4 : v.L.length ≤ 40
    · rw [if_pos (by omega), hG, Option.bind_some, h, hb', decide_eq_true h4, Bool.not_not]; rfl
    · rw [if_neg (by omega)]; exact no (by rw [h, decide_eq_false h4, Bool.and_false])
  by_cases k4 : v.Kind = 4
  · rw [if_pos k4]
    have hv : locV v = decide (v.N = 0 ∧ v.S.length = 0 ∧ v.K.length = 0 ∧ v.L.length ≤ 40) := by unfold locV; rw [if_neg n06, if_neg k1, if_neg k2, if_neg k3, if_pos k4]
    by_cases a1 : v.K.length = 0
    · rw [if_pos a1]
      by_cases a2 : v.N = 0
      · rw [if_pos a2]
        by_cases a3 : v.S.length = 0
        · rw [if_pos a3]; exact ends (b := true) (by rw [hv]; simp [a1, a2, a3]) rfl
        · rw [if_neg a3]; exact no (by rw [hv, decide_eq_false (fun h => a3 h.2.1)])
      · rw [if_neg a2]; exact no (by rw [hv, decide_eq_false (fun h => a2 h.1)])
    · rw [if_neg a1]; exact no (by rw [hv, decide_eq_false (fun h => a1 h.2.2.1)])
  rw [if_neg k4]
  by_cases k5 : v.Kind = 5
  · rw [if_pos k5]
    have hv : locV v = (decide (v.K.length = v.L.length ∧ v.N = 0 ∧ v.S.length = 0 ∧ v.L.length ≤ 40) && kAll v.K 0 v.K.length) := by unfold locV; rw [if_neg n06, if_neg k1, if_neg k2, if_neg k3, if_neg k4, if_pos k5]
    by_cases a1 : ((v.K.length : Nat) : Int) = ((v.L.length : Nat) : Int)
    · rw [if_pos a1]
      have keys := fun (v0 v1 : Bool) => isShaped_keys (G := G) (v0 := v0) (v1 := v1) (a1 := ((e + 1 : Nat) : Int)) hs v.K.length 0 f (by omega) (by omega)
      simp only [show ((0 : Nat) : Int) = 0 from rfl] at keys
      have dead : ∀ {z : Int} {b : Bool}, (locV v = false) → ((some (if b = true then (.inr z : Bool ⊕ Int) else .inl false)).bind fun o12 => match o12 with | .inl o12_0 => some o12_0 | .inr (o12_1) => some false) = some (locV v && v.L.all (shV e)) := fun {z b} h => by
        cases b <;> exact no h
      by_cases a2 : v.N = 0
      · rw [if_pos a2]
        by_cases a3 : v.S.length = 0
        · rw [if_pos a3]
          obtain ⟨z, hz⟩ := keys true true
          rw [hz, Option.bind_some]
          cases hk : kAll v.K 0 v.K.length with
          | false => exact no (by rw [hv, hk, Bool.and_false])
          | true =>
            rw [if_pos rfl]
            dsimp only
            exact ends (b := true) (by rw [hv, hk]; simp [a2, a3, show v.K.length = v.L.length by omega]) rfl
        · rw [if_neg a3]
          obtain ⟨z, hz⟩ := keys true false
          rw [hz]
          exact dead (by rw [hv, decide_eq_false (fun h => a3 h.2.2.1)]; rfl)
      · rw [if_neg a2]
        by_cases a3 : v.S.length = 0
        · rw [if_pos a3]
          obtain ⟨z, hz⟩ := keys false true
          rw [hz]
          exact dead (by rw [hv, decide_eq_false (fun h => a2 h.2.1)]; rfl)
        · rw [if_neg a3]
          obtain ⟨z, hz⟩ := keys false false
          rw [hz]
          exact dead (by rw [hv, decide_eq_false (fun h => a2 h.2.1)]; rfl)
    · rw [if_neg a1]; exact no (by rw [hv, decide_eq_false (fun h => a1 (by omega))]; rfl)
  rw [if_neg k5]
  exact no (by unfold locV; simp only [k0, k1, k2, k3, k4, k5, k6, or_self, if_false])
theorem isShaped_U : ∀ (N : Nat) (v : GValue), vsz v < N → vsz v ≤ 2 ^ 20 → ∀ (f d : Nat), 4 * vsz v + 6 ≤ f → d ≤ 2 ^ 20 → U_impl_isShaped f v (d : Int) = some (shV d v) := by
  intro N
  induction N with
  | zero => intro v hv; omega
  | succ N ih =>
    intro v hv hs f d hf hd
    have he := vsz_eq v
    have hl := vszs_len v.L
    have hb := bsz_len v.K
    obtain ⟨f, rfl, _⟩ := fuel (show 0 < f by omega)
    rw [U_impl_isShaped]
    by_cases h0 : d = 0
    · subst h0; unfold T_impl_isShaped; rw [if_pos (show ((0 : Nat) : Int) = 0 from rfl)]; rfl
    refine isShaped_T hs (by omega) (by omega) ?_
    obtain ⟨f, rfl, _⟩ := fuel (show 0 < f by omega)
    obtain ⟨f, rfl, _⟩ := fuel (show 0 < f by omega)
    obtain ⟨f, rfl, _⟩ := fuel (show 0 < f by omega)
    rw [U_slices_ContainsFunc_Value_isShaped_1]
    unfold T_slices_ContainsFunc_Value_isShaped_1
    rw [U_slices_IndexFunc_Value_isShaped_1]
    obtain ⟨r, hr, hr2⟩ := slices_ContainsFunc_Value_isShaped_1_T (G := U_impl_isShaped_1 (f + 1)) (a := v.L) (f := f + 1) (e := (d : Int)) (p := shV (d - 1)) (by omega) (by omega) fun x hx => by
      have := vszs_mem hx
      rw [U_impl_isShaped_1]
      unfold T_impl_isShaped_1
      rw [w64_pred (by omega) (by omega), ih x (by omega) (by omega) f (d - 1) (by omega) (by omega)]
      rfl
    rw [hr, Option.bind_some, hr2]
def S_impl_isShaped_1 (a0 : GValue) (e0 : Int) : Option Bool := none
theorem spec_impl_isShaped_1 (a0 : GValue) (e0 : Int) (r : Bool) (h : S_impl_isShaped_1 a0 e0 = some r) : ∃ n, U_impl_isShaped_1 n a0 e0 = some r := by cases h
def S_slices_IndexFunc_Value_isShaped_1 (a0 : (List GValue)) (e0 : Int) : Option Int := none
theorem spec_slices_IndexFunc_Value_isShaped_1 (a0 : (List GValue)) (e0 : Int) (r : Int) (h : S_slices_IndexFunc_Value_isShaped_1 a0 e0 = some r) : ∃ n, U_slices_IndexFunc_Value_isShaped_1 n a0 e0 = some r := by cases h
def S_slices_ContainsFunc_Value_isShaped_1 (a0 : (List GValue)) (e0 : Int) : Option Bool := none
theorem spec_slices_ContainsFunc_Value_isShaped_1 (a0 : (List GValue)) (e0 : Int) (r : Bool) (h : S_slices_ContainsFunc_Value_isShaped_1 a0 e0 = some r) : ∃ n, U_slices_ContainsFunc_Value_isShaped_1 n a0 e0 = some r := by cases h
def S_impl_isShaped (a0 : GValue) (a1 : Int) : Option Bool := if vsz a0 ≤ 2 ^ 20 ∧ 0 ≤ a1 ∧ a1 ≤ 2 ^ 20 then some (shV a1.toNat a0) else none
theorem spec_impl_isShaped (a0 : GValue) (a1 : Int) (r : Bool) (h : S_impl_isShaped a0 a1 = some r) : ∃ n, U_impl_isShaped n a0 a1 = some r := by
  unfold S_impl_isShaped at h
  obtain ⟨⟨hs, h0, h1⟩, h⟩ := need_c h
  refine ⟨4 * vsz a0 + 6, ?_⟩
  have := isShaped_U _ a0 (Nat.lt_succ_self _) hs _ a1.toNat (Nat.le_refl _) (by omega)
  rw [show ((a1.toNat : Nat) : Int) = a1 by omega] at this
  rw [this]; exact h
theorem ok_impl_isShaped_1 (a0 : GValue) (e0 : Int) (r : Bool) (h : S_impl_isShaped_1 a0 e0 = some r) : (mach cfg).call 111 [.var [.int .i64 e0]] [.val true [.int .i64 a0.Kind, .int .i64 a0.N, .seq (eL e_u8 a0.S), .seq (eL (e_sl e_u8) a0.K), .seq (eL e_GValue a0.L)], .val false [.ptr 0 0]] = some (.val false [.bool r], [.var [.int .i64 e0]]) := by
  obtain ⟨n, hn⟩ := spec_impl_isShaped_1 a0 e0 r h
  exact (rec_impl_isShaped_1 n).1 a0 e0 r hn
theorem ok_slices_IndexFunc_Value_isShaped_1 (a0 : (List GValue)) (e0 : Int) (r : Int) (h : S_slices_IndexFunc_Value_isShaped_1 a0 e0 = some r) : (mach cfg).call 112 [.var [.int .i64 e0]] [.val false [.seq (eL e_GValue a0)], .val false [.fn 111 [.ptr 0 0]]] = some (.val false [.int .i64 r], [.var [.int .i64 e0]]) := by
  obtain ⟨n, hn⟩ := spec_slices_IndexFunc_Value_isShaped_1 a0 e0 r h
  exact (rec_impl_isShaped_1 n).2.1 a0 e0 r hn
theorem ok_slices_ContainsFunc_Value_isShaped_1 (a0 : (List GValue)) (e0 : Int) (r : Bool) (h : S_slices_ContainsFunc_Value_isShaped_1 a0 e0 = some r) : (mach cfg).call 75 [.var [.int .i64 e0]] [.val false [.seq (eL e_GValue a0)], .val false [.fn 111 [.ptr 0 0]]] = some (.val false [.bool r], [.var [.int .i64 e0]]) := by
  obtain ⟨n, hn⟩ := spec_slices_ContainsFunc_Value_isShaped_1 a0 e0 r h
  exact (rec_impl_isShaped_1 n).2.2.1 a0 e0 r hn
theorem ok_impl_isShaped (a0 : GValue) (a1 : Int) (r : Bool) (h : S_impl_isShaped a0 a1 = some r) : (mach cfg).call 73 [] [.val true [.int .i64 a0.Kind, .int .i64 a0.N, .seq (eL e_u8 a0.S), .seq (eL (e_sl e_u8) a0.K), .seq (eL e_GValue a0.L)], .val false [.int .i64 a1]] = some (.val false [.bool r], []) := by
  obtain ⟨n, hn⟩ := spec_impl_isShaped a0 a1 r h
  exact (rec_impl_isShaped_1 n).2.2.2 a0 a1 r hn
def L_impl_Value_parts_l0 (G_impl_Value_parts : GValue → Option Int) (v1 : (List GValue)) (v2 : Int) : Nat → Int → Int → Option (Int × Int)
  | 0, _, _ => none
  | m + 1, v0, v3 =>
    if v3 < v2 then
      (natO v3).bind fun i2 =>
      (v1[i2]?).bind fun x3 =>
      (G_impl_Value_parts x3).bind fun r4 =>
      L_impl_Value_parts_l0 G_impl_Value_parts v1 v2 m (w64 (v0 + r4)) (w64 (v3 + 1))
    else
      some (v0, v3)

theorem gl_impl_Value_parts_l0 (G_impl_Value_parts : GValue → Option Int) (H_impl_Value_parts : ∀ (a0 : GValue) (r : Int), G_impl_Value_parts a0 = some r → (mach cfg).call 74 [] [.val true [.int .i64 a0.Kind, .int .i64 a0.N, .seq (eL e_u8 a0.S), .seq (eL (e_sl e_u8) a0.K), .seq (eL e_GValue a0.L)]] = some (.val false [.int .i64 r], [])) (v1 : (List GValue)) (v2 : Int) (m : Nat) : ∀ (v0 : Int) (v3 : Int) (o : (Int × Int)), L_impl_Value_parts_l0 G_impl_Value_parts v1 v2 m v0 v3 = some o → (mach cfg).loop 74 (loopB Try.f74 0) ⟨[(3, .val false [.int .i64 v0]), (7, .val false [.seq (eL e_GValue v1)]), (8, .val false [.int .i64 v2]), (9, .val false [.int .i64 v3])], [], 0⟩ = some (match o with | ⟨o_0, o_1⟩ => (.exit 0, (⟨[(3, .val false [.int .i64 o_0]), (7, .val false [.seq (eL e_GValue v1)]), (8, .val false [.int .i64 v2]), (9, .val false [.int .i64 o_1]), (10, .val false [.bool false])], [], 0⟩ : S))) := by
  induction m with
  | zero => intro v0 v3 o h; cases h
  | succ m ih =>
    intro v0 v3 o h
    rw [L_impl_Value_parts_l0] at h
    by_cases c1 : v3 < v2
    · rw [if_pos c1] at h
      obtain ⟨i2, hi2, h⟩ := Option.bind_eq_some_iff.1 h
      obtain ⟨x3, hx3, h⟩ := Option.bind_eq_some_iff.1 h
      obtain ⟨r4, hr4, h⟩ := Option.bind_eq_some_iff.1 h
      exact loop_on cfg [(.ltI v3 v2, .b true), (.nat v3, .n i2), (.idx (eL e_GValue v1) i2, .e [.int .i64 x3.Kind, .int .i64 x3.N, .seq (eL e_u8 x3.S), .seq (eL (e_sl e_u8) x3.K), .seq (eL e_GValue x3.L)]), (.call 74 [] [.val true [.int .i64 x3.Kind, .int .i64 x3.N, .seq (eL e_u8 x3.S), .seq (eL (e_sl e_u8) x3.K), .seq (eL e_GValue x3.L)]], .r (.val false [.int .i64 r4]) []), (.add .i64 v0 r4, .i (w64 (v0 + r4))), (.add .i64 v3 1, .i (w64 (v3 + 1)))] (by kernel_rfl) ⟨(A.ltI_t c1), (A.nat hi2), (A.idx hx3 (eq_GValue x3)), (A.call (H_impl_Value_parts x3 _ hr4)), rfl, rfl, trivial⟩ (ih (w64 (v0 + r4)) (w64 (v3 + 1)) o h)
    · rw [if_neg c1] at h
      obtain rfl := Option.some.inj h
      exact loop_end cfg [(.ltI v3 v2, .b false)] (by kernel_rfl) ⟨(A.ltI_f c1), trivial⟩ (by intro h; cases h)

def T_impl_Value_parts (G_impl_Value_parts : GValue → Option Int) (n : Nat) (a0 : GValue) : Option Int :=
  (L_impl_Value_parts_l0 G_impl_Value_parts a0.L ((a0.L.length : Nat) : Int) n 1 0).bind fun ⟨o1_0, o1_1⟩ =>
  some o1_0

set_option maxRecDepth 100000 in
theorem fd_74 : cfg.funcs 74 = some (bodyOf Try.f74, Try.f74.ntmps, Try.f74.results.toList) := fn_of Try.func74 (by kernel_rfl) (by kernel_rfl)
theorem g_impl_Value_parts (G_impl_Value_parts : GValue → Option Int) (H_impl_Value_parts : ∀ (a0 : GValue) (r : Int), G_impl_Value_parts a0 = some r → (mach cfg).call 74 [] [.val true [.int .i64 a0.Kind, .int .i64 a0.N, .seq (eL e_u8 a0.S), .seq (eL (e_sl e_u8) a0.K), .seq (eL e_GValue a0.L)]] = some (.val false [.int .i64 r], [])) (n : Nat) (a0 : GValue) (r : Int) (h : T_impl_Value_parts G_impl_Value_parts n a0 = some r) : (mach cfg).call 74 [] [.val true [.int .i64 a0.Kind, .int .i64 a0.N, .seq (eL e_u8 a0.S), .seq (eL (e_sl e_u8) a0.K), .seq (eL e_GValue a0.L)]] = some (.val false [.int .i64 r], []) := by
  unfold T_impl_Value_parts at h
  obtain ⟨⟨o1_0, o1_1⟩, ho1, h⟩ := Option.bind_eq_some_iff.1 h
  try dsimp only at h
  obtain rfl := Option.some.inj h
  exact call_way cfg [(.len (eL e_GValue a0.L), .i ((a0.L.length : Nat) : Int)), (.loop 74 (loopB Try.f74 0) ⟨[(3, .val false [.int .i64 1]), (7, .val false [.seq (eL e_GValue a0.L)]), (8, .val false [.int .i64 ((a0.L.length : Nat) : Int)]), (9, .val false [.int .i64 0])], [], 0⟩, .x (.exit 0) ⟨[(3, .val false [.int .i64 o1_0]), (7, .val false [.seq (eL e_GValue a0.L)]), (8, .val false [.int .i64 ((a0.L.length : Nat) : Int)]), (9, .val false [.int .i64 o1_1]), (10, .val false [.bool false])], [], 0⟩)] rfl fd_74 (by kernel_rfl) ⟨A.len, (A.loop (gl_impl_Value_parts_l0 G_impl_Value_parts H_impl_Value_parts a0.L ((a0.L.length : Nat) : Int) _ 1 0 _ ho1)), trivial⟩

def U_impl_Value_parts : Nat → GValue → Option Int
  | 0, _ => none
  | n + 1, a0 => T_impl_Value_parts (U_impl_Value_parts n) n a0
theorem rec_impl_Value_parts (n : Nat) : (∀ (a0 : GValue) (r : Int), U_impl_Value_parts n a0 = some r → (mach cfg).call 74 [] [.val true [.int .i64 a0.Kind, .int .i64 a0.N, .seq (eL e_u8 a0.S), .seq (eL (e_sl e_u8) a0.K), .seq (eL e_GValue a0.L)]] = some (.val false [.int .i64 r], [])) := by
  induction n with
  | zero => exact fun _ _ h => (by rw [U_impl_Value_parts] at h; cases h)
  | succ n ih =>
    have ih_impl_Value_parts := ih
    exact fun a0 r h => g_impl_Value_parts (U_impl_Value_parts n) ih_impl_Value_parts n a0 r (by rw [U_impl_Value_parts] at h; exact h)
theorem impl_Value_parts_T {G : GValue → Option Int} {v : GValue} {f : Nat} (hs : vsz v ≤ 2 ^ 20) (hf : v.L.length < f) (hG : ∀ x ∈ v.L, G x = some (((ptV x) : Nat) : Int)) : T_impl_Value_parts G f v = some (((ptV v) : Nat) : Int) := by
  have he := vsz_eq v
  have hl := vszs_len v.L
  have loop : ∀ (d i m : Nat) (r : Int), i + d = v.L.length → d < m → 0 ≤ r → r ≤ 2 ^ 21 - ptVs (v.L.drop i) → ∃ z, L_impl_Value_parts_l0 G v.L ((v.L.length : Nat) : Int) m r (i : Int) = some (r + ptVs (v.L.drop i), z) := by
    intro d
    induction d with
    | zero =>
      intro i m r hi hm h0 h1
      obtain ⟨m, rfl, _⟩ := fuel hm
      exact ⟨_, by rw [L_impl_Value_parts_l0, if_neg (by omega), List.drop_eq_nil_of_le (by omega)]; simp [ptVs]; rfl⟩
    | succ d ih =>
      intro i m r hi hm h0 h1
      obtain ⟨m, rfl, hm'⟩ := fuel hm
      have hil : i < v.L.length := by omega
      have hp : ptVs (v.L.drop i) = ptV v.L[i] + ptVs (v.L.drop (i + 1)) := by rw [drop_cons hil]; simp only [ptVs]
      rw [hp] at h1 ⊢
      rw [L_impl_Value_parts_l0, if_pos (by omega), natO_nat, Option.bind_some, get_some hil, Option.bind_some, hG _ (List.getElem_mem hil), Option.bind_some, w64_succ (by omega), w64_id (by omega) (by omega)]
      obtain ⟨z, hz⟩ := ih (i + 1) m (r + ptV v.L[i]) (by omega) (by omega) (by omega) (by omega)
      exact ⟨z, by rw [hz]; congr 2; omega⟩
  have hle := ptVs_le v.L
  obtain ⟨z, hz⟩ := loop v.L.length 0 f 1 (by omega) (by omega) (by omega) (by rw [List.drop_zero]; omega)
  rw [show ((0 : Nat) : Int) = 0 from rfl, List.drop_zero] at hz
  unfold T_impl_Value_parts
  rw [hz, ptV_eq]
  simp only [Option.bind_some]
  congr 1
theorem impl_Value_parts_U : ∀ (N : Nat) (v : GValue), vsz v < N → vsz v ≤ 2 ^ 20 → ∀ f : Nat, vsz v + 2 ≤ f → U_impl_Value_parts f v = some (((ptV v) : Nat) : Int) := by
  intro N
  induction N with
  | zero => intro v hv; omega
  | succ N ih =>
    intro v hv hs f hf
    obtain ⟨f, rfl, _⟩ := fuel (show 0 < f by omega)
    have he := vsz_eq v
    have hl := vszs_len v.L
    rw [U_impl_Value_parts]
    refine impl_Value_parts_T hs (by omega) fun x hx => ?_
    have := vszs_mem hx
    exact ih x (by omega) (by omega) f (by omega)
def S_impl_Value_parts (a0 : GValue) : Option Int := if vsz a0 ≤ 2 ^ 20 then some (((ptV a0) : Nat) : Int) else none
theorem spec_impl_Value_parts (a0 : GValue) (r : Int) (h : S_impl_Value_parts a0 = some r) : ∃ n, U_impl_Value_parts n a0 = some r := by
  unfold S_impl_Value_parts at h
  obtain ⟨ha, h⟩ := need_c h
  exact ⟨vsz a0 + 2, by rw [← h]; exact impl_Value_parts_U _ a0 (Nat.lt_succ_self _) ha _ (Nat.le_refl _)⟩
theorem ok_impl_Value_parts (a0 : GValue) (r : Int) (h : S_impl_Value_parts a0 = some r) : (mach cfg).call 74 [] [.val true [.int .i64 a0.Kind, .int .i64 a0.N, .seq (eL e_u8 a0.S), .seq (eL (e_sl e_u8) a0.K), .seq (eL e_GValue a0.L)]] = some (.val false [.int .i64 r], []) := by
  obtain ⟨n, hn⟩ := spec_impl_Value_parts a0 r h
  exact (rec_impl_Value_parts n) a0 r hn
def S_impl_isValue (a0 : GValue) : Option Bool :=
  (S_impl_isShaped a0 5).bind fun r1 =>
  match r1 with
  | true =>
    (S_impl_Value_parts a0).bind fun r3 =>
    some (decide (r3 ≤ 40))
  | false =>
    some false

set_option maxRecDepth 100000 in
theorem fd_42 : cfg.funcs 42 = some (bodyOf Try.f42, Try.f42.ntmps, Try.f42.results.toList) := fn_of Try.func42 (by kernel_rfl) (by kernel_rfl)
theorem ok_impl_isValue (a0 : GValue) (r : Bool) (h : S_impl_isValue a0 = some r) : (mach cfg).call 42 [] [.val true [.int .i64 a0.Kind, .int .i64 a0.N, .seq (eL e_u8 a0.S), .seq (eL (e_sl e_u8) a0.K), .seq (eL e_GValue a0.L)]] = some (.val false [.bool r], []) := by
  unfold S_impl_isValue at h
  obtain ⟨r1, hr1, h⟩ := Option.bind_eq_some_iff.1 h
  cases r1 with
  | true =>
    try dsimp only at h
    obtain ⟨r3, hr3, h⟩ := Option.bind_eq_some_iff.1 h
    obtain rfl := Option.some.inj h
    exact call_way cfg [(.call 73 [] [.val true [.int .i64 a0.Kind, .int .i64 a0.N, .seq (eL e_u8 a0.S), .seq (eL (e_sl e_u8) a0.K), .seq (eL e_GValue a0.L)], .val false [.int .i64 5]], .r (.val false [.bool true]) []), (.call 74 [] [.val true [.int .i64 a0.Kind, .int .i64 a0.N, .seq (eL e_u8 a0.S), .seq (eL (e_sl e_u8) a0.K), .seq (eL e_GValue a0.L)]], .r (.val false [.int .i64 r3]) []), (.leI r3 40, .b (decide (r3 ≤ 40)))] rfl fd_42 (by kernel_rfl) ⟨(A.call (ok_impl_isShaped a0 5 _ hr1)), (A.call (ok_impl_Value_parts a0 _ hr3)), A.leI_d, trivial⟩
  | false =>
    try dsimp only at h
    obtain rfl := Option.some.inj h
    exact call_way cfg [(.call 73 [] [.val true [.int .i64 a0.Kind, .int .i64 a0.N, .seq (eL e_u8 a0.S), .seq (eL (e_sl e_u8) a0.K), .seq (eL e_GValue a0.L)], .val false [.int .i64 5]], .r (.val false [.bool false]) [])] rfl fd_42 (by kernel_rfl) ⟨(A.call (ok_impl_isShaped a0 5 _ hr1)), trivial⟩

def T_impl_Value_known_1 (G_impl_Value_known : GValue → Option Bool) (a0 : GValue) : Option Bool :=
  (G_impl_Value_known a0).bind fun r1 =>
  some (!r1)

set_option maxRecDepth 100000 in
theorem fd_76 : cfg.funcs 76 = some (bodyOf Try.f76, Try.f76.ntmps, Try.f76.results.toList) := fn_of Try.func76 (by kernel_rfl) (by kernel_rfl)
theorem g_impl_Value_known_1 (G_impl_Value_known : GValue → Option Bool) (H_impl_Value_known : ∀ (a0 : GValue) (r : Bool), G_impl_Value_known a0 = some r → (mach cfg).call 43 [] [.val true [.int .i64 a0.Kind, .int .i64 a0.N, .seq (eL e_u8 a0.S), .seq (eL (e_sl e_u8) a0.K), .seq (eL e_GValue a0.L)]] = some (.val false [.bool r], [])) (a0 : GValue) (r : Bool) (h : T_impl_Value_known_1 G_impl_Value_known a0 = some r) : (mach cfg).call 76 [] [.val true [.int .i64 a0.Kind, .int .i64 a0.N, .seq (eL e_u8 a0.S), .seq (eL (e_sl e_u8) a0.K), .seq (eL e_GValue a0.L)]] = some (.val false [.bool r], []) := by
  unfold T_impl_Value_known_1 at h
  obtain ⟨r1, hr1, h⟩ := Option.bind_eq_some_iff.1 h
  obtain rfl := Option.some.inj h
  exact call_way cfg [(.call 43 [] [.val true [.int .i64 a0.Kind, .int .i64 a0.N, .seq (eL e_u8 a0.S), .seq (eL (e_sl e_u8) a0.K), .seq (eL e_GValue a0.L)]], .r (.val false [.bool r1]) []), (.notB r1, .b (!r1))] rfl fd_76 (by kernel_rfl) ⟨(A.call (H_impl_Value_known a0 _ hr1)), rfl, trivial⟩

def L_slices_IndexFunc_Value_Value_known_1_l0 (G_impl_Value_known_1 : GValue → Option Bool) (a0 : (List GValue)) (v1 : Int) : Nat → Int → Option (Int ⊕ Int)
  | 0, _ => none
  | m + 1, v2 =>
    if v2 < v1 then
      (natO v2).bind fun i2 =>
      (a0[i2]?).bind fun x3 =>
      (G_impl_Value_known_1 x3).bind fun r4 =>
      match r4 with
      | true =>
        some (.inl v2)
      | false =>
        L_slices_IndexFunc_Value_Value_known_1_l0 G_impl_Value_known_1 a0 v1 m (w64 (v2 + 1))
    else
      some (.inr v2)

theorem gl_slices_IndexFunc_Value_Value_known_1_l0 (G_impl_Value_known_1 : GValue → Option Bool) (H_impl_Value_known_1 : ∀ (a0 : GValue) (r : Bool), G_impl_Value_known_1 a0 = some r → (mach cfg).call 76 [] [.val true [.int .i64 a0.Kind, .int .i64 a0.N, .seq (eL e_u8 a0.S), .seq (eL (e_sl e_u8) a0.K), .seq (eL e_GValue a0.L)]] = some (.val false [.bool r], [])) (a0 : (List GValue)) (v1 : Int) (m : Nat) : ∀ (v2 : Int) (o : (Int ⊕ Int)), L_slices_IndexFunc_Value_Value_known_1_l0 G_impl_Value_known_1 a0 v1 m v2 = some o → (mach cfg).loop 112 (loopB Try.f112 0) ⟨[(0, .val false [.seq (eL e_GValue a0)]), (1, .val false [.fn 76 []]), (7, .val false [.int .i64 v1]), (8, .val false [.int .i64 v2])], [], 0⟩ = some (match o with | .inl o_0 => (.ret, (⟨[(4, .val false [.int .i64 o_0])], [], 0⟩ : S)) | .inr (o_1) => (.exit 0, (⟨[(0, .val false [.seq (eL e_GValue a0)]), (1, .val false [.fn 76 []]), (7, .val false [.int .i64 v1]), (8, .val false [.int .i64 o_1]), (9, .val false [.bool false])], [], 0⟩ : S))) := by
  induction m with
  | zero => intro v2 o h; cases h
  | succ m ih =>
    intro v2 o h
    rw [L_slices_IndexFunc_Value_Value_known_1_l0] at h
    by_cases c1 : v2 < v1
    · rw [if_pos c1] at h
      obtain ⟨i2, hi2, h⟩ := Option.bind_eq_some_iff.1 h
      obtain ⟨x3, hx3, h⟩ := Option.bind_eq_some_iff.1 h
      obtain ⟨r4, hr4, h⟩ := Option.bind_eq_some_iff.1 h
      cases r4 with
      | true =>
        try dsimp only at h
        obtain rfl := Option.some.inj h
        exact loop_end cfg [(.ltI v2 v1, .b true), (.nat v2, .n i2), (.idx (eL e_GValue a0) i2, .e [.int .i64 x3.Kind, .int .i64 x3.N, .seq (eL e_u8 x3.S), .seq (eL (e_sl e_u8) x3.K), .seq (eL e_GValue x3.L)]), (.call 76 [] [.val true [.int .i64 x3.Kind, .int .i64 x3.N, .seq (eL e_u8 x3.S), .seq (eL (e_sl e_u8) x3.K), .seq (eL e_GValue x3.L)]], .r (.val false [.bool true]) [])] (by kernel_rfl) ⟨(A.ltI_t c1), (A.nat hi2), (A.idx hx3 (eq_GValue x3)), (A.call (H_impl_Value_known_1 x3 _ hr4)), trivial⟩ (by intro h; cases h)
      | false =>
        try dsimp only at h
        exact loop_on cfg [(.ltI v2 v1, .b true), (.nat v2, .n i2), (.idx (eL e_GValue a0) i2, .e [.int .i64 x3.Kind, .int .i64 x3.N, .seq (eL e_u8 x3.S), .seq (eL (e_sl e_u8) x3.K), .seq (eL e_GValue x3.L)]), (.call 76 [] [.val true [.int .i64 x3.Kind, .int .i64 x3.N, .seq (eL e_u8 x3.S), .seq (eL (e_sl e_u8) x3.K), .seq (eL e_GValue x3.L)]], .r (.val false [.bool false]) []), (.add .i64 v2 1, .i (w64 (v2 + 1)))] (by kernel_rfl) ⟨(A.ltI_t c1), (A.nat hi2), (A.idx hx3 (eq_GValue x3)), (A.call (H_impl_Value_known_1 x3 _ hr4)), rfl, trivial⟩ (ih (w64 (v2 + 1)) o h)
    · rw [if_neg c1] at h
      obtain rfl := Option.some.inj h
      exact loop_end cfg [(.ltI v2 v1, .b false)] (by kernel_rfl) ⟨(A.ltI_f c1), trivial⟩ (by intro h; cases h)

def T_slices_IndexFunc_Value_Value_known_1 (G_impl_Value_known_1 : GValue → Option Bool) (n : Nat) (a0 : (List GValue)) : Option Int :=
  (L_slices_IndexFunc_Value_Value_known_1_l0 G_impl_Value_known_1 a0 ((a0.length : Nat) : Int) n 0).bind fun o1 =>
  match o1 with
  | .inl o1_0 =>
    some o1_0
  | .inr (o1_1) =>
    some (-1)

theorem g_slices_IndexFunc_Value_Value_known_1 (G_impl_Value_known_1 : GValue → Option Bool) (H_impl_Value_known_1 : ∀ (a0 : GValue) (r : Bool), G_impl_Value_known_1 a0 = some r → (mach cfg).call 76 [] [.val true [.int .i64 a0.Kind, .int .i64 a0.N, .seq (eL e_u8 a0.S), .seq (eL (e_sl e_u8) a0.K), .seq (eL e_GValue a0.L)]] = some (.val false [.bool r], [])) (n : Nat) (a0 : (List GValue)) (r : Int) (h : T_slices_IndexFunc_Value_Value_known_1 G_impl_Value_known_1 n a0 = some r) : (mach cfg).call 112 [] [.val false [.seq (eL e_GValue a0)], .val false [.fn 76 []]] = some (.val false [.int .i64 r], []) := by
  unfold T_slices_IndexFunc_Value_Value_known_1 at h
  obtain ⟨o1, ho1, h⟩ := Option.bind_eq_some_iff.1 h
  rcases o1 with o1_0 | o1_1
  · try dsimp only at h
    obtain rfl := Option.some.inj h
    exact call_way cfg [(.len (eL e_GValue a0), .i ((a0.length : Nat) : Int)), (.loop 112 (loopB Try.f112 0) ⟨[(0, .val false [.seq (eL e_GValue a0)]), (1, .val false [.fn 76 []]), (7, .val false [.int .i64 ((a0.length : Nat) : Int)]), (8, .val false [.int .i64 0])], [], 0⟩, .x (.ret) ⟨[(4, .val false [.int .i64 o1_0])], [], 0⟩)] rfl fd_112 (by kernel_rfl) ⟨A.len, (A.loop (gl_slices_IndexFunc_Value_Value_known_1_l0 G_impl_Value_known_1 H_impl_Value_known_1 a0 ((a0.length : Nat) : Int) _ 0 _ ho1)), trivial⟩
  · try dsimp only at h
    obtain rfl := Option.some.inj h
    exact call_way cfg [(.len (eL e_GValue a0), .i ((a0.length : Nat) : Int)), (.loop 112 (loopB Try.f112 0) ⟨[(0, .val false [.seq (eL e_GValue a0)]), (1, .val false [.fn 76 []]), (7, .val false [.int .i64 ((a0.length : Nat) : Int)]), (8, .val false [.int .i64 0])], [], 0⟩, .x (.exit 0) ⟨[(0, .val false [.seq (eL e_GValue a0)]), (1, .val false [.fn 76 []]), (7, .val false [.int .i64 ((a0.length : Nat) : Int)]), (8, .val false [.int .i64 o1_1]), (9, .val false [.bool false])], [], 0⟩)] rfl fd_112 (by kernel_rfl) ⟨A.len, (A.loop (gl_slices_IndexFunc_Value_Value_known_1_l0 G_impl_Value_known_1 H_impl_Value_known_1 a0 ((a0.length : Nat) : Int) _ 0 _ ho1)), trivial⟩

def T_slices_ContainsFunc_Value_Value_known_1 (G_slices_IndexFunc_Value_Value_known_1 : (List GValue) → Option Int) (a0 : (List GValue)) : Option Bool :=
  (G_slices_IndexFunc_Value_Value_known_1 a0).bind fun r1 =>
  some (decide (0 ≤ r1))

theorem g_slices_ContainsFunc_Value_Value_known_1 (G_slices_IndexFunc_Value_Value_known_1 : (List GValue) → Option Int) (H_slices_IndexFunc_Value_Value_known_1 : ∀ (a0 : (List GValue)) (r : Int), G_slices_IndexFunc_Value_Value_known_1 a0 = some r → (mach cfg).call 112 [] [.val false [.seq (eL e_GValue a0)], .val false [.fn 76 []]] = some (.val false [.int .i64 r], [])) (a0 : (List GValue)) (r : Bool) (h : T_slices_ContainsFunc_Value_Value_known_1 G_slices_IndexFunc_Value_Value_known_1 a0 = some r) : (mach cfg).call 75 [] [.val false [.seq (eL e_GValue a0)], .val false [.fn 76 []]] = some (.val false [.bool r], []) := by
  unfold T_slices_ContainsFunc_Value_Value_known_1 at h
  obtain ⟨r1, hr1, h⟩ := Option.bind_eq_some_iff.1 h
  obtain rfl := Option.some.inj h
  exact call_way cfg [(.call 112 [] [.val false [.seq (eL e_GValue a0)], .val false [.fn 76 []]], .r (.val false [.int .i64 r1]) []), (.leI 0 r1, .b (decide (0 ≤ r1)))] rfl fd_75 (by kernel_rfl) ⟨(A.call (H_slices_IndexFunc_Value_Value_known_1 a0 _ hr1)), A.leI_d, trivial⟩

def T_impl_Value_known (G_slices_ContainsFunc_Value_Value_known_1 : (List GValue) → Option Bool) (a0 : GValue) : Option Bool :=
  if a0.Kind = 6 then
    some false
  else
    (G_slices_ContainsFunc_Value_Value_known_1 a0.L).bind fun r2 =>
    some (!r2)

set_option maxRecDepth 100000 in
theorem fd_43 : cfg.funcs 43 = some (bodyOf Try.f43, Try.f43.ntmps, Try.f43.results.toList) := fn_of Try.func43 (by kernel_rfl) (by kernel_rfl)
theorem g_impl_Value_known (G_slices_ContainsFunc_Value_Value_known_1 : (List GValue) → Option Bool) (H_slices_ContainsFunc_Value_Value_known_1 : ∀ (a0 : (List GValue)) (r : Bool), G_slices_ContainsFunc_Value_Value_known_1 a0 = some r → (mach cfg).call 75 [] [.val false [.seq (eL e_GValue a0)], .val false [.fn 76 []]] = some (.val false [.bool r], [])) (a0 : GValue) (r : Bool) (h : T_impl_Value_known G_slices_ContainsFunc_Value_Value_known_1 a0 = some r) : (mach cfg).call 43 [] [.val true [.int .i64 a0.Kind, .int .i64 a0.N, .seq (eL e_u8 a0.S), .seq (eL (e_sl e_u8) a0.K), .seq (eL e_GValue a0.L)]] = some (.val false [.bool r], []) := by
  unfold T_impl_Value_known at h
  by_cases c1 : a0.Kind = 6
  · rw [if_pos c1] at h
    obtain rfl := Option.some.inj h
    exact call_way cfg [(.eqI a0.Kind 6, .b true), (.notB true, .b false)] rfl fd_43 (by kernel_rfl) ⟨(A.eqI_t c1), rfl, trivial⟩
  · rw [if_neg c1] at h
    obtain ⟨r2, hr2, h⟩ := Option.bind_eq_some_iff.1 h
    obtain rfl := Option.some.inj h
    exact call_way cfg [(.eqI a0.Kind 6, .b false), (.notB false, .b true), (.call 75 [] [.val false [.seq (eL e_GValue a0.L)], .val false [.fn 76 []]], .r (.val false [.bool r2]) []), (.notB r2, .b (!r2))] rfl fd_43 (by kernel_rfl) ⟨(A.eqI_f c1), rfl, (A.call (H_slices_ContainsFunc_Value_Value_known_1 a0.L _ hr2)), rfl, trivial⟩

mutual
def U_impl_Value_known_1 : Nat → GValue → Option Bool
  | 0, _ => none
  | n + 1, a0 => T_impl_Value_known_1 (U_impl_Value_known n) a0
def U_slices_IndexFunc_Value_Value_known_1 : Nat → (List GValue) → Option Int
  | 0, _ => none
  | n + 1, a0 => T_slices_IndexFunc_Value_Value_known_1 (U_impl_Value_known_1 n) n a0
def U_slices_ContainsFunc_Value_Value_known_1 : Nat → (List GValue) → Option Bool
  | 0, _ => none
  | n + 1, a0 => T_slices_ContainsFunc_Value_Value_known_1 (U_slices_IndexFunc_Value_Value_known_1 n) a0
def U_impl_Value_known : Nat → GValue → Option Bool
  | 0, _ => none
  | n + 1, a0 => T_impl_Value_known (U_slices_ContainsFunc_Value_Value_known_1 n) a0
end
theorem rec_impl_Value_known_1 (n : Nat) : (∀ (a0 : GValue) (r : Bool), U_impl_Value_known_1 n a0 = some r → (mach cfg).call 76 [] [.val true [.int .i64 a0.Kind, .int .i64 a0.N, .seq (eL e_u8 a0.S), .seq (eL (e_sl e_u8) a0.K), .seq (eL e_GValue a0.L)]] = some (.val false [.bool r], [])) ∧ (∀ (a0 : (List GValue)) (r : Int), U_slices_IndexFunc_Value_Value_known_1 n a0 = some r → (mach cfg).call 112 [] [.val false [.seq (eL e_GValue a0)], .val false [.fn 76 []]] = some (.val false [.int .i64 r], [])) ∧ (∀ (a0 : (List GValue)) (r : Bool), U_slices_ContainsFunc_Value_Value_known_1 n a0 = some r → (mach cfg).call 75 [] [.val false [.seq (eL e_GValue a0)], .val false [.fn 76 []]] = some (.val false [.bool r], [])) ∧ (∀ (a0 : GValue) (r : Bool), U_impl_Value_known n a0 = some r → (mach cfg).call 43 [] [.val true [.int .i64 a0.Kind, .int .i64 a0.N, .seq (eL e_u8 a0.S), .seq (eL (e_sl e_u8) a0.K), .seq (eL e_GValue a0.L)]] = some (.val false [.bool r], [])) := by
  induction n with
  | zero => exact ⟨fun _ _ h => (by rw [U_impl_Value_known_1] at h; cases h), fun _ _ h => (by rw [U_slices_IndexFunc_Value_Value_known_1] at h; cases h), fun _ _ h => (by rw [U_slices_ContainsFunc_Value_Value_known_1] at h; cases h), fun _ _ h => (by rw [U_impl_Value_known] at h; cases h)⟩
  | succ n ih =>
    obtain ⟨ih_impl_Value_known_1, ih_slices_IndexFunc_Value_Value_known_1, ih_slices_ContainsFunc_Value_Value_known_1, ih_impl_Value_known⟩ := ih
    exact ⟨fun a0 r h => g_impl_Value_known_1 (U_impl_Value_known n) ih_impl_Value_known a0 r (by rw [U_impl_Value_known_1] at h; exact h),
      fun a0 r h => g_slices_IndexFunc_Value_Value_known_1 (U_impl_Value_known_1 n) ih_impl_Value_known_1 n a0 r (by rw [U_slices_IndexFunc_Value_Value_known_1] at h; exact h),
      fun a0 r h => g_slices_ContainsFunc_Value_Value_known_1 (U_slices_IndexFunc_Value_Value_known_1 n) ih_slices_IndexFunc_Value_Value_known_1 a0 r (by rw [U_slices_ContainsFunc_Value_Value_known_1] at h; exact h),
      fun a0 r h => g_impl_Value_known (U_slices_ContainsFunc_Value_Value_known_1 n) ih_slices_ContainsFunc_Value_Value_known_1 a0 r (by rw [U_impl_Value_known] at h; exact h)⟩
def S_impl_Value_known_1 (a0 : GValue) : Option Bool := none
theorem spec_impl_Value_known_1 (a0 : GValue) (r : Bool) (h : S_impl_Value_known_1 a0 = some r) : ∃ n, U_impl_Value_known_1 n a0 = some r := by cases h
def S_slices_IndexFunc_Value_Value_known_1 (a0 : (List GValue)) : Option Int := none
theorem spec_slices_IndexFunc_Value_Value_known_1 (a0 : (List GValue)) (r : Int) (h : S_slices_IndexFunc_Value_Value_known_1 a0 = some r) : ∃ n, U_slices_IndexFunc_Value_Value_known_1 n a0 = some r := by cases h
def S_slices_ContainsFunc_Value_Value_known_1 (a0 : (List GValue)) : Option Bool := none
theorem spec_slices_ContainsFunc_Value_Value_known_1 (a0 : (List GValue)) (r : Bool) (h : S_slices_ContainsFunc_Value_Value_known_1 a0 = some r) : ∃ n, U_slices_ContainsFunc_Value_Value_known_1 n a0 = some r := by cases h
theorem known_ix {G : GValue → Option Bool} {a : List GValue} {f : Nat} (ha : a.length ≤ 2 ^ 40) (hf : a.length < f) (hG : ∀ x ∈ a, G x = some (!knV x)) : ∃ r : Int, T_slices_IndexFunc_Value_Value_known_1 G f a = some r ∧ decide (0 ≤ r) = !(knVs a) := by
  have loop : ∀ (l p : List GValue) (m : Nat), a = p ++ l → l.length < m → ∃ (q : Nat) (z : Int), L_slices_IndexFunc_Value_Value_known_1_l0 G a ((a.length : Nat) : Int) m ((p.length : Nat) : Int) = some (if knVs l = true then .inr z else .inl (q : Int)) := by
    intro l
    induction l with
    | nil =>
      intro p m he hm
      subst he
      obtain ⟨m, rfl, _⟩ := fuel hm
      exact ⟨0, _, by rw [L_slices_IndexFunc_Value_Value_known_1_l0, if_neg (nlt_end p)]; rfl⟩
    | cons x l ih =>
      intro p m he hm
      obtain ⟨m, rfl, hm'⟩ := fuel hm
      have hlen : a.length = p.length + (l.length + 1) := by rw [he]; simp
      rw [L_slices_IndexFunc_Value_Value_known_1_l0, if_pos (by omega), natO_nat, Option.bind_some, show a[p.length]? = some x by rw [he]; exact get_mid p x l, Option.bind_some, hG x (by rw [he]; simp), Option.bind_some, w64_len p x (by omega)]
      rw [show knVs (x :: l) = (knV x && knVs l) by simp only [knVs]]
      by_cases hp : knV x = true
      · obtain ⟨q, z, hz⟩ := ih (p ++ [x]) m (by rw [he]; simp) (by simp only [List.length_cons] at hm'; omega)
        exact ⟨q, z, by rw [hp, Bool.true_and]; exact hz⟩
      · rw [Bool.eq_false_iff.2 hp]
        exact ⟨p.length, 0, rfl⟩
  obtain ⟨q, z, hz⟩ := loop a [] f rfl (by omega)
  simp only [List.length_nil, Int.natCast_zero] at hz
  unfold T_slices_IndexFunc_Value_Value_known_1
  rw [hz, Option.bind_some]
  cases hp : knVs a with
  | true => exact ⟨-1, rfl, rfl⟩
  | false => exact ⟨(q : Int), rfl, by simp⟩
theorem known_U : ∀ (N : Nat) (v : GValue), vsz v < N → vsz v ≤ 2 ^ 39 → ∀ f : Nat, 4 * vsz v + 5 ≤ f → U_impl_Value_known f v = some (knV v) := by
  intro N
  induction N with
  | zero => intro v hv; omega
  | succ N ih =>
    intro v hv hs f hf
    have he := vsz_eq v
    have hl := vszs_len v.L
    obtain ⟨f, rfl, _⟩ := fuel (show 0 < f by omega)
    obtain ⟨f, rfl, _⟩ := fuel (show 0 < f by omega)
    obtain ⟨f, rfl, _⟩ := fuel (show 0 < f by omega)
    obtain ⟨f, rfl, _⟩ := fuel (show 0 < f by omega)
    obtain ⟨r, hr, hd⟩ := known_ix (G := U_impl_Value_known_1 (f + 1)) (a := v.L) (f := f + 1) (by omega) (by omega) (fun x hx => by
      have := vszs_mem hx
      rw [U_impl_Value_known_1]
      unfold T_impl_Value_known_1
      rw [ih x (by omega) (by omega) f (by omega), Option.bind_some])
    rw [U_impl_Value_known]
    unfold T_impl_Value_known
    rw [U_slices_ContainsFunc_Value_Value_known_1]
    unfold T_slices_ContainsFunc_Value_Value_known_1
    rw [U_slices_IndexFunc_Value_Value_known_1, hr, Option.bind_some, Option.bind_some, hd, knV_eq]
    by_cases h6 : v.Kind = 6
    · rw [if_pos h6, h6]; rfl
    · rw [if_neg h6]; simp [h6]
def S_impl_Value_known (a0 : GValue) : Option Bool := if vsz a0 ≤ 2 ^ 39 then some (knV a0) else none
theorem spec_impl_Value_known (a0 : GValue) (r : Bool) (h : S_impl_Value_known a0 = some r) : ∃ n, U_impl_Value_known n a0 = some r := by
  unfold S_impl_Value_known at h
  obtain ⟨ha, h⟩ := need_c h
  exact ⟨4 * vsz a0 + 5, by rw [← h]; exact known_U _ a0 (Nat.lt_succ_self _) ha _ (Nat.le_refl _)⟩
theorem ok_impl_Value_known_1 (a0 : GValue) (r : Bool) (h : S_impl_Value_known_1 a0 = some r) : (mach cfg).call 76 [] [.val true [.int .i64 a0.Kind, .int .i64 a0.N, .seq (eL e_u8 a0.S), .seq (eL (e_sl e_u8) a0.K), .seq (eL e_GValue a0.L)]] = some (.val false [.bool r], []) := by
  obtain ⟨n, hn⟩ := spec_impl_Value_known_1 a0 r h
  exact (rec_impl_Value_known_1 n).1 a0 r hn
theorem ok_slices_IndexFunc_Value_Value_known_1 (a0 : (List GValue)) (r : Int) (h : S_slices_IndexFunc_Value_Value_known_1 a0 = some r) : (mach cfg).call 112 [] [.val false [.seq (eL e_GValue a0)], .val false [.fn 76 []]] = some (.val false [.int .i64 r], []) := by
  obtain ⟨n, hn⟩ := spec_slices_IndexFunc_Value_Value_known_1 a0 r h
  exact (rec_impl_Value_known_1 n).2.1 a0 r hn
theorem ok_slices_ContainsFunc_Value_Value_known_1 (a0 : (List GValue)) (r : Bool) (h : S_slices_ContainsFunc_Value_Value_known_1 a0 = some r) : (mach cfg).call 75 [] [.val false [.seq (eL e_GValue a0)], .val false [.fn 76 []]] = some (.val false [.bool r], []) := by
  obtain ⟨n, hn⟩ := spec_slices_ContainsFunc_Value_Value_known_1 a0 r h
  exact (rec_impl_Value_known_1 n).2.2.1 a0 r hn
theorem ok_impl_Value_known (a0 : GValue) (r : Bool) (h : S_impl_Value_known a0 = some r) : (mach cfg).call 43 [] [.val true [.int .i64 a0.Kind, .int .i64 a0.N, .seq (eL e_u8 a0.S), .seq (eL (e_sl e_u8) a0.K), .seq (eL e_GValue a0.L)]] = some (.val false [.bool r], []) := by
  obtain ⟨n, hn⟩ := spec_impl_Value_known a0 r h
  exact (rec_impl_Value_known_1 n).2.2.2 a0 r hn
def S_impl_copyBytes (a0 : (List UInt8)) : Option (List UInt8) :=
  if roomP 1 (0 + a0.length) then
  some a0
  else none

set_option maxRecDepth 100000 in
theorem fd_77 : cfg.funcs 77 = some (bodyOf Try.f77, Try.f77.ntmps, Try.f77.results.toList) := fn_of Try.func77 (by kernel_rfl) (by kernel_rfl)
theorem ok_impl_copyBytes (a0 : (List UInt8)) (r : (List UInt8)) (h : S_impl_copyBytes a0 = some r) : (mach cfg).call 77 [] [.val false [.seq (eL e_u8 a0)]] = some (.val false [.own 1 (eL e_u8 r)], []) := by
  unfold S_impl_copyBytes at h
  obtain ⟨n1, h⟩ := need_some h
  obtain rfl := Option.some.inj h
  exact call_way cfg [(.room 1 (eL e_u8 []) (eL e_u8 a0), .b true), (.uni 1 (eL e_u8 a0), .b true), (.app (eL e_u8 []) (eL e_u8 a0), .l (eL e_u8 a0))] rfl fd_77 (by kernel_rfl) ⟨(A.room n1), (A.uni E_u8), A.app0, trivial⟩

end
end Go.Am.Try
