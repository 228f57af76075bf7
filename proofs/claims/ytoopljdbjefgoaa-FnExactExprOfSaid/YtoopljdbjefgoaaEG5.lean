/- The functions of the program in plain Lean, and that the machine answers as they do; conditions at each theorem. -/
import Derived.Test.YtoopljdbjefgoaaEG4
set_option linter.unusedVariables false
set_option linter.unusedSimpArgs false
namespace Go.Am.Try
open Go.Am Go.Proofs
set_option linter.unusedVariables false
set_option maxRecDepth 20000
set_option maxHeartbeats 2000000
noncomputable section
def L_impl_copyTexts_l0 (a0 : (List (List UInt8))) (v1 : Int) : Nat → Int → (List (List UInt8)) → Option (Int × (List (List UInt8)))
  | 0, _, _ => none
  | m + 1, v2, v3 =>
    if v2 < v1 then
      (natO v2).bind fun i2 =>
      (a0[i2]?).bind fun x3 =>
      (S_impl_copyBytes x3).bind fun r4 =>
      if roomP 24 (v3.length + [r4].length) then
      L_impl_copyTexts_l0 a0 v1 m (w64 (v2 + 1)) (v3 ++ [r4])
      else none
    else
      some (v2, v3)

theorem gl_impl_copyTexts_l0 (a0 : (List (List UInt8))) (v1 : Int) (m : Nat) : ∀ (v2 : Int) (v3 : (List (List UInt8))) (o : (Int × (List (List UInt8)))), L_impl_copyTexts_l0 a0 v1 m v2 v3 = some o → (mach cfg).loop 78 (loopB Try.f78 0) ⟨[(3, .val false [.ref 0]), (7, .val false [.seq (eL (e_sl e_u8) a0)]), (8, .val false [.int .i64 v1]), (9, .val false [.int .i64 v2])], [.obj 1 (eL (o_sl 1 e_u8) v3)], 0⟩ = some (match o with | ⟨o_0, o_1⟩ => (.exit 0, (⟨[(3, .val false [.ref 0]), (7, .val false [.seq (eL (e_sl e_u8) a0)]), (8, .val false [.int .i64 v1]), (9, .val false [.int .i64 o_0]), (10, .val false [.bool false])], [.obj 1 (eL (o_sl 1 e_u8) o_1)], 0⟩ : S))) := by
  induction m with
  | zero => intro v2 v3 o h; cases h
  | succ m ih =>
    intro v2 v3 o h
    rw [L_impl_copyTexts_l0] at h
    by_cases c1 : v2 < v1
    · rw [if_pos c1] at h
      obtain ⟨i2, hi2, h⟩ := Option.bind_eq_some_iff.1 h
      obtain ⟨x3, hx3, h⟩ := Option.bind_eq_some_iff.1 h
      obtain ⟨r4, hr4, h⟩ := Option.bind_eq_some_iff.1 h
      obtain ⟨n5, h⟩ := need_some h
      exact loop_on cfg [(.ltI v2 v1, .b true), (.nat v2, .n i2), (.idx (eL (e_sl e_u8) a0) i2, .e [.seq (eL e_u8 x3)]), (.call 77 [] [.val false [.seq (eL e_u8 x3)]], .r (.val false [.own 1 (eL e_u8 r4)]) []), (.room 24 (eL (o_sl 1 e_u8) v3) (eL (o_sl 1 e_u8) [r4]), .b true), (.uni 1 (eL (o_sl 1 e_u8) [r4]), .b true), (.app (eL (o_sl 1 e_u8) v3) (eL (o_sl 1 e_u8) [r4]), .l (eL (o_sl 1 e_u8) (v3 ++ [r4]))), (.add .i64 v2 1, .i (w64 (v2 + 1)))] (by kernel_rfl) ⟨(A.ltI_t c1), (A.nat hi2), (A.idx hx3 rfl), (A.call (ok_impl_copyBytes x3 _ hr4)), (A.room n5), (A.uniO (O_sl 1 O_u8)), A.app, rfl, trivial⟩ (ih (w64 (v2 + 1)) (v3 ++ [r4]) o h)
    · rw [if_neg c1] at h
      obtain rfl := Option.some.inj h
      exact loop_end cfg [(.ltI v2 v1, .b false)] (by kernel_rfl) ⟨(A.ltI_f c1), trivial⟩ (by intro h; cases h)

def T_impl_copyTexts (n : Nat) (a0 : (List (List UInt8))) : Option (List (List UInt8)) :=
  (L_impl_copyTexts_l0 a0 ((a0.length : Nat) : Int) n 0 []).bind fun ⟨o1_0, o1_1⟩ =>
  some o1_1

set_option maxRecDepth 100000 in
theorem fd_78 : cfg.funcs 78 = some (bodyOf Try.f78, Try.f78.ntmps, Try.f78.results.toList) := fn_of Try.func78 (by kernel_rfl) (by kernel_rfl)
theorem g_impl_copyTexts (n : Nat) (a0 : (List (List UInt8))) (r : (List (List UInt8))) (h : T_impl_copyTexts n a0 = some r) : (mach cfg).call 78 [] [.val false [.seq (eL (e_sl e_u8) a0)]] = some (.val false [.own 1 (eL (o_sl 1 e_u8) r)], []) := by
  unfold T_impl_copyTexts at h
  obtain ⟨⟨o1_0, o1_1⟩, ho1, h⟩ := Option.bind_eq_some_iff.1 h
  try dsimp only at h
  obtain rfl := Option.some.inj h
  exact call_way cfg [(.len (eL (e_sl e_u8) a0), .i ((a0.length : Nat) : Int)), (.loop 78 (loopB Try.f78 0) ⟨[(3, .val false [.ref 0]), (7, .val false [.seq (eL (e_sl e_u8) a0)]), (8, .val false [.int .i64 ((a0.length : Nat) : Int)]), (9, .val false [.int .i64 0])], [.obj 1 (eL (o_sl 1 e_u8) [])], 0⟩, .x (.exit 0) ⟨[(3, .val false [.ref 0]), (7, .val false [.seq (eL (e_sl e_u8) a0)]), (8, .val false [.int .i64 ((a0.length : Nat) : Int)]), (9, .val false [.int .i64 o1_0]), (10, .val false [.bool false])], [.obj 1 (eL (o_sl 1 e_u8) o1_1)], 0⟩)] rfl fd_78 (by kernel_rfl) ⟨A.len, (A.loop (gl_impl_copyTexts_l0 a0 ((a0.length : Nat) : Int) _ 0 [] _ ho1)), trivial⟩

theorem copyBytes_eq {a : List UInt8} (h : a.length ≤ 2 ^ 39) : S_impl_copyBytes a = some a := if_pos (room_ok (by decide) (by omega))
theorem copyTexts_loop {a : List (List UInt8)} (ha : bsz a ≤ 2 ^ 39) : ∀ (l p : List (List UInt8)) (m : Nat), a = p ++ l → l.length < m → ∃ z, L_impl_copyTexts_l0 a ((a.length : Nat) : Int) m ((p.length : Nat) : Int) p = some (z, a) := by
  have hl := bsz_len a
  intro l
  induction l with
  | nil =>
    intro p m he hm
    subst he
    obtain ⟨m, rfl, _⟩ := fuel hm
    exact ⟨_, by rw [L_impl_copyTexts_l0, if_neg (nlt_end p)]; simp; rfl⟩
  | cons x l ih =>
    intro p m he hm
    obtain ⟨m, rfl, hm'⟩ := fuel hm
    have hx : 1 + x.length ≤ bsz a := bsz_mem (by rw [he]; simp)
    have hlen : a.length = p.length + (l.length + 1) := by rw [he]; simp
    obtain ⟨z, hz⟩ := ih (p ++ [x]) m (by rw [he]; simp) (by simp only [List.length_cons] at hm'; omega)
    refine ⟨z, ?_⟩
    rw [L_impl_copyTexts_l0, if_pos (by omega), natO_nat, Option.bind_some, show a[p.length]? = some x by rw [he]; exact get_mid p x l, Option.bind_some, copyBytes_eq (by omega), Option.bind_some, if_pos (room_ok (by decide) (by simp only [List.length_cons, List.length_nil]; omega)), w64_len p x (by omega), hz]
def S_impl_copyTexts (a0 : (List (List UInt8))) : Option (List (List UInt8)) := if bsz a0 ≤ 2 ^ 39 then some a0 else none
theorem copyTexts_eq {a : List (List UInt8)} (h : bsz a ≤ 2 ^ 39) : S_impl_copyTexts a = some a := if_pos h
theorem spec_impl_copyTexts (a0 : (List (List UInt8))) (r : (List (List UInt8))) (h : S_impl_copyTexts a0 = some r) : ∃ n, T_impl_copyTexts n a0 = some r := by
  unfold S_impl_copyTexts at h
  obtain ⟨ha, h⟩ := need_c h
  obtain ⟨z, hz⟩ := copyTexts_loop ha a0 [] (a0.length + 1) rfl (by omega)
  refine ⟨a0.length + 1, ?_⟩
  unfold T_impl_copyTexts
  simp only [List.length_nil, Int.natCast_zero] at hz
  rw [hz]; exact h
theorem ok_impl_copyTexts (a0 : (List (List UInt8))) (r : (List (List UInt8))) (h : S_impl_copyTexts a0 = some r) : (mach cfg).call 78 [] [.val false [.seq (eL (e_sl e_u8) a0)]] = some (.val false [.own 1 (eL (o_sl 1 e_u8) r)], []) := by
  obtain ⟨n, hn⟩ := spec_impl_copyTexts a0 r h
  exact g_impl_copyTexts n a0 r hn
def L_impl_exprOf_l0 (G_impl_exprOf : GValue → Option GExpr) (v0 : (List GValue)) (v1 : Int) (v3 : Int) (v4 : Int) (v5 : Int) (v6 : Int) (v7 : (List UInt8)) (v8 : (List (List UInt8))) (v9 : (List GExpr)) (v10 : (List UInt8)) (v11 : (List (List UInt8))) : Nat → Int → (List GExpr) → Option (Int × (List GExpr))
  | 0, _, _ => none
  | m + 1, v2, v12 =>
    if v2 < v1 then
      (natO v2).bind fun i2 =>
      (v0[i2]?).bind fun x3 =>
      (G_impl_exprOf x3).bind fun r4 =>
      if roomP 88 (v12.length + [r4].length) then
      L_impl_exprOf_l0 G_impl_exprOf v0 v1 v3 v4 v5 v6 v7 v8 v9 v10 v11 m (w64 (v2 + 1)) (v12 ++ [r4])
      else none
    else
      some (v2, v12)

theorem gl_impl_exprOf_l0 (G_impl_exprOf : GValue → Option GExpr) (H_impl_exprOf : ∀ (a0 : GValue) (r : GExpr), G_impl_exprOf a0 = some r → (mach cfg).call 44 [] [.val true [.int .i64 a0.Kind, .int .i64 a0.N, .seq (eL e_u8 a0.S), .seq (eL (e_sl e_u8) a0.K), .seq (eL e_GValue a0.L)]] = some (.val true [.int .i64 r.Kind, .int .i64 r.N, .own 1 (eL e_u8 r.S), .own 1 (eL (o_sl 1 e_u8) r.K), .own 5 (eL o_GExpr r.Kids)], [])) (v0 : (List GValue)) (v1 : Int) (v3 : Int) (v4 : Int) (v5 : Int) (v6 : Int) (v7 : (List UInt8)) (v8 : (List (List UInt8))) (v9 : (List GExpr)) (v10 : (List UInt8)) (v11 : (List (List UInt8))) (m : Nat) : ∀ (v2 : Int) (v12 : (List GExpr)) (o : (Int × (List GExpr))), L_impl_exprOf_l0 G_impl_exprOf v0 v1 v3 v4 v5 v6 v7 v8 v9 v10 v11 m v2 v12 = some o → (mach cfg).loop 44 (loopB Try.f44 0) ⟨[(2, .val false [.ptr 0 0]), (3, .val false [.ptr 1 0]), (32, .val false [.seq (eL e_GValue v0)]), (33, .val false [.int .i64 v1]), (34, .val false [.int .i64 v2])], [.var [.int .i64 v3, .int .i64 v4, .ref 2, .ref 3, .ref 4], .var [.int .i64 v5, .int .i64 v6, .ref 5, .ref 6, .ref 7], .obj 1 (eL e_u8 v7), .obj 1 (eL (o_sl 1 e_u8) v8), .obj 5 (eL o_GExpr v9), .obj 1 (eL e_u8 v10), .obj 1 (eL (o_sl 1 e_u8) v11), .obj 5 (eL o_GExpr v12)], 0⟩ = some (match o with | ⟨o_0, o_1⟩ => (.exit 0, (⟨[(2, .val false [.ptr 0 0]), (3, .val false [.ptr 1 0]), (32, .val false [.seq (eL e_GValue v0)]), (33, .val false [.int .i64 v1]), (34, .val false [.int .i64 o_0]), (35, .val false [.bool false])], [.var [.int .i64 v3, .int .i64 v4, .ref 2, .ref 3, .ref 4], .var [.int .i64 v5, .int .i64 v6, .ref 5, .ref 6, .ref 7], .obj 1 (eL e_u8 v7), .obj 1 (eL (o_sl 1 e_u8) v8), .obj 5 (eL o_GExpr v9), .obj 1 (eL e_u8 v10), .obj 1 (eL (o_sl 1 e_u8) v11), .obj 5 (eL o_GExpr o_1)], 0⟩ : S))) := by
  induction m with
  | zero => intro v2 v12 o h; cases h
  | succ m ih =>
    intro v2 v12 o h
    rw [L_impl_exprOf_l0] at h
    by_cases c1 : v2 < v1
    · rw [if_pos c1] at h
      obtain ⟨i2, hi2, h⟩ := Option.bind_eq_some_iff.1 h
      obtain ⟨x3, hx3, h⟩ := Option.bind_eq_some_iff.1 h
      obtain ⟨r4, hr4, h⟩ := Option.bind_eq_some_iff.1 h
      obtain ⟨n5, h⟩ := need_some h
      exact loop_on cfg [(.ltI v2 v1, .b true), (.nat v2, .n i2), (.idx (eL e_GValue v0) i2, .e [.int .i64 x3.Kind, .int .i64 x3.N, .seq (eL e_u8 x3.S), .seq (eL (e_sl e_u8) x3.K), .seq (eL e_GValue x3.L)]), (.call 44 [] [.val true [.int .i64 x3.Kind, .int .i64 x3.N, .seq (eL e_u8 x3.S), .seq (eL (e_sl e_u8) x3.K), .seq (eL e_GValue x3.L)]], .r (.val true [.int .i64 r4.Kind, .int .i64 r4.N, .own 1 (eL e_u8 r4.S), .own 1 (eL (o_sl 1 e_u8) r4.K), .own 5 (eL o_GExpr r4.Kids)]) []), (.room 88 (eL o_GExpr v12) ([[.int .i64 r4.Kind, .int .i64 r4.N, .own 1 (eL e_u8 r4.S), .own 1 (eL (o_sl 1 e_u8) r4.K), .own 5 (eL o_GExpr r4.Kids)]] : List (List C)), .b true), (.uni 5 ([[.int .i64 r4.Kind, .int .i64 r4.N, .own 1 (eL e_u8 r4.S), .own 1 (eL (o_sl 1 e_u8) r4.K), .own 5 (eL o_GExpr r4.Kids)]] : List (List C)), .b true), (.app (eL o_GExpr v12) ([[.int .i64 r4.Kind, .int .i64 r4.N, .own 1 (eL e_u8 r4.S), .own 1 (eL (o_sl 1 e_u8) r4.K), .own 5 (eL o_GExpr r4.Kids)]] : List (List C)), .l (eL o_GExpr (v12 ++ [r4]))), (.add .i64 v2 1, .i (w64 (v2 + 1)))] (by kernel_rfl) ⟨(A.ltI_t c1), (A.nat hi2), (A.idx hx3 (eq_GValue x3)), (A.call (H_impl_exprOf x3 _ hr4)), (by rw [(show ([[.int .i64 r4.Kind, .int .i64 r4.N, .own 1 (eL e_u8 r4.S), .own 1 (eL (o_sl 1 e_u8) r4.K), .own 5 (eL o_GExpr r4.Kids)]] : List (List C)) = eL o_GExpr [r4] from (raw_cons (oeq_GExpr r4) raw_nil))]; exact (A.room n5)), (by rw [(show ([[.int .i64 r4.Kind, .int .i64 r4.N, .own 1 (eL e_u8 r4.S), .own 1 (eL (o_sl 1 e_u8) r4.K), .own 5 (eL o_GExpr r4.Kids)]] : List (List C)) = eL o_GExpr [r4] from (raw_cons (oeq_GExpr r4) raw_nil))]; exact (A.uniO O_GExpr)), (by rw [(show ([[.int .i64 r4.Kind, .int .i64 r4.N, .own 1 (eL e_u8 r4.S), .own 1 (eL (o_sl 1 e_u8) r4.K), .own 5 (eL o_GExpr r4.Kids)]] : List (List C)) = eL o_GExpr [r4] from (raw_cons (oeq_GExpr r4) raw_nil))]; exact A.app), rfl, trivial⟩ (ih (w64 (v2 + 1)) (v12 ++ [r4]) o h)
    · rw [if_neg c1] at h
      obtain rfl := Option.some.inj h
      exact loop_end cfg [(.ltI v2 v1, .b false)] (by kernel_rfl) ⟨(A.ltI_f c1), trivial⟩ (by intro h; cases h)

def T_impl_exprOf (G_impl_exprOf : GValue → Option GExpr) (n : Nat) (a0 : GValue) : Option GExpr :=
  if a0.Kind = 2 then
    if a0.N < 0 then
      some (GExpr.mk 14 0 [] [] [(GExpr.mk 2 (w64 (0 - a0.N)) [] [] [])])
    else
      (S_impl_copyBytes a0.S).bind fun r3 =>
      (S_impl_copyTexts a0.K).bind fun r4 =>
      (L_impl_exprOf_l0 G_impl_exprOf a0.L ((a0.L.length : Nat) : Int) 0 0 a0.Kind a0.N [] [] [] r3 r4 n 0 []).bind fun ⟨o5_0, o5_1⟩ =>
      some (GExpr.mk a0.Kind a0.N r3 r4 o5_1)
  else
    (S_impl_copyBytes a0.S).bind fun r2 =>
    (S_impl_copyTexts a0.K).bind fun r3 =>
    (L_impl_exprOf_l0 G_impl_exprOf a0.L ((a0.L.length : Nat) : Int) 0 0 a0.Kind a0.N [] [] [] r2 r3 n 0 []).bind fun ⟨o4_0, o4_1⟩ =>
    some (GExpr.mk a0.Kind a0.N r2 r3 o4_1)

set_option maxRecDepth 100000 in
theorem fd_44 : cfg.funcs 44 = some (bodyOf Try.f44, Try.f44.ntmps, Try.f44.results.toList) := fn_of Try.func44 (by kernel_rfl) (by kernel_rfl)
theorem g_impl_exprOf (G_impl_exprOf : GValue → Option GExpr) (H_impl_exprOf : ∀ (a0 : GValue) (r : GExpr), G_impl_exprOf a0 = some r → (mach cfg).call 44 [] [.val true [.int .i64 a0.Kind, .int .i64 a0.N, .seq (eL e_u8 a0.S), .seq (eL (e_sl e_u8) a0.K), .seq (eL e_GValue a0.L)]] = some (.val true [.int .i64 r.Kind, .int .i64 r.N, .own 1 (eL e_u8 r.S), .own 1 (eL (o_sl 1 e_u8) r.K), .own 5 (eL o_GExpr r.Kids)], [])) (n : Nat) (a0 : GValue) (r : GExpr) (h : T_impl_exprOf G_impl_exprOf n a0 = some r) : (mach cfg).call 44 [] [.val true [.int .i64 a0.Kind, .int .i64 a0.N, .seq (eL e_u8 a0.S), .seq (eL (e_sl e_u8) a0.K), .seq (eL e_GValue a0.L)]] = some (.val true [.int .i64 r.Kind, .int .i64 r.N, .own 1 (eL e_u8 r.S), .own 1 (eL (o_sl 1 e_u8) r.K), .own 5 (eL o_GExpr r.Kids)], []) := by
  unfold T_impl_exprOf at h
  by_cases c1 : a0.Kind = 2
  · rw [if_pos c1] at h
    by_cases c2 : a0.N < 0
    · rw [if_pos c2] at h
      obtain rfl := Option.some.inj h
      exact call_way cfg [(.eqI a0.Kind 2, .b true), (.ltI a0.N 0, .b true), (.neg .i64 a0.N, .i (w64 (0 - a0.N)))] rfl fd_44 (by kernel_rfl) ⟨(A.eqI_t c1), (A.ltI_t c2), rfl, trivial⟩
    · rw [if_neg c2] at h
      obtain ⟨r3, hr3, h⟩ := Option.bind_eq_some_iff.1 h
      obtain ⟨r4, hr4, h⟩ := Option.bind_eq_some_iff.1 h
      obtain ⟨⟨o5_0, o5_1⟩, ho5, h⟩ := Option.bind_eq_some_iff.1 h
      try dsimp only at h
      obtain rfl := Option.some.inj h
      exact call_way cfg [(.eqI a0.Kind 2, .b true), (.ltI a0.N 0, .b false), (.call 77 [] [.val false [.seq (eL e_u8 a0.S)]], .r (.val false [.own 1 (eL e_u8 r3)]) []), (.call 78 [] [.val false [.seq (eL (e_sl e_u8) a0.K)]], .r (.val false [.own 1 (eL (o_sl 1 e_u8) r4)]) []), (.len (eL e_GValue a0.L), .i ((a0.L.length : Nat) : Int)), (.loop 44 (loopB Try.f44 0) ⟨[(2, .val false [.ptr 0 0]), (3, .val false [.ptr 1 0]), (32, .val false [.seq (eL e_GValue a0.L)]), (33, .val false [.int .i64 ((a0.L.length : Nat) : Int)]), (34, .val false [.int .i64 0])], [.var [.int .i64 0, .int .i64 0, .ref 2, .ref 3, .ref 4], .var [.int .i64 a0.Kind, .int .i64 a0.N, .ref 5, .ref 6, .ref 7], .obj 1 (eL e_u8 []), .obj 1 (eL (o_sl 1 e_u8) []), .obj 5 (eL o_GExpr []), .obj 1 (eL e_u8 r3), .obj 1 (eL (o_sl 1 e_u8) r4), .obj 5 (eL o_GExpr [])], 0⟩, .x (.exit 0) ⟨[(2, .val false [.ptr 0 0]), (3, .val false [.ptr 1 0]), (32, .val false [.seq (eL e_GValue a0.L)]), (33, .val false [.int .i64 ((a0.L.length : Nat) : Int)]), (34, .val false [.int .i64 o5_0]), (35, .val false [.bool false])], [.var [.int .i64 0, .int .i64 0, .ref 2, .ref 3, .ref 4], .var [.int .i64 a0.Kind, .int .i64 a0.N, .ref 5, .ref 6, .ref 7], .obj 1 (eL e_u8 []), .obj 1 (eL (o_sl 1 e_u8) []), .obj 5 (eL o_GExpr []), .obj 1 (eL e_u8 r3), .obj 1 (eL (o_sl 1 e_u8) r4), .obj 5 (eL o_GExpr o5_1)], 0⟩)] rfl fd_44 (by kernel_rfl) ⟨(A.eqI_t c1), (A.ltI_f c2), (A.call (ok_impl_copyBytes a0.S _ hr3)), (A.call (ok_impl_copyTexts a0.K _ hr4)), A.len, (A.loop (gl_impl_exprOf_l0 G_impl_exprOf H_impl_exprOf a0.L ((a0.L.length : Nat) : Int) 0 0 a0.Kind a0.N [] [] [] r3 r4 _ 0 [] _ ho5)), trivial⟩
  · rw [if_neg c1] at h
    obtain ⟨r2, hr2, h⟩ := Option.bind_eq_some_iff.1 h
    obtain ⟨r3, hr3, h⟩ := Option.bind_eq_some_iff.1 h
    obtain ⟨⟨o4_0, o4_1⟩, ho4, h⟩ := Option.bind_eq_some_iff.1 h
    try dsimp only at h
    obtain rfl := Option.some.inj h
    exact call_way cfg [(.eqI a0.Kind 2, .b false), (.call 77 [] [.val false [.seq (eL e_u8 a0.S)]], .r (.val false [.own 1 (eL e_u8 r2)]) []), (.call 78 [] [.val false [.seq (eL (e_sl e_u8) a0.K)]], .r (.val false [.own 1 (eL (o_sl 1 e_u8) r3)]) []), (.len (eL e_GValue a0.L), .i ((a0.L.length : Nat) : Int)), (.loop 44 (loopB Try.f44 0) ⟨[(2, .val false [.ptr 0 0]), (3, .val false [.ptr 1 0]), (32, .val false [.seq (eL e_GValue a0.L)]), (33, .val false [.int .i64 ((a0.L.length : Nat) : Int)]), (34, .val false [.int .i64 0])], [.var [.int .i64 0, .int .i64 0, .ref 2, .ref 3, .ref 4], .var [.int .i64 a0.Kind, .int .i64 a0.N, .ref 5, .ref 6, .ref 7], .obj 1 (eL e_u8 []), .obj 1 (eL (o_sl 1 e_u8) []), .obj 5 (eL o_GExpr []), .obj 1 (eL e_u8 r2), .obj 1 (eL (o_sl 1 e_u8) r3), .obj 5 (eL o_GExpr [])], 0⟩, .x (.exit 0) ⟨[(2, .val false [.ptr 0 0]), (3, .val false [.ptr 1 0]), (32, .val false [.seq (eL e_GValue a0.L)]), (33, .val false [.int .i64 ((a0.L.length : Nat) : Int)]), (34, .val false [.int .i64 o4_0]), (35, .val false [.bool false])], [.var [.int .i64 0, .int .i64 0, .ref 2, .ref 3, .ref 4], .var [.int .i64 a0.Kind, .int .i64 a0.N, .ref 5, .ref 6, .ref 7], .obj 1 (eL e_u8 []), .obj 1 (eL (o_sl 1 e_u8) []), .obj 5 (eL o_GExpr []), .obj 1 (eL e_u8 r2), .obj 1 (eL (o_sl 1 e_u8) r3), .obj 5 (eL o_GExpr o4_1)], 0⟩)] rfl fd_44 (by kernel_rfl) ⟨(A.eqI_f c1), (A.call (ok_impl_copyBytes a0.S _ hr2)), (A.call (ok_impl_copyTexts a0.K _ hr3)), A.len, (A.loop (gl_impl_exprOf_l0 G_impl_exprOf H_impl_exprOf a0.L ((a0.L.length : Nat) : Int) 0 0 a0.Kind a0.N [] [] [] r2 r3 _ 0 [] _ ho4)), trivial⟩

def U_impl_exprOf : Nat → GValue → Option GExpr
  | 0, _ => none
  | n + 1, a0 => T_impl_exprOf (U_impl_exprOf n) n a0
theorem rec_impl_exprOf (n : Nat) : (∀ (a0 : GValue) (r : GExpr), U_impl_exprOf n a0 = some r → (mach cfg).call 44 [] [.val true [.int .i64 a0.Kind, .int .i64 a0.N, .seq (eL e_u8 a0.S), .seq (eL (e_sl e_u8) a0.K), .seq (eL e_GValue a0.L)]] = some (.val true [.int .i64 r.Kind, .int .i64 r.N, .own 1 (eL e_u8 r.S), .own 1 (eL (o_sl 1 e_u8) r.K), .own 5 (eL o_GExpr r.Kids)], [])) := by
  induction n with
  | zero => exact fun _ _ h => (by rw [U_impl_exprOf] at h; cases h)
  | succ n ih =>
    have ih_impl_exprOf := ih
    exact fun a0 r h => g_impl_exprOf (U_impl_exprOf n) ih_impl_exprOf n a0 r (by rw [U_impl_exprOf] at h; exact h)
theorem exprOf_loop {G : GValue → Option GExpr} {a : List GValue} {v3 v4 v5 v6 : Int} {v7 : List UInt8} {v8 : List (List UInt8)} {v9 : List GExpr} {v10 : List UInt8} {v11 : List (List UInt8)} (ha : a.length ≤ 2 ^ 39) : ∀ (l p : List GValue) (m : Nat), a = p ++ l → (∀ x ∈ l, G x = some (xOf x)) → l.length < m → ∃ z, L_impl_exprOf_l0 G a ((a.length : Nat) : Int) v3 v4 v5 v6 v7 v8 v9 v10 v11 m ((p.length : Nat) : Int) (xOfs p) = some (z, xOfs a) := by
  intro l
  induction l with
  | nil =>
    intro p m he _ hm
    subst he
    obtain ⟨m, rfl, _⟩ := fuel hm
    exact ⟨_, by rw [L_impl_exprOf_l0, if_neg (nlt_end p)]; simp; rfl⟩
  | cons x l ih =>
    intro p m he hG hm
    obtain ⟨m, rfl, hm'⟩ := fuel hm
    have hlen : a.length = p.length + (l.length + 1) := by rw [he]; simp
    obtain ⟨z, hz⟩ := ih (p ++ [x]) m (by rw [he]; simp) (fun y hy => hG y (List.mem_cons_of_mem _ hy)) (by simp only [List.length_cons] at hm'; omega)
    refine ⟨z, ?_⟩
    rw [L_impl_exprOf_l0, if_pos (by omega), natO_nat, Option.bind_some, show a[p.length]? = some x by rw [he]; exact get_mid p x l, Option.bind_some, hG x List.mem_cons_self, Option.bind_some, if_pos (room_ok (by decide) (by rw [xOfs_len]; simp only [List.length_cons, List.length_nil]; omega)), w64_len p x (by omega), ← xOfs_snoc, hz]
theorem exprOf_U : ∀ (N : Nat) (v : GValue), vsz v < N → vsz v ≤ 2 ^ 39 → ∀ f : Nat, vsz v + 2 ≤ f → U_impl_exprOf f v = some (xOf v) := by
  intro N
  induction N with
  | zero => intro v hv; omega
  | succ N ih =>
    intro v hv hs f hf
    obtain ⟨f, rfl, _⟩ := fuel (show 0 < f by omega)
    have he := vsz_eq v
    have hl := vszs_len v.L
    rw [U_impl_exprOf]
    unfold T_impl_exprOf
    rw [copyBytes_eq (by omega), copyTexts_eq (by omega), xOf_eq]
    simp only [Option.bind_some]
    obtain ⟨z, hz⟩ := exprOf_loop (G := U_impl_exprOf f) (a := v.L) (v3 := 0) (v4 := 0) (v5 := v.Kind) (v6 := v.N) (v7 := []) (v8 := []) (v9 := []) (v10 := v.S) (v11 := v.K) (by omega) v.L [] f rfl (fun x hx => by
      have := vszs_mem hx
      exact ih x (by omega) (by omega) f (by omega)) (by omega)
    simp only [List.length_nil, Int.natCast_zero, xOfs] at hz
    rw [hz]
    simp only [Option.bind_some]
    by_cases h2 : v.Kind = 2
    · rw [if_pos h2]
      by_cases hn : v.N < 0
      · rw [if_pos hn, if_pos ⟨h2, hn⟩]
      · rw [if_neg hn, if_neg (fun h => hn h.2)]
    · rw [if_neg h2, if_neg (fun h => h2 h.1)]
def S_impl_exprOf (a0 : GValue) : Option GExpr := if vsz a0 ≤ 2 ^ 39 then some (xOf a0) else none
theorem spec_impl_exprOf (a0 : GValue) (r : GExpr) (h : S_impl_exprOf a0 = some r) : ∃ n, U_impl_exprOf n a0 = some r := by
  unfold S_impl_exprOf at h
  obtain ⟨ha, h⟩ := need_c h
  exact ⟨vsz a0 + 2, by rw [← h]; exact exprOf_U _ a0 (Nat.lt_succ_self _) ha _ (Nat.le_refl _)⟩
theorem ok_impl_exprOf (a0 : GValue) (r : GExpr) (h : S_impl_exprOf a0 = some r) : (mach cfg).call 44 [] [.val true [.int .i64 a0.Kind, .int .i64 a0.N, .seq (eL e_u8 a0.S), .seq (eL (e_sl e_u8) a0.K), .seq (eL e_GValue a0.L)]] = some (.val true [.int .i64 r.Kind, .int .i64 r.N, .own 1 (eL e_u8 r.S), .own 1 (eL (o_sl 1 e_u8) r.K), .own 5 (eL o_GExpr r.Kids)], []) := by
  obtain ⟨n, hn⟩ := spec_impl_exprOf a0 r h
  exact (rec_impl_exprOf n) a0 r hn
def S_impl_ExprOf (a0 : GValue) : Option (GExpr × Bool) :=
  (S_impl_isValue a0).bind fun r1 =>
  match r1 with
  | true =>
    (S_impl_Value_known a0).bind fun r3 =>
    match r3 with
    | true =>
      (S_impl_exprOf a0).bind fun r5 =>
      some (r5, true)
    | false =>
      some ((GExpr.mk 0 0 [] [] []), false)
  | false =>
    some ((GExpr.mk 0 0 [] [] []), false)

set_option maxRecDepth 100000 in
theorem fd_10 : cfg.funcs 10 = some (bodyOf Try.f10, Try.f10.ntmps, Try.f10.results.toList) := fn_of Try.func10 (by kernel_rfl) (by kernel_rfl)
theorem ok_impl_ExprOf (a0 : GValue) (r : (GExpr × Bool)) (h : S_impl_ExprOf a0 = some r) : (mach cfg).call 10 [] [.val true [.int .i64 a0.Kind, .int .i64 a0.N, .seq (eL e_u8 a0.S), .seq (eL (e_sl e_u8) a0.K), .seq (eL e_GValue a0.L)]] = some (.tup [(true, [.int .i64 r.1.Kind, .int .i64 r.1.N, .own 1 (eL e_u8 r.1.S), .own 1 (eL (o_sl 1 e_u8) r.1.K), .own 5 (eL o_GExpr r.1.Kids)]), (false, [.bool r.2])], []) := by
  unfold S_impl_ExprOf at h
  obtain ⟨r1, hr1, h⟩ := Option.bind_eq_some_iff.1 h
  cases r1 with
  | true =>
    try dsimp only at h
    obtain ⟨r3, hr3, h⟩ := Option.bind_eq_some_iff.1 h
    cases r3 with
    | true =>
      try dsimp only at h
      obtain ⟨r5, hr5, h⟩ := Option.bind_eq_some_iff.1 h
      obtain rfl := Option.some.inj h
      exact call_way cfg [(.call 42 [] [.val true [.int .i64 a0.Kind, .int .i64 a0.N, .seq (eL e_u8 a0.S), .seq (eL (e_sl e_u8) a0.K), .seq (eL e_GValue a0.L)]], .r (.val false [.bool true]) []), (.notB true, .b false), (.call 43 [] [.val true [.int .i64 a0.Kind, .int .i64 a0.N, .seq (eL e_u8 a0.S), .seq (eL (e_sl e_u8) a0.K), .seq (eL e_GValue a0.L)]], .r (.val false [.bool true]) []), (.notB true, .b false), (.call 44 [] [.val true [.int .i64 a0.Kind, .int .i64 a0.N, .seq (eL e_u8 a0.S), .seq (eL (e_sl e_u8) a0.K), .seq (eL e_GValue a0.L)]], .r (.val true [.int .i64 r5.Kind, .int .i64 r5.N, .own 1 (eL e_u8 r5.S), .own 1 (eL (o_sl 1 e_u8) r5.K), .own 5 (eL o_GExpr r5.Kids)]) [])] rfl fd_10 (by kernel_rfl) ⟨(A.call (ok_impl_isValue a0 _ hr1)), rfl, (A.call (ok_impl_Value_known a0 _ hr3)), rfl, (A.call (ok_impl_exprOf a0 _ hr5)), trivial⟩
    | false =>
      try dsimp only at h
      obtain rfl := Option.some.inj h
      exact call_way cfg [(.call 42 [] [.val true [.int .i64 a0.Kind, .int .i64 a0.N, .seq (eL e_u8 a0.S), .seq (eL (e_sl e_u8) a0.K), .seq (eL e_GValue a0.L)]], .r (.val false [.bool true]) []), (.notB true, .b false), (.call 43 [] [.val true [.int .i64 a0.Kind, .int .i64 a0.N, .seq (eL e_u8 a0.S), .seq (eL (e_sl e_u8) a0.K), .seq (eL e_GValue a0.L)]], .r (.val false [.bool false]) []), (.notB false, .b true)] rfl fd_10 (by kernel_rfl) ⟨(A.call (ok_impl_isValue a0 _ hr1)), rfl, (A.call (ok_impl_Value_known a0 _ hr3)), rfl, trivial⟩
  | false =>
    try dsimp only at h
    obtain rfl := Option.some.inj h
    exact call_way cfg [(.call 42 [] [.val true [.int .i64 a0.Kind, .int .i64 a0.N, .seq (eL e_u8 a0.S), .seq (eL (e_sl e_u8) a0.K), .seq (eL e_GValue a0.L)]], .r (.val false [.bool false]) []), (.notB false, .b true)] rfl fd_10 (by kernel_rfl) ⟨(A.call (ok_impl_isValue a0 _ hr1)), rfl, trivial⟩

def L_laws_eqByteS_l0 (a0 : (List UInt8)) (a1 : (List UInt8)) : Nat → Int → Option (Bool ⊕ Int)
  | 0, _ => none
  | m + 1, v2 =>
    if v2 < ((a0.length : Nat) : Int) then
      (natO v2).bind fun i2 =>
      (a0[i2]?).bind fun x3 =>
      (a1[i2]?).bind fun x4 =>
      if ((x3.toNat : Nat) : Int) = ((x4.toNat : Nat) : Int) then
        L_laws_eqByteS_l0 a0 a1 m (w64 (v2 + 1))
      else
        some (.inl false)
    else
      some (.inr v2)

theorem gl_laws_eqByteS_l0 (a0 : (List UInt8)) (a1 : (List UInt8)) (m : Nat) : ∀ (v2 : Int) (o : (Bool ⊕ Int)), L_laws_eqByteS_l0 a0 a1 m v2 = some o → (mach cfg).loop 21 (loopB Try.f21 0) ⟨[(0, .val false [.seq (eL e_u8 a0)]), (1, .val false [.seq (eL e_u8 a1)]), (5, .val false [.int .i64 v2])], [], 0⟩ = some (match o with | .inl o_0 => (.ret, (⟨[(4, .val false [.bool o_0])], [], 0⟩ : S)) | .inr (o_1) => (.exit 0, (⟨[(0, .val false [.seq (eL e_u8 a0)]), (1, .val false [.seq (eL e_u8 a1)]), (5, .val false [.int .i64 o_1]), (14, .val false [.bool false])], [], 0⟩ : S))) := by
  induction m with
  | zero => intro v2 o h; cases h
  | succ m ih =>
    intro v2 o h
    rw [L_laws_eqByteS_l0] at h
    by_cases c1 : v2 < ((a0.length : Nat) : Int)
    · rw [if_pos c1] at h
      obtain ⟨i2, hi2, h⟩ := Option.bind_eq_some_iff.1 h
      obtain ⟨x3, hx3, h⟩ := Option.bind_eq_some_iff.1 h
      obtain ⟨x4, hx4, h⟩ := Option.bind_eq_some_iff.1 h
      by_cases c5 : ((x3.toNat : Nat) : Int) = ((x4.toNat : Nat) : Int)
      · rw [if_pos c5] at h
        exact loop_on cfg [(.len (eL e_u8 a0), .i ((a0.length : Nat) : Int)), (.ltI v2 ((a0.length : Nat) : Int), .b true), (.nat v2, .n i2), (.idx (eL e_u8 a0) i2, .e [.int .u8 ((x3.toNat : Nat) : Int)]), (.nat v2, .n i2), (.idx (eL e_u8 a1) i2, .e [.int .u8 ((x4.toNat : Nat) : Int)]), (.eqI ((x3.toNat : Nat) : Int) ((x4.toNat : Nat) : Int), .b true), (.notB true, .b false), (.add .i64 v2 1, .i (w64 (v2 + 1)))] (by kernel_rfl) ⟨A.len, (A.ltI_t c1), (A.nat hi2), (A.idx hx3 rfl), (A.nat hi2), (A.idx hx4 rfl), (A.eqI_t c5), rfl, rfl, trivial⟩ (ih (w64 (v2 + 1)) o h)
      · rw [if_neg c5] at h
        obtain rfl := Option.some.inj h
        exact loop_end cfg [(.len (eL e_u8 a0), .i ((a0.length : Nat) : Int)), (.ltI v2 ((a0.length : Nat) : Int), .b true), (.nat v2, .n i2), (.idx (eL e_u8 a0) i2, .e [.int .u8 ((x3.toNat : Nat) : Int)]), (.nat v2, .n i2), (.idx (eL e_u8 a1) i2, .e [.int .u8 ((x4.toNat : Nat) : Int)]), (.eqI ((x3.toNat : Nat) : Int) ((x4.toNat : Nat) : Int), .b false), (.notB false, .b true)] (by kernel_rfl) ⟨A.len, (A.ltI_t c1), (A.nat hi2), (A.idx hx3 rfl), (A.nat hi2), (A.idx hx4 rfl), (A.eqI_f c5), rfl, trivial⟩ (by intro h; cases h)
    · rw [if_neg c1] at h
      obtain rfl := Option.some.inj h
      exact loop_end cfg [(.len (eL e_u8 a0), .i ((a0.length : Nat) : Int)), (.ltI v2 ((a0.length : Nat) : Int), .b false)] (by kernel_rfl) ⟨A.len, (A.ltI_f c1), trivial⟩ (by intro h; cases h)

def T_laws_eqByteS (n : Nat) (a0 : (List UInt8)) (a1 : (List UInt8)) : Option Bool :=
  if ((a0.length : Nat) : Int) = ((a1.length : Nat) : Int) then
    (L_laws_eqByteS_l0 a0 a1 n 0).bind fun o2 =>
    match o2 with
    | .inl o2_0 =>
      some o2_0
    | .inr (o2_1) =>
      some true
  else
    some false

set_option maxRecDepth 100000 in
theorem fd_21 : cfg.funcs 21 = some (bodyOf Try.f21, Try.f21.ntmps, Try.f21.results.toList) := fn_of Try.func21 (by kernel_rfl) (by kernel_rfl)
theorem g_laws_eqByteS (n : Nat) (a0 : (List UInt8)) (a1 : (List UInt8)) (r : Bool) (h : T_laws_eqByteS n a0 a1 = some r) : (mach cfg).call 21 [] [.val false [.seq (eL e_u8 a0)], .val false [.seq (eL e_u8 a1)]] = some (.val false [.bool r], []) := by
  unfold T_laws_eqByteS at h
  by_cases c1 : ((a0.length : Nat) : Int) = ((a1.length : Nat) : Int)
  · rw [if_pos c1] at h
    obtain ⟨o2, ho2, h⟩ := Option.bind_eq_some_iff.1 h
    rcases o2 with o2_0 | o2_1
    · try dsimp only at h
      obtain rfl := Option.some.inj h
      exact call_way cfg [(.len (eL e_u8 a0), .i ((a0.length : Nat) : Int)), (.len (eL e_u8 a1), .i ((a1.length : Nat) : Int)), (.eqI ((a0.length : Nat) : Int) ((a1.length : Nat) : Int), .b true), (.notB true, .b false), (.loop 21 (loopB Try.f21 0) ⟨[(0, .val false [.seq (eL e_u8 a0)]), (1, .val false [.seq (eL e_u8 a1)]), (5, .val false [.int .i64 0])], [], 0⟩, .x (.ret) ⟨[(4, .val false [.bool o2_0])], [], 0⟩)] rfl fd_21 (by kernel_rfl) ⟨A.len, A.len, (A.eqI_t c1), rfl, (A.loop (gl_laws_eqByteS_l0 a0 a1 _ 0 _ ho2)), trivial⟩
    · try dsimp only at h
      obtain rfl := Option.some.inj h
      exact call_way cfg [(.len (eL e_u8 a0), .i ((a0.length : Nat) : Int)), (.len (eL e_u8 a1), .i ((a1.length : Nat) : Int)), (.eqI ((a0.length : Nat) : Int) ((a1.length : Nat) : Int), .b true), (.notB true, .b false), (.loop 21 (loopB Try.f21 0) ⟨[(0, .val false [.seq (eL e_u8 a0)]), (1, .val false [.seq (eL e_u8 a1)]), (5, .val false [.int .i64 0])], [], 0⟩, .x (.exit 0) ⟨[(0, .val false [.seq (eL e_u8 a0)]), (1, .val false [.seq (eL e_u8 a1)]), (5, .val false [.int .i64 o2_1]), (14, .val false [.bool false])], [], 0⟩)] rfl fd_21 (by kernel_rfl) ⟨A.len, A.len, (A.eqI_t c1), rfl, (A.loop (gl_laws_eqByteS_l0 a0 a1 _ 0 _ ho2)), trivial⟩
  · rw [if_neg c1] at h
    obtain rfl := Option.some.inj h
    exact call_way cfg [(.len (eL e_u8 a0), .i ((a0.length : Nat) : Int)), (.len (eL e_u8 a1), .i ((a1.length : Nat) : Int)), (.eqI ((a0.length : Nat) : Int) ((a1.length : Nat) : Int), .b false), (.notB false, .b true)] rfl fd_21 (by kernel_rfl) ⟨A.len, A.len, (A.eqI_f c1), rfl, trivial⟩

theorem eqByteS_loop {a : List UInt8} (ha : a.length ≤ 2 ^ 40) : ∀ (d i m : Nat), i + d = a.length → d < m → ∃ z, L_laws_eqByteS_l0 a a m (i : Int) = some (.inr z) := by
  intro d
  induction d with
  | zero =>
    intro i m hi hm
    obtain ⟨m, rfl, _⟩ := fuel hm
    exact ⟨_, by rw [L_laws_eqByteS_l0, if_neg (by omega)]⟩
  | succ d ih =>
    intro i m hi hm
    obtain ⟨m, rfl, hm'⟩ := fuel hm
    have hil : i < a.length := by omega
    rw [L_laws_eqByteS_l0, if_pos (by omega), natO_nat, Option.bind_some, get_some hil, Option.bind_some, Option.bind_some, if_pos rfl, w64_succ (by omega)]
    exact ih (i + 1) m (by omega) (by omega)
def S_laws_eqByteS (a0 : (List UInt8)) (a1 : (List UInt8)) : Option Bool := if a0 = a1 ∧ a0.length ≤ 2 ^ 40 then some true else none
theorem spec_laws_eqByteS (a0 : (List UInt8)) (a1 : (List UInt8)) (r : Bool) (h : S_laws_eqByteS a0 a1 = some r) : ∃ n, T_laws_eqByteS n a0 a1 = some r := by
  unfold S_laws_eqByteS at h
  obtain ⟨⟨he, ha⟩, h2⟩ := need_c h
  clear h
  subst he
  refine ⟨a0.length + 1, ?_⟩
  obtain ⟨z, hz⟩ := eqByteS_loop ha a0.length 0 (a0.length + 1) (by omega) (by omega)
  rw [show ((0 : Nat) : Int) = 0 from rfl] at hz
  unfold T_laws_eqByteS
  rw [if_pos rfl, hz]; exact h2
theorem ok_laws_eqByteS (a0 : (List UInt8)) (a1 : (List UInt8)) (r : Bool) (h : S_laws_eqByteS a0 a1 = some r) : (mach cfg).call 21 [] [.val false [.seq (eL e_u8 a0)], .val false [.seq (eL e_u8 a1)]] = some (.val false [.bool r], []) := by
  obtain ⟨n, hn⟩ := spec_laws_eqByteS a0 a1 r h
  exact g_laws_eqByteS n a0 a1 r hn
def L_laws_eqByteSS_l0 (a0 : (List (List UInt8))) (a1 : (List (List UInt8))) : Nat → Int → Option (Bool ⊕ Int)
  | 0, _ => none
  | m + 1, v2 =>
    if v2 < ((a0.length : Nat) : Int) then
      (natO v2).bind fun i2 =>
      (a0[i2]?).bind fun x3 =>
      (a1[i2]?).bind fun x4 =>
      (S_laws_eqByteS x3 x4).bind fun r5 =>
      match r5 with
      | true =>
        L_laws_eqByteSS_l0 a0 a1 m (w64 (v2 + 1))
      | false =>
        some (.inl false)
    else
      some (.inr v2)

theorem gl_laws_eqByteSS_l0 (a0 : (List (List UInt8))) (a1 : (List (List UInt8))) (m : Nat) : ∀ (v2 : Int) (o : (Bool ⊕ Int)), L_laws_eqByteSS_l0 a0 a1 m v2 = some o → (mach cfg).loop 45 (loopB Try.f45 0) ⟨[(0, .val false [.seq (eL (e_sl e_u8) a0)]), (1, .val false [.seq (eL (e_sl e_u8) a1)]), (5, .val false [.int .i64 v2])], [], 0⟩ = some (match o with | .inl o_0 => (.ret, (⟨[(4, .val false [.bool o_0])], [], 0⟩ : S)) | .inr (o_1) => (.exit 0, (⟨[(0, .val false [.seq (eL (e_sl e_u8) a0)]), (1, .val false [.seq (eL (e_sl e_u8) a1)]), (5, .val false [.int .i64 o_1]), (14, .val false [.bool false])], [], 0⟩ : S))) := by
  induction m with
  | zero => intro v2 o h; cases h
  | succ m ih =>
    intro v2 o h
    rw [L_laws_eqByteSS_l0] at h
    by_cases c1 : v2 < ((a0.length : Nat) : Int)
    · rw [if_pos c1] at h
      obtain ⟨i2, hi2, h⟩ := Option.bind_eq_some_iff.1 h
      obtain ⟨x3, hx3, h⟩ := Option.bind_eq_some_iff.1 h
      obtain ⟨x4, hx4, h⟩ := Option.bind_eq_some_iff.1 h
      obtain ⟨r5, hr5, h⟩ := Option.bind_eq_some_iff.1 h
      cases r5 with
      | true =>
        try dsimp only at h
        exact loop_on cfg [(.len (eL (e_sl e_u8) a0), .i ((a0.length : Nat) : Int)), (.ltI v2 ((a0.length : Nat) : Int), .b true), (.nat v2, .n i2), (.idx (eL (e_sl e_u8) a0) i2, .e [.seq (eL e_u8 x3)]), (.nat v2, .n i2), (.idx (eL (e_sl e_u8) a1) i2, .e [.seq (eL e_u8 x4)]), (.call 21 [] [.val false [.seq (eL e_u8 x3)], .val false [.seq (eL e_u8 x4)]], .r (.val false [.bool true]) []), (.notB true, .b false), (.add .i64 v2 1, .i (w64 (v2 + 1)))] (by kernel_rfl) ⟨A.len, (A.ltI_t c1), (A.nat hi2), (A.idx hx3 rfl), (A.nat hi2), (A.idx hx4 rfl), (A.call (ok_laws_eqByteS x3 x4 _ hr5)), rfl, rfl, trivial⟩ (ih (w64 (v2 + 1)) o h)
      | false =>
        try dsimp only at h
        obtain rfl := Option.some.inj h
        exact loop_end cfg [(.len (eL (e_sl e_u8) a0), .i ((a0.length : Nat) : Int)), (.ltI v2 ((a0.length : Nat) : Int), .b true), (.nat v2, .n i2), (.idx (eL (e_sl e_u8) a0) i2, .e [.seq (eL e_u8 x3)]), (.nat v2, .n i2), (.idx (eL (e_sl e_u8) a1) i2, .e [.seq (eL e_u8 x4)]), (.call 21 [] [.val false [.seq (eL e_u8 x3)], .val false [.seq (eL e_u8 x4)]], .r (.val false [.bool false]) []), (.notB false, .b true)] (by kernel_rfl) ⟨A.len, (A.ltI_t c1), (A.nat hi2), (A.idx hx3 rfl), (A.nat hi2), (A.idx hx4 rfl), (A.call (ok_laws_eqByteS x3 x4 _ hr5)), rfl, trivial⟩ (by intro h; cases h)
    · rw [if_neg c1] at h
      obtain rfl := Option.some.inj h
      exact loop_end cfg [(.len (eL (e_sl e_u8) a0), .i ((a0.length : Nat) : Int)), (.ltI v2 ((a0.length : Nat) : Int), .b false)] (by kernel_rfl) ⟨A.len, (A.ltI_f c1), trivial⟩ (by intro h; cases h)

def T_laws_eqByteSS (n : Nat) (a0 : (List (List UInt8))) (a1 : (List (List UInt8))) : Option Bool :=
  if ((a0.length : Nat) : Int) = ((a1.length : Nat) : Int) then
    (L_laws_eqByteSS_l0 a0 a1 n 0).bind fun o2 =>
    match o2 with
    | .inl o2_0 =>
      some o2_0
    | .inr (o2_1) =>
      some true
  else
    some false

set_option maxRecDepth 100000 in
theorem fd_45 : cfg.funcs 45 = some (bodyOf Try.f45, Try.f45.ntmps, Try.f45.results.toList) := fn_of Try.func45 (by kernel_rfl) (by kernel_rfl)
theorem g_laws_eqByteSS (n : Nat) (a0 : (List (List UInt8))) (a1 : (List (List UInt8))) (r : Bool) (h : T_laws_eqByteSS n a0 a1 = some r) : (mach cfg).call 45 [] [.val false [.seq (eL (e_sl e_u8) a0)], .val false [.seq (eL (e_sl e_u8) a1)]] = some (.val false [.bool r], []) := by
  unfold T_laws_eqByteSS at h
  by_cases c1 : ((a0.length : Nat) : Int) = ((a1.length : Nat) : Int)
  · rw [if_pos c1] at h
    obtain ⟨o2, ho2, h⟩ := Option.bind_eq_some_iff.1 h
    rcases o2 with o2_0 | o2_1
    · try dsimp only at h
      obtain rfl := Option.some.inj h
      exact call_way cfg [(.len (eL (e_sl e_u8) a0), .i ((a0.length : Nat) : Int)), (.len (eL (e_sl e_u8) a1), .i ((a1.length : Nat) : Int)), (.eqI ((a0.length : Nat) : Int) ((a1.length : Nat) : Int), .b true), (.notB true, .b false), (.loop 45 (loopB Try.f45 0) ⟨[(0, .val false [.seq (eL (e_sl e_u8) a0)]), (1, .val false [.seq (eL (e_sl e_u8) a1)]), (5, .val false [.int .i64 0])], [], 0⟩, .x (.ret) ⟨[(4, .val false [.bool o2_0])], [], 0⟩)] rfl fd_45 (by kernel_rfl) ⟨A.len, A.len, (A.eqI_t c1), rfl, (A.loop (gl_laws_eqByteSS_l0 a0 a1 _ 0 _ ho2)), trivial⟩
    · try dsimp only at h
      obtain rfl := Option.some.inj h
      exact call_way cfg [(.len (eL (e_sl e_u8) a0), .i ((a0.length : Nat) : Int)), (.len (eL (e_sl e_u8) a1), .i ((a1.length : Nat) : Int)), (.eqI ((a0.length : Nat) : Int) ((a1.length : Nat) : Int), .b true), (.notB true, .b false), (.loop 45 (loopB Try.f45 0) ⟨[(0, .val false [.seq (eL (e_sl e_u8) a0)]), (1, .val false [.seq (eL (e_sl e_u8) a1)]), (5, .val false [.int .i64 0])], [], 0⟩, .x (.exit 0) ⟨[(0, .val false [.seq (eL (e_sl e_u8) a0)]), (1, .val false [.seq (eL (e_sl e_u8) a1)]), (5, .val false [.int .i64 o2_1]), (14, .val false [.bool false])], [], 0⟩)] rfl fd_45 (by kernel_rfl) ⟨A.len, A.len, (A.eqI_t c1), rfl, (A.loop (gl_laws_eqByteSS_l0 a0 a1 _ 0 _ ho2)), trivial⟩
  · rw [if_neg c1] at h
    obtain rfl := Option.some.inj h
    exact call_way cfg [(.len (eL (e_sl e_u8) a0), .i ((a0.length : Nat) : Int)), (.len (eL (e_sl e_u8) a1), .i ((a1.length : Nat) : Int)), (.eqI ((a0.length : Nat) : Int) ((a1.length : Nat) : Int), .b false), (.notB false, .b true)] rfl fd_45 (by kernel_rfl) ⟨A.len, A.len, (A.eqI_f c1), rfl, trivial⟩

theorem eqByteSS_loop {a : List (List UInt8)} (ha : bsz a ≤ 2 ^ 40) : ∀ (d i m : Nat), i + d = a.length → d < m → ∃ z, L_laws_eqByteSS_l0 a a m (i : Int) = some (.inr z) := by
  have hl := bsz_len a
  intro d
  induction d with
  | zero =>
    intro i m hi hm
    obtain ⟨m, rfl, _⟩ := fuel hm
    exact ⟨_, by rw [L_laws_eqByteSS_l0, if_neg (by omega)]⟩
  | succ d ih =>
    intro i m hi hm
    obtain ⟨m, rfl, hm'⟩ := fuel hm
    have hil : i < a.length := by omega
    have hx := bsz_mem (List.getElem_mem hil)
    rw [L_laws_eqByteSS_l0, if_pos (by omega), natO_nat, Option.bind_some, get_some hil, Option.bind_some, Option.bind_some]
    unfold S_laws_eqByteS
    rw [if_pos ⟨rfl, by omega⟩, Option.bind_some, w64_succ (by omega)]
    exact ih (i + 1) m (by omega) (by omega)
def S_laws_eqByteSS (a0 : (List (List UInt8))) (a1 : (List (List UInt8))) : Option Bool := if a0 = a1 ∧ bsz a0 ≤ 2 ^ 40 then some true else none
theorem spec_laws_eqByteSS (a0 : (List (List UInt8))) (a1 : (List (List UInt8))) (r : Bool) (h : S_laws_eqByteSS a0 a1 = some r) : ∃ n, T_laws_eqByteSS n a0 a1 = some r := by
  unfold S_laws_eqByteSS at h
  obtain ⟨⟨he, ha⟩, h2⟩ := need_c h
  clear h
  subst he
  have hl := bsz_len a0
  refine ⟨a0.length + 1, ?_⟩
  obtain ⟨z, hz⟩ := eqByteSS_loop ha a0.length 0 (a0.length + 1) (by omega) (by omega)
  rw [show ((0 : Nat) : Int) = 0 from rfl] at hz
  unfold T_laws_eqByteSS
  rw [if_pos rfl, hz]; exact h2
theorem ok_laws_eqByteSS (a0 : (List (List UInt8))) (a1 : (List (List UInt8))) (r : Bool) (h : S_laws_eqByteSS a0 a1 = some r) : (mach cfg).call 45 [] [.val false [.seq (eL (e_sl e_u8) a0)], .val false [.seq (eL (e_sl e_u8) a1)]] = some (.val false [.bool r], []) := by
  obtain ⟨n, hn⟩ := spec_laws_eqByteSS a0 a1 r h
  exact g_laws_eqByteSS n a0 a1 r hn
def L_laws_eqExprS_l0 (G_laws_eqExpr : GExpr → GExpr → Option Bool) (a0 : (List GExpr)) (a1 : (List GExpr)) : Nat → Int → Option (Bool ⊕ Int)
  | 0, _ => none
  | m + 1, v2 =>
    if v2 < ((a0.length : Nat) : Int) then
      (natO v2).bind fun i2 =>
      (a0[i2]?).bind fun x3 =>
      (a1[i2]?).bind fun x4 =>
      (G_laws_eqExpr x3 x4).bind fun r5 =>
      match r5 with
      | true =>
        L_laws_eqExprS_l0 G_laws_eqExpr a0 a1 m (w64 (v2 + 1))
      | false =>
        some (.inl false)
    else
      some (.inr v2)

theorem gl_laws_eqExprS_l0 (G_laws_eqExpr : GExpr → GExpr → Option Bool) (H_laws_eqExpr : ∀ (a0 : GExpr) (a1 : GExpr) (r : Bool), G_laws_eqExpr a0 a1 = some r → (mach cfg).call 11 [] [.val true [.int .i64 a0.Kind, .int .i64 a0.N, .seq (eL e_u8 a0.S), .seq (eL (e_sl e_u8) a0.K), .seq (eL e_GExpr a0.Kids)], .val true [.int .i64 a1.Kind, .int .i64 a1.N, .seq (eL e_u8 a1.S), .seq (eL (e_sl e_u8) a1.K), .seq (eL e_GExpr a1.Kids)]] = some (.val false [.bool r], [])) (a0 : (List GExpr)) (a1 : (List GExpr)) (m : Nat) : ∀ (v2 : Int) (o : (Bool ⊕ Int)), L_laws_eqExprS_l0 G_laws_eqExpr a0 a1 m v2 = some o → (mach cfg).loop 46 (loopB Try.f46 0) ⟨[(0, .val false [.seq (eL e_GExpr a0)]), (1, .val false [.seq (eL e_GExpr a1)]), (5, .val false [.int .i64 v2])], [], 0⟩ = some (match o with | .inl o_0 => (.ret, (⟨[(4, .val false [.bool o_0])], [], 0⟩ : S)) | .inr (o_1) => (.exit 0, (⟨[(0, .val false [.seq (eL e_GExpr a0)]), (1, .val false [.seq (eL e_GExpr a1)]), (5, .val false [.int .i64 o_1]), (14, .val false [.bool false])], [], 0⟩ : S))) := by
  induction m with
  | zero => intro v2 o h; cases h
  | succ m ih =>
    intro v2 o h
    rw [L_laws_eqExprS_l0] at h
    by_cases c1 : v2 < ((a0.length : Nat) : Int)
    · rw [if_pos c1] at h
      obtain ⟨i2, hi2, h⟩ := Option.bind_eq_some_iff.1 h
      obtain ⟨x3, hx3, h⟩ := Option.bind_eq_some_iff.1 h
      obtain ⟨x4, hx4, h⟩ := Option.bind_eq_some_iff.1 h
      obtain ⟨r5, hr5, h⟩ := Option.bind_eq_some_iff.1 h
      cases r5 with
      | true =>
        try dsimp only at h
        exact loop_on cfg [(.len (eL e_GExpr a0), .i ((a0.length : Nat) : Int)), (.ltI v2 ((a0.length : Nat) : Int), .b true), (.nat v2, .n i2), (.idx (eL e_GExpr a0) i2, .e [.int .i64 x3.Kind, .int .i64 x3.N, .seq (eL e_u8 x3.S), .seq (eL (e_sl e_u8) x3.K), .seq (eL e_GExpr x3.Kids)]), (.nat v2, .n i2), (.idx (eL e_GExpr a1) i2, .e [.int .i64 x4.Kind, .int .i64 x4.N, .seq (eL e_u8 x4.S), .seq (eL (e_sl e_u8) x4.K), .seq (eL e_GExpr x4.Kids)]), (.call 11 [] [.val true [.int .i64 x3.Kind, .int .i64 x3.N, .seq (eL e_u8 x3.S), .seq (eL (e_sl e_u8) x3.K), .seq (eL e_GExpr x3.Kids)], .val true [.int .i64 x4.Kind, .int .i64 x4.N, .seq (eL e_u8 x4.S), .seq (eL (e_sl e_u8) x4.K), .seq (eL e_GExpr x4.Kids)]], .r (.val false [.bool true]) []), (.notB true, .b false), (.add .i64 v2 1, .i (w64 (v2 + 1)))] (by kernel_rfl) ⟨A.len, (A.ltI_t c1), (A.nat hi2), (A.idx hx3 (eq_GExpr x3)), (A.nat hi2), (A.idx hx4 (eq_GExpr x4)), (A.call (H_laws_eqExpr x3 x4 _ hr5)), rfl, rfl, trivial⟩ (ih (w64 (v2 + 1)) o h)
      | false =>
        try dsimp only at h
        obtain rfl := Option.some.inj h
        exact loop_end cfg [(.len (eL e_GExpr a0), .i ((a0.length : Nat) : Int)), (.ltI v2 ((a0.length : Nat) : Int), .b true), (.nat v2, .n i2), (.idx (eL e_GExpr a0) i2, .e [.int .i64 x3.Kind, .int .i64 x3.N, .seq (eL e_u8 x3.S), .seq (eL (e_sl e_u8) x3.K), .seq (eL e_GExpr x3.Kids)]), (.nat v2, .n i2), (.idx (eL e_GExpr a1) i2, .e [.int .i64 x4.Kind, .int .i64 x4.N, .seq (eL e_u8 x4.S), .seq (eL (e_sl e_u8) x4.K), .seq (eL e_GExpr x4.Kids)]), (.call 11 [] [.val true [.int .i64 x3.Kind, .int .i64 x3.N, .seq (eL e_u8 x3.S), .seq (eL (e_sl e_u8) x3.K), .seq (eL e_GExpr x3.Kids)], .val true [.int .i64 x4.Kind, .int .i64 x4.N, .seq (eL e_u8 x4.S), .seq (eL (e_sl e_u8) x4.K), .seq (eL e_GExpr x4.Kids)]], .r (.val false [.bool false]) []), (.notB false, .b true)] (by kernel_rfl) ⟨A.len, (A.ltI_t c1), (A.nat hi2), (A.idx hx3 (eq_GExpr x3)), (A.nat hi2), (A.idx hx4 (eq_GExpr x4)), (A.call (H_laws_eqExpr x3 x4 _ hr5)), rfl, trivial⟩ (by intro h; cases h)
    · rw [if_neg c1] at h
      obtain rfl := Option.some.inj h
      exact loop_end cfg [(.len (eL e_GExpr a0), .i ((a0.length : Nat) : Int)), (.ltI v2 ((a0.length : Nat) : Int), .b false)] (by kernel_rfl) ⟨A.len, (A.ltI_f c1), trivial⟩ (by intro h; cases h)

def T_laws_eqExprS (G_laws_eqExpr : GExpr → GExpr → Option Bool) (n : Nat) (a0 : (List GExpr)) (a1 : (List GExpr)) : Option Bool :=
  if ((a0.length : Nat) : Int) = ((a1.length : Nat) : Int) then
    (L_laws_eqExprS_l0 G_laws_eqExpr a0 a1 n 0).bind fun o2 =>
    match o2 with
    | .inl o2_0 =>
      some o2_0
    | .inr (o2_1) =>
      some true
  else
    some false

set_option maxRecDepth 100000 in
theorem fd_46 : cfg.funcs 46 = some (bodyOf Try.f46, Try.f46.ntmps, Try.f46.results.toList) := fn_of Try.func46 (by kernel_rfl) (by kernel_rfl)
theorem g_laws_eqExprS (G_laws_eqExpr : GExpr → GExpr → Option Bool) (H_laws_eqExpr : ∀ (a0 : GExpr) (a1 : GExpr) (r : Bool), G_laws_eqExpr a0 a1 = some r → (mach cfg).call 11 [] [.val true [.int .i64 a0.Kind, .int .i64 a0.N, .seq (eL e_u8 a0.S), .seq (eL (e_sl e_u8) a0.K), .seq (eL e_GExpr a0.Kids)], .val true [.int .i64 a1.Kind, .int .i64 a1.N, .seq (eL e_u8 a1.S), .seq (eL (e_sl e_u8) a1.K), .seq (eL e_GExpr a1.Kids)]] = some (.val false [.bool r], [])) (n : Nat) (a0 : (List GExpr)) (a1 : (List GExpr)) (r : Bool) (h : T_laws_eqExprS G_laws_eqExpr n a0 a1 = some r) : (mach cfg).call 46 [] [.val false [.seq (eL e_GExpr a0)], .val false [.seq (eL e_GExpr a1)]] = some (.val false [.bool r], []) := by
  unfold T_laws_eqExprS at h
  by_cases c1 : ((a0.length : Nat) : Int) = ((a1.length : Nat) : Int)
  · rw [if_pos c1] at h
    obtain ⟨o2, ho2, h⟩ := Option.bind_eq_some_iff.1 h
    rcases o2 with o2_0 | o2_1
    · try dsimp only at h
      obtain rfl := Option.some.inj h
      exact call_way cfg [(.len (eL e_GExpr a0), .i ((a0.length : Nat) : Int)), (.len (eL e_GExpr a1), .i ((a1.length : Nat) : Int)), (.eqI ((a0.length : Nat) : Int) ((a1.length : Nat) : Int), .b true), (.notB true, .b false), (.loop 46 (loopB Try.f46 0) ⟨[(0, .val false [.seq (eL e_GExpr a0)]), (1, .val false [.seq (eL e_GExpr a1)]), (5, .val false [.int .i64 0])], [], 0⟩, .x (.ret) ⟨[(4, .val false [.bool o2_0])], [], 0⟩)] rfl fd_46 (by kernel_rfl) ⟨A.len, A.len, (A.eqI_t c1), rfl, (A.loop (gl_laws_eqExprS_l0 G_laws_eqExpr H_laws_eqExpr a0 a1 _ 0 _ ho2)), trivial⟩
    · try dsimp only at h
      obtain rfl := Option.some.inj h
      exact call_way cfg [(.len (eL e_GExpr a0), .i ((a0.length : Nat) : Int)), (.len (eL e_GExpr a1), .i ((a1.length : Nat) : Int)), (.eqI ((a0.length : Nat) : Int) ((a1.length : Nat) : Int), .b true), (.notB true, .b false), (.loop 46 (loopB Try.f46 0) ⟨[(0, .val false [.seq (eL e_GExpr a0)]), (1, .val false [.seq (eL e_GExpr a1)]), (5, .val false [.int .i64 0])], [], 0⟩, .x (.exit 0) ⟨[(0, .val false [.seq (eL e_GExpr a0)]), (1, .val false [.seq (eL e_GExpr a1)]), (5, .val false [.int .i64 o2_1]), (14, .val false [.bool false])], [], 0⟩)] rfl fd_46 (by kernel_rfl) ⟨A.len, A.len, (A.eqI_t c1), rfl, (A.loop (gl_laws_eqExprS_l0 G_laws_eqExpr H_laws_eqExpr a0 a1 _ 0 _ ho2)), trivial⟩
  · rw [if_neg c1] at h
    obtain rfl := Option.some.inj h
    exact call_way cfg [(.len (eL e_GExpr a0), .i ((a0.length : Nat) : Int)), (.len (eL e_GExpr a1), .i ((a1.length : Nat) : Int)), (.eqI ((a0.length : Nat) : Int) ((a1.length : Nat) : Int), .b false), (.notB false, .b true)] rfl fd_46 (by kernel_rfl) ⟨A.len, A.len, (A.eqI_f c1), rfl, trivial⟩

def T_laws_eqExpr (G_laws_eqExprS : (List GExpr) → (List GExpr) → Option Bool) (a0 : GExpr) (a1 : GExpr) : Option Bool :=
  if a0.Kind = a1.Kind then
    if a0.N = a1.N then
      (S_laws_eqByteS a0.S a1.S).bind fun r3 =>
      match r3 with
      | true =>
        (S_laws_eqByteSS a0.K a1.K).bind fun r5 =>
        match r5 with
        | true =>
          (G_laws_eqExprS a0.Kids a1.Kids).bind fun r7 =>
          match r7 with
          | true =>
            some true
          | false =>
            some false
        | false =>
          some false
      | false =>
        some false
    else
      some false
  else
    some false

set_option maxRecDepth 100000 in
theorem fd_11 : cfg.funcs 11 = some (bodyOf Try.f11, Try.f11.ntmps, Try.f11.results.toList) := fn_of Try.func11 (by kernel_rfl) (by kernel_rfl)
theorem g_laws_eqExpr (G_laws_eqExprS : (List GExpr) → (List GExpr) → Option Bool) (H_laws_eqExprS : ∀ (a0 : (List GExpr)) (a1 : (List GExpr)) (r : Bool), G_laws_eqExprS a0 a1 = some r → (mach cfg).call 46 [] [.val false [.seq (eL e_GExpr a0)], .val false [.seq (eL e_GExpr a1)]] = some (.val false [.bool r], [])) (a0 : GExpr) (a1 : GExpr) (r : Bool) (h : T_laws_eqExpr G_laws_eqExprS a0 a1 = some r) : (mach cfg).call 11 [] [.val true [.int .i64 a0.Kind, .int .i64 a0.N, .seq (eL e_u8 a0.S), .seq (eL (e_sl e_u8) a0.K), .seq (eL e_GExpr a0.Kids)], .val true [.int .i64 a1.Kind, .int .i64 a1.N, .seq (eL e_u8 a1.S), .seq (eL (e_sl e_u8) a1.K), .seq (eL e_GExpr a1.Kids)]] = some (.val false [.bool r], []) := by
  unfold T_laws_eqExpr at h
  by_cases c1 : a0.Kind = a1.Kind
  · rw [if_pos c1] at h
    by_cases c2 : a0.N = a1.N
    · rw [if_pos c2] at h
      obtain ⟨r3, hr3, h⟩ := Option.bind_eq_some_iff.1 h
      cases r3 with
      | true =>
        try dsimp only at h
        obtain ⟨r5, hr5, h⟩ := Option.bind_eq_some_iff.1 h
        cases r5 with
        | true =>
          try dsimp only at h
          obtain ⟨r7, hr7, h⟩ := Option.bind_eq_some_iff.1 h
          cases r7 with
          | true =>
            try dsimp only at h
            obtain rfl := Option.some.inj h
            exact call_way cfg [(.eqI a0.Kind a1.Kind, .b true), (.notB true, .b false), (.eqI a0.N a1.N, .b true), (.notB true, .b false), (.call 21 [] [.val false [.seq (eL e_u8 a0.S)], .val false [.seq (eL e_u8 a1.S)]], .r (.val false [.bool true]) []), (.notB true, .b false), (.call 45 [] [.val false [.seq (eL (e_sl e_u8) a0.K)], .val false [.seq (eL (e_sl e_u8) a1.K)]], .r (.val false [.bool true]) []), (.notB true, .b false), (.call 46 [] [.val false [.seq (eL e_GExpr a0.Kids)], .val false [.seq (eL e_GExpr a1.Kids)]], .r (.val false [.bool true]) []), (.notB true, .b false)] rfl fd_11 (by kernel_rfl) ⟨(A.eqI_t c1), rfl, (A.eqI_t c2), rfl, (A.call (ok_laws_eqByteS a0.S a1.S _ hr3)), rfl, (A.call (ok_laws_eqByteSS a0.K a1.K _ hr5)), rfl, (A.call (H_laws_eqExprS a0.Kids a1.Kids _ hr7)), rfl, trivial⟩
          | false =>
            try dsimp only at h
            obtain rfl := Option.some.inj h
            exact call_way cfg [(.eqI a0.Kind a1.Kind, .b true), (.notB true, .b false), (.eqI a0.N a1.N, .b true), (.notB true, .b false), (.call 21 [] [.val false [.seq (eL e_u8 a0.S)], .val false [.seq (eL e_u8 a1.S)]], .r (.val false [.bool true]) []), (.notB true, .b false), (.call 45 [] [.val false [.seq (eL (e_sl e_u8) a0.K)], .val false [.seq (eL (e_sl e_u8) a1.K)]], .r (.val false [.bool true]) []), (.notB true, .b false), (.call 46 [] [.val false [.seq (eL e_GExpr a0.Kids)], .val false [.seq (eL e_GExpr a1.Kids)]], .r (.val false [.bool false]) []), (.notB false, .b true)] rfl fd_11 (by kernel_rfl) ⟨(A.eqI_t c1), rfl, (A.eqI_t c2), rfl, (A.call (ok_laws_eqByteS a0.S a1.S _ hr3)), rfl, (A.call (ok_laws_eqByteSS a0.K a1.K _ hr5)), rfl, (A.call (H_laws_eqExprS a0.Kids a1.Kids _ hr7)), rfl, trivial⟩
        | false =>
          try dsimp only at h
          obtain rfl := Option.some.inj h
          exact call_way cfg [(.eqI a0.Kind a1.Kind, .b true), (.notB true, .b false), (.eqI a0.N a1.N, .b true), (.notB true, .b false), (.call 21 [] [.val false [.seq (eL e_u8 a0.S)], .val false [.seq (eL e_u8 a1.S)]], .r (.val false [.bool true]) []), (.notB true, .b false), (.call 45 [] [.val false [.seq (eL (e_sl e_u8) a0.K)], .val false [.seq (eL (e_sl e_u8) a1.K)]], .r (.val false [.bool false]) []), (.notB false, .b true)] rfl fd_11 (by kernel_rfl) ⟨(A.eqI_t c1), rfl, (A.eqI_t c2), rfl, (A.call (ok_laws_eqByteS a0.S a1.S _ hr3)), rfl, (A.call (ok_laws_eqByteSS a0.K a1.K _ hr5)), rfl, trivial⟩
      | false =>
        try dsimp only at h
        obtain rfl := Option.some.inj h
        exact call_way cfg [(.eqI a0.Kind a1.Kind, .b true), (.notB true, .b false), (.eqI a0.N a1.N, .b true), (.notB true, .b false), (.call 21 [] [.val false [.seq (eL e_u8 a0.S)], .val false [.seq (eL e_u8 a1.S)]], .r (.val false [.bool false]) []), (.notB false, .b true)] rfl fd_11 (by kernel_rfl) ⟨(A.eqI_t c1), rfl, (A.eqI_t c2), rfl, (A.call (ok_laws_eqByteS a0.S a1.S _ hr3)), rfl, trivial⟩
    · rw [if_neg c2] at h
      obtain rfl := Option.some.inj h
      exact call_way cfg [(.eqI a0.Kind a1.Kind, .b true), (.notB true, .b false), (.eqI a0.N a1.N, .b false), (.notB false, .b true)] rfl fd_11 (by kernel_rfl) ⟨(A.eqI_t c1), rfl, (A.eqI_f c2), rfl, trivial⟩
  · rw [if_neg c1] at h
    obtain rfl := Option.some.inj h
    exact call_way cfg [(.eqI a0.Kind a1.Kind, .b false), (.notB false, .b true)] rfl fd_11 (by kernel_rfl) ⟨(A.eqI_f c1), rfl, trivial⟩

mutual
def U_laws_eqExprS : Nat → (List GExpr) → (List GExpr) → Option Bool
  | 0, _, _ => none
  | n + 1, a0, a1 => T_laws_eqExprS (U_laws_eqExpr n) n a0 a1
def U_laws_eqExpr : Nat → GExpr → GExpr → Option Bool
  | 0, _, _ => none
  | n + 1, a0, a1 => T_laws_eqExpr (U_laws_eqExprS n) a0 a1
end
theorem rec_laws_eqExprS (n : Nat) : (∀ (a0 : (List GExpr)) (a1 : (List GExpr)) (r : Bool), U_laws_eqExprS n a0 a1 = some r → (mach cfg).call 46 [] [.val false [.seq (eL e_GExpr a0)], .val false [.seq (eL e_GExpr a1)]] = some (.val false [.bool r], [])) ∧ (∀ (a0 : GExpr) (a1 : GExpr) (r : Bool), U_laws_eqExpr n a0 a1 = some r → (mach cfg).call 11 [] [.val true [.int .i64 a0.Kind, .int .i64 a0.N, .seq (eL e_u8 a0.S), .seq (eL (e_sl e_u8) a0.K), .seq (eL e_GExpr a0.Kids)], .val true [.int .i64 a1.Kind, .int .i64 a1.N, .seq (eL e_u8 a1.S), .seq (eL (e_sl e_u8) a1.K), .seq (eL e_GExpr a1.Kids)]] = some (.val false [.bool r], [])) := by
  induction n with
  | zero => exact ⟨fun _ _ _ h => (by rw [U_laws_eqExprS] at h; cases h), fun _ _ _ h => (by rw [U_laws_eqExpr] at h; cases h)⟩
  | succ n ih =>
    obtain ⟨ih_laws_eqExprS, ih_laws_eqExpr⟩ := ih
    exact ⟨fun a0 a1 r h => g_laws_eqExprS (U_laws_eqExpr n) ih_laws_eqExpr n a0 a1 r (by rw [U_laws_eqExprS] at h; exact h),
      fun a0 a1 r h => g_laws_eqExpr (U_laws_eqExprS n) ih_laws_eqExprS a0 a1 r (by rw [U_laws_eqExpr] at h; exact h)⟩
theorem eqExprS_T {G : GExpr → GExpr → Option Bool} {a : List GExpr} {f : Nat} (ha : a.length ≤ 2 ^ 40) (hf : a.length < f) (hG : ∀ v ∈ a, G v v = some true) : T_laws_eqExprS G f a a = some true := by
  have loop : ∀ (d i m : Nat), i + d = a.length → d < m → ∃ z, L_laws_eqExprS_l0 G a a m (i : Int) = some (.inr z) := by
    intro d
    induction d with
    | zero =>
      intro i m hi hm
      obtain ⟨m, rfl, _⟩ := fuel hm
      exact ⟨_, by rw [L_laws_eqExprS_l0, if_neg (by omega)]⟩
    | succ d ih =>
      intro i m hi hm
      obtain ⟨m, rfl, hm'⟩ := fuel hm
      have hil : i < a.length := by omega
      rw [L_laws_eqExprS_l0, if_pos (by omega), natO_nat, Option.bind_some, get_some hil, Option.bind_some, Option.bind_some, hG _ (List.getElem_mem hil), Option.bind_some, w64_succ (by omega)]
      exact ih (i + 1) m (by omega) (by omega)
  obtain ⟨z, hz⟩ := loop a.length 0 f (by omega) (by omega)
  rw [show ((0 : Nat) : Int) = 0 from rfl] at hz
  unfold T_laws_eqExprS
  rw [if_pos rfl, hz]; rfl
theorem eqExpr_U : ∀ (N : Nat) (v : GExpr), xsz v < N → xsz v ≤ 2 ^ 40 → ∀ f : Nat, 2 * xsz v + 3 ≤ f → U_laws_eqExpr f v v = some true := by
  intro N
  induction N with
  | zero => intro v hv; omega
  | succ N ih =>
    intro v hv hs f hf
    obtain ⟨f, rfl, _⟩ := fuel (show 0 < f by omega)
    obtain ⟨f, rfl, _⟩ := fuel (show 0 < f by omega)
    have he := xsz_eq v
    have hl := xszs_len v.Kids
    rw [U_laws_eqExpr]
    unfold T_laws_eqExpr S_laws_eqByteS S_laws_eqByteSS
    rw [if_pos rfl, if_pos rfl, if_pos (show v.S = v.S ∧ v.S.length ≤ 2 ^ 40 from ⟨rfl, by omega⟩), Option.bind_some]
    dsimp only
    rw [if_pos (show v.K = v.K ∧ bsz v.K ≤ 2 ^ 40 from ⟨rfl, by omega⟩), Option.bind_some]
    dsimp only
    rw [U_laws_eqExprS, eqExprS_T (by omega) (by omega) fun x hx => ?_]
    · rfl
    · have := xszs_mem hx
      exact ih x (by omega) (by omega) f (by omega)
open Classical in
noncomputable def S_laws_eqExprS (a0 : (List GExpr)) (a1 : (List GExpr)) : Option Bool := if a0 = a1 ∧ xszs a0 ≤ 2 ^ 40 then some true else none
theorem spec_laws_eqExprS (a0 : (List GExpr)) (a1 : (List GExpr)) (r : Bool) (h : S_laws_eqExprS a0 a1 = some r) : ∃ n, U_laws_eqExprS n a0 a1 = some r := by
  unfold S_laws_eqExprS at h
  obtain ⟨⟨he, ha⟩, h2⟩ := need_c h
  clear h
  subst he
  have hl := xszs_len a0
  refine ⟨2 * xszs a0 + 5, ?_⟩
  rw [U_laws_eqExprS, eqExprS_T (by omega) (by omega) fun x hx => ?_, h2]
  have := xszs_mem hx
  exact eqExpr_U _ x (Nat.lt_succ_self _) (by omega) _ (by omega)
open Classical in
noncomputable def S_laws_eqExpr (a0 : GExpr) (a1 : GExpr) : Option Bool := if a0 = a1 ∧ xsz a0 ≤ 2 ^ 40 then some true else none
theorem spec_laws_eqExpr (a0 : GExpr) (a1 : GExpr) (r : Bool) (h : S_laws_eqExpr a0 a1 = some r) : ∃ n, U_laws_eqExpr n a0 a1 = some r := by
  unfold S_laws_eqExpr at h
  obtain ⟨⟨he, ha⟩, h2⟩ := need_c h
  clear h
  subst he
  exact ⟨2 * xsz a0 + 3, by rw [← h2]; exact eqExpr_U _ a0 (Nat.lt_succ_self _) ha _ (Nat.le_refl _)⟩
theorem ok_laws_eqExprS (a0 : (List GExpr)) (a1 : (List GExpr)) (r : Bool) (h : S_laws_eqExprS a0 a1 = some r) : (mach cfg).call 46 [] [.val false [.seq (eL e_GExpr a0)], .val false [.seq (eL e_GExpr a1)]] = some (.val false [.bool r], []) := by
  obtain ⟨n, hn⟩ := spec_laws_eqExprS a0 a1 r h
  exact (rec_laws_eqExprS n).1 a0 a1 r hn
theorem ok_laws_eqExpr (a0 : GExpr) (a1 : GExpr) (r : Bool) (h : S_laws_eqExpr a0 a1 = some r) : (mach cfg).call 11 [] [.val true [.int .i64 a0.Kind, .int .i64 a0.N, .seq (eL e_u8 a0.S), .seq (eL (e_sl e_u8) a0.K), .seq (eL e_GExpr a0.Kids)], .val true [.int .i64 a1.Kind, .int .i64 a1.N, .seq (eL e_u8 a1.S), .seq (eL (e_sl e_u8) a1.K), .seq (eL e_GExpr a1.Kids)]] = some (.val false [.bool r], []) := by
  obtain ⟨n, hn⟩ := spec_laws_eqExpr a0 a1 r h
  exact (rec_laws_eqExprS n).2 a0 a1 r hn
def L_laws_eqValueS_l0 (G_laws_eqValue : GValue → GValue → Option Bool) (a0 : (List GValue)) (a1 : (List GValue)) : Nat → Int → Option (Bool ⊕ Int)
  | 0, _ => none
  | m + 1, v2 =>
    if v2 < ((a0.length : Nat) : Int) then
      (natO v2).bind fun i2 =>
      (a0[i2]?).bind fun x3 =>
      (a1[i2]?).bind fun x4 =>
      (G_laws_eqValue x3 x4).bind fun r5 =>
      match r5 with
      | true =>
        L_laws_eqValueS_l0 G_laws_eqValue a0 a1 m (w64 (v2 + 1))
      | false =>
        some (.inl false)
    else
      some (.inr v2)

theorem gl_laws_eqValueS_l0 (G_laws_eqValue : GValue → GValue → Option Bool) (H_laws_eqValue : ∀ (a0 : GValue) (a1 : GValue) (r : Bool), G_laws_eqValue a0 a1 = some r → (mach cfg).call 12 [] [.val true [.int .i64 a0.Kind, .int .i64 a0.N, .seq (eL e_u8 a0.S), .seq (eL (e_sl e_u8) a0.K), .seq (eL e_GValue a0.L)], .val true [.int .i64 a1.Kind, .int .i64 a1.N, .seq (eL e_u8 a1.S), .seq (eL (e_sl e_u8) a1.K), .seq (eL e_GValue a1.L)]] = some (.val false [.bool r], [])) (a0 : (List GValue)) (a1 : (List GValue)) (m : Nat) : ∀ (v2 : Int) (o : (Bool ⊕ Int)), L_laws_eqValueS_l0 G_laws_eqValue a0 a1 m v2 = some o → (mach cfg).loop 27 (loopB Try.f27 0) ⟨[(0, .val false [.seq (eL e_GValue a0)]), (1, .val false [.seq (eL e_GValue a1)]), (5, .val false [.int .i64 v2])], [], 0⟩ = some (match o with | .inl o_0 => (.ret, (⟨[(4, .val false [.bool o_0])], [], 0⟩ : S)) | .inr (o_1) => (.exit 0, (⟨[(0, .val false [.seq (eL e_GValue a0)]), (1, .val false [.seq (eL e_GValue a1)]), (5, .val false [.int .i64 o_1]), (14, .val false [.bool false])], [], 0⟩ : S))) := by
  induction m with
  | zero => intro v2 o h; cases h
  | succ m ih =>
    intro v2 o h
    rw [L_laws_eqValueS_l0] at h
    by_cases c1 : v2 < ((a0.length : Nat) : Int)
    · rw [if_pos c1] at h
      obtain ⟨i2, hi2, h⟩ := Option.bind_eq_some_iff.1 h
      obtain ⟨x3, hx3, h⟩ := Option.bind_eq_some_iff.1 h
      obtain ⟨x4, hx4, h⟩ := Option.bind_eq_some_iff.1 h
      obtain ⟨r5, hr5, h⟩ := Option.bind_eq_some_iff.1 h
      cases r5 with
      | true =>
        try dsimp only at h
        exact loop_on cfg [(.len (eL e_GValue a0), .i ((a0.length : Nat) : Int)), (.ltI v2 ((a0.length : Nat) : Int), .b true), (.nat v2, .n i2), (.idx (eL e_GValue a0) i2, .e [.int .i64 x3.Kind, .int .i64 x3.N, .seq (eL e_u8 x3.S), .seq (eL (e_sl e_u8) x3.K), .seq (eL e_GValue x3.L)]), (.nat v2, .n i2), (.idx (eL e_GValue a1) i2, .e [.int .i64 x4.Kind, .int .i64 x4.N, .seq (eL e_u8 x4.S), .seq (eL (e_sl e_u8) x4.K), .seq (eL e_GValue x4.L)]), (.call 12 [] [.val true [.int .i64 x3.Kind, .int .i64 x3.N, .seq (eL e_u8 x3.S), .seq (eL (e_sl e_u8) x3.K), .seq (eL e_GValue x3.L)], .val true [.int .i64 x4.Kind, .int .i64 x4.N, .seq (eL e_u8 x4.S), .seq (eL (e_sl e_u8) x4.K), .seq (eL e_GValue x4.L)]], .r (.val false [.bool true]) []), (.notB true, .b false), (.add .i64 v2 1, .i (w64 (v2 + 1)))] (by kernel_rfl) ⟨A.len, (A.ltI_t c1), (A.nat hi2), (A.idx hx3 (eq_GValue x3)), (A.nat hi2), (A.idx hx4 (eq_GValue x4)), (A.call (H_laws_eqValue x3 x4 _ hr5)), rfl, rfl, trivial⟩ (ih (w64 (v2 + 1)) o h)
      | false =>
        try dsimp only at h
        obtain rfl := Option.some.inj h
        exact loop_end cfg [(.len (eL e_GValue a0), .i ((a0.length : Nat) : Int)), (.ltI v2 ((a0.length : Nat) : Int), .b true), (.nat v2, .n i2), (.idx (eL e_GValue a0) i2, .e [.int .i64 x3.Kind, .int .i64 x3.N, .seq (eL e_u8 x3.S), .seq (eL (e_sl e_u8) x3.K), .seq (eL e_GValue x3.L)]), (.nat v2, .n i2), (.idx (eL e_GValue a1) i2, .e [.int .i64 x4.Kind, .int .i64 x4.N, .seq (eL e_u8 x4.S), .seq (eL (e_sl e_u8) x4.K), .seq (eL e_GValue x4.L)]), (.call 12 [] [.val true [.int .i64 x3.Kind, .int .i64 x3.N, .seq (eL e_u8 x3.S), .seq (eL (e_sl e_u8) x3.K), .seq (eL e_GValue x3.L)], .val true [.int .i64 x4.Kind, .int .i64 x4.N, .seq (eL e_u8 x4.S), .seq (eL (e_sl e_u8) x4.K), .seq (eL e_GValue x4.L)]], .r (.val false [.bool false]) []), (.notB false, .b true)] (by kernel_rfl) ⟨A.len, (A.ltI_t c1), (A.nat hi2), (A.idx hx3 (eq_GValue x3)), (A.nat hi2), (A.idx hx4 (eq_GValue x4)), (A.call (H_laws_eqValue x3 x4 _ hr5)), rfl, trivial⟩ (by intro h; cases h)
    · rw [if_neg c1] at h
      obtain rfl := Option.some.inj h
      exact loop_end cfg [(.len (eL e_GValue a0), .i ((a0.length : Nat) : Int)), (.ltI v2 ((a0.length : Nat) : Int), .b false)] (by kernel_rfl) ⟨A.len, (A.ltI_f c1), trivial⟩ (by intro h; cases h)

def T_laws_eqValueS (G_laws_eqValue : GValue → GValue → Option Bool) (n : Nat) (a0 : (List GValue)) (a1 : (List GValue)) : Option Bool :=
  if ((a0.length : Nat) : Int) = ((a1.length : Nat) : Int) then
    (L_laws_eqValueS_l0 G_laws_eqValue a0 a1 n 0).bind fun o2 =>
    match o2 with
    | .inl o2_0 =>
      some o2_0
    | .inr (o2_1) =>
      some true
  else
    some false

set_option maxRecDepth 100000 in
theorem fd_27 : cfg.funcs 27 = some (bodyOf Try.f27, Try.f27.ntmps, Try.f27.results.toList) := fn_of Try.func27 (by kernel_rfl) (by kernel_rfl)
theorem g_laws_eqValueS (G_laws_eqValue : GValue → GValue → Option Bool) (H_laws_eqValue : ∀ (a0 : GValue) (a1 : GValue) (r : Bool), G_laws_eqValue a0 a1 = some r → (mach cfg).call 12 [] [.val true [.int .i64 a0.Kind, .int .i64 a0.N, .seq (eL e_u8 a0.S), .seq (eL (e_sl e_u8) a0.K), .seq (eL e_GValue a0.L)], .val true [.int .i64 a1.Kind, .int .i64 a1.N, .seq (eL e_u8 a1.S), .seq (eL (e_sl e_u8) a1.K), .seq (eL e_GValue a1.L)]] = some (.val false [.bool r], [])) (n : Nat) (a0 : (List GValue)) (a1 : (List GValue)) (r : Bool) (h : T_laws_eqValueS G_laws_eqValue n a0 a1 = some r) : (mach cfg).call 27 [] [.val false [.seq (eL e_GValue a0)], .val false [.seq (eL e_GValue a1)]] = some (.val false [.bool r], []) := by
  unfold T_laws_eqValueS at h
  by_cases c1 : ((a0.length : Nat) : Int) = ((a1.length : Nat) : Int)
  · rw [if_pos c1] at h
    obtain ⟨o2, ho2, h⟩ := Option.bind_eq_some_iff.1 h
    rcases o2 with o2_0 | o2_1
    · try dsimp only at h
      obtain rfl := Option.some.inj h
      exact call_way cfg [(.len (eL e_GValue a0), .i ((a0.length : Nat) : Int)), (.len (eL e_GValue a1), .i ((a1.length : Nat) : Int)), (.eqI ((a0.length : Nat) : Int) ((a1.length : Nat) : Int), .b true), (.notB true, .b false), (.loop 27 (loopB Try.f27 0) ⟨[(0, .val false [.seq (eL e_GValue a0)]), (1, .val false [.seq (eL e_GValue a1)]), (5, .val false [.int .i64 0])], [], 0⟩, .x (.ret) ⟨[(4, .val false [.bool o2_0])], [], 0⟩)] rfl fd_27 (by kernel_rfl) ⟨A.len, A.len, (A.eqI_t c1), rfl, (A.loop (gl_laws_eqValueS_l0 G_laws_eqValue H_laws_eqValue a0 a1 _ 0 _ ho2)), trivial⟩
    · try dsimp only at h
      obtain rfl := Option.some.inj h
      exact call_way cfg [(.len (eL e_GValue a0), .i ((a0.length : Nat) : Int)), (.len (eL e_GValue a1), .i ((a1.length : Nat) : Int)), (.eqI ((a0.length : Nat) : Int) ((a1.length : Nat) : Int), .b true), (.notB true, .b false), (.loop 27 (loopB Try.f27 0) ⟨[(0, .val false [.seq (eL e_GValue a0)]), (1, .val false [.seq (eL e_GValue a1)]), (5, .val false [.int .i64 0])], [], 0⟩, .x (.exit 0) ⟨[(0, .val false [.seq (eL e_GValue a0)]), (1, .val false [.seq (eL e_GValue a1)]), (5, .val false [.int .i64 o2_1]), (14, .val false [.bool false])], [], 0⟩)] rfl fd_27 (by kernel_rfl) ⟨A.len, A.len, (A.eqI_t c1), rfl, (A.loop (gl_laws_eqValueS_l0 G_laws_eqValue H_laws_eqValue a0 a1 _ 0 _ ho2)), trivial⟩
  · rw [if_neg c1] at h
    obtain rfl := Option.some.inj h
    exact call_way cfg [(.len (eL e_GValue a0), .i ((a0.length : Nat) : Int)), (.len (eL e_GValue a1), .i ((a1.length : Nat) : Int)), (.eqI ((a0.length : Nat) : Int) ((a1.length : Nat) : Int), .b false), (.notB false, .b true)] rfl fd_27 (by kernel_rfl) ⟨A.len, A.len, (A.eqI_f c1), rfl, trivial⟩

def T_laws_eqValue (G_laws_eqValueS : (List GValue) → (List GValue) → Option Bool) (a0 : GValue) (a1 : GValue) : Option Bool :=
  if a0.Kind = a1.Kind then
    if a0.N = a1.N then
      (S_laws_eqByteS a0.S a1.S).bind fun r3 =>
      match r3 with
      | true =>
        (S_laws_eqByteSS a0.K a1.K).bind fun r5 =>
        match r5 with
        | true =>
          (G_laws_eqValueS a0.L a1.L).bind fun r7 =>
          match r7 with
          | true =>
            some true
          | false =>
            some false
        | false =>
          some false
      | false =>
        some false
    else
      some false
  else
    some false

set_option maxRecDepth 100000 in
theorem fd_12 : cfg.funcs 12 = some (bodyOf Try.f12, Try.f12.ntmps, Try.f12.results.toList) := fn_of Try.func12 (by kernel_rfl) (by kernel_rfl)
theorem g_laws_eqValue (G_laws_eqValueS : (List GValue) → (List GValue) → Option Bool) (H_laws_eqValueS : ∀ (a0 : (List GValue)) (a1 : (List GValue)) (r : Bool), G_laws_eqValueS a0 a1 = some r → (mach cfg).call 27 [] [.val false [.seq (eL e_GValue a0)], .val false [.seq (eL e_GValue a1)]] = some (.val false [.bool r], [])) (a0 : GValue) (a1 : GValue) (r : Bool) (h : T_laws_eqValue G_laws_eqValueS a0 a1 = some r) : (mach cfg).call 12 [] [.val true [.int .i64 a0.Kind, .int .i64 a0.N, .seq (eL e_u8 a0.S), .seq (eL (e_sl e_u8) a0.K), .seq (eL e_GValue a0.L)], .val true [.int .i64 a1.Kind, .int .i64 a1.N, .seq (eL e_u8 a1.S), .seq (eL (e_sl e_u8) a1.K), .seq (eL e_GValue a1.L)]] = some (.val false [.bool r], []) := by
  unfold T_laws_eqValue at h
  by_cases c1 : a0.Kind = a1.Kind
  · rw [if_pos c1] at h
    by_cases c2 : a0.N = a1.N
    · rw [if_pos c2] at h
      obtain ⟨r3, hr3, h⟩ := Option.bind_eq_some_iff.1 h
      cases r3 with
      | true =>
        try dsimp only at h
        obtain ⟨r5, hr5, h⟩ := Option.bind_eq_some_iff.1 h
        cases r5 with
        | true =>
          try dsimp only at h
          obtain ⟨r7, hr7, h⟩ := Option.bind_eq_some_iff.1 h
          cases r7 with
          | true =>
            try dsimp only at h
            obtain rfl := Option.some.inj h
            exact call_way cfg [(.eqI a0.Kind a1.Kind, .b true), (.notB true, .b false), (.eqI a0.N a1.N, .b true), (.notB true, .b false), (.call 21 [] [.val false [.seq (eL e_u8 a0.S)], .val false [.seq (eL e_u8 a1.S)]], .r (.val false [.bool true]) []), (.notB true, .b false), (.call 45 [] [.val false [.seq (eL (e_sl e_u8) a0.K)], .val false [.seq (eL (e_sl e_u8) a1.K)]], .r (.val false [.bool true]) []), (.notB true, .b false), (.call 27 [] [.val false [.seq (eL e_GValue a0.L)], .val false [.seq (eL e_GValue a1.L)]], .r (.val false [.bool true]) []), (.notB true, .b false)] rfl fd_12 (by kernel_rfl) ⟨(A.eqI_t c1), rfl, (A.eqI_t c2), rfl, (A.call (ok_laws_eqByteS a0.S a1.S _ hr3)), rfl, (A.call (ok_laws_eqByteSS a0.K a1.K _ hr5)), rfl, (A.call (H_laws_eqValueS a0.L a1.L _ hr7)), rfl, trivial⟩
          | false =>
            try dsimp only at h
            obtain rfl := Option.some.inj h
            exact call_way cfg [(.eqI a0.Kind a1.Kind, .b true), (.notB true, .b false), (.eqI a0.N a1.N, .b true), (.notB true, .b false), (.call 21 [] [.val false [.seq (eL e_u8 a0.S)], .val false [.seq (eL e_u8 a1.S)]], .r (.val false [.bool true]) []), (.notB true, .b false), (.call 45 [] [.val false [.seq (eL (e_sl e_u8) a0.K)], .val false [.seq (eL (e_sl e_u8) a1.K)]], .r (.val false [.bool true]) []), (.notB true, .b false), (.call 27 [] [.val false [.seq (eL e_GValue a0.L)], .val false [.seq (eL e_GValue a1.L)]], .r (.val false [.bool false]) []), (.notB false, .b true)] rfl fd_12 (by kernel_rfl) ⟨(A.eqI_t c1), rfl, (A.eqI_t c2), rfl, (A.call (ok_laws_eqByteS a0.S a1.S _ hr3)), rfl, (A.call (ok_laws_eqByteSS a0.K a1.K _ hr5)), rfl, (A.call (H_laws_eqValueS a0.L a1.L _ hr7)), rfl, trivial⟩
        | false =>
          try dsimp only at h
          obtain rfl := Option.some.inj h
          exact call_way cfg [(.eqI a0.Kind a1.Kind, .b true), (.notB true, .b false), (.eqI a0.N a1.N, .b true), (.notB true, .b false), (.call 21 [] [.val false [.seq (eL e_u8 a0.S)], .val false [.seq (eL e_u8 a1.S)]], .r (.val false [.bool true]) []), (.notB true, .b false), (.call 45 [] [.val false [.seq (eL (e_sl e_u8) a0.K)], .val false [.seq (eL (e_sl e_u8) a1.K)]], .r (.val false [.bool false]) []), (.notB false, .b true)] rfl fd_12 (by kernel_rfl) ⟨(A.eqI_t c1), rfl, (A.eqI_t c2), rfl, (A.call (ok_laws_eqByteS a0.S a1.S _ hr3)), rfl, (A.call (ok_laws_eqByteSS a0.K a1.K _ hr5)), rfl, trivial⟩
      | false =>
        try dsimp only at h
        obtain rfl := Option.some.inj h
        exact call_way cfg [(.eqI a0.Kind a1.Kind, .b true), (.notB true, .b false), (.eqI a0.N a1.N, .b true), (.notB true, .b false), (.call 21 [] [.val false [.seq (eL e_u8 a0.S)], .val false [.seq (eL e_u8 a1.S)]], .r (.val false [.bool false]) []), (.notB false, .b true)] rfl fd_12 (by kernel_rfl) ⟨(A.eqI_t c1), rfl, (A.eqI_t c2), rfl, (A.call (ok_laws_eqByteS a0.S a1.S _ hr3)), rfl, trivial⟩
    · rw [if_neg c2] at h
      obtain rfl := Option.some.inj h
      exact call_way cfg [(.eqI a0.Kind a1.Kind, .b true), (.notB true, .b false), (.eqI a0.N a1.N, .b false), (.notB false, .b true)] rfl fd_12 (by kernel_rfl) ⟨(A.eqI_t c1), rfl, (A.eqI_f c2), rfl, trivial⟩
  · rw [if_neg c1] at h
    obtain rfl := Option.some.inj h
    exact call_way cfg [(.eqI a0.Kind a1.Kind, .b false), (.notB false, .b true)] rfl fd_12 (by kernel_rfl) ⟨(A.eqI_f c1), rfl, trivial⟩

mutual
def U_laws_eqValueS : Nat → (List GValue) → (List GValue) → Option Bool
  | 0, _, _ => none
  | n + 1, a0, a1 => T_laws_eqValueS (U_laws_eqValue n) n a0 a1
def U_laws_eqValue : Nat → GValue → GValue → Option Bool
  | 0, _, _ => none
  | n + 1, a0, a1 => T_laws_eqValue (U_laws_eqValueS n) a0 a1
end
theorem rec_laws_eqValueS (n : Nat) : (∀ (a0 : (List GValue)) (a1 : (List GValue)) (r : Bool), U_laws_eqValueS n a0 a1 = some r → (mach cfg).call 27 [] [.val false [.seq (eL e_GValue a0)], .val false [.seq (eL e_GValue a1)]] = some (.val false [.bool r], [])) ∧ (∀ (a0 : GValue) (a1 : GValue) (r : Bool), U_laws_eqValue n a0 a1 = some r → (mach cfg).call 12 [] [.val true [.int .i64 a0.Kind, .int .i64 a0.N, .seq (eL e_u8 a0.S), .seq (eL (e_sl e_u8) a0.K), .seq (eL e_GValue a0.L)], .val true [.int .i64 a1.Kind, .int .i64 a1.N, .seq (eL e_u8 a1.S), .seq (eL (e_sl e_u8) a1.K), .seq (eL e_GValue a1.L)]] = some (.val false [.bool r], [])) := by
  induction n with
  | zero => exact ⟨fun _ _ _ h => (by rw [U_laws_eqValueS] at h; cases h), fun _ _ _ h => (by rw [U_laws_eqValue] at h; cases h)⟩
  | succ n ih =>
    obtain ⟨ih_laws_eqValueS, ih_laws_eqValue⟩ := ih
    exact ⟨fun a0 a1 r h => g_laws_eqValueS (U_laws_eqValue n) ih_laws_eqValue n a0 a1 r (by rw [U_laws_eqValueS] at h; exact h),
      fun a0 a1 r h => g_laws_eqValue (U_laws_eqValueS n) ih_laws_eqValueS a0 a1 r (by rw [U_laws_eqValue] at h; exact h)⟩
theorem eqValueS_T {G : GValue → GValue → Option Bool} {a : List GValue} {f : Nat} (ha : a.length ≤ 2 ^ 40) (hf : a.length < f) (hG : ∀ v ∈ a, G v v = some true) : T_laws_eqValueS G f a a = some true := by
  have loop : ∀ (d i m : Nat), i + d = a.length → d < m → ∃ z, L_laws_eqValueS_l0 G a a m (i : Int) = some (.inr z) := by
    intro d
    induction d with
    | zero =>
      intro i m hi hm
      obtain ⟨m, rfl, _⟩ := fuel hm
      exact ⟨_, by rw [L_laws_eqValueS_l0, if_neg (by omega)]⟩
    | succ d ih =>
      intro i m hi hm
      obtain ⟨m, rfl, hm'⟩ := fuel hm
      have hil : i < a.length := by omega
      rw [L_laws_eqValueS_l0, if_pos (by omega), natO_nat, Option.bind_some, get_some hil, Option.bind_some, Option.bind_some, hG _ (List.getElem_mem hil), Option.bind_some, w64_succ (by omega)]
      exact ih (i + 1) m (by omega) (by omega)
  obtain ⟨z, hz⟩ := loop a.length 0 f (by omega) (by omega)
  rw [show ((0 : Nat) : Int) = 0 from rfl] at hz
  unfold T_laws_eqValueS
  rw [if_pos rfl, hz]; rfl
theorem eqValue_U : ∀ (N : Nat) (v : GValue), vsz v < N → vsz v ≤ 2 ^ 40 → ∀ f : Nat, 2 * vsz v + 3 ≤ f → U_laws_eqValue f v v = some true := by
  intro N
  induction N with
  | zero => intro v hv; omega
  | succ N ih =>
    intro v hv hs f hf
    obtain ⟨f, rfl, _⟩ := fuel (show 0 < f by omega)
    obtain ⟨f, rfl, _⟩ := fuel (show 0 < f by omega)
    have he := vsz_eq v
    have hl := vszs_len v.L
    rw [U_laws_eqValue]
    unfold T_laws_eqValue S_laws_eqByteS S_laws_eqByteSS
    rw [if_pos rfl, if_pos rfl, if_pos (show v.S = v.S ∧ v.S.length ≤ 2 ^ 40 from ⟨rfl, by omega⟩), Option.bind_some]
    dsimp only
    rw [if_pos (show v.K = v.K ∧ bsz v.K ≤ 2 ^ 40 from ⟨rfl, by omega⟩), Option.bind_some]
    dsimp only
    rw [U_laws_eqValueS, eqValueS_T (by omega) (by omega) fun x hx => ?_]
    · rfl
    · have := vszs_mem hx
      exact ih x (by omega) (by omega) f (by omega)
open Classical in
noncomputable def S_laws_eqValueS (a0 : (List GValue)) (a1 : (List GValue)) : Option Bool := if a0 = a1 ∧ vszs a0 ≤ 2 ^ 40 then some true else none
theorem spec_laws_eqValueS (a0 : (List GValue)) (a1 : (List GValue)) (r : Bool) (h : S_laws_eqValueS a0 a1 = some r) : ∃ n, U_laws_eqValueS n a0 a1 = some r := by
  unfold S_laws_eqValueS at h
  obtain ⟨⟨he, ha⟩, h2⟩ := need_c h
  clear h
  subst he
  have hl := vszs_len a0
  refine ⟨2 * vszs a0 + 5, ?_⟩
  rw [U_laws_eqValueS, eqValueS_T (by omega) (by omega) fun x hx => ?_, h2]
  have := vszs_mem hx
  exact eqValue_U _ x (Nat.lt_succ_self _) (by omega) _ (by omega)
open Classical in
noncomputable def S_laws_eqValue (a0 : GValue) (a1 : GValue) : Option Bool := if a0 = a1 ∧ vsz a0 ≤ 2 ^ 40 then some true else none
theorem spec_laws_eqValue (a0 : GValue) (a1 : GValue) (r : Bool) (h : S_laws_eqValue a0 a1 = some r) : ∃ n, U_laws_eqValue n a0 a1 = some r := by
  unfold S_laws_eqValue at h
  obtain ⟨⟨he, ha⟩, h2⟩ := need_c h
  clear h
  subst he
  exact ⟨2 * vsz a0 + 3, by rw [← h2]; exact eqValue_U _ a0 (Nat.lt_succ_self _) ha _ (Nat.le_refl _)⟩
theorem ok_laws_eqValueS (a0 : (List GValue)) (a1 : (List GValue)) (r : Bool) (h : S_laws_eqValueS a0 a1 = some r) : (mach cfg).call 27 [] [.val false [.seq (eL e_GValue a0)], .val false [.seq (eL e_GValue a1)]] = some (.val false [.bool r], []) := by
  obtain ⟨n, hn⟩ := spec_laws_eqValueS a0 a1 r h
  exact (rec_laws_eqValueS n).1 a0 a1 r hn
theorem ok_laws_eqValue (a0 : GValue) (a1 : GValue) (r : Bool) (h : S_laws_eqValue a0 a1 = some r) : (mach cfg).call 12 [] [.val true [.int .i64 a0.Kind, .int .i64 a0.N, .seq (eL e_u8 a0.S), .seq (eL (e_sl e_u8) a0.K), .seq (eL e_GValue a0.L)], .val true [.int .i64 a1.Kind, .int .i64 a1.N, .seq (eL e_u8 a1.S), .seq (eL (e_sl e_u8) a1.K), .seq (eL e_GValue a1.L)]] = some (.val false [.bool r], []) := by
  obtain ⟨n, hn⟩ := spec_laws_eqValue a0 a1 r h
  exact (rec_laws_eqValueS n).2 a0 a1 r hn
def L_laws_markByteS_l0 : Nat → Int → Int → (List UInt8) → Option (Int × Int × (List UInt8))
  | 0, _, _, _ => none
  | m + 1, a0, v1, e0 =>
    if v1 < ((e0.length : Nat) : Int) then
      (natO v1).bind fun i2 =>
      (e0[i2]?).bind fun x3 =>
      L_laws_markByteS_l0 m (w64 (a0 + 1)) (w64 (v1 + 1)) (e0.set i2 (b8 a0))
    else
      some (a0, v1, e0)

theorem gl_laws_markByteS_l0 (m : Nat) : ∀ (a0 : Int) (v1 : Int) (e0 : (List UInt8)) (o : (Int × Int × (List UInt8))), L_laws_markByteS_l0 m a0 v1 e0 = some o → (mach cfg).loop 22 (loopB Try.f22 0) ⟨[(0, .val false [.ref 0]), (1, .val false [.int .i64 a0]), (5, .val false [.int .i64 v1])], [.obj 1 (eL e_u8 e0)], 1⟩ = some (match o with | ⟨o_0, o_1, o_2⟩ => (.exit 0, (⟨[(0, .val false [.ref 0]), (1, .val false [.int .i64 o_0]), (5, .val false [.int .i64 o_1]), (9, .val false [.bool false])], [.obj 1 (eL e_u8 o_2)], 1⟩ : S))) := by
  induction m with
  | zero => intro a0 v1 e0 o h; cases h
  | succ m ih =>
    intro a0 v1 e0 o h
    rw [L_laws_markByteS_l0] at h
    by_cases c1 : v1 < ((e0.length : Nat) : Int)
    · rw [if_pos c1] at h
      obtain ⟨i2, hi2, h⟩ := Option.bind_eq_some_iff.1 h
      obtain ⟨x3, hx3, h⟩ := Option.bind_eq_some_iff.1 h
      exact loop_on cfg [(.len (eL e_u8 e0), .i ((e0.length : Nat) : Int)), (.ltI v1 ((e0.length : Nat) : Int), .b true), (.conv .u8 a0, .i (((b8 a0).toNat : Nat) : Int)), (.nat v1, .n i2), (.idx (eL e_u8 e0) i2, .e [.int .u8 ((x3.toNat : Nat) : Int)]), (.idx (eL e_u8 e0) i2, .e [.int .u8 ((x3.toNat : Nat) : Int)]), (.setL (eL e_u8 e0) i2 [.int .u8 (((b8 a0).toNat : Nat) : Int)], .l (eL e_u8 (e0.set i2 (b8 a0)))), (.add .i64 a0 1, .i (w64 (a0 + 1))), (.add .i64 v1 1, .i (w64 (v1 + 1)))] (by kernel_rfl) ⟨A.len, (A.ltI_t c1), A.conv8, (A.nat hi2), (A.idx hx3 rfl), (A.idx hx3 rfl), (A.setL rfl), rfl, rfl, trivial⟩ (ih (w64 (a0 + 1)) (w64 (v1 + 1)) (e0.set i2 (b8 a0)) o h)
    · rw [if_neg c1] at h
      obtain rfl := Option.some.inj h
      exact loop_end cfg [(.len (eL e_u8 e0), .i ((e0.length : Nat) : Int)), (.ltI v1 ((e0.length : Nat) : Int), .b false)] (by kernel_rfl) ⟨A.len, (A.ltI_f c1), trivial⟩ (by intro h; cases h)

def T_laws_markByteS (n : Nat) (a0 : Int) (e0 : (List UInt8)) : Option (Int × (List UInt8)) :=
  (L_laws_markByteS_l0 n a0 0 e0).bind fun ⟨o1_0, o1_1, o1_2⟩ =>
  some (o1_0, o1_2)

set_option maxRecDepth 100000 in
theorem fd_22 : cfg.funcs 22 = some (bodyOf Try.f22, Try.f22.ntmps, Try.f22.results.toList) := fn_of Try.func22 (by kernel_rfl) (by kernel_rfl)
theorem g_laws_markByteS (n : Nat) (a0 : Int) (e0 : (List UInt8)) (r : (Int × (List UInt8))) (h : T_laws_markByteS n a0 e0 = some r) : (mach cfg).call 22 [.obj 1 (eL e_u8 e0)] [.val false [.ref 0], .val false [.int .i64 a0]] = some (.val false [.int .i64 r.1], [.obj 1 (eL e_u8 r.2)]) := by
  unfold T_laws_markByteS at h
  obtain ⟨⟨o1_0, o1_1, o1_2⟩, ho1, h⟩ := Option.bind_eq_some_iff.1 h
  try dsimp only at h
  obtain rfl := Option.some.inj h
  exact call_way cfg [(.loop 22 (loopB Try.f22 0) ⟨[(0, .val false [.ref 0]), (1, .val false [.int .i64 a0]), (5, .val false [.int .i64 0])], [.obj 1 (eL e_u8 e0)], 1⟩, .x (.exit 0) ⟨[(0, .val false [.ref 0]), (1, .val false [.int .i64 o1_0]), (5, .val false [.int .i64 o1_1]), (9, .val false [.bool false])], [.obj 1 (eL e_u8 o1_2)], 1⟩)] rfl fd_22 (by kernel_rfl) ⟨(A.loop (gl_laws_markByteS_l0 _ a0 0 e0 _ ho1)), trivial⟩

theorem markByteS_loop : ∀ (l p : List UInt8) (k : Int) (m : Nat), 0 ≤ k → k + 2 * l.length ≤ 2 ^ 41 → p.length + l.length ≤ 2 ^ 41 → l.length < m → ∃ z, L_laws_markByteS_l0 m k ((p.length : Nat) : Int) (p ++ l) = some (k + l.length, z, p ++ mB k l) := by
  intro l
  induction l with
  | nil =>
    intro p k m _ _ _ hm
    obtain ⟨m, rfl, _⟩ := fuel hm
    exact ⟨_, by rw [L_laws_markByteS_l0, if_neg (nlt_end p)]; simp [mB]; rfl⟩
  | cons x l ih =>
    intro p k m h0 h1 h2 hm
    obtain ⟨m, rfl, hm'⟩ := fuel hm
    simp only [List.length_cons] at h1 h2 hm'
    obtain ⟨z, hz⟩ := ih (p ++ [b8 k]) (k + 1) m (by omega) (by omega) (by simp; omega) (by omega)
    rw [L_laws_markByteS_l0, if_pos (lt_mid p x l), natO_nat, Option.bind_some, get_mid, Option.bind_some, set_mid, w64_len p (b8 k) (by omega), w64_id (x := k + 1) (by omega) (by omega), snoc_app p (b8 k) l, hz]
    refine ⟨z, ?_⟩
    rw [mB, snoc_app p (b8 k) (mB (k + 1) l)]
    simp only [List.length_cons]
    rw [show k + 1 + (l.length : Int) = k + ((l.length + 1 : Nat) : Int) by omega]
def S_laws_markByteS (a0 : Int) (e0 : (List UInt8)) : Option (Int × (List UInt8)) := if 0 ≤ a0 ∧ a0 + 2 * e0.length ≤ 2 ^ 41 then some (a0 + e0.length, mB a0 e0) else none
theorem markByteS_eq {a : Int} {s : List UInt8} (h0 : 0 ≤ a) (h1 : a + 2 * s.length ≤ 2 ^ 41) : S_laws_markByteS a s = some (a + s.length, mB a s) := if_pos ⟨h0, h1⟩
theorem spec_laws_markByteS (a0 : Int) (e0 : (List UInt8)) (r : (Int × (List UInt8))) (h : S_laws_markByteS a0 e0 = some r) : ∃ n, T_laws_markByteS n a0 e0 = some r := by
  unfold S_laws_markByteS at h
  obtain ⟨⟨h0, h1⟩, h⟩ := need_c h
  obtain ⟨z, hz⟩ := markByteS_loop e0 [] a0 (e0.length + 1) h0 h1 (by simp; omega) (by omega)
  refine ⟨e0.length + 1, ?_⟩
  unfold T_laws_markByteS
  simp only [List.nil_append, List.length_nil, Int.natCast_zero] at hz
  rw [hz]
  exact h
theorem ok_laws_markByteS (a0 : Int) (e0 : (List UInt8)) (r : (Int × (List UInt8))) (h : S_laws_markByteS a0 e0 = some r) : (mach cfg).call 22 [.obj 1 (eL e_u8 e0)] [.val false [.ref 0], .val false [.int .i64 a0]] = some (.val false [.int .i64 r.1], [.obj 1 (eL e_u8 r.2)]) := by
  obtain ⟨n, hn⟩ := spec_laws_markByteS a0 e0 r h
  exact g_laws_markByteS n a0 e0 r hn
def L_laws_markByteSS_l0 : Nat → Int → Int → (List (List UInt8)) → Option (Int × Int × (List (List UInt8)))
  | 0, _, _, _ => none
  | m + 1, a0, v1, e0 =>
    if v1 < ((e0.length : Nat) : Int) then
      (natO v1).bind fun i2 =>
      (e0[i2]?).bind fun x3 =>
      (S_laws_markByteS a0 x3).bind fun ⟨r4_0, r4_1⟩ =>
      L_laws_markByteSS_l0 m r4_0 (w64 (v1 + 1)) (e0.set i2 r4_1)
    else
      some (a0, v1, e0)

theorem gl_laws_markByteSS_l0 (m : Nat) : ∀ (a0 : Int) (v1 : Int) (e0 : (List (List UInt8))) (o : (Int × Int × (List (List UInt8)))), L_laws_markByteSS_l0 m a0 v1 e0 = some o → (mach cfg).loop 47 (loopB Try.f47 0) ⟨[(0, .val false [.ref 0]), (1, .val false [.int .i64 a0]), (5, .val false [.int .i64 v1])], [.obj 1 (eL (o_sl 1 e_u8) e0)], 1⟩ = some (match o with | ⟨o_0, o_1, o_2⟩ => (.exit 0, (⟨[(0, .val false [.ref 0]), (1, .val false [.int .i64 o_0]), (5, .val false [.int .i64 o_1]), (9, .val false [.bool false])], [.obj 1 (eL (o_sl 1 e_u8) o_2)], 1⟩ : S))) := by
  induction m with
  | zero => intro a0 v1 e0 o h; cases h
  | succ m ih =>
    intro a0 v1 e0 o h
    rw [L_laws_markByteSS_l0] at h
    by_cases c1 : v1 < ((e0.length : Nat) : Int)
    · rw [if_pos c1] at h
      obtain ⟨i2, hi2, h⟩ := Option.bind_eq_some_iff.1 h
      obtain ⟨x3, hx3, h⟩ := Option.bind_eq_some_iff.1 h
      obtain ⟨⟨r4_0, r4_1⟩, hr4, h⟩ := Option.bind_eq_some_iff.1 h
      try dsimp only at h
      exact loop_on cfg [(.len (eL (o_sl 1 e_u8) e0), .i ((e0.length : Nat) : Int)), (.ltI v1 ((e0.length : Nat) : Int), .b true), (.nat v1, .n i2), (.idx (eL (o_sl 1 e_u8) e0) i2, .e [.own 1 (eL e_u8 x3)]), (.idx (eL (o_sl 1 e_u8) e0) i2, .e [.own 1 (eL e_u8 x3)]), (.call 22 [.obj 1 (eL e_u8 x3)] [.val false [.ref 0], .val false [.int .i64 a0]], .r (.val false [.int .i64 r4_0]) [.obj 1 (eL e_u8 r4_1)]), (.idx (eL (o_sl 1 e_u8) e0) i2, .e [.own 1 (eL e_u8 x3)]), (.setL (eL (o_sl 1 e_u8) e0) i2 [.own 1 (eL e_u8 r4_1)], .l (eL (o_sl 1 e_u8) (e0.set i2 r4_1))), (.add .i64 v1 1, .i (w64 (v1 + 1)))] (by kernel_rfl) ⟨A.len, (A.ltI_t c1), (A.nat hi2), (A.idx hx3 rfl), (A.idx hx3 rfl), (A.call (ok_laws_markByteS a0 x3 _ hr4)), (A.idx hx3 rfl), (A.setL rfl), rfl, trivial⟩ (ih r4_0 (w64 (v1 + 1)) (e0.set i2 r4_1) o h)
    · rw [if_neg c1] at h
      obtain rfl := Option.some.inj h
      exact loop_end cfg [(.len (eL (o_sl 1 e_u8) e0), .i ((e0.length : Nat) : Int)), (.ltI v1 ((e0.length : Nat) : Int), .b false)] (by kernel_rfl) ⟨A.len, (A.ltI_f c1), trivial⟩ (by intro h; cases h)

def T_laws_markByteSS (n : Nat) (a0 : Int) (e0 : (List (List UInt8))) : Option (Int × (List (List UInt8))) :=
  (L_laws_markByteSS_l0 n a0 0 e0).bind fun ⟨o1_0, o1_1, o1_2⟩ =>
  some (o1_0, o1_2)

set_option maxRecDepth 100000 in
theorem fd_47 : cfg.funcs 47 = some (bodyOf Try.f47, Try.f47.ntmps, Try.f47.results.toList) := fn_of Try.func47 (by kernel_rfl) (by kernel_rfl)
theorem g_laws_markByteSS (n : Nat) (a0 : Int) (e0 : (List (List UInt8))) (r : (Int × (List (List UInt8)))) (h : T_laws_markByteSS n a0 e0 = some r) : (mach cfg).call 47 [.obj 1 (eL (o_sl 1 e_u8) e0)] [.val false [.ref 0], .val false [.int .i64 a0]] = some (.val false [.int .i64 r.1], [.obj 1 (eL (o_sl 1 e_u8) r.2)]) := by
  unfold T_laws_markByteSS at h
  obtain ⟨⟨o1_0, o1_1, o1_2⟩, ho1, h⟩ := Option.bind_eq_some_iff.1 h
  try dsimp only at h
  obtain rfl := Option.some.inj h
  exact call_way cfg [(.loop 47 (loopB Try.f47 0) ⟨[(0, .val false [.ref 0]), (1, .val false [.int .i64 a0]), (5, .val false [.int .i64 0])], [.obj 1 (eL (o_sl 1 e_u8) e0)], 1⟩, .x (.exit 0) ⟨[(0, .val false [.ref 0]), (1, .val false [.int .i64 o1_0]), (5, .val false [.int .i64 o1_1]), (9, .val false [.bool false])], [.obj 1 (eL (o_sl 1 e_u8) o1_2)], 1⟩)] rfl fd_47 (by kernel_rfl) ⟨(A.loop (gl_laws_markByteSS_l0 _ a0 0 e0 _ ho1)), trivial⟩

theorem markByteSS_loop : ∀ (l p : List (List UInt8)) (k : Int) (m : Nat), 0 ≤ k → k + 2 * bsz l ≤ 2 ^ 41 → p.length + l.length ≤ 2 ^ 41 → l.length < m → ∃ z, L_laws_markByteSS_l0 m k ((p.length : Nat) : Int) (p ++ l) = some (k + cB l, z, p ++ mBB k l) := by
  intro l
  induction l with
  | nil =>
    intro p k m _ _ _ hm
    obtain ⟨m, rfl, _⟩ := fuel hm
    exact ⟨_, by rw [L_laws_markByteSS_l0, if_neg (nlt_end p)]; simp [mBB, cB]; rfl⟩
  | cons x l ih =>
    intro p k m h0 h1 h2 hm
    obtain ⟨m, rfl, hm'⟩ := fuel hm
    rw [bsz_cons] at h1
    simp only [List.length_cons] at h2 hm'
    obtain ⟨z, hz⟩ := ih (p ++ [mB k x]) (k + x.length) m (by omega) (by omega) (by simp; omega) (by omega)
    rw [L_laws_markByteSS_l0, if_pos (lt_mid p x l), natO_nat, Option.bind_some, get_mid, Option.bind_some, markByteS_eq (by omega) (by omega), Option.bind_some]
    dsimp only
    rw [set_mid, w64_len p (mB k x) (by omega), snoc_app p (mB k x) l, hz]
    refine ⟨z, ?_⟩
    rw [mBB, snoc_app p (mB k x) (mBB (k + x.length) l), cB_cons]
    rw [show k + (x.length : Int) + (cB l : Int) = k + ((x.length + cB l : Nat) : Int) by omega]
def S_laws_markByteSS (a0 : Int) (e0 : (List (List UInt8))) : Option (Int × (List (List UInt8))) := if 0 ≤ a0 ∧ a0 + 2 * bsz e0 ≤ 2 ^ 41 then some (a0 + cB e0, mBB a0 e0) else none
theorem markByteSS_eq {a : Int} {s : List (List UInt8)} (h0 : 0 ≤ a) (h1 : a + 2 * bsz s ≤ 2 ^ 41) : S_laws_markByteSS a s = some (a + cB s, mBB a s) := if_pos ⟨h0, h1⟩
theorem spec_laws_markByteSS (a0 : Int) (e0 : (List (List UInt8))) (r : (Int × (List (List UInt8)))) (h : S_laws_markByteSS a0 e0 = some r) : ∃ n, T_laws_markByteSS n a0 e0 = some r := by
  unfold S_laws_markByteSS at h
  obtain ⟨⟨h0, h1⟩, h⟩ := need_c h
  have := bsz_len e0
  obtain ⟨z, hz⟩ := markByteSS_loop e0 [] a0 (e0.length + 1) h0 h1 (by simp; omega) (by omega)
  refine ⟨e0.length + 1, ?_⟩
  unfold T_laws_markByteSS
  simp only [List.nil_append, List.length_nil, Int.natCast_zero] at hz
  rw [hz]
  exact h
theorem ok_laws_markByteSS (a0 : Int) (e0 : (List (List UInt8))) (r : (Int × (List (List UInt8)))) (h : S_laws_markByteSS a0 e0 = some r) : (mach cfg).call 47 [.obj 1 (eL (o_sl 1 e_u8) e0)] [.val false [.ref 0], .val false [.int .i64 a0]] = some (.val false [.int .i64 r.1], [.obj 1 (eL (o_sl 1 e_u8) r.2)]) := by
  obtain ⟨n, hn⟩ := spec_laws_markByteSS a0 e0 r h
  exact g_laws_markByteSS n a0 e0 r hn
def L_laws_markValueS_l0 (G_laws_markValueS : Int → (List GValue) → Option (Int × (List GValue))) : Nat → Int → Int → (List GValue) → Option (Int × Int × (List GValue))
  | 0, _, _, _ => none
  | m + 1, a0, v1, e0 =>
    if v1 < ((e0.length : Nat) : Int) then
      (natO v1).bind fun i2 =>
      (e0[i2]?).bind fun x3 =>
      ((e0.set i2 (GValue.mk a0 x3.N x3.S x3.K x3.L))[i2]?).bind fun x4 =>
      (((e0.set i2 (GValue.mk a0 x3.N x3.S x3.K x3.L)).set i2 (GValue.mk x4.Kind (w64 (a0 + 1)) x4.S x4.K x4.L))[i2]?).bind fun x5 =>
      (S_laws_markByteS (w64 ((w64 (a0 + 1)) + 1)) x5.S).bind fun ⟨r6_0, r6_1⟩ =>
      ((((e0.set i2 (GValue.mk a0 x3.N x3.S x3.K x3.L)).set i2 (GValue.mk x4.Kind (w64 (a0 + 1)) x4.S x4.K x4.L)).set i2 (GValue.mk x5.Kind x5.N r6_1 x5.K x5.L))[i2]?).bind fun x7 =>
      (S_laws_markByteSS r6_0 x7.K).bind fun ⟨r8_0, r8_1⟩ =>
      (((((e0.set i2 (GValue.mk a0 x3.N x3.S x3.K x3.L)).set i2 (GValue.mk x4.Kind (w64 (a0 + 1)) x4.S x4.K x4.L)).set i2 (GValue.mk x5.Kind x5.N r6_1 x5.K x5.L)).set i2 (GValue.mk x7.Kind x7.N x7.S r8_1 x7.L))[i2]?).bind fun x9 =>
      (G_laws_markValueS r8_0 x9.L).bind fun ⟨r10_0, r10_1⟩ =>
      L_laws_markValueS_l0 G_laws_markValueS m r10_0 (w64 (v1 + 1)) (((((e0.set i2 (GValue.mk a0 x3.N x3.S x3.K x3.L)).set i2 (GValue.mk x4.Kind (w64 (a0 + 1)) x4.S x4.K x4.L)).set i2 (GValue.mk x5.Kind x5.N r6_1 x5.K x5.L)).set i2 (GValue.mk x7.Kind x7.N x7.S r8_1 x7.L)).set i2 (GValue.mk x9.Kind x9.N x9.S x9.K r10_1))
    else
      some (a0, v1, e0)

theorem gl_laws_markValueS_l0 (G_laws_markValueS : Int → (List GValue) → Option (Int × (List GValue))) (H_laws_markValueS : ∀ (a0 : Int) (e0 : (List GValue)) (r : (Int × (List GValue))), G_laws_markValueS a0 e0 = some r → (mach cfg).call 28 [.obj 5 (eL o_GValue e0)] [.val false [.ref 0], .val false [.int .i64 a0]] = some (.val false [.int .i64 r.1], [.obj 5 (eL o_GValue r.2)])) (m : Nat) : ∀ (a0 : Int) (v1 : Int) (e0 : (List GValue)) (o : (Int × Int × (List GValue))), L_laws_markValueS_l0 G_laws_markValueS m a0 v1 e0 = some o → (mach cfg).loop 28 (loopB Try.f28 0) ⟨[(0, .val false [.ref 0]), (1, .val false [.int .i64 a0]), (5, .val false [.int .i64 v1])], [.obj 5 (eL o_GValue e0)], 1⟩ = some (match o with | ⟨o_0, o_1, o_2⟩ => (.exit 0, (⟨[(0, .val false [.ref 0]), (1, .val false [.int .i64 o_0]), (5, .val false [.int .i64 o_1]), (9, .val false [.bool false])], [.obj 5 (eL o_GValue o_2)], 1⟩ : S))) := by
  induction m with
  | zero => intro a0 v1 e0 o h; cases h
  | succ m ih =>
    intro a0 v1 e0 o h
    rw [L_laws_markValueS_l0] at h
    by_cases c1 : v1 < ((e0.length : Nat) : Int)
    · rw [if_pos c1] at h
      obtain ⟨i2, hi2, h⟩ := Option.bind_eq_some_iff.1 h
      obtain ⟨x3, hx3, h⟩ := Option.bind_eq_some_iff.1 h
      obtain ⟨x4, hx4, h⟩ := Option.bind_eq_some_iff.1 h
      obtain ⟨x5, hx5, h⟩ := Option.bind_eq_some_iff.1 h
      obtain ⟨⟨r6_0, r6_1⟩, hr6, h⟩ := Option.bind_eq_some_iff.1 h
      try dsimp only at h
      obtain ⟨x7, hx7, h⟩ := Option.bind_eq_some_iff.1 h
      obtain ⟨⟨r8_0, r8_1⟩, hr8, h⟩ := Option.bind_eq_some_iff.1 h
      try dsimp only at h
      obtain ⟨x9, hx9, h⟩ := Option.bind_eq_some_iff.1 h
      obtain ⟨⟨r10_0, r10_1⟩, hr10, h⟩ := Option.bind_eq_some_iff.1 h
      try dsimp only at h
      exact loop_on cfg [(.len (eL o_GValue e0), .i ((e0.length : Nat) : Int)), (.ltI v1 ((e0.length : Nat) : Int), .b true), (.nat v1, .n i2), (.idx (eL o_GValue e0) i2, .e [.int .i64 x3.Kind, .int .i64 x3.N, .own 1 (eL e_u8 x3.S), .own 1 (eL (o_sl 1 e_u8) x3.K), .own 5 (eL o_GValue x3.L)]), (.idx (eL o_GValue e0) i2, .e [.int .i64 x3.Kind, .int .i64 x3.N, .own 1 (eL e_u8 x3.S), .own 1 (eL (o_sl 1 e_u8) x3.K), .own 5 (eL o_GValue x3.L)]), (.setL (eL o_GValue e0) i2 [.int .i64 a0, .int .i64 x3.N, .own 1 (eL e_u8 x3.S), .own 1 (eL (o_sl 1 e_u8) x3.K), .own 5 (eL o_GValue x3.L)], .l (eL o_GValue (e0.set i2 (GValue.mk a0 x3.N x3.S x3.K x3.L)))), (.add .i64 a0 1, .i (w64 (a0 + 1))), (.nat v1, .n i2), (.idx (eL o_GValue (e0.set i2 (GValue.mk a0 x3.N x3.S x3.K x3.L))) i2, .e [.int .i64 x4.Kind, .int .i64 x4.N, .own 1 (eL e_u8 x4.S), .own 1 (eL (o_sl 1 e_u8) x4.K), .own 5 (eL o_GValue x4.L)]), (.idx (eL o_GValue (e0.set i2 (GValue.mk a0 x3.N x3.S x3.K x3.L))) i2, .e [.int .i64 x4.Kind, .int .i64 x4.N, .own 1 (eL e_u8 x4.S), .own 1 (eL (o_sl 1 e_u8) x4.K), .own 5 (eL o_GValue x4.L)]), (.setL (eL o_GValue (e0.set i2 (GValue.mk a0 x3.N x3.S x3.K x3.L))) i2 [.int .i64 x4.Kind, .int .i64 (w64 (a0 + 1)), .own 1 (eL e_u8 x4.S), .own 1 (eL (o_sl 1 e_u8) x4.K), .own 5 (eL o_GValue x4.L)], .l (eL o_GValue ((e0.set i2 (GValue.mk a0 x3.N x3.S x3.K x3.L)).set i2 (GValue.mk x4.Kind (w64 (a0 + 1)) x4.S x4.K x4.L)))), (.add .i64 (w64 (a0 + 1)) 1, .i (w64 ((w64 (a0 + 1)) + 1))), (.nat v1, .n i2), (.idx (eL o_GValue ((e0.set i2 (GValue.mk a0 x3.N x3.S x3.K x3.L)).set i2 (GValue.mk x4.Kind (w64 (a0 + 1)) x4.S x4.K x4.L))) i2, .e [.int .i64 x5.Kind, .int .i64 x5.N, .own 1 (eL e_u8 x5.S), .own 1 (eL (o_sl 1 e_u8) x5.K), .own 5 (eL o_GValue x5.L)]), (.idx (eL o_GValue ((e0.set i2 (GValue.mk a0 x3.N x3.S x3.K x3.L)).set i2 (GValue.mk x4.Kind (w64 (a0 + 1)) x4.S x4.K x4.L))) i2, .e [.int .i64 x5.Kind, .int .i64 x5.N, .own 1 (eL e_u8 x5.S), .own 1 (eL (o_sl 1 e_u8) x5.K), .own 5 (eL o_GValue x5.L)]), (.call 22 [.obj 1 (eL e_u8 x5.S)] [.val false [.ref 0], .val false [.int .i64 (w64 ((w64 (a0 + 1)) + 1))]], .r (.val false [.int .i64 r6_0]) [.obj 1 (eL e_u8 r6_1)]), (.idx (eL o_GValue ((e0.set i2 (GValue.mk a0 x3.N x3.S x3.K x3.L)).set i2 (GValue.mk x4.Kind (w64 (a0 + 1)) x4.S x4.K x4.L))) i2, .e [.int .i64 x5.Kind, .int .i64 x5.N, .own 1 (eL e_u8 x5.S), .own 1 (eL (o_sl 1 e_u8) x5.K), .own 5 (eL o_GValue x5.L)]), (.setL (eL o_GValue ((e0.set i2 (GValue.mk a0 x3.N x3.S x3.K x3.L)).set i2 (GValue.mk x4.Kind (w64 (a0 + 1)) x4.S x4.K x4.L))) i2 [.int .i64 x5.Kind, .int .i64 x5.N, .own 1 (eL e_u8 r6_1), .own 1 (eL (o_sl 1 e_u8) x5.K), .own 5 (eL o_GValue x5.L)], .l (eL o_GValue (((e0.set i2 (GValue.mk a0 x3.N x3.S x3.K x3.L)).set i2 (GValue.mk x4.Kind (w64 (a0 + 1)) x4.S x4.K x4.L)).set i2 (GValue.mk x5.Kind x5.N r6_1 x5.K x5.L)))), (.nat v1, .n i2), (.idx (eL o_GValue (((e0.set i2 (GValue.mk a0 x3.N x3.S x3.K x3.L)).set i2 (GValue.mk x4.Kind (w64 (a0 + 1)) x4.S x4.K x4.L)).set i2 (GValue.mk x5.Kind x5.N r6_1 x5.K x5.L))) i2, .e [.int .i64 x7.Kind, .int .i64 x7.N, .own 1 (eL e_u8 x7.S), .own 1 (eL (o_sl 1 e_u8) x7.K), .own 5 (eL o_GValue x7.L)]), (.idx (eL o_GValue (((e0.set i2 (GValue.mk a0 x3.N x3.S x3.K x3.L)).set i2 (GValue.mk x4.Kind (w64 (a0 + 1)) x4.S x4.K x4.L)).set i2 (GValue.mk x5.Kind x5.N r6_1 x5.K x5.L))) i2, .e [.int .i64 x7.Kind, .int .i64 x7.N, .own 1 (eL e_u8 x7.S), .own 1 (eL (o_sl 1 e_u8) x7.K), .own 5 (eL o_GValue x7.L)]), (.call 47 [.obj 1 (eL (o_sl 1 e_u8) x7.K)] [.val false [.ref 0], .val false [.int .i64 r6_0]], .r (.val false [.int .i64 r8_0]) [.obj 1 (eL (o_sl 1 e_u8) r8_1)]), (.idx (eL o_GValue (((e0.set i2 (GValue.mk a0 x3.N x3.S x3.K x3.L)).set i2 (GValue.mk x4.Kind (w64 (a0 + 1)) x4.S x4.K x4.L)).set i2 (GValue.mk x5.Kind x5.N r6_1 x5.K x5.L))) i2, .e [.int .i64 x7.Kind, .int .i64 x7.N, .own 1 (eL e_u8 x7.S), .own 1 (eL (o_sl 1 e_u8) x7.K), .own 5 (eL o_GValue x7.L)]), (.setL (eL o_GValue (((e0.set i2 (GValue.mk a0 x3.N x3.S x3.K x3.L)).set i2 (GValue.mk x4.Kind (w64 (a0 + 1)) x4.S x4.K x4.L)).set i2 (GValue.mk x5.Kind x5.N r6_1 x5.K x5.L))) i2 [.int .i64 x7.Kind, .int .i64 x7.N, .own 1 (eL e_u8 x7.S), .own 1 (eL (o_sl 1 e_u8) r8_1), .own 5 (eL o_GValue x7.L)], .l (eL o_GValue ((((e0.set i2 (GValue.mk a0 x3.N x3.S x3.K x3.L)).set i2 (GValue.mk x4.Kind (w64 (a0 + 1)) x4.S x4.K x4.L)).set i2 (GValue.mk x5.Kind x5.N r6_1 x5.K x5.L)).set i2 (GValue.mk x7.Kind x7.N x7.S r8_1 x7.L)))), (.nat v1, .n i2), (.idx (eL o_GValue ((((e0.set i2 (GValue.mk a0 x3.N x3.S x3.K x3.L)).set i2 (GValue.mk x4.Kind (w64 (a0 + 1)) x4.S x4.K x4.L)).set i2 (GValue.mk x5.Kind x5.N r6_1 x5.K x5.L)).set i2 (GValue.mk x7.Kind x7.N x7.S r8_1 x7.L))) i2, .e [.int .i64 x9.Kind, .int .i64 x9.N, .own 1 (eL e_u8 x9.S), .own 1 (eL (o_sl 1 e_u8) x9.K), .own 5 (eL o_GValue x9.L)]), (.idx (eL o_GValue ((((e0.set i2 (GValue.mk a0 x3.N x3.S x3.K x3.L)).set i2 (GValue.mk x4.Kind (w64 (a0 + 1)) x4.S x4.K x4.L)).set i2 (GValue.mk x5.Kind x5.N r6_1 x5.K x5.L)).set i2 (GValue.mk x7.Kind x7.N x7.S r8_1 x7.L))) i2, .e [.int .i64 x9.Kind, .int .i64 x9.N, .own 1 (eL e_u8 x9.S), .own 1 (eL (o_sl 1 e_u8) x9.K), .own 5 (eL o_GValue x9.L)]), (.call 28 [.obj 5 (eL o_GValue x9.L)] [.val false [.ref 0], .val false [.int .i64 r8_0]], .r (.val false [.int .i64 r10_0]) [.obj 5 (eL o_GValue r10_1)]), (.idx (eL o_GValue ((((e0.set i2 (GValue.mk a0 x3.N x3.S x3.K x3.L)).set i2 (GValue.mk x4.Kind (w64 (a0 + 1)) x4.S x4.K x4.L)).set i2 (GValue.mk x5.Kind x5.N r6_1 x5.K x5.L)).set i2 (GValue.mk x7.Kind x7.N x7.S r8_1 x7.L))) i2, .e [.int .i64 x9.Kind, .int .i64 x9.N, .own 1 (eL e_u8 x9.S), .own 1 (eL (o_sl 1 e_u8) x9.K), .own 5 (eL o_GValue x9.L)]), (.setL (eL o_GValue ((((e0.set i2 (GValue.mk a0 x3.N x3.S x3.K x3.L)).set i2 (GValue.mk x4.Kind (w64 (a0 + 1)) x4.S x4.K x4.L)).set i2 (GValue.mk x5.Kind x5.N r6_1 x5.K x5.L)).set i2 (GValue.mk x7.Kind x7.N x7.S r8_1 x7.L))) i2 [.int .i64 x9.Kind, .int .i64 x9.N, .own 1 (eL e_u8 x9.S), .own 1 (eL (o_sl 1 e_u8) x9.K), .own 5 (eL o_GValue r10_1)], .l (eL o_GValue (((((e0.set i2 (GValue.mk a0 x3.N x3.S x3.K x3.L)).set i2 (GValue.mk x4.Kind (w64 (a0 + 1)) x4.S x4.K x4.L)).set i2 (GValue.mk x5.Kind x5.N r6_1 x5.K x5.L)).set i2 (GValue.mk x7.Kind x7.N x7.S r8_1 x7.L)).set i2 (GValue.mk x9.Kind x9.N x9.S x9.K r10_1)))), (.add .i64 v1 1, .i (w64 (v1 + 1)))] (by kernel_rfl) ⟨A.len, (A.ltI_t c1), (A.nat hi2), (A.idx hx3 (oeq_GValue x3)), (A.idx hx3 (oeq_GValue x3)), (A.setL (oeq_GValue (GValue.mk a0 x3.N x3.S x3.K x3.L))), rfl, (A.nat hi2), (A.idx hx4 (oeq_GValue x4)), (A.idx hx4 (oeq_GValue x4)), (A.setL (oeq_GValue (GValue.mk x4.Kind (w64 (a0 + 1)) x4.S x4.K x4.L))), rfl, (A.nat hi2), (A.idx hx5 (oeq_GValue x5)), (A.idx hx5 (oeq_GValue x5)), (A.call (ok_laws_markByteS (w64 ((w64 (a0 + 1)) + 1)) x5.S _ hr6)), (A.idx hx5 (oeq_GValue x5)), (A.setL (oeq_GValue (GValue.mk x5.Kind x5.N r6_1 x5.K x5.L))), (A.nat hi2), (A.idx hx7 (oeq_GValue x7)), (A.idx hx7 (oeq_GValue x7)), (A.call (ok_laws_markByteSS r6_0 x7.K _ hr8)), (A.idx hx7 (oeq_GValue x7)), (A.setL (oeq_GValue (GValue.mk x7.Kind x7.N x7.S r8_1 x7.L))), (A.nat hi2), (A.idx hx9 (oeq_GValue x9)), (A.idx hx9 (oeq_GValue x9)), (A.call (H_laws_markValueS r8_0 x9.L _ hr10)), (A.idx hx9 (oeq_GValue x9)), (A.setL (oeq_GValue (GValue.mk x9.Kind x9.N x9.S x9.K r10_1))), rfl, trivial⟩ (ih r10_0 (w64 (v1 + 1)) (((((e0.set i2 (GValue.mk a0 x3.N x3.S x3.K x3.L)).set i2 (GValue.mk x4.Kind (w64 (a0 + 1)) x4.S x4.K x4.L)).set i2 (GValue.mk x5.Kind x5.N r6_1 x5.K x5.L)).set i2 (GValue.mk x7.Kind x7.N x7.S r8_1 x7.L)).set i2 (GValue.mk x9.Kind x9.N x9.S x9.K r10_1)) o h)
    · rw [if_neg c1] at h
      obtain rfl := Option.some.inj h
      exact loop_end cfg [(.len (eL o_GValue e0), .i ((e0.length : Nat) : Int)), (.ltI v1 ((e0.length : Nat) : Int), .b false)] (by kernel_rfl) ⟨A.len, (A.ltI_f c1), trivial⟩ (by intro h; cases h)

def T_laws_markValueS (G_laws_markValueS : Int → (List GValue) → Option (Int × (List GValue))) (n : Nat) (a0 : Int) (e0 : (List GValue)) : Option (Int × (List GValue)) :=
  (L_laws_markValueS_l0 G_laws_markValueS n a0 0 e0).bind fun ⟨o1_0, o1_1, o1_2⟩ =>
  some (o1_0, o1_2)

set_option maxRecDepth 100000 in
theorem fd_28 : cfg.funcs 28 = some (bodyOf Try.f28, Try.f28.ntmps, Try.f28.results.toList) := fn_of Try.func28 (by kernel_rfl) (by kernel_rfl)
theorem g_laws_markValueS (G_laws_markValueS : Int → (List GValue) → Option (Int × (List GValue))) (H_laws_markValueS : ∀ (a0 : Int) (e0 : (List GValue)) (r : (Int × (List GValue))), G_laws_markValueS a0 e0 = some r → (mach cfg).call 28 [.obj 5 (eL o_GValue e0)] [.val false [.ref 0], .val false [.int .i64 a0]] = some (.val false [.int .i64 r.1], [.obj 5 (eL o_GValue r.2)])) (n : Nat) (a0 : Int) (e0 : (List GValue)) (r : (Int × (List GValue))) (h : T_laws_markValueS G_laws_markValueS n a0 e0 = some r) : (mach cfg).call 28 [.obj 5 (eL o_GValue e0)] [.val false [.ref 0], .val false [.int .i64 a0]] = some (.val false [.int .i64 r.1], [.obj 5 (eL o_GValue r.2)]) := by
  unfold T_laws_markValueS at h
  obtain ⟨⟨o1_0, o1_1, o1_2⟩, ho1, h⟩ := Option.bind_eq_some_iff.1 h
  try dsimp only at h
  obtain rfl := Option.some.inj h
  exact call_way cfg [(.loop 28 (loopB Try.f28 0) ⟨[(0, .val false [.ref 0]), (1, .val false [.int .i64 a0]), (5, .val false [.int .i64 0])], [.obj 5 (eL o_GValue e0)], 1⟩, .x (.exit 0) ⟨[(0, .val false [.ref 0]), (1, .val false [.int .i64 o1_0]), (5, .val false [.int .i64 o1_1]), (9, .val false [.bool false])], [.obj 5 (eL o_GValue o1_2)], 1⟩)] rfl fd_28 (by kernel_rfl) ⟨(A.loop (gl_laws_markValueS_l0 G_laws_markValueS H_laws_markValueS _ a0 0 e0 _ ho1)), trivial⟩

def U_laws_markValueS : Nat → Int → (List GValue) → Option (Int × (List GValue))
  | 0, _, _ => none
  | n + 1, a0, e0 => T_laws_markValueS (U_laws_markValueS n) n a0 e0
theorem rec_laws_markValueS (n : Nat) : (∀ (a0 : Int) (e0 : (List GValue)) (r : (Int × (List GValue))), U_laws_markValueS n a0 e0 = some r → (mach cfg).call 28 [.obj 5 (eL o_GValue e0)] [.val false [.ref 0], .val false [.int .i64 a0]] = some (.val false [.int .i64 r.1], [.obj 5 (eL o_GValue r.2)])) := by
  induction n with
  | zero => exact fun _ _ _ h => (by rw [U_laws_markValueS] at h; cases h)
  | succ n ih =>
    have ih_laws_markValueS := ih
    exact fun a0 e0 r h => g_laws_markValueS (U_laws_markValueS n) ih_laws_markValueS n a0 e0 r (by rw [U_laws_markValueS] at h; exact h)
theorem markValueS_loop {G : Int → List GValue → Option (Int × List GValue)} : ∀ (l p : List GValue) (k : Int) (m : Nat), (∀ v ∈ l, ∀ i : Int, 0 ≤ i → i + 2 * vszs v.L ≤ 2 ^ 41 → G i v.L = some (i + cVs v.L, mVs i v.L)) → 0 ≤ k → k + 2 * vszs l ≤ 2 ^ 41 → p.length + l.length ≤ 2 ^ 41 → l.length < m → ∃ z, L_laws_markValueS_l0 G m k ((p.length : Nat) : Int) (p ++ l) = some (k + cVs l, z, p ++ mVs k l) := by
  intro l
  induction l with
  | nil =>
    intro p k m _ _ _ _ hm
    obtain ⟨m, rfl, _⟩ := fuel hm
    exact ⟨_, by rw [L_laws_markValueS_l0, if_neg (nlt_end p)]; simp [mVs, cVs]; rfl⟩
  | cons x l ih =>
    intro p k m hG h0 h1 h2 hm
    obtain ⟨m, rfl, hm'⟩ := fuel hm
    simp only [List.length_cons] at h2 hm'
    have hx := hG x List.mem_cons_self
    have hc := cV_le x
    obtain ⟨kd, n, s, kk, ks⟩ := x
    have hb := bsz_cB kk
    have hd := cVs_le ks
    simp only [vszs, vsz] at h1
    simp only [cV, vsz] at hc
    simp only [GValue.L] at hx
    obtain ⟨z, hz⟩ := ih (p ++ [mV k (.mk kd n s kk ks)]) (k + cV (.mk kd n s kk ks)) m (fun v hv => hG v (List.mem_cons_of_mem _ hv)) (by omega) (by simp only [cV]; omega) (by simp; omega) (by omega)
    rw [L_laws_markValueS_l0, if_pos (lt_mid p _ l), natO_nat, Option.bind_some, get_mid, Option.bind_some]
    simp only [set_mid, get_mid, Option.bind_some, GValue.Kind, GValue.N, GValue.S, GValue.K, GValue.L]
    rw [w64_id (x := k + 1) (by omega) (by omega), w64_id (x := k + 1 + 1) (by omega) (by omega), markByteS_eq (by omega) (by omega)]
    simp only [Option.bind_some, set_mid, get_mid, GValue.Kind, GValue.N, GValue.S, GValue.K, GValue.L]
    rw [markByteSS_eq (by omega) (by omega)]
    simp only [Option.bind_some, set_mid, get_mid, GValue.Kind, GValue.N, GValue.S, GValue.K, GValue.L]
    rw [hx _ (by omega) (by omega)]
    simp only [Option.bind_some, set_mid, get_mid, GValue.Kind, GValue.N, GValue.S, GValue.K, GValue.L]
    refine ⟨z, ?_⟩
    rw [w64_len p (mV k (.mk kd n s kk ks)) (by omega), show GValue.mk k (k + 1) (mB (k + 1 + 1) s) (mBB (k + 1 + 1 + s.length) kk) (mVs (k + 1 + 1 + s.length + cB kk) ks) = mV k (.mk kd n s kk ks) by simp only [mV], snoc_app p _ l,
      show k + 1 + 1 + (s.length : Int) + (cB kk : Int) + (cVs ks : Int) = k + ((cV (.mk kd n s kk ks) : Nat) : Int) by simp only [cV]; omega, hz]
    simp only [mVs, cVs, List.append_assoc, List.singleton_append]
    rw [show k + ((cV (.mk kd n s kk ks) : Nat) : Int) + (cVs l : Int) = k + ((cV (.mk kd n s kk ks) + cVs l : Nat) : Int) by omega]
theorem markValueS_U : ∀ (N : Nat) (l : List GValue), vszs l < N → ∀ (k : Int) (f : Nat), 0 ≤ k → k + 2 * vszs l ≤ 2 ^ 41 → vszs l + 2 ≤ f → U_laws_markValueS f k l = some (k + cVs l, mVs k l) := by
  intro N
  induction N with
  | zero => intro l hl; omega
  | succ N ih =>
    intro l hl k f h0 h1 hf
    obtain ⟨f, rfl, _⟩ := fuel (show 0 < f by omega)
    have hlen := vszs_len l
    rw [U_laws_markValueS]
    unfold T_laws_markValueS
    obtain ⟨z, hz⟩ := markValueS_loop (G := U_laws_markValueS f) l [] k f (fun v hv i g0 g1 => by
      have := vszs_mem hv
      have := vsz_eq v
      exact ih v.L (by omega) i f g0 g1 (by omega)) h0 h1 (by simp; omega) (by omega)
    simp only [List.nil_append, List.length_nil, Int.natCast_zero] at hz
    rw [hz]; rfl
def S_laws_markValueS (a0 : Int) (e0 : (List GValue)) : Option (Int × (List GValue)) := if 0 ≤ a0 ∧ a0 + 2 * vszs e0 ≤ 2 ^ 41 then some (a0 + cVs e0, mVs a0 e0) else none
theorem markValueS_eq {a : Int} {s : List GValue} (h0 : 0 ≤ a) (h1 : a + 2 * vszs s ≤ 2 ^ 41) : S_laws_markValueS a s = some (a + cVs s, mVs a s) := if_pos ⟨h0, h1⟩
theorem spec_laws_markValueS (a0 : Int) (e0 : (List GValue)) (r : (Int × (List GValue))) (h : S_laws_markValueS a0 e0 = some r) : ∃ n, U_laws_markValueS n a0 e0 = some r := by
  unfold S_laws_markValueS at h
  obtain ⟨⟨h0, h1⟩, h⟩ := need_c h
  exact ⟨vszs e0 + 2, by rw [markValueS_U _ e0 (Nat.lt_succ_self _) a0 _ h0 h1 (Nat.le_refl _), h]⟩
theorem ok_laws_markValueS (a0 : Int) (e0 : (List GValue)) (r : (Int × (List GValue))) (h : S_laws_markValueS a0 e0 = some r) : (mach cfg).call 28 [.obj 5 (eL o_GValue e0)] [.val false [.ref 0], .val false [.int .i64 a0]] = some (.val false [.int .i64 r.1], [.obj 5 (eL o_GValue r.2)]) := by
  obtain ⟨n, hn⟩ := spec_laws_markValueS a0 e0 r h
  exact (rec_laws_markValueS n) a0 e0 r hn
def S_laws_markValue (a0_0 : Int) (a0_1 : Int) (a1 : Int) (e0 : (List UInt8)) (e1 : (List (List UInt8))) (e2 : (List GValue)) : Option (Int × (List UInt8) × (List (List UInt8)) × (List GValue)) :=
  (S_laws_markByteS a1 e0).bind fun ⟨r1_0, r1_1⟩ =>
  (S_laws_markByteSS r1_0 e1).bind fun ⟨r2_0, r2_1⟩ =>
  (S_laws_markValueS r2_0 e2).bind fun ⟨r3_0, r3_1⟩ =>
  some (r3_0, r1_1, r2_1, r3_1)

set_option maxRecDepth 100000 in
theorem fd_13 : cfg.funcs 13 = some (bodyOf Try.f13, Try.f13.ntmps, Try.f13.results.toList) := fn_of Try.func13 (by kernel_rfl) (by kernel_rfl)
theorem ok_laws_markValue (a0_0 : Int) (a0_1 : Int) (a1 : Int) (e0 : (List UInt8)) (e1 : (List (List UInt8))) (e2 : (List GValue)) (r : (Int × (List UInt8) × (List (List UInt8)) × (List GValue))) (h : S_laws_markValue a0_0 a0_1 a1 e0 e1 e2 = some r) : (mach cfg).call 13 [.obj 1 (eL e_u8 e0), .obj 1 (eL (o_sl 1 e_u8) e1), .obj 5 (eL o_GValue e2)] [.val true [.int .i64 a0_0, .int .i64 a0_1, .ref 0, .ref 1, .ref 2], .val false [.int .i64 a1]] = some (.val false [.int .i64 r.1], [.obj 1 (eL e_u8 r.2.1), .obj 1 (eL (o_sl 1 e_u8) r.2.2.1), .obj 5 (eL o_GValue r.2.2.2)]) := by
  unfold S_laws_markValue at h
  obtain ⟨⟨r1_0, r1_1⟩, hr1, h⟩ := Option.bind_eq_some_iff.1 h
  try dsimp only at h
  obtain ⟨⟨r2_0, r2_1⟩, hr2, h⟩ := Option.bind_eq_some_iff.1 h
  try dsimp only at h
  obtain ⟨⟨r3_0, r3_1⟩, hr3, h⟩ := Option.bind_eq_some_iff.1 h
  try dsimp only at h
  obtain rfl := Option.some.inj h
  exact call_way cfg [(.call 22 [.obj 1 (eL e_u8 e0)] [.val false [.ref 0], .val false [.int .i64 a1]], .r (.val false [.int .i64 r1_0]) [.obj 1 (eL e_u8 r1_1)]), (.call 47 [.obj 1 (eL (o_sl 1 e_u8) e1)] [.val false [.ref 0], .val false [.int .i64 r1_0]], .r (.val false [.int .i64 r2_0]) [.obj 1 (eL (o_sl 1 e_u8) r2_1)]), (.call 28 [.obj 5 (eL o_GValue e2)] [.val false [.ref 0], .val false [.int .i64 r2_0]], .r (.val false [.int .i64 r3_0]) [.obj 5 (eL o_GValue r3_1)])] rfl fd_13 (by kernel_rfl) ⟨(A.call (ok_laws_markByteS a1 e0 _ hr1)), (A.call (ok_laws_markByteSS r1_0 e1 _ hr2)), (A.call (ok_laws_markValueS r2_0 e2 _ hr3)), trivial⟩

end
end Go.Am.Try
