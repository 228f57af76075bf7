/- The functions of the program in plain Lean, and that the machine answers as they do; conditions at each theorem. -/
import Derived.Test.YtoopljdbjefgoaaEG2
set_option linter.unusedVariables false
set_option linter.unusedSimpArgs false
namespace Go.Am.Try
open Go.Am Go.Proofs
set_option linter.unusedVariables false
set_option maxRecDepth 20000
set_option maxHeartbeats 2000000
noncomputable section
def L_spec_l6ownExpr_l0 (G_spec_l6ownExpr : GExpr → Option GExpr) (a0 : GExpr) (v2 : Int) (v3 : Int) (v4 : Int) (v5 : Int) (v6 : (List UInt8)) (v7 : (List (List UInt8))) (v8 : (List GExpr)) (v9 : (List UInt8)) (v10 : (List (List UInt8))) : Nat → Int → (List GExpr) → Option (Int × (List GExpr))
  | 0, _, _ => none
  | m + 1, v0, v11 =>
    if v0 < ((a0.Kids.length : Nat) : Int) then
      (natO v0).bind fun i2 =>
      (a0.Kids[i2]?).bind fun x3 =>
      (G_spec_l6ownExpr x3).bind fun r4 =>
      if roomP 88 (v11.length + [r4].length) then
      L_spec_l6ownExpr_l0 G_spec_l6ownExpr a0 v2 v3 v4 v5 v6 v7 v8 v9 v10 m (w64 (v0 + 1)) (v11 ++ [r4])
      else none
    else
      some (v0, v11)

theorem gl_spec_l6ownExpr_l0 (G_spec_l6ownExpr : GExpr → Option GExpr) (H_spec_l6ownExpr : ∀ (a0 : GExpr) (r : GExpr), G_spec_l6ownExpr a0 = some r → (mach cfg).call 40 [] [.val true [.int .i64 a0.Kind, .int .i64 a0.N, .seq (eL e_u8 a0.S), .seq (eL (e_sl e_u8) a0.K), .seq (eL e_GExpr a0.Kids)]] = some (.val true [.int .i64 r.Kind, .int .i64 r.N, .own 1 (eL e_u8 r.S), .own 1 (eL (o_sl 1 e_u8) r.K), .own 5 (eL o_GExpr r.Kids)], [])) (a0 : GExpr) (v2 : Int) (v3 : Int) (v4 : Int) (v5 : Int) (v6 : (List UInt8)) (v7 : (List (List UInt8))) (v8 : (List GExpr)) (v9 : (List UInt8)) (v10 : (List (List UInt8))) (m : Nat) : ∀ (v0 : Int) (v11 : (List GExpr)) (o : (Int × (List GExpr))), L_spec_l6ownExpr_l0 G_spec_l6ownExpr a0 v2 v3 v4 v5 v6 v7 v8 v9 v10 m v0 v11 = some o → (mach cfg).loop 40 (loopB Try.f40 0) ⟨[(1, .val false [.ptr 0 0]), (2, .val false [.ptr 1 0]), (3, .val false [.ptr 2 0]), (4, .val false [.int .i64 v0])], [.var [.int .i64 a0.Kind, .int .i64 a0.N, .seq (eL e_u8 a0.S), .seq (eL (e_sl e_u8) a0.K), .seq (eL e_GExpr a0.Kids)], .var [.int .i64 v2, .int .i64 v3, .ref 3, .ref 4, .ref 5], .var [.int .i64 v4, .int .i64 v5, .ref 6, .ref 7, .ref 8], .obj 1 (eL e_u8 v6), .obj 1 (eL (o_sl 1 e_u8) v7), .obj 5 (eL o_GExpr v8), .obj 1 (eL e_u8 v9), .obj 1 (eL (o_sl 1 e_u8) v10), .obj 5 (eL o_GExpr v11)], 0⟩ = some (match o with | ⟨o_0, o_1⟩ => (.exit 0, (⟨[(1, .val false [.ptr 0 0]), (2, .val false [.ptr 1 0]), (3, .val false [.ptr 2 0]), (4, .val false [.int .i64 o_0]), (21, .val false [.bool false])], [.var [.int .i64 a0.Kind, .int .i64 a0.N, .seq (eL e_u8 a0.S), .seq (eL (e_sl e_u8) a0.K), .seq (eL e_GExpr a0.Kids)], .var [.int .i64 v2, .int .i64 v3, .ref 3, .ref 4, .ref 5], .var [.int .i64 v4, .int .i64 v5, .ref 6, .ref 7, .ref 8], .obj 1 (eL e_u8 v6), .obj 1 (eL (o_sl 1 e_u8) v7), .obj 5 (eL o_GExpr v8), .obj 1 (eL e_u8 v9), .obj 1 (eL (o_sl 1 e_u8) v10), .obj 5 (eL o_GExpr o_1)], 0⟩ : S))) := by
  induction m with
  | zero => intro v0 v11 o h; cases h
  | succ m ih =>
    intro v0 v11 o h
    rw [L_spec_l6ownExpr_l0] at h
    by_cases c1 : v0 < ((a0.Kids.length : Nat) : Int)
    · rw [if_pos c1] at h
      obtain ⟨i2, hi2, h⟩ := Option.bind_eq_some_iff.1 h
      obtain ⟨x3, hx3, h⟩ := Option.bind_eq_some_iff.1 h
      obtain ⟨r4, hr4, h⟩ := Option.bind_eq_some_iff.1 h
      obtain ⟨n5, h⟩ := need_some h
      exact loop_on cfg [(.len (eL e_GExpr a0.Kids), .i ((a0.Kids.length : Nat) : Int)), (.ltI v0 ((a0.Kids.length : Nat) : Int), .b true), (.nat v0, .n i2), (.idx (eL e_GExpr a0.Kids) i2, .e [.int .i64 x3.Kind, .int .i64 x3.N, .seq (eL e_u8 x3.S), .seq (eL (e_sl e_u8) x3.K), .seq (eL e_GExpr x3.Kids)]), (.call 40 [] [.val true [.int .i64 x3.Kind, .int .i64 x3.N, .seq (eL e_u8 x3.S), .seq (eL (e_sl e_u8) x3.K), .seq (eL e_GExpr x3.Kids)]], .r (.val true [.int .i64 r4.Kind, .int .i64 r4.N, .own 1 (eL e_u8 r4.S), .own 1 (eL (o_sl 1 e_u8) r4.K), .own 5 (eL o_GExpr r4.Kids)]) []), (.room 88 (eL o_GExpr v11) ([[.int .i64 r4.Kind, .int .i64 r4.N, .own 1 (eL e_u8 r4.S), .own 1 (eL (o_sl 1 e_u8) r4.K), .own 5 (eL o_GExpr r4.Kids)]] : List (List C)), .b true), (.uni 5 ([[.int .i64 r4.Kind, .int .i64 r4.N, .own 1 (eL e_u8 r4.S), .own 1 (eL (o_sl 1 e_u8) r4.K), .own 5 (eL o_GExpr r4.Kids)]] : List (List C)), .b true), (.app (eL o_GExpr v11) ([[.int .i64 r4.Kind, .int .i64 r4.N, .own 1 (eL e_u8 r4.S), .own 1 (eL (o_sl 1 e_u8) r4.K), .own 5 (eL o_GExpr r4.Kids)]] : List (List C)), .l (eL o_GExpr (v11 ++ [r4]))), (.add .i64 v0 1, .i (w64 (v0 + 1)))] (by kernel_rfl) ⟨A.len, (A.ltI_t c1), (A.nat hi2), (A.idx hx3 (eq_GExpr x3)), (A.call (H_spec_l6ownExpr x3 _ hr4)), (by rw [(show ([[.int .i64 r4.Kind, .int .i64 r4.N, .own 1 (eL e_u8 r4.S), .own 1 (eL (o_sl 1 e_u8) r4.K), .own 5 (eL o_GExpr r4.Kids)]] : List (List C)) = eL o_GExpr [r4] from (raw_cons (oeq_GExpr r4) raw_nil))]; exact (A.room n5)), (by rw [(show ([[.int .i64 r4.Kind, .int .i64 r4.N, .own 1 (eL e_u8 r4.S), .own 1 (eL (o_sl 1 e_u8) r4.K), .own 5 (eL o_GExpr r4.Kids)]] : List (List C)) = eL o_GExpr [r4] from (raw_cons (oeq_GExpr r4) raw_nil))]; exact (A.uniO O_GExpr)), (by rw [(show ([[.int .i64 r4.Kind, .int .i64 r4.N, .own 1 (eL e_u8 r4.S), .own 1 (eL (o_sl 1 e_u8) r4.K), .own 5 (eL o_GExpr r4.Kids)]] : List (List C)) = eL o_GExpr [r4] from (raw_cons (oeq_GExpr r4) raw_nil))]; exact A.app), rfl, trivial⟩ (ih (w64 (v0 + 1)) (v11 ++ [r4]) o h)
    · rw [if_neg c1] at h
      obtain rfl := Option.some.inj h
      exact loop_end cfg [(.len (eL e_GExpr a0.Kids), .i ((a0.Kids.length : Nat) : Int)), (.ltI v0 ((a0.Kids.length : Nat) : Int), .b false)] (by kernel_rfl) ⟨A.len, (A.ltI_f c1), trivial⟩ (by intro h; cases h)

def T_spec_l6ownExpr (G_spec_l6ownExpr : GExpr → Option GExpr) (n : Nat) (a0 : GExpr) : Option GExpr :=
  if roomP 1 (0 + a0.S.length) then
  (S_spec_l4ownAddrs a0.K).bind fun r2 =>
  (L_spec_l6ownExpr_l0 G_spec_l6ownExpr a0 0 0 a0.Kind a0.N [] [] [] a0.S r2 n 0 []).bind fun ⟨o3_0, o3_1⟩ =>
  some (GExpr.mk a0.Kind a0.N a0.S r2 o3_1)
  else none

set_option maxRecDepth 100000 in
theorem fd_40 : cfg.funcs 40 = some (bodyOf Try.f40, Try.f40.ntmps, Try.f40.results.toList) := fn_of Try.func40 (by kernel_rfl) (by kernel_rfl)
theorem g_spec_l6ownExpr (G_spec_l6ownExpr : GExpr → Option GExpr) (H_spec_l6ownExpr : ∀ (a0 : GExpr) (r : GExpr), G_spec_l6ownExpr a0 = some r → (mach cfg).call 40 [] [.val true [.int .i64 a0.Kind, .int .i64 a0.N, .seq (eL e_u8 a0.S), .seq (eL (e_sl e_u8) a0.K), .seq (eL e_GExpr a0.Kids)]] = some (.val true [.int .i64 r.Kind, .int .i64 r.N, .own 1 (eL e_u8 r.S), .own 1 (eL (o_sl 1 e_u8) r.K), .own 5 (eL o_GExpr r.Kids)], [])) (n : Nat) (a0 : GExpr) (r : GExpr) (h : T_spec_l6ownExpr G_spec_l6ownExpr n a0 = some r) : (mach cfg).call 40 [] [.val true [.int .i64 a0.Kind, .int .i64 a0.N, .seq (eL e_u8 a0.S), .seq (eL (e_sl e_u8) a0.K), .seq (eL e_GExpr a0.Kids)]] = some (.val true [.int .i64 r.Kind, .int .i64 r.N, .own 1 (eL e_u8 r.S), .own 1 (eL (o_sl 1 e_u8) r.K), .own 5 (eL o_GExpr r.Kids)], []) := by
  unfold T_spec_l6ownExpr at h
  obtain ⟨n1, h⟩ := need_some h
  obtain ⟨r2, hr2, h⟩ := Option.bind_eq_some_iff.1 h
  obtain ⟨⟨o3_0, o3_1⟩, ho3, h⟩ := Option.bind_eq_some_iff.1 h
  try dsimp only at h
  obtain rfl := Option.some.inj h
  exact call_way cfg [(.room 1 (eL e_u8 []) (eL e_u8 a0.S), .b true), (.uni 1 (eL e_u8 a0.S), .b true), (.app (eL e_u8 []) (eL e_u8 a0.S), .l (eL e_u8 a0.S)), (.call 72 [] [.val false [.seq (eL (e_sl e_u8) a0.K)]], .r (.val false [.own 1 (eL (o_sl 1 e_u8) r2)]) []), (.loop 40 (loopB Try.f40 0) ⟨[(1, .val false [.ptr 0 0]), (2, .val false [.ptr 1 0]), (3, .val false [.ptr 2 0]), (4, .val false [.int .i64 0])], [.var [.int .i64 a0.Kind, .int .i64 a0.N, .seq (eL e_u8 a0.S), .seq (eL (e_sl e_u8) a0.K), .seq (eL e_GExpr a0.Kids)], .var [.int .i64 0, .int .i64 0, .ref 3, .ref 4, .ref 5], .var [.int .i64 a0.Kind, .int .i64 a0.N, .ref 6, .ref 7, .ref 8], .obj 1 (eL e_u8 []), .obj 1 (eL (o_sl 1 e_u8) []), .obj 5 (eL o_GExpr []), .obj 1 (eL e_u8 a0.S), .obj 1 (eL (o_sl 1 e_u8) r2), .obj 5 (eL o_GExpr [])], 0⟩, .x (.exit 0) ⟨[(1, .val false [.ptr 0 0]), (2, .val false [.ptr 1 0]), (3, .val false [.ptr 2 0]), (4, .val false [.int .i64 o3_0]), (21, .val false [.bool false])], [.var [.int .i64 a0.Kind, .int .i64 a0.N, .seq (eL e_u8 a0.S), .seq (eL (e_sl e_u8) a0.K), .seq (eL e_GExpr a0.Kids)], .var [.int .i64 0, .int .i64 0, .ref 3, .ref 4, .ref 5], .var [.int .i64 a0.Kind, .int .i64 a0.N, .ref 6, .ref 7, .ref 8], .obj 1 (eL e_u8 []), .obj 1 (eL (o_sl 1 e_u8) []), .obj 5 (eL o_GExpr []), .obj 1 (eL e_u8 a0.S), .obj 1 (eL (o_sl 1 e_u8) r2), .obj 5 (eL o_GExpr o3_1)], 0⟩)] rfl fd_40 (by kernel_rfl) ⟨(A.room n1), (A.uni E_u8), A.app0, (A.call (ok_spec_l4ownAddrs a0.K _ hr2)), (A.loop (gl_spec_l6ownExpr_l0 G_spec_l6ownExpr H_spec_l6ownExpr a0 0 0 a0.Kind a0.N [] [] [] a0.S r2 _ 0 [] _ ho3)), trivial⟩

def U_spec_l6ownExpr : Nat → GExpr → Option GExpr
  | 0, _ => none
  | n + 1, a0 => T_spec_l6ownExpr (U_spec_l6ownExpr n) n a0
theorem rec_spec_l6ownExpr (n : Nat) : (∀ (a0 : GExpr) (r : GExpr), U_spec_l6ownExpr n a0 = some r → (mach cfg).call 40 [] [.val true [.int .i64 a0.Kind, .int .i64 a0.N, .seq (eL e_u8 a0.S), .seq (eL (e_sl e_u8) a0.K), .seq (eL e_GExpr a0.Kids)]] = some (.val true [.int .i64 r.Kind, .int .i64 r.N, .own 1 (eL e_u8 r.S), .own 1 (eL (o_sl 1 e_u8) r.K), .own 5 (eL o_GExpr r.Kids)], [])) := by
  induction n with
  | zero => exact fun _ _ h => (by rw [U_spec_l6ownExpr] at h; cases h)
  | succ n ih =>
    have ih_spec_l6ownExpr := ih
    exact fun a0 r h => g_spec_l6ownExpr (U_spec_l6ownExpr n) ih_spec_l6ownExpr n a0 r (by rw [U_spec_l6ownExpr] at h; exact h)
theorem l6own_loop {G : GExpr → Option GExpr} {a : GExpr} {v2 v3 v4 v5 : Int} {v6 : List UInt8} {v7 : List (List UInt8)} {v8 : List GExpr} {v9 : List UInt8} {v10 : List (List UInt8)} (ha : xszs a.Kids ≤ 2 ^ 39) : ∀ (l p : List GExpr) (m : Nat), a.Kids = p ++ l → (∀ x ∈ l, G x = some x) → l.length < m → ∃ z, L_spec_l6ownExpr_l0 G a v2 v3 v4 v5 v6 v7 v8 v9 v10 m ((p.length : Nat) : Int) p = some (z, a.Kids) := by
  have hl := xszs_len a.Kids
  intro l
  induction l with
  | nil =>
    intro p m he _ hm
    obtain ⟨m, rfl, _⟩ := fuel hm
    exact ⟨_, by rw [L_spec_l6ownExpr_l0, he, if_neg (nlt_end p)]; simp; rfl⟩
  | cons x l ih =>
    intro p m he hG hm
    obtain ⟨m, rfl, hm'⟩ := fuel hm
    have hlen : a.Kids.length = p.length + (l.length + 1) := by rw [he]; simp
    obtain ⟨z, hz⟩ := ih (p ++ [x]) m (by rw [he]; simp) (fun y hy => hG y (List.mem_cons_of_mem _ hy)) (by simp only [List.length_cons] at hm'; omega)
    refine ⟨z, ?_⟩
    rw [L_spec_l6ownExpr_l0, if_pos (by omega), natO_nat, Option.bind_some, show a.Kids[p.length]? = some x by rw [he]; exact get_mid p x l, Option.bind_some, hG x List.mem_cons_self, Option.bind_some, if_pos (room_ok (by decide) (by simp only [List.length_cons, List.length_nil]; omega)), w64_len p x (by omega), hz]
theorem l6own_U : ∀ (N : Nat) (v : GExpr), xsz v < N → xsz v ≤ 2 ^ 39 → ∀ f : Nat, xsz v + 2 ≤ f → U_spec_l6ownExpr f v = some v := by
  intro N
  induction N with
  | zero => intro v hv; omega
  | succ N ih =>
    intro v hv hs f hf
    obtain ⟨f, rfl, _⟩ := fuel (show 0 < f by omega)
    have he := xsz_eq v
    have hl := xszs_len v.Kids
    rw [U_spec_l6ownExpr]
    unfold T_spec_l6ownExpr S_spec_l4ownAddrs
    rw [if_pos (room_ok (by decide) (by omega)), if_pos (by omega), Option.bind_some]
    obtain ⟨z, hz⟩ := l6own_loop (G := U_spec_l6ownExpr f) (a := v) (v2 := 0) (v3 := 0) (v4 := v.Kind) (v5 := v.N) (v6 := []) (v7 := []) (v8 := []) (v9 := v.S) (v10 := v.K) (by omega) v.Kids [] f rfl (fun x hx => by
      have := xszs_mem hx
      exact ih x (by omega) (by omega) f (by omega)) (by omega)
    simp only [List.length_nil, Int.natCast_zero] at hz
    rw [hz, Option.bind_some]
    exact congrArg some (GExpr.eta v)
def S_spec_l6ownExpr (a0 : GExpr) : Option GExpr := if xsz a0 ≤ 2 ^ 39 then some a0 else none
theorem spec_spec_l6ownExpr (a0 : GExpr) (r : GExpr) (h : S_spec_l6ownExpr a0 = some r) : ∃ n, U_spec_l6ownExpr n a0 = some r := by
  unfold S_spec_l6ownExpr at h
  obtain ⟨ha, h⟩ := need_c h
  exact ⟨xsz a0 + 2, by rw [← h]; exact l6own_U _ a0 (Nat.lt_succ_self _) ha _ (Nat.le_refl _)⟩
theorem ok_spec_l6ownExpr (a0 : GExpr) (r : GExpr) (h : S_spec_l6ownExpr a0 = some r) : (mach cfg).call 40 [] [.val true [.int .i64 a0.Kind, .int .i64 a0.N, .seq (eL e_u8 a0.S), .seq (eL (e_sl e_u8) a0.K), .seq (eL e_GExpr a0.Kids)]] = some (.val true [.int .i64 r.Kind, .int .i64 r.N, .own 1 (eL e_u8 r.S), .own 1 (eL (o_sl 1 e_u8) r.K), .own 5 (eL o_GExpr r.Kids)], []) := by
  obtain ⟨n, hn⟩ := spec_spec_l6ownExpr a0 r h
  exact (rec_spec_l6ownExpr n) a0 r hn
def S_spec_ExprOf (a0 : GValue) : Option (GExpr × Bool) :=
  (S_spec_ValOk a0).bind fun r1 =>
  match r1 with
  | true =>
    (S_spec_l7of a0).bind fun ⟨r3_0, r3_1⟩ =>
    match r3_1 with
    | true =>
      (S_spec_l6ownExpr r3_0).bind fun r5 =>
      some (r5, true)
    | false =>
      some ((GExpr.mk 0 0 [] [] []), false)
  | false =>
    some ((GExpr.mk 0 0 [] [] []), false)

set_option maxRecDepth 100000 in
theorem fd_8 : cfg.funcs 8 = some (bodyOf Try.f8, Try.f8.ntmps, Try.f8.results.toList) := fn_of Try.func8 (by kernel_rfl) (by kernel_rfl)
theorem ok_spec_ExprOf (a0 : GValue) (r : (GExpr × Bool)) (h : S_spec_ExprOf a0 = some r) : (mach cfg).call 8 [] [.val true [.int .i64 a0.Kind, .int .i64 a0.N, .seq (eL e_u8 a0.S), .seq (eL (e_sl e_u8) a0.K), .seq (eL e_GValue a0.L)]] = some (.tup [(true, [.int .i64 r.1.Kind, .int .i64 r.1.N, .own 1 (eL e_u8 r.1.S), .own 1 (eL (o_sl 1 e_u8) r.1.K), .own 5 (eL o_GExpr r.1.Kids)]), (false, [.bool r.2])], []) := by
  unfold S_spec_ExprOf at h
  obtain ⟨r1, hr1, h⟩ := Option.bind_eq_some_iff.1 h
  cases r1 with
  | true =>
    try dsimp only at h
    obtain ⟨⟨r3_0, r3_1⟩, hr3, h⟩ := Option.bind_eq_some_iff.1 h
    try dsimp only at h
    cases r3_1 with
    | true =>
      try dsimp only at h
      obtain ⟨r5, hr5, h⟩ := Option.bind_eq_some_iff.1 h
      obtain rfl := Option.some.inj h
      exact call_way cfg [(.call 38 [] [.val true [.int .i64 a0.Kind, .int .i64 a0.N, .seq (eL e_u8 a0.S), .seq (eL (e_sl e_u8) a0.K), .seq (eL e_GValue a0.L)]], .r (.val false [.bool true]) []), (.notB true, .b false), (.call 39 [] [.val true [.int .i64 a0.Kind, .int .i64 a0.N, .seq (eL e_u8 a0.S), .seq (eL (e_sl e_u8) a0.K), .seq (eL e_GValue a0.L)]], .r (.tup [(true, [.int .i64 r3_0.Kind, .int .i64 r3_0.N, .seq (eL e_u8 r3_0.S), .seq (eL (e_sl e_u8) r3_0.K), .seq (eL e_GExpr r3_0.Kids)]), (false, [.bool true])]) []), (.notB true, .b false), (.call 40 [] [.val true [.int .i64 r3_0.Kind, .int .i64 r3_0.N, .seq (eL e_u8 r3_0.S), .seq (eL (e_sl e_u8) r3_0.K), .seq (eL e_GExpr r3_0.Kids)]], .r (.val true [.int .i64 r5.Kind, .int .i64 r5.N, .own 1 (eL e_u8 r5.S), .own 1 (eL (o_sl 1 e_u8) r5.K), .own 5 (eL o_GExpr r5.Kids)]) [])] rfl fd_8 (by kernel_rfl) ⟨(A.call (ok_spec_ValOk a0 _ hr1)), rfl, (A.call (ok_spec_l7of a0 _ hr3)), rfl, (A.call (ok_spec_l6ownExpr r3_0 _ hr5)), trivial⟩
    | false =>
      try dsimp only at h
      obtain rfl := Option.some.inj h
      exact call_way cfg [(.call 38 [] [.val true [.int .i64 a0.Kind, .int .i64 a0.N, .seq (eL e_u8 a0.S), .seq (eL (e_sl e_u8) a0.K), .seq (eL e_GValue a0.L)]], .r (.val false [.bool true]) []), (.notB true, .b false), (.call 39 [] [.val true [.int .i64 a0.Kind, .int .i64 a0.N, .seq (eL e_u8 a0.S), .seq (eL (e_sl e_u8) a0.K), .seq (eL e_GValue a0.L)]], .r (.tup [(true, [.int .i64 r3_0.Kind, .int .i64 r3_0.N, .seq (eL e_u8 r3_0.S), .seq (eL (e_sl e_u8) r3_0.K), .seq (eL e_GExpr r3_0.Kids)]), (false, [.bool false])]) []), (.notB false, .b true)] rfl fd_8 (by kernel_rfl) ⟨(A.call (ok_spec_ValOk a0 _ hr1)), rfl, (A.call (ok_spec_l7of a0 _ hr3)), rfl, trivial⟩
  | false =>
    try dsimp only at h
    obtain rfl := Option.some.inj h
    exact call_way cfg [(.call 38 [] [.val true [.int .i64 a0.Kind, .int .i64 a0.N, .seq (eL e_u8 a0.S), .seq (eL (e_sl e_u8) a0.K), .seq (eL e_GValue a0.L)]], .r (.val false [.bool false]) []), (.notB false, .b true)] rfl fd_8 (by kernel_rfl) ⟨(A.call (ok_spec_ValOk a0 _ hr1)), rfl, trivial⟩

def S_impl_in (a0 : Int) (a1 : Int) (a2 : Int) : Option Bool :=
  if a1 ≤ a0 then
    some (decide (a0 ≤ a2))
  else
    some false

set_option maxRecDepth 100000 in
theorem fd_82 : cfg.funcs 82 = some (bodyOf Try.f82, Try.f82.ntmps, Try.f82.results.toList) := fn_of Try.func82 (by kernel_rfl) (by kernel_rfl)
theorem ok_impl_in (a0 : Int) (a1 : Int) (a2 : Int) (r : Bool) (h : S_impl_in a0 a1 a2 = some r) : (mach cfg).call 82 [] [.val false [.int .i64 a0], .val false [.int .i64 a1], .val false [.int .i64 a2]] = some (.val false [.bool r], []) := by
  unfold S_impl_in at h
  by_cases c1 : a1 ≤ a0
  · rw [if_pos c1] at h
    obtain rfl := Option.some.inj h
    exact call_way cfg [(.leI a1 a0, .b true), (.leI a0 a2, .b (decide (a0 ≤ a2)))] rfl fd_82 (by kernel_rfl) ⟨(A.leI_t c1), A.leI_d, trivial⟩
  · rw [if_neg c1] at h
    obtain rfl := Option.some.inj h
    exact call_way cfg [(.leI a1 a0, .b false)] rfl fd_82 (by kernel_rfl) ⟨(A.leI_f c1), trivial⟩

def L_impl_isText_l0 (a0 : (List UInt8)) (v1 : Int) : Nat → Int → Option (Bool ⊕ Int)
  | 0, _ => none
  | m + 1, v2 =>
    if v2 < v1 then
      (natO v2).bind fun i2 =>
      (a0[i2]?).bind fun x3 =>
      if ((x3.toNat : Nat) : Int) < 32 then
        some (.inl false)
      else
        if 126 < ((x3.toNat : Nat) : Int) then
          some (.inl false)
        else
          L_impl_isText_l0 a0 v1 m (w64 (v2 + 1))
    else
      some (.inr v2)

theorem gl_impl_isText_l0 (a0 : (List UInt8)) (v1 : Int) (m : Nat) : ∀ (v2 : Int) (o : (Bool ⊕ Int)), L_impl_isText_l0 a0 v1 m v2 = some o → (mach cfg).loop 109 (loopB Try.f109 0) ⟨[(0, .val false [.seq (eL e_u8 a0)]), (5, .val false [.seq (eL e_u8 a0)]), (6, .val false [.int .i64 v1]), (7, .val false [.int .i64 v2])], [], 0⟩ = some (match o with | .inl o_0 => (.ret, (⟨[(2, .val false [.bool o_0])], [], 0⟩ : S)) | .inr (o_1) => (.exit 0, (⟨[(0, .val false [.seq (eL e_u8 a0)]), (5, .val false [.seq (eL e_u8 a0)]), (6, .val false [.int .i64 v1]), (7, .val false [.int .i64 o_1]), (8, .val false [.bool false])], [], 0⟩ : S))) := by
  induction m with
  | zero => intro v2 o h; cases h
  | succ m ih =>
    intro v2 o h
    rw [L_impl_isText_l0] at h
    by_cases c1 : v2 < v1
    · rw [if_pos c1] at h
      obtain ⟨i2, hi2, h⟩ := Option.bind_eq_some_iff.1 h
      obtain ⟨x3, hx3, h⟩ := Option.bind_eq_some_iff.1 h
      by_cases c4 : ((x3.toNat : Nat) : Int) < 32
      · rw [if_pos c4] at h
        obtain rfl := Option.some.inj h
        exact loop_end cfg [(.ltI v2 v1, .b true), (.nat v2, .n i2), (.idx (eL e_u8 a0) i2, .e [.int .u8 ((x3.toNat : Nat) : Int)]), (.ltI ((x3.toNat : Nat) : Int) 32, .b true)] (by kernel_rfl) ⟨(A.ltI_t c1), (A.nat hi2), (A.idx hx3 rfl), (A.ltI_t c4), trivial⟩ (by intro h; cases h)
      · rw [if_neg c4] at h
        by_cases c5 : 126 < ((x3.toNat : Nat) : Int)
        · rw [if_pos c5] at h
          obtain rfl := Option.some.inj h
          exact loop_end cfg [(.ltI v2 v1, .b true), (.nat v2, .n i2), (.idx (eL e_u8 a0) i2, .e [.int .u8 ((x3.toNat : Nat) : Int)]), (.ltI ((x3.toNat : Nat) : Int) 32, .b false), (.ltI 126 ((x3.toNat : Nat) : Int), .b true)] (by kernel_rfl) ⟨(A.ltI_t c1), (A.nat hi2), (A.idx hx3 rfl), (A.ltI_f c4), (A.ltI_t c5), trivial⟩ (by intro h; cases h)
        · rw [if_neg c5] at h
          exact loop_on cfg [(.ltI v2 v1, .b true), (.nat v2, .n i2), (.idx (eL e_u8 a0) i2, .e [.int .u8 ((x3.toNat : Nat) : Int)]), (.ltI ((x3.toNat : Nat) : Int) 32, .b false), (.ltI 126 ((x3.toNat : Nat) : Int), .b false), (.add .i64 v2 1, .i (w64 (v2 + 1)))] (by kernel_rfl) ⟨(A.ltI_t c1), (A.nat hi2), (A.idx hx3 rfl), (A.ltI_f c4), (A.ltI_f c5), rfl, trivial⟩ (ih (w64 (v2 + 1)) o h)
    · rw [if_neg c1] at h
      obtain rfl := Option.some.inj h
      exact loop_end cfg [(.ltI v2 v1, .b false)] (by kernel_rfl) ⟨(A.ltI_f c1), trivial⟩ (by intro h; cases h)

def T_impl_isText (n : Nat) (a0 : (List UInt8)) : Option Bool :=
  (L_impl_isText_l0 a0 ((a0.length : Nat) : Int) n 0).bind fun o1 =>
  match o1 with
  | .inl o1_0 =>
    some o1_0
  | .inr (o1_1) =>
    some (decide (((a0.length : Nat) : Int) ≤ 20))

set_option maxRecDepth 100000 in
theorem fd_109 : cfg.funcs 109 = some (bodyOf Try.f109, Try.f109.ntmps, Try.f109.results.toList) := fn_of Try.func109 (by kernel_rfl) (by kernel_rfl)
theorem g_impl_isText (n : Nat) (a0 : (List UInt8)) (r : Bool) (h : T_impl_isText n a0 = some r) : (mach cfg).call 109 [] [.val false [.seq (eL e_u8 a0)]] = some (.val false [.bool r], []) := by
  unfold T_impl_isText at h
  obtain ⟨o1, ho1, h⟩ := Option.bind_eq_some_iff.1 h
  rcases o1 with o1_0 | o1_1
  · try dsimp only at h
    obtain rfl := Option.some.inj h
    exact call_way cfg [(.len (eL e_u8 a0), .i ((a0.length : Nat) : Int)), (.loop 109 (loopB Try.f109 0) ⟨[(0, .val false [.seq (eL e_u8 a0)]), (5, .val false [.seq (eL e_u8 a0)]), (6, .val false [.int .i64 ((a0.length : Nat) : Int)]), (7, .val false [.int .i64 0])], [], 0⟩, .x (.ret) ⟨[(2, .val false [.bool o1_0])], [], 0⟩)] rfl fd_109 (by kernel_rfl) ⟨A.len, (A.loop (gl_impl_isText_l0 a0 ((a0.length : Nat) : Int) _ 0 _ ho1)), trivial⟩
  · try dsimp only at h
    obtain rfl := Option.some.inj h
    exact call_way cfg [(.len (eL e_u8 a0), .i ((a0.length : Nat) : Int)), (.loop 109 (loopB Try.f109 0) ⟨[(0, .val false [.seq (eL e_u8 a0)]), (5, .val false [.seq (eL e_u8 a0)]), (6, .val false [.int .i64 ((a0.length : Nat) : Int)]), (7, .val false [.int .i64 0])], [], 0⟩, .x (.exit 0) ⟨[(0, .val false [.seq (eL e_u8 a0)]), (5, .val false [.seq (eL e_u8 a0)]), (6, .val false [.int .i64 ((a0.length : Nat) : Int)]), (7, .val false [.int .i64 o1_1]), (8, .val false [.bool false])], [], 0⟩), (.len (eL e_u8 a0), .i ((a0.length : Nat) : Int)), (.leI ((a0.length : Nat) : Int) 20, .b (decide (((a0.length : Nat) : Int) ≤ 20)))] rfl fd_109 (by kernel_rfl) ⟨A.len, (A.loop (gl_impl_isText_l0 a0 ((a0.length : Nat) : Int) _ 0 _ ho1)), A.len, A.leI_d, trivial⟩

theorem impl_isText_loop {a : List UInt8} (ha : a.length ≤ 2 ^ 20) : ∀ (d i m : Nat), i + d = a.length → d < m → ∃ z, L_impl_isText_l0 a (a.length : Int) m (i : Int) = some (if (a.drop i).all (inB 32 126) = true then .inr z else .inl false) := by
  intro d
  induction d with
  | zero =>
    intro i m hi hm
    obtain ⟨m, rfl, _⟩ := fuel hm
    exact ⟨_, by rw [L_impl_isText_l0, if_neg (by omega), List.drop_eq_nil_of_le (by omega)]; rfl⟩
  | succ d ih =>
    intro i m hi hm
    obtain ⟨m, rfl, hm'⟩ := fuel hm
    have hil : i < a.length := by omega
    rw [L_impl_isText_l0, if_pos (by omega), natO_nat, Option.bind_some, get_some hil, Option.bind_some, w64_succ (by omega), drop_cons hil, List.all_cons]
    by_cases h1 : ((a[i].toNat : Nat) : Int) < 32
    · exact ⟨0, by rw [if_pos h1, if_neg]; simp [inB]; omega⟩
    · rw [if_neg h1]
      by_cases h2 : (126 : Int) < ((a[i].toNat : Nat) : Int)
      · exact ⟨0, by rw [if_pos h2, if_neg]; simp [inB]; omega⟩
      · rw [if_neg h2, show inB 32 126 a[i] = true by simp [inB]; omega, Bool.true_and]
        exact ih (i + 1) m (by omega) (by omega)
def S_impl_isText (a0 : (List UInt8)) : Option Bool := if a0.length ≤ 2 ^ 20 then some (textB a0) else none
theorem spec_impl_isText (a0 : (List UInt8)) (r : Bool) (h : S_impl_isText a0 = some r) : ∃ n, T_impl_isText n a0 = some r := by
  unfold S_impl_isText at h
  obtain ⟨ha, h⟩ := need_c h
  refine ⟨a0.length + 1, ?_⟩
  obtain ⟨z, hz⟩ := impl_isText_loop ha a0.length 0 (a0.length + 1) (by omega) (by omega)
  rw [show ((0 : Nat) : Int) = 0 from rfl, List.drop_zero] at hz
  unfold T_impl_isText
  rw [← h, hz]
  unfold textB
  by_cases hl : a0.length ≤ 20
  · rw [decide_eq_true hl]
    cases a0.all (inB 32 126)
    · rfl
    · show some (decide _) = _; rw [decide_eq_true (by omega)]; rfl
  · rw [decide_eq_false hl]
    cases a0.all (inB 32 126)
    · rfl
    · show some (decide _) = _; rw [decide_eq_false (by omega)]; rfl
theorem ok_impl_isText (a0 : (List UInt8)) (r : Bool) (h : S_impl_isText a0 = some r) : (mach cfg).call 109 [] [.val false [.seq (eL e_u8 a0)]] = some (.val false [.bool r], []) := by
  obtain ⟨n, hn⟩ := spec_impl_isText a0 r h
  exact g_impl_isText n a0 r hn
def L_impl_isName_l0 (a0 : (List UInt8)) (v1 : Int) : Nat → Int → Option (Bool ⊕ Int)
  | 0, _ => none
  | m + 1, v2 =>
    if v2 < v1 then
      (natO v2).bind fun i2 =>
      (a0[i2]?).bind fun x3 =>
      if ((x3.toNat : Nat) : Int) < 97 then
        some (.inl false)
      else
        if 122 < ((x3.toNat : Nat) : Int) then
          some (.inl false)
        else
          L_impl_isName_l0 a0 v1 m (w64 (v2 + 1))
    else
      some (.inr v2)

theorem gl_impl_isName_l0 (a0 : (List UInt8)) (v1 : Int) (m : Nat) : ∀ (v2 : Int) (o : (Bool ⊕ Int)), L_impl_isName_l0 a0 v1 m v2 = some o → (mach cfg).loop 58 (loopB Try.f58 0) ⟨[(0, .val false [.seq (eL e_u8 a0)]), (5, .val false [.seq (eL e_u8 a0)]), (6, .val false [.int .i64 v1]), (7, .val false [.int .i64 v2])], [], 0⟩ = some (match o with | .inl o_0 => (.ret, (⟨[(2, .val false [.bool o_0])], [], 0⟩ : S)) | .inr (o_1) => (.exit 0, (⟨[(0, .val false [.seq (eL e_u8 a0)]), (5, .val false [.seq (eL e_u8 a0)]), (6, .val false [.int .i64 v1]), (7, .val false [.int .i64 o_1]), (8, .val false [.bool false])], [], 0⟩ : S))) := by
  induction m with
  | zero => intro v2 o h; cases h
  | succ m ih =>
    intro v2 o h
    rw [L_impl_isName_l0] at h
    by_cases c1 : v2 < v1
    · rw [if_pos c1] at h
      obtain ⟨i2, hi2, h⟩ := Option.bind_eq_some_iff.1 h
      obtain ⟨x3, hx3, h⟩ := Option.bind_eq_some_iff.1 h
      by_cases c4 : ((x3.toNat : Nat) : Int) < 97
      · rw [if_pos c4] at h
        obtain rfl := Option.some.inj h
        exact loop_end cfg [(.ltI v2 v1, .b true), (.nat v2, .n i2), (.idx (eL e_u8 a0) i2, .e [.int .u8 ((x3.toNat : Nat) : Int)]), (.ltI ((x3.toNat : Nat) : Int) 97, .b true)] (by kernel_rfl) ⟨(A.ltI_t c1), (A.nat hi2), (A.idx hx3 rfl), (A.ltI_t c4), trivial⟩ (by intro h; cases h)
      · rw [if_neg c4] at h
        by_cases c5 : 122 < ((x3.toNat : Nat) : Int)
        · rw [if_pos c5] at h
          obtain rfl := Option.some.inj h
          exact loop_end cfg [(.ltI v2 v1, .b true), (.nat v2, .n i2), (.idx (eL e_u8 a0) i2, .e [.int .u8 ((x3.toNat : Nat) : Int)]), (.ltI ((x3.toNat : Nat) : Int) 97, .b false), (.ltI 122 ((x3.toNat : Nat) : Int), .b true)] (by kernel_rfl) ⟨(A.ltI_t c1), (A.nat hi2), (A.idx hx3 rfl), (A.ltI_f c4), (A.ltI_t c5), trivial⟩ (by intro h; cases h)
        · rw [if_neg c5] at h
          exact loop_on cfg [(.ltI v2 v1, .b true), (.nat v2, .n i2), (.idx (eL e_u8 a0) i2, .e [.int .u8 ((x3.toNat : Nat) : Int)]), (.ltI ((x3.toNat : Nat) : Int) 97, .b false), (.ltI 122 ((x3.toNat : Nat) : Int), .b false), (.add .i64 v2 1, .i (w64 (v2 + 1)))] (by kernel_rfl) ⟨(A.ltI_t c1), (A.nat hi2), (A.idx hx3 rfl), (A.ltI_f c4), (A.ltI_f c5), rfl, trivial⟩ (ih (w64 (v2 + 1)) o h)
    · rw [if_neg c1] at h
      obtain rfl := Option.some.inj h
      exact loop_end cfg [(.ltI v2 v1, .b false)] (by kernel_rfl) ⟨(A.ltI_f c1), trivial⟩ (by intro h; cases h)

def T_impl_isName (n : Nat) (a0 : (List UInt8)) : Option Bool :=
  (L_impl_isName_l0 a0 ((a0.length : Nat) : Int) n 0).bind fun o1 =>
  match o1 with
  | .inl o1_0 =>
    some o1_0
  | .inr (o1_1) =>
    (S_impl_in ((a0.length : Nat) : Int) 1 8).bind fun r2 =>
    some r2

set_option maxRecDepth 100000 in
theorem fd_58 : cfg.funcs 58 = some (bodyOf Try.f58, Try.f58.ntmps, Try.f58.results.toList) := fn_of Try.func58 (by kernel_rfl) (by kernel_rfl)
theorem g_impl_isName (n : Nat) (a0 : (List UInt8)) (r : Bool) (h : T_impl_isName n a0 = some r) : (mach cfg).call 58 [] [.val false [.seq (eL e_u8 a0)]] = some (.val false [.bool r], []) := by
  unfold T_impl_isName at h
  obtain ⟨o1, ho1, h⟩ := Option.bind_eq_some_iff.1 h
  rcases o1 with o1_0 | o1_1
  · try dsimp only at h
    obtain rfl := Option.some.inj h
    exact call_way cfg [(.len (eL e_u8 a0), .i ((a0.length : Nat) : Int)), (.loop 58 (loopB Try.f58 0) ⟨[(0, .val false [.seq (eL e_u8 a0)]), (5, .val false [.seq (eL e_u8 a0)]), (6, .val false [.int .i64 ((a0.length : Nat) : Int)]), (7, .val false [.int .i64 0])], [], 0⟩, .x (.ret) ⟨[(2, .val false [.bool o1_0])], [], 0⟩)] rfl fd_58 (by kernel_rfl) ⟨A.len, (A.loop (gl_impl_isName_l0 a0 ((a0.length : Nat) : Int) _ 0 _ ho1)), trivial⟩
  · try dsimp only at h
    obtain ⟨r2, hr2, h⟩ := Option.bind_eq_some_iff.1 h
    obtain rfl := Option.some.inj h
    exact call_way cfg [(.len (eL e_u8 a0), .i ((a0.length : Nat) : Int)), (.loop 58 (loopB Try.f58 0) ⟨[(0, .val false [.seq (eL e_u8 a0)]), (5, .val false [.seq (eL e_u8 a0)]), (6, .val false [.int .i64 ((a0.length : Nat) : Int)]), (7, .val false [.int .i64 0])], [], 0⟩, .x (.exit 0) ⟨[(0, .val false [.seq (eL e_u8 a0)]), (5, .val false [.seq (eL e_u8 a0)]), (6, .val false [.int .i64 ((a0.length : Nat) : Int)]), (7, .val false [.int .i64 o1_1]), (8, .val false [.bool false])], [], 0⟩), (.len (eL e_u8 a0), .i ((a0.length : Nat) : Int)), (.call 82 [] [.val false [.int .i64 ((a0.length : Nat) : Int)], .val false [.int .i64 1], .val false [.int .i64 8]], .r (.val false [.bool r2]) [])] rfl fd_58 (by kernel_rfl) ⟨A.len, (A.loop (gl_impl_isName_l0 a0 ((a0.length : Nat) : Int) _ 0 _ ho1)), A.len, (A.call (ok_impl_in ((a0.length : Nat) : Int) 1 8 _ hr2)), trivial⟩

theorem impl_isName_loop {a : List UInt8} (ha : a.length ≤ 2 ^ 20) : ∀ (d i m : Nat), i + d = a.length → d < m → ∃ z, L_impl_isName_l0 a (a.length : Int) m (i : Int) = some (if (a.drop i).all (inB 97 122) = true then .inr z else .inl false) := by
  intro d
  induction d with
  | zero =>
    intro i m hi hm
    obtain ⟨m, rfl, _⟩ := fuel hm
    exact ⟨_, by rw [L_impl_isName_l0, if_neg (by omega), List.drop_eq_nil_of_le (by omega)]; rfl⟩
  | succ d ih =>
    intro i m hi hm
    obtain ⟨m, rfl, hm'⟩ := fuel hm
    have hil : i < a.length := by omega
    rw [L_impl_isName_l0, if_pos (by omega), natO_nat, Option.bind_some, get_some hil, Option.bind_some, w64_succ (by omega), drop_cons hil, List.all_cons]
    by_cases h1 : ((a[i].toNat : Nat) : Int) < 97
    · exact ⟨0, by rw [if_pos h1, if_neg]; simp [inB]; omega⟩
    · rw [if_neg h1]
      by_cases h2 : (122 : Int) < ((a[i].toNat : Nat) : Int)
      · exact ⟨0, by rw [if_pos h2, if_neg]; simp [inB]; omega⟩
      · rw [if_neg h2, show inB 97 122 a[i] = true by simp [inB]; omega, Bool.true_and]
        exact ih (i + 1) m (by omega) (by omega)
theorem in_eq (a b c : Int) : S_impl_in a b c = some (decide (b ≤ a ∧ a ≤ c)) := by
  unfold S_impl_in
  by_cases h : b ≤ a
  · rw [if_pos h]; simp [h]
  · rw [if_neg h]; simp [h]
def S_impl_isName (a0 : (List UInt8)) : Option Bool := if a0.length ≤ 2 ^ 20 then some (nameB a0) else none
theorem spec_impl_isName (a0 : (List UInt8)) (r : Bool) (h : S_impl_isName a0 = some r) : ∃ n, T_impl_isName n a0 = some r := by
  unfold S_impl_isName at h
  obtain ⟨ha, h⟩ := need_c h
  refine ⟨a0.length + 1, ?_⟩
  obtain ⟨z, hz⟩ := impl_isName_loop ha a0.length 0 (a0.length + 1) (by omega) (by omega)
  rw [show ((0 : Nat) : Int) = 0 from rfl, List.drop_zero] at hz
  unfold T_impl_isName
  rw [← h, hz]
  unfold nameB
  have hd : decide (1 ≤ a0.length ∧ a0.length ≤ 8) = decide ((1 : Int) ≤ (a0.length : Int) ∧ (a0.length : Int) ≤ 8) := decide_eq_decide.2 (by omega)
  rw [hd]
  cases a0.all (inB 97 122)
  · rw [Bool.and_false]; rfl
  · rw [Bool.and_true]
    simp only [if_true, Option.bind_some, in_eq]
theorem ok_impl_isName (a0 : (List UInt8)) (r : Bool) (h : S_impl_isName a0 = some r) : (mach cfg).call 58 [] [.val false [.seq (eL e_u8 a0)]] = some (.val false [.bool r], []) := by
  obtain ⟨n, hn⟩ := spec_impl_isName a0 r h
  exact g_impl_isName n a0 r hn
def S_bytes_Compare (a0 : (List UInt8)) (a1 : (List UInt8)) : Option Int :=
  (S_internal_bytealg_Compare a0 a1).bind fun r1 =>
  some r1

set_option maxRecDepth 100000 in
theorem fd_110 : cfg.funcs 110 = some (bodyOf Try.f110, Try.f110.ntmps, Try.f110.results.toList) := fn_of Try.func110 (by kernel_rfl) (by kernel_rfl)
theorem ok_bytes_Compare (a0 : (List UInt8)) (a1 : (List UInt8)) (r : Int) (h : S_bytes_Compare a0 a1 = some r) : (mach cfg).call 110 [] [.val false [.seq (eL e_u8 a0)], .val false [.seq (eL e_u8 a1)]] = some (.val false [.int .i64 r], []) := by
  unfold S_bytes_Compare at h
  obtain ⟨r1, hr1, h⟩ := Option.bind_eq_some_iff.1 h
  obtain rfl := Option.some.inj h
  exact call_way cfg [(.call 130 [] [.val false [.seq (eL e_u8 a0)], .val false [.seq (eL e_u8 a1)]], .r (.val false [.int .i64 r1]) [])] rfl fd_110 (by kernel_rfl) ⟨(A.call (ok_internal_bytealg_Compare a0 a1 _ hr1)), trivial⟩

end
end Go.Am.Try
