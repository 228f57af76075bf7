/- The functions of the program in plain Lean, and that the machine answers as they do; conditions at each theorem. -/
import Derived.Test.YtoopljdbjefgoaaRG3
set_option linter.unusedVariables false
set_option linter.unusedSimpArgs false
namespace Go.Am.Try
open Go.Am Go.Proofs
set_option linter.unusedVariables false
set_option maxRecDepth 20000
set_option maxHeartbeats 2000000
noncomputable section
def L_impl_Expr_renamed_l0 (G_impl_Expr_renamed : GExpr → (List UInt8) → (List UInt8) → Option GExpr) (a1 : (List UInt8)) (a2 : (List UInt8)) (v2 : (List GExpr)) (v3 : Int) (v5 : Int) (v6 : Int) (v7 : Int) (v8 : Int) (v9 : (List UInt8)) (v10 : (List (List UInt8))) (v11 : (List GExpr)) (v12 : (List UInt8)) (v13 : (List (List UInt8))) : Nat → Int → (List GExpr) → Option (Int × (List GExpr))
  | 0, _, _ => none
  | m + 1, v4, v14 =>
    if v4 < v3 then
      (natO v4).bind fun i2 =>
      (v2[i2]?).bind fun x3 =>
      (G_impl_Expr_renamed x3 a1 a2).bind fun r4 =>
      if roomP 88 (v14.length + [r4].length) then
      L_impl_Expr_renamed_l0 G_impl_Expr_renamed a1 a2 v2 v3 v5 v6 v7 v8 v9 v10 v11 v12 v13 m (w64 (v4 + 1)) (v14 ++ [r4])
      else none
    else
      some (v4, v14)

theorem gl_impl_Expr_renamed_l0 (G_impl_Expr_renamed : GExpr → (List UInt8) → (List UInt8) → Option GExpr) (H_impl_Expr_renamed : ∀ (a0 : GExpr) (a1 : (List UInt8)) (a2 : (List UInt8)) (r : GExpr), G_impl_Expr_renamed a0 a1 a2 = some r → (mach cfg).call 59 [] [.val true [.int .i64 a0.Kind, .int .i64 a0.N, .seq (eL e_u8 a0.S), .seq (eL (e_sl e_u8) a0.K), .seq (eL e_GExpr a0.Kids)], .val false [.seq (eL e_u8 a1)], .val false [.seq (eL e_u8 a2)]] = some (.val true [.int .i64 r.Kind, .int .i64 r.N, .own 1 (eL e_u8 r.S), .own 1 (eL (o_sl 1 e_u8) r.K), .own 5 (eL o_GExpr r.Kids)], [])) (a1 : (List UInt8)) (a2 : (List UInt8)) (v2 : (List GExpr)) (v3 : Int) (v5 : Int) (v6 : Int) (v7 : Int) (v8 : Int) (v9 : (List UInt8)) (v10 : (List (List UInt8))) (v11 : (List GExpr)) (v12 : (List UInt8)) (v13 : (List (List UInt8))) (m : Nat) : ∀ (v4 : Int) (v14 : (List GExpr)) (o : (Int × (List GExpr))), L_impl_Expr_renamed_l0 G_impl_Expr_renamed a1 a2 v2 v3 v5 v6 v7 v8 v9 v10 v11 v12 v13 m v4 v14 = some o → (mach cfg).loop 59 (loopB Try.f59 0) ⟨[(1, .val false [.seq (eL e_u8 a1)]), (2, .val false [.seq (eL e_u8 a2)]), (6, .val false [.ptr 0 0]), (7, .val false [.ptr 1 0]), (34, .val false [.seq (eL e_GExpr v2)]), (35, .val false [.int .i64 v3]), (36, .val false [.int .i64 v4])], [.var [.int .i64 v5, .int .i64 v6, .ref 2, .ref 3, .ref 4], .var [.int .i64 v7, .int .i64 v8, .ref 5, .ref 6, .ref 7], .obj 1 (eL e_u8 v9), .obj 1 (eL (o_sl 1 e_u8) v10), .obj 5 (eL o_GExpr v11), .obj 1 (eL e_u8 v12), .obj 1 (eL (o_sl 1 e_u8) v13), .obj 5 (eL o_GExpr v14)], 0⟩ = some (match o with | ⟨o_0, o_1⟩ => (.exit 0, (⟨[(1, .val false [.seq (eL e_u8 a1)]), (2, .val false [.seq (eL e_u8 a2)]), (6, .val false [.ptr 0 0]), (7, .val false [.ptr 1 0]), (34, .val false [.seq (eL e_GExpr v2)]), (35, .val false [.int .i64 v3]), (36, .val false [.int .i64 o_0]), (37, .val false [.bool false])], [.var [.int .i64 v5, .int .i64 v6, .ref 2, .ref 3, .ref 4], .var [.int .i64 v7, .int .i64 v8, .ref 5, .ref 6, .ref 7], .obj 1 (eL e_u8 v9), .obj 1 (eL (o_sl 1 e_u8) v10), .obj 5 (eL o_GExpr v11), .obj 1 (eL e_u8 v12), .obj 1 (eL (o_sl 1 e_u8) v13), .obj 5 (eL o_GExpr o_1)], 0⟩ : S))) := by
  induction m with
  | zero => intro v4 v14 o h; cases h
  | succ m ih =>
    intro v4 v14 o h
    rw [L_impl_Expr_renamed_l0] at h
    rcases ite_some h with ⟨c1, h⟩ | ⟨c1, h⟩
    ·obtain ⟨i2, hi2, h⟩ := bs h
     obtain ⟨x3, hx3, h⟩ := bs h
     obtain ⟨r4, hr4, h⟩ := bs h
     obtain ⟨n5, h⟩ := need_some h
     exact loop_nQ [.lT c1, .na hi2, .ix hx3 (eq_GExpr x3), .cl (H_impl_Expr_renamed x3 a1 a2 _ hr4), ⟨.room 88 (eL o_GExpr v14) ([[.int .i64 r4.Kind, .int .i64 r4.N, .own 1 (eL e_u8 r4.S), .own 1 (eL (o_sl 1 e_u8) r4.K), .own 5 (eL o_GExpr r4.Kids)]] : List (List C)), .b true, by rw [(show ([[.int .i64 r4.Kind, .int .i64 r4.N, .own 1 (eL e_u8 r4.S), .own 1 (eL (o_sl 1 e_u8) r4.K), .own 5 (eL o_GExpr r4.Kids)]] : List (List C)) = eL o_GExpr [r4] from (raw_cons (oeq_GExpr r4) raw_nil))]; exact (A.room n5)⟩, ⟨.uni 5 ([[.int .i64 r4.Kind, .int .i64 r4.N, .own 1 (eL e_u8 r4.S), .own 1 (eL (o_sl 1 e_u8) r4.K), .own 5 (eL o_GExpr r4.Kids)]] : List (List C)), .b true, by rw [(show ([[.int .i64 r4.Kind, .int .i64 r4.N, .own 1 (eL e_u8 r4.S), .own 1 (eL (o_sl 1 e_u8) r4.K), .own 5 (eL o_GExpr r4.Kids)]] : List (List C)) = eL o_GExpr [r4] from (raw_cons (oeq_GExpr r4) raw_nil))]; exact (A.uniO O_GExpr)⟩, ⟨.app (eL o_GExpr v14) ([[.int .i64 r4.Kind, .int .i64 r4.N, .own 1 (eL e_u8 r4.S), .own 1 (eL (o_sl 1 e_u8) r4.K), .own 5 (eL o_GExpr r4.Kids)]] : List (List C)), .l (eL o_GExpr (v14 ++ [r4])), by rw [(show ([[.int .i64 r4.Kind, .int .i64 r4.N, .own 1 (eL e_u8 r4.S), .own 1 (eL (o_sl 1 e_u8) r4.K), .own 5 (eL o_GExpr r4.Kids)]] : List (List C)) = eL o_GExpr [r4] from (raw_cons (oeq_GExpr r4) raw_nil))]; exact A.app⟩, .ad v4 1] (by kernel_rfl) (ih (w64 (v4 + 1)) (v14 ++ [r4]) o h)
    ·obtain rfl := Option.some.inj h
     exact loop_eQ [.lF c1] (by kernel_rfl) (by intro h; cases h)

def T_impl_Expr_renamed (G_impl_Expr_renamed : GExpr → (List UInt8) → (List UInt8) → Option GExpr) (n : Nat) (a0 : GExpr) (a1 : (List UInt8)) (a2 : (List UInt8)) : Option GExpr :=
  (S_impl_copyBytes a0.S).bind fun r1 =>
  (S_impl_copyTexts a0.K).bind fun r2 =>
  if a0.Kind = 6 then
    (S_bytes_Equal a0.S a1).bind fun r4 =>
    match r4 with
    | true =>
      (S_impl_copyBytes a2).bind fun r6 =>
      (L_impl_Expr_renamed_l0 G_impl_Expr_renamed a1 a2 a0.Kids ((a0.Kids.length : Nat) : Int) 0 0 a0.Kind a0.N [] [] [] r6 r2 n 0 []).bind fun ⟨o7_0, o7_1⟩ =>
      some (GExpr.mk a0.Kind a0.N r6 r2 o7_1)
    | false =>
      (L_impl_Expr_renamed_l0 G_impl_Expr_renamed a1 a2 a0.Kids ((a0.Kids.length : Nat) : Int) 0 0 a0.Kind a0.N [] [] [] r1 r2 n 0 []).bind fun ⟨o6_0, o6_1⟩ =>
      some (GExpr.mk a0.Kind a0.N r1 r2 o6_1)
  else
    (L_impl_Expr_renamed_l0 G_impl_Expr_renamed a1 a2 a0.Kids ((a0.Kids.length : Nat) : Int) 0 0 a0.Kind a0.N [] [] [] r1 r2 n 0 []).bind fun ⟨o4_0, o4_1⟩ =>
    some (GExpr.mk a0.Kind a0.N r1 r2 o4_1)

set_option maxRecDepth 100000 in
theorem fd_59 : cfg.funcs 59 = some (bodyOf Try.f59, Try.f59.ntmps, Try.f59.results.toList) := fn_of Try.func59 (by kernel_rfl) (by kernel_rfl)
theorem g_impl_Expr_renamed (G_impl_Expr_renamed : GExpr → (List UInt8) → (List UInt8) → Option GExpr) (H_impl_Expr_renamed : ∀ (a0 : GExpr) (a1 : (List UInt8)) (a2 : (List UInt8)) (r : GExpr), G_impl_Expr_renamed a0 a1 a2 = some r → (mach cfg).call 59 [] [.val true [.int .i64 a0.Kind, .int .i64 a0.N, .seq (eL e_u8 a0.S), .seq (eL (e_sl e_u8) a0.K), .seq (eL e_GExpr a0.Kids)], .val false [.seq (eL e_u8 a1)], .val false [.seq (eL e_u8 a2)]] = some (.val true [.int .i64 r.Kind, .int .i64 r.N, .own 1 (eL e_u8 r.S), .own 1 (eL (o_sl 1 e_u8) r.K), .own 5 (eL o_GExpr r.Kids)], [])) (n : Nat) (a0 : GExpr) (a1 : (List UInt8)) (a2 : (List UInt8)) (r : GExpr) (h : T_impl_Expr_renamed G_impl_Expr_renamed n a0 a1 a2 = some r) : (mach cfg).call 59 [] [.val true [.int .i64 a0.Kind, .int .i64 a0.N, .seq (eL e_u8 a0.S), .seq (eL (e_sl e_u8) a0.K), .seq (eL e_GExpr a0.Kids)], .val false [.seq (eL e_u8 a1)], .val false [.seq (eL e_u8 a2)]] = some (.val true [.int .i64 r.Kind, .int .i64 r.N, .own 1 (eL e_u8 r.S), .own 1 (eL (o_sl 1 e_u8) r.K), .own 5 (eL o_GExpr r.Kids)], []) := by
  unfold T_impl_Expr_renamed at h
  obtain ⟨r1, hr1, h⟩ := bs h
  obtain ⟨r2, hr2, h⟩ := bs h
  rcases ite_some h with ⟨c3, h⟩ | ⟨c3, h⟩
  ·obtain ⟨r4, hr4, h⟩ := bs h
   cases r4 with
   | true =>
    try dsimp only at h
    obtain ⟨r6, hr6, h⟩ := bs h
    obtain ⟨⟨o7_0, o7_1⟩, ho7, h⟩ := bs h
    try dsimp only at h
    obtain rfl := Option.some.inj h
    exact call_wQ [.cl (ok_impl_copyBytes a0.S _ hr1), .cl (ok_impl_copyTexts a0.K _ hr2), .eT c3, .cl (ok_bytes_Equal a0.S a1 _ hr4), .cl (ok_impl_copyBytes a2 _ hr6), .le e_GExpr a0.Kids, .lp (gl_impl_Expr_renamed_l0 G_impl_Expr_renamed H_impl_Expr_renamed a1 a2 a0.Kids ((a0.Kids.length : Nat) : Int) 0 0 a0.Kind a0.N [] [] [] r6 r2 _ 0 [] _ ho7)] rfl fd_59 (by kernel_rfl)
   | false =>
    try dsimp only at h
    obtain ⟨⟨o6_0, o6_1⟩, ho6, h⟩ := bs h
    try dsimp only at h
    obtain rfl := Option.some.inj h
    exact call_wQ [.cl (ok_impl_copyBytes a0.S _ hr1), .cl (ok_impl_copyTexts a0.K _ hr2), .eT c3, .cl (ok_bytes_Equal a0.S a1 _ hr4), .le e_GExpr a0.Kids, .lp (gl_impl_Expr_renamed_l0 G_impl_Expr_renamed H_impl_Expr_renamed a1 a2 a0.Kids ((a0.Kids.length : Nat) : Int) 0 0 a0.Kind a0.N [] [] [] r1 r2 _ 0 [] _ ho6)] rfl fd_59 (by kernel_rfl)
  ·obtain ⟨⟨o4_0, o4_1⟩, ho4, h⟩ := bs h
   try dsimp only at h
   obtain rfl := Option.some.inj h
   exact call_wQ [.cl (ok_impl_copyBytes a0.S _ hr1), .cl (ok_impl_copyTexts a0.K _ hr2), .eF c3, .le e_GExpr a0.Kids, .lp (gl_impl_Expr_renamed_l0 G_impl_Expr_renamed H_impl_Expr_renamed a1 a2 a0.Kids ((a0.Kids.length : Nat) : Int) 0 0 a0.Kind a0.N [] [] [] r1 r2 _ 0 [] _ ho4)] rfl fd_59 (by kernel_rfl)

def U_impl_Expr_renamed : Nat → GExpr → (List UInt8) → (List UInt8) → Option GExpr
  | 0, _, _, _ => none
  | n + 1, a0, a1, a2 => T_impl_Expr_renamed (U_impl_Expr_renamed n) n a0 a1 a2
theorem rec_impl_Expr_renamed (n : Nat) : (∀ (a0 : GExpr) (a1 : (List UInt8)) (a2 : (List UInt8)) (r : GExpr), U_impl_Expr_renamed n a0 a1 a2 = some r → (mach cfg).call 59 [] [.val true [.int .i64 a0.Kind, .int .i64 a0.N, .seq (eL e_u8 a0.S), .seq (eL (e_sl e_u8) a0.K), .seq (eL e_GExpr a0.Kids)], .val false [.seq (eL e_u8 a1)], .val false [.seq (eL e_u8 a2)]] = some (.val true [.int .i64 r.Kind, .int .i64 r.N, .own 1 (eL e_u8 r.S), .own 1 (eL (o_sl 1 e_u8) r.K), .own 5 (eL o_GExpr r.Kids)], [])) := by
  induction n with
  | zero => exact fun _ _ _ _ h => (by rw [U_impl_Expr_renamed] at h; cases h)
  | succ n ih =>
    have ih_impl_Expr_renamed := ih
    exact fun a0 a1 a2 r h => g_impl_Expr_renamed (U_impl_Expr_renamed n) ih_impl_Expr_renamed n a0 a1 a2 r (by rw [U_impl_Expr_renamed] at h; exact h)
theorem renamed_loop {G : GExpr → List UInt8 → List UInt8 → Option GExpr} {b c : List UInt8} {a : List GExpr} {v5 v6 v7 v8 : Int} {v9 : List UInt8} {v10 : List (List UInt8)} {v11 : List GExpr} {v12 : List UInt8} {v13 : List (List UInt8)} (ha : a.length ≤ 2 ^ 39) : ∀ (l p : List GExpr) (m : Nat), a = p ++ l → (∀ x ∈ l, G x b c = some (rnX b c x)) → l.length < m → ∃ z, L_impl_Expr_renamed_l0 G b c a ((a.length : Nat) : Int) v5 v6 v7 v8 v9 v10 v11 v12 v13 m ((p.length : Nat) : Int) (rnXs b c p) = some (z, rnXs b c a) := by
  intro l
  induction l with
  | nil =>
    intro p m he _ hm
    obtain ⟨m, rfl, _⟩ := fuel hm
    exact ⟨_, by rw [L_impl_Expr_renamed_l0, he, if_neg (nlt_end p), List.append_nil]⟩
  | cons x l ih =>
    intro p m he hG hm
    obtain ⟨m, rfl, hm'⟩ := fuel hm
    have hlen : a.length = p.length + (l.length + 1) := by rw [he]; simp
    obtain ⟨z, hz⟩ := ih (p ++ [x]) m (by rw [he]; simp) (fun y hy => hG y (List.mem_cons_of_mem _ hy)) (by simp only [List.length_cons] at hm'; omega)
    refine ⟨z, ?_⟩
    rw [L_impl_Expr_renamed_l0, if_pos (by omega), natO_nat, Option.bind_some, show a[p.length]? = some x by rw [he]; exact get_mid p x l, Option.bind_some, hG x List.mem_cons_self, Option.bind_some, if_pos (room_ok (by decide) (by rw [rnXs_len]; simp only [List.length_cons, List.length_nil]; omega)), w64_len p x (by omega), ← rnXs_snoc, hz]
theorem renamed_U (b c : List UInt8) (hc : c.length ≤ 2 ^ 39) : ∀ (N : Nat) (v : GExpr), xsz v < N → xsz v ≤ 2 ^ 39 → ∀ f : Nat, xsz v + 2 ≤ f → U_impl_Expr_renamed f v b c = some (rnX b c v) := by
  intro N
  induction N with
  | zero => intro v hv; omega
  | succ N ih =>
    intro v hv hs f hf
    obtain ⟨f, rfl, _⟩ := fuel (show 0 < f by omega)
    have he := xsz_eq v
    have hl := xszs_len v.Kids
    rw [U_impl_Expr_renamed]
    unfold T_impl_Expr_renamed
    have h : ∀ (v5 v6 v7 v8 : Int) (v9 : List UInt8) (v10 : List (List UInt8)) (v11 : List GExpr) (v12 : List UInt8) (v13 : List (List UInt8)), ∃ z, L_impl_Expr_renamed_l0 (U_impl_Expr_renamed f) b c v.Kids ((v.Kids.length : Nat) : Int) v5 v6 v7 v8 v9 v10 v11 v12 v13 f 0 [] = some (z, rnXs b c v.Kids) := fun v5 v6 v7 v8 v9 v10 v11 v12 v13 => by
      obtain ⟨z, hz⟩ := renamed_loop (G := U_impl_Expr_renamed f) (b := b) (c := c) (a := v.Kids) (v5 := v5) (v6 := v6) (v7 := v7) (v8 := v8) (v9 := v9) (v10 := v10) (v11 := v11) (v12 := v12) (v13 := v13) (by omega) v.Kids [] f rfl (fun x hx => by
        have := xszs_mem hx
        exact ih x (by omega) (by omega) f (by omega)) (by omega)
      rw [List.length_nil, Int.natCast_zero, rnXs] at hz
      exact ⟨z, hz⟩
    rw [copyBytes_eq (by omega), copyTexts_eq (by omega), copyBytes_eq hc, rnX_eq, Option.bind_some, Option.bind_some]
    unfold S_bytes_Equal
    by_cases h6 : v.Kind = 6
    · rw [if_pos h6, Option.bind_some]
      by_cases hs : v.S = b
      · obtain ⟨z, hz⟩ := h 0 0 v.Kind v.N [] [] [] c v.K
        rw [decide_eq_true hs]
        dsimp only
        rw [Option.bind_some, hz, if_pos ⟨h6, hs⟩]; rfl
      · obtain ⟨z, hz⟩ := h 0 0 v.Kind v.N [] [] [] v.S v.K
        rw [decide_eq_false hs]
        dsimp only
        rw [hz, if_neg (fun h => hs h.2)]; rfl
    · obtain ⟨z, hz⟩ := h 0 0 v.Kind v.N [] [] [] v.S v.K
      rw [if_neg h6, hz, if_neg (fun h => h6 h.1)]; rfl
def S_impl_Expr_renamed (a0 : GExpr) (a1 : (List UInt8)) (a2 : (List UInt8)) : Option GExpr := if xsz a0 ≤ 2 ^ 39 ∧ a2.length ≤ 2 ^ 39 then some (rnX a1 a2 a0) else none
theorem spec_impl_Expr_renamed (a0 : GExpr) (a1 : (List UInt8)) (a2 : (List UInt8)) (r : GExpr) (h : S_impl_Expr_renamed a0 a1 a2 = some r) : ∃ n, U_impl_Expr_renamed n a0 a1 a2 = some r := by
  unfold S_impl_Expr_renamed at h
  obtain ⟨⟨ha, hc⟩, h⟩ := need_c h
  exact ⟨xsz a0 + 2, by rw [← h]; exact renamed_U a1 a2 hc _ a0 (Nat.lt_succ_self _) ha _ (Nat.le_refl _)⟩
theorem ok_impl_Expr_renamed (a0 : GExpr) (a1 : (List UInt8)) (a2 : (List UInt8)) (r : GExpr) (h : S_impl_Expr_renamed a0 a1 a2 = some r) : (mach cfg).call 59 [] [.val true [.int .i64 a0.Kind, .int .i64 a0.N, .seq (eL e_u8 a0.S), .seq (eL (e_sl e_u8) a0.K), .seq (eL e_GExpr a0.Kids)], .val false [.seq (eL e_u8 a1)], .val false [.seq (eL e_u8 a2)]] = some (.val true [.int .i64 r.Kind, .int .i64 r.N, .own 1 (eL e_u8 r.S), .own 1 (eL (o_sl 1 e_u8) r.K), .own 5 (eL o_GExpr r.Kids)], []) := by
  obtain ⟨n, hn⟩ := spec_impl_Expr_renamed a0 a1 a2 r h
  exact (rec_impl_Expr_renamed n) a0 a1 a2 r hn
def S_impl_Rename (a0 : GExpr) (a1 : (List UInt8)) (a2 : (List UInt8)) : Option (GExpr × Bool) :=
  (S_impl_isExpr a0).bind fun r1 =>
  match r1 with
  | true =>
    (S_impl_isName a1).bind fun r3 =>
    match r3 with
    | true =>
      (S_impl_isName a2).bind fun r5 =>
      match r5 with
      | true =>
        (S_impl_Expr_renamed a0 a1 a2).bind fun r7 =>
        some (r7, true)
      | false =>
        some ((GExpr.mk 0 0 [] [] []), false)
    | false =>
      some ((GExpr.mk 0 0 [] [] []), false)
  | false =>
    some ((GExpr.mk 0 0 [] [] []), false)

set_option maxRecDepth 100000 in
theorem fd_20 : cfg.funcs 20 = some (bodyOf Try.f20, Try.f20.ntmps, Try.f20.results.toList) := fn_of Try.func20 (by kernel_rfl) (by kernel_rfl)
theorem ok_impl_Rename (a0 : GExpr) (a1 : (List UInt8)) (a2 : (List UInt8)) (r : (GExpr × Bool)) (h : S_impl_Rename a0 a1 a2 = some r) : (mach cfg).call 20 [] [.val true [.int .i64 a0.Kind, .int .i64 a0.N, .seq (eL e_u8 a0.S), .seq (eL (e_sl e_u8) a0.K), .seq (eL e_GExpr a0.Kids)], .val false [.seq (eL e_u8 a1)], .val false [.seq (eL e_u8 a2)]] = some (.tup [(true, [.int .i64 r.1.Kind, .int .i64 r.1.N, .own 1 (eL e_u8 r.1.S), .own 1 (eL (o_sl 1 e_u8) r.1.K), .own 5 (eL o_GExpr r.1.Kids)]), (false, [.bool r.2])], []) := by
  unfold S_impl_Rename at h
  obtain ⟨r1, hr1, h⟩ := bs h
  cases r1 with
  | true =>
   try dsimp only at h
   obtain ⟨r3, hr3, h⟩ := bs h
   cases r3 with
   | true =>
    try dsimp only at h
    obtain ⟨r5, hr5, h⟩ := bs h
    cases r5 with
    | true =>
     try dsimp only at h
     obtain ⟨r7, hr7, h⟩ := bs h
     obtain rfl := Option.some.inj h
     exact call_wQ [.cl (ok_impl_isExpr a0 _ hr1), .nt true, .cl (ok_impl_isName a1 _ hr3), .nt true, .cl (ok_impl_isName a2 _ hr5), .nt true, .cl (ok_impl_Expr_renamed a0 a1 a2 _ hr7)] rfl fd_20 (by kernel_rfl)
    | false =>
     try dsimp only at h
     obtain rfl := Option.some.inj h
     exact call_wQ [.cl (ok_impl_isExpr a0 _ hr1), .nt true, .cl (ok_impl_isName a1 _ hr3), .nt true, .cl (ok_impl_isName a2 _ hr5), .nt false] rfl fd_20 (by kernel_rfl)
   | false =>
    try dsimp only at h
    obtain rfl := Option.some.inj h
    exact call_wQ [.cl (ok_impl_isExpr a0 _ hr1), .nt true, .cl (ok_impl_isName a1 _ hr3), .nt false] rfl fd_20 (by kernel_rfl)
  | false =>
   try dsimp only at h
   obtain rfl := Option.some.inj h
   exact call_wQ [.cl (ok_impl_isExpr a0 _ hr1), .nt false] rfl fd_20 (by kernel_rfl)

def L_laws_eqByteS_l0 (a0 : (List UInt8)) (a1 : (List UInt8)) : Nat → Int → Option (Bool ⊕ Int)
  | 0, _ => none
  | m + 1, v2 =>
    if v2 < ((a0.length : Nat) : Int) then
      (natO v2).bind fun i2 =>
      (a0[i2]?).bind fun x3 =>
      (a1[i2]?).bind fun x4 =>
      if ((x3.toNat : Nat) : Int) = ((x4.toNat : Nat) : Int) then
        L_laws_eqByteS_l0 a0 a1 m (w64 (v2 + 1))
      else
        some (.inl false)
    else
      some (.inr v2)

theorem gl_laws_eqByteS_l0 (a0 : (List UInt8)) (a1 : (List UInt8)) (m : Nat) : ∀ (v2 : Int) (o : (Bool ⊕ Int)), L_laws_eqByteS_l0 a0 a1 m v2 = some o → (mach cfg).loop 21 (loopB Try.f21 0) ⟨[(0, .val false [.seq (eL e_u8 a0)]), (1, .val false [.seq (eL e_u8 a1)]), (5, .val false [.int .i64 v2])], [], 0⟩ = some (match o with | .inl o_0 => (.ret, (⟨[(4, .val false [.bool o_0])], [], 0⟩ : S)) | .inr (o_1) => (.exit 0, (⟨[(0, .val false [.seq (eL e_u8 a0)]), (1, .val false [.seq (eL e_u8 a1)]), (5, .val false [.int .i64 o_1]), (14, .val false [.bool false])], [], 0⟩ : S))) := by
  induction m with
  | zero => intro v2 o h; cases h
  | succ m ih =>
    intro v2 o h
    rw [L_laws_eqByteS_l0] at h
    rcases ite_some h with ⟨c1, h⟩ | ⟨c1, h⟩
    ·obtain ⟨i2, hi2, h⟩ := bs h
     obtain ⟨x3, hx3, h⟩ := bs h
     obtain ⟨x4, hx4, h⟩ := bs h
     rcases ite_some h with ⟨c5, h⟩ | ⟨c5, h⟩
     ·exact loop_nQ [.le e_u8 a0, .lT c1, .na hi2, .ix0 e_u8 hx3, .na hi2, .ix0 e_u8 hx4, .eT c5, .nt true, .ad v2 1] (by kernel_rfl) (ih (w64 (v2 + 1)) o h)
     ·obtain rfl := Option.some.inj h
      exact loop_eQ [.le e_u8 a0, .lT c1, .na hi2, .ix0 e_u8 hx3, .na hi2, .ix0 e_u8 hx4, .eF c5, .nt false] (by kernel_rfl) (by intro h; cases h)
    ·obtain rfl := Option.some.inj h
     exact loop_eQ [.le e_u8 a0, .lF c1] (by kernel_rfl) (by intro h; cases h)

def T_laws_eqByteS (n : Nat) (a0 : (List UInt8)) (a1 : (List UInt8)) : Option Bool :=
  if ((a0.length : Nat) : Int) = ((a1.length : Nat) : Int) then
    (L_laws_eqByteS_l0 a0 a1 n 0).bind fun o2 =>
    match o2 with
    | .inl o2_0 =>
      some o2_0
    | .inr (o2_1) =>
      some true
  else
    some false

set_option maxRecDepth 100000 in
theorem fd_21 : cfg.funcs 21 = some (bodyOf Try.f21, Try.f21.ntmps, Try.f21.results.toList) := fn_of Try.func21 (by kernel_rfl) (by kernel_rfl)
theorem g_laws_eqByteS (n : Nat) (a0 : (List UInt8)) (a1 : (List UInt8)) (r : Bool) (h : T_laws_eqByteS n a0 a1 = some r) : (mach cfg).call 21 [] [.val false [.seq (eL e_u8 a0)], .val false [.seq (eL e_u8 a1)]] = some (.val false [.bool r], []) := by
  unfold T_laws_eqByteS at h
  rcases ite_some h with ⟨c1, h⟩ | ⟨c1, h⟩
  ·obtain ⟨o2, ho2, h⟩ := bs h
   rcases o2 with o2_0 | o2_1
   · try dsimp only at h
     obtain rfl := Option.some.inj h
     exact call_wQ [.le e_u8 a0, .le e_u8 a1, .eT c1, .nt true, .lp (gl_laws_eqByteS_l0 a0 a1 _ 0 _ ho2)] rfl fd_21 (by kernel_rfl)
   · try dsimp only at h
     obtain rfl := Option.some.inj h
     exact call_wQ [.le e_u8 a0, .le e_u8 a1, .eT c1, .nt true, .lp (gl_laws_eqByteS_l0 a0 a1 _ 0 _ ho2)] rfl fd_21 (by kernel_rfl)
  ·obtain rfl := Option.some.inj h
   exact call_wQ [.le e_u8 a0, .le e_u8 a1, .eF c1, .nt false] rfl fd_21 (by kernel_rfl)

theorem eqByteS_loop {a : List UInt8} (ha : a.length ≤ 2 ^ 40) : ∀ (d i m : Nat), i + d = a.length → d < m → ∃ z, L_laws_eqByteS_l0 a a m (i : Int) = some (.inr z) := by
  intro d
  induction d with
  | zero =>
    intro i m hi hm
    obtain ⟨m, rfl, _⟩ := fuel hm
    exact ⟨_, by rw [L_laws_eqByteS_l0, if_neg (by omega)]⟩
  | succ d ih =>
    intro i m hi hm
    obtain ⟨m, rfl, hm'⟩ := fuel hm
    have hil : i < a.length := by omega
    rw [L_laws_eqByteS_l0, if_pos (by omega), natO_nat, Option.bind_some, get_some hil, Option.bind_some, Option.bind_some, if_pos rfl, w64_succ (by omega)]
    exact ih (i + 1) m (by omega) (by omega)
def S_laws_eqByteS (a0 : (List UInt8)) (a1 : (List UInt8)) : Option Bool := if a0 = a1 ∧ a0.length ≤ 2 ^ 40 then some true else none
theorem spec_laws_eqByteS (a0 : (List UInt8)) (a1 : (List UInt8)) (r : Bool) (h : S_laws_eqByteS a0 a1 = some r) : ∃ n, T_laws_eqByteS n a0 a1 = some r := by
  unfold S_laws_eqByteS at h
  obtain ⟨⟨he, ha⟩, h2⟩ := need_c h
  clear h
  subst he
  refine ⟨a0.length + 1, ?_⟩
  obtain ⟨z, hz⟩ := eqByteS_loop ha a0.length 0 (a0.length + 1) (by omega) (by omega)
  rw [show ((0 : Nat) : Int) = 0 from rfl] at hz
  unfold T_laws_eqByteS
  rw [if_pos rfl, hz]; exact h2
theorem ok_laws_eqByteS (a0 : (List UInt8)) (a1 : (List UInt8)) (r : Bool) (h : S_laws_eqByteS a0 a1 = some r) : (mach cfg).call 21 [] [.val false [.seq (eL e_u8 a0)], .val false [.seq (eL e_u8 a1)]] = some (.val false [.bool r], []) := by
  obtain ⟨n, hn⟩ := spec_laws_eqByteS a0 a1 r h
  exact g_laws_eqByteS n a0 a1 r hn
def L_laws_eqByteSS_l0 (a0 : (List (List UInt8))) (a1 : (List (List UInt8))) : Nat → Int → Option (Bool ⊕ Int)
  | 0, _ => none
  | m + 1, v2 =>
    if v2 < ((a0.length : Nat) : Int) then
      (natO v2).bind fun i2 =>
      (a0[i2]?).bind fun x3 =>
      (a1[i2]?).bind fun x4 =>
      (S_laws_eqByteS x3 x4).bind fun r5 =>
      match r5 with
      | true =>
        L_laws_eqByteSS_l0 a0 a1 m (w64 (v2 + 1))
      | false =>
        some (.inl false)
    else
      some (.inr v2)

theorem gl_laws_eqByteSS_l0 (a0 : (List (List UInt8))) (a1 : (List (List UInt8))) (m : Nat) : ∀ (v2 : Int) (o : (Bool ⊕ Int)), L_laws_eqByteSS_l0 a0 a1 m v2 = some o → (mach cfg).loop 45 (loopB Try.f45 0) ⟨[(0, .val false [.seq (eL (e_sl e_u8) a0)]), (1, .val false [.seq (eL (e_sl e_u8) a1)]), (5, .val false [.int .i64 v2])], [], 0⟩ = some (match o with | .inl o_0 => (.ret, (⟨[(4, .val false [.bool o_0])], [], 0⟩ : S)) | .inr (o_1) => (.exit 0, (⟨[(0, .val false [.seq (eL (e_sl e_u8) a0)]), (1, .val false [.seq (eL (e_sl e_u8) a1)]), (5, .val false [.int .i64 o_1]), (14, .val false [.bool false])], [], 0⟩ : S))) := by
  induction m with
  | zero => intro v2 o h; cases h
  | succ m ih =>
    intro v2 o h
    rw [L_laws_eqByteSS_l0] at h
    rcases ite_some h with ⟨c1, h⟩ | ⟨c1, h⟩
    ·obtain ⟨i2, hi2, h⟩ := bs h
     obtain ⟨x3, hx3, h⟩ := bs h
     obtain ⟨x4, hx4, h⟩ := bs h
     obtain ⟨r5, hr5, h⟩ := bs h
     cases r5 with
     | true =>
      try dsimp only at h
      exact loop_nQ [.le (e_sl e_u8) a0, .lT c1, .na hi2, .ix0 (e_sl e_u8) hx3, .na hi2, .ix0 (e_sl e_u8) hx4, .cl (ok_laws_eqByteS x3 x4 _ hr5), .nt true, .ad v2 1] (by kernel_rfl) (ih (w64 (v2 + 1)) o h)
     | false =>
      try dsimp only at h
      obtain rfl := Option.some.inj h
      exact loop_eQ [.le (e_sl e_u8) a0, .lT c1, .na hi2, .ix0 (e_sl e_u8) hx3, .na hi2, .ix0 (e_sl e_u8) hx4, .cl (ok_laws_eqByteS x3 x4 _ hr5), .nt false] (by kernel_rfl) (by intro h; cases h)
    ·obtain rfl := Option.some.inj h
     exact loop_eQ [.le (e_sl e_u8) a0, .lF c1] (by kernel_rfl) (by intro h; cases h)

def T_laws_eqByteSS (n : Nat) (a0 : (List (List UInt8))) (a1 : (List (List UInt8))) : Option Bool :=
  if ((a0.length : Nat) : Int) = ((a1.length : Nat) : Int) then
    (L_laws_eqByteSS_l0 a0 a1 n 0).bind fun o2 =>
    match o2 with
    | .inl o2_0 =>
      some o2_0
    | .inr (o2_1) =>
      some true
  else
    some false

set_option maxRecDepth 100000 in
theorem fd_45 : cfg.funcs 45 = some (bodyOf Try.f45, Try.f45.ntmps, Try.f45.results.toList) := fn_of Try.func45 (by kernel_rfl) (by kernel_rfl)
theorem g_laws_eqByteSS (n : Nat) (a0 : (List (List UInt8))) (a1 : (List (List UInt8))) (r : Bool) (h : T_laws_eqByteSS n a0 a1 = some r) : (mach cfg).call 45 [] [.val false [.seq (eL (e_sl e_u8) a0)], .val false [.seq (eL (e_sl e_u8) a1)]] = some (.val false [.bool r], []) := by
  unfold T_laws_eqByteSS at h
  rcases ite_some h with ⟨c1, h⟩ | ⟨c1, h⟩
  ·obtain ⟨o2, ho2, h⟩ := bs h
   rcases o2 with o2_0 | o2_1
   · try dsimp only at h
     obtain rfl := Option.some.inj h
     exact call_wQ [.le (e_sl e_u8) a0, .le (e_sl e_u8) a1, .eT c1, .nt true, .lp (gl_laws_eqByteSS_l0 a0 a1 _ 0 _ ho2)] rfl fd_45 (by kernel_rfl)
   · try dsimp only at h
     obtain rfl := Option.some.inj h
     exact call_wQ [.le (e_sl e_u8) a0, .le (e_sl e_u8) a1, .eT c1, .nt true, .lp (gl_laws_eqByteSS_l0 a0 a1 _ 0 _ ho2)] rfl fd_45 (by kernel_rfl)
  ·obtain rfl := Option.some.inj h
   exact call_wQ [.le (e_sl e_u8) a0, .le (e_sl e_u8) a1, .eF c1, .nt false] rfl fd_45 (by kernel_rfl)

theorem eqByteSS_loop {a : List (List UInt8)} (ha : bsz a ≤ 2 ^ 40) : ∀ (d i m : Nat), i + d = a.length → d < m → ∃ z, L_laws_eqByteSS_l0 a a m (i : Int) = some (.inr z) := by
  have hl := bsz_len a
  intro d
  induction d with
  | zero =>
    intro i m hi hm
    obtain ⟨m, rfl, _⟩ := fuel hm
    exact ⟨_, by rw [L_laws_eqByteSS_l0, if_neg (by omega)]⟩
  | succ d ih =>
    intro i m hi hm
    obtain ⟨m, rfl, hm'⟩ := fuel hm
    have hil : i < a.length := by omega
    have hx := bsz_mem (List.getElem_mem hil)
    rw [L_laws_eqByteSS_l0, if_pos (by omega), natO_nat, Option.bind_some, get_some hil, Option.bind_some, Option.bind_some]
    unfold S_laws_eqByteS
    rw [if_pos ⟨rfl, by omega⟩, Option.bind_some, w64_succ (by omega)]
    exact ih (i + 1) m (by omega) (by omega)
def S_laws_eqByteSS (a0 : (List (List UInt8))) (a1 : (List (List UInt8))) : Option Bool := if a0 = a1 ∧ bsz a0 ≤ 2 ^ 40 then some true else none
theorem spec_laws_eqByteSS (a0 : (List (List UInt8))) (a1 : (List (List UInt8))) (r : Bool) (h : S_laws_eqByteSS a0 a1 = some r) : ∃ n, T_laws_eqByteSS n a0 a1 = some r := by
  unfold S_laws_eqByteSS at h
  obtain ⟨⟨he, ha⟩, h2⟩ := need_c h
  clear h
  subst he
  have hl := bsz_len a0
  refine ⟨a0.length + 1, ?_⟩
  obtain ⟨z, hz⟩ := eqByteSS_loop ha a0.length 0 (a0.length + 1) (by omega) (by omega)
  rw [show ((0 : Nat) : Int) = 0 from rfl] at hz
  unfold T_laws_eqByteSS
  rw [if_pos rfl, hz]; exact h2
theorem ok_laws_eqByteSS (a0 : (List (List UInt8))) (a1 : (List (List UInt8))) (r : Bool) (h : S_laws_eqByteSS a0 a1 = some r) : (mach cfg).call 45 [] [.val false [.seq (eL (e_sl e_u8) a0)], .val false [.seq (eL (e_sl e_u8) a1)]] = some (.val false [.bool r], []) := by
  obtain ⟨n, hn⟩ := spec_laws_eqByteSS a0 a1 r h
  exact g_laws_eqByteSS n a0 a1 r hn
def L_laws_eqExprS_l0 (G_laws_eqExpr : GExpr → GExpr → Option Bool) (a0 : (List GExpr)) (a1 : (List GExpr)) : Nat → Int → Option (Bool ⊕ Int)
  | 0, _ => none
  | m + 1, v2 =>
    if v2 < ((a0.length : Nat) : Int) then
      (natO v2).bind fun i2 =>
      (a0[i2]?).bind fun x3 =>
      (a1[i2]?).bind fun x4 =>
      (G_laws_eqExpr x3 x4).bind fun r5 =>
      match r5 with
      | true =>
        L_laws_eqExprS_l0 G_laws_eqExpr a0 a1 m (w64 (v2 + 1))
      | false =>
        some (.inl false)
    else
      some (.inr v2)

theorem gl_laws_eqExprS_l0 (G_laws_eqExpr : GExpr → GExpr → Option Bool) (H_laws_eqExpr : ∀ (a0 : GExpr) (a1 : GExpr) (r : Bool), G_laws_eqExpr a0 a1 = some r → (mach cfg).call 11 [] [.val true [.int .i64 a0.Kind, .int .i64 a0.N, .seq (eL e_u8 a0.S), .seq (eL (e_sl e_u8) a0.K), .seq (eL e_GExpr a0.Kids)], .val true [.int .i64 a1.Kind, .int .i64 a1.N, .seq (eL e_u8 a1.S), .seq (eL (e_sl e_u8) a1.K), .seq (eL e_GExpr a1.Kids)]] = some (.val false [.bool r], [])) (a0 : (List GExpr)) (a1 : (List GExpr)) (m : Nat) : ∀ (v2 : Int) (o : (Bool ⊕ Int)), L_laws_eqExprS_l0 G_laws_eqExpr a0 a1 m v2 = some o → (mach cfg).loop 46 (loopB Try.f46 0) ⟨[(0, .val false [.seq (eL e_GExpr a0)]), (1, .val false [.seq (eL e_GExpr a1)]), (5, .val false [.int .i64 v2])], [], 0⟩ = some (match o with | .inl o_0 => (.ret, (⟨[(4, .val false [.bool o_0])], [], 0⟩ : S)) | .inr (o_1) => (.exit 0, (⟨[(0, .val false [.seq (eL e_GExpr a0)]), (1, .val false [.seq (eL e_GExpr a1)]), (5, .val false [.int .i64 o_1]), (14, .val false [.bool false])], [], 0⟩ : S))) := by
  induction m with
  | zero => intro v2 o h; cases h
  | succ m ih =>
    intro v2 o h
    rw [L_laws_eqExprS_l0] at h
    rcases ite_some h with ⟨c1, h⟩ | ⟨c1, h⟩
    ·obtain ⟨i2, hi2, h⟩ := bs h
     obtain ⟨x3, hx3, h⟩ := bs h
     obtain ⟨x4, hx4, h⟩ := bs h
     obtain ⟨r5, hr5, h⟩ := bs h
     cases r5 with
     | true =>
      try dsimp only at h
      exact loop_nQ [.le e_GExpr a0, .lT c1, .na hi2, .ix hx3 (eq_GExpr x3), .na hi2, .ix hx4 (eq_GExpr x4), .cl (H_laws_eqExpr x3 x4 _ hr5), .nt true, .ad v2 1] (by kernel_rfl) (ih (w64 (v2 + 1)) o h)
     | false =>
      try dsimp only at h
      obtain rfl := Option.some.inj h
      exact loop_eQ [.le e_GExpr a0, .lT c1, .na hi2, .ix hx3 (eq_GExpr x3), .na hi2, .ix hx4 (eq_GExpr x4), .cl (H_laws_eqExpr x3 x4 _ hr5), .nt false] (by kernel_rfl) (by intro h; cases h)
    ·obtain rfl := Option.some.inj h
     exact loop_eQ [.le e_GExpr a0, .lF c1] (by kernel_rfl) (by intro h; cases h)

def T_laws_eqExprS (G_laws_eqExpr : GExpr → GExpr → Option Bool) (n : Nat) (a0 : (List GExpr)) (a1 : (List GExpr)) : Option Bool :=
  if ((a0.length : Nat) : Int) = ((a1.length : Nat) : Int) then
    (L_laws_eqExprS_l0 G_laws_eqExpr a0 a1 n 0).bind fun o2 =>
    match o2 with
    | .inl o2_0 =>
      some o2_0
    | .inr (o2_1) =>
      some true
  else
    some false

set_option maxRecDepth 100000 in
theorem fd_46 : cfg.funcs 46 = some (bodyOf Try.f46, Try.f46.ntmps, Try.f46.results.toList) := fn_of Try.func46 (by kernel_rfl) (by kernel_rfl)
theorem g_laws_eqExprS (G_laws_eqExpr : GExpr → GExpr → Option Bool) (H_laws_eqExpr : ∀ (a0 : GExpr) (a1 : GExpr) (r : Bool), G_laws_eqExpr a0 a1 = some r → (mach cfg).call 11 [] [.val true [.int .i64 a0.Kind, .int .i64 a0.N, .seq (eL e_u8 a0.S), .seq (eL (e_sl e_u8) a0.K), .seq (eL e_GExpr a0.Kids)], .val true [.int .i64 a1.Kind, .int .i64 a1.N, .seq (eL e_u8 a1.S), .seq (eL (e_sl e_u8) a1.K), .seq (eL e_GExpr a1.Kids)]] = some (.val false [.bool r], [])) (n : Nat) (a0 : (List GExpr)) (a1 : (List GExpr)) (r : Bool) (h : T_laws_eqExprS G_laws_eqExpr n a0 a1 = some r) : (mach cfg).call 46 [] [.val false [.seq (eL e_GExpr a0)], .val false [.seq (eL e_GExpr a1)]] = some (.val false [.bool r], []) := by
  unfold T_laws_eqExprS at h
  rcases ite_some h with ⟨c1, h⟩ | ⟨c1, h⟩
  ·obtain ⟨o2, ho2, h⟩ := bs h
   rcases o2 with o2_0 | o2_1
   · try dsimp only at h
     obtain rfl := Option.some.inj h
     exact call_wQ [.le e_GExpr a0, .le e_GExpr a1, .eT c1, .nt true, .lp (gl_laws_eqExprS_l0 G_laws_eqExpr H_laws_eqExpr a0 a1 _ 0 _ ho2)] rfl fd_46 (by kernel_rfl)
   · try dsimp only at h
     obtain rfl := Option.some.inj h
     exact call_wQ [.le e_GExpr a0, .le e_GExpr a1, .eT c1, .nt true, .lp (gl_laws_eqExprS_l0 G_laws_eqExpr H_laws_eqExpr a0 a1 _ 0 _ ho2)] rfl fd_46 (by kernel_rfl)
  ·obtain rfl := Option.some.inj h
   exact call_wQ [.le e_GExpr a0, .le e_GExpr a1, .eF c1, .nt false] rfl fd_46 (by kernel_rfl)

def T_laws_eqExpr (G_laws_eqExprS : (List GExpr) → (List GExpr) → Option Bool) (a0 : GExpr) (a1 : GExpr) : Option Bool :=
  if a0.Kind = a1.Kind then
    if a0.N = a1.N then
      (S_laws_eqByteS a0.S a1.S).bind fun r3 =>
      match r3 with
      | true =>
        (S_laws_eqByteSS a0.K a1.K).bind fun r5 =>
        match r5 with
        | true =>
          (G_laws_eqExprS a0.Kids a1.Kids).bind fun r7 =>
          match r7 with
          | true =>
            some true
          | false =>
            some false
        | false =>
          some false
      | false =>
        some false
    else
      some false
  else
    some false

set_option maxRecDepth 100000 in
theorem fd_11 : cfg.funcs 11 = some (bodyOf Try.f11, Try.f11.ntmps, Try.f11.results.toList) := fn_of Try.func11 (by kernel_rfl) (by kernel_rfl)
theorem g_laws_eqExpr (G_laws_eqExprS : (List GExpr) → (List GExpr) → Option Bool) (H_laws_eqExprS : ∀ (a0 : (List GExpr)) (a1 : (List GExpr)) (r : Bool), G_laws_eqExprS a0 a1 = some r → (mach cfg).call 46 [] [.val false [.seq (eL e_GExpr a0)], .val false [.seq (eL e_GExpr a1)]] = some (.val false [.bool r], [])) (a0 : GExpr) (a1 : GExpr) (r : Bool) (h : T_laws_eqExpr G_laws_eqExprS a0 a1 = some r) : (mach cfg).call 11 [] [.val true [.int .i64 a0.Kind, .int .i64 a0.N, .seq (eL e_u8 a0.S), .seq (eL (e_sl e_u8) a0.K), .seq (eL e_GExpr a0.Kids)], .val true [.int .i64 a1.Kind, .int .i64 a1.N, .seq (eL e_u8 a1.S), .seq (eL (e_sl e_u8) a1.K), .seq (eL e_GExpr a1.Kids)]] = some (.val false [.bool r], []) := by
  unfold T_laws_eqExpr at h
  rcases ite_some h with ⟨c1, h⟩ | ⟨c1, h⟩
  ·rcases ite_some h with ⟨c2, h⟩ | ⟨c2, h⟩
   ·obtain ⟨r3, hr3, h⟩ := bs h
    cases r3 with
    | true =>
     try dsimp only at h
     obtain ⟨r5, hr5, h⟩ := bs h
     cases r5 with
     | true =>
      try dsimp only at h
      obtain ⟨r7, hr7, h⟩ := bs h
      cases r7 with
      | true =>
       try dsimp only at h
       obtain rfl := Option.some.inj h
       exact call_wQ [.eT c1, .nt true, .eT c2, .nt true, .cl (ok_laws_eqByteS a0.S a1.S _ hr3), .nt true, .cl (ok_laws_eqByteSS a0.K a1.K _ hr5), .nt true, .cl (H_laws_eqExprS a0.Kids a1.Kids _ hr7), .nt true] rfl fd_11 (by kernel_rfl)
      | false =>
       try dsimp only at h
       obtain rfl := Option.some.inj h
       exact call_wQ [.eT c1, .nt true, .eT c2, .nt true, .cl (ok_laws_eqByteS a0.S a1.S _ hr3), .nt true, .cl (ok_laws_eqByteSS a0.K a1.K _ hr5), .nt true, .cl (H_laws_eqExprS a0.Kids a1.Kids _ hr7), .nt false] rfl fd_11 (by kernel_rfl)
     | false =>
      try dsimp only at h
      obtain rfl := Option.some.inj h
      exact call_wQ [.eT c1, .nt true, .eT c2, .nt true, .cl (ok_laws_eqByteS a0.S a1.S _ hr3), .nt true, .cl (ok_laws_eqByteSS a0.K a1.K _ hr5), .nt false] rfl fd_11 (by kernel_rfl)
    | false =>
     try dsimp only at h
     obtain rfl := Option.some.inj h
     exact call_wQ [.eT c1, .nt true, .eT c2, .nt true, .cl (ok_laws_eqByteS a0.S a1.S _ hr3), .nt false] rfl fd_11 (by kernel_rfl)
   ·obtain rfl := Option.some.inj h
    exact call_wQ [.eT c1, .nt true, .eF c2, .nt false] rfl fd_11 (by kernel_rfl)
  ·obtain rfl := Option.some.inj h
   exact call_wQ [.eF c1, .nt false] rfl fd_11 (by kernel_rfl)

mutual
def U_laws_eqExprS : Nat → (List GExpr) → (List GExpr) → Option Bool
  | 0, _, _ => none
  | n + 1, a0, a1 => T_laws_eqExprS (U_laws_eqExpr n) n a0 a1
def U_laws_eqExpr : Nat → GExpr → GExpr → Option Bool
  | 0, _, _ => none
  | n + 1, a0, a1 => T_laws_eqExpr (U_laws_eqExprS n) a0 a1
end
theorem rec_laws_eqExprS (n : Nat) : (∀ (a0 : (List GExpr)) (a1 : (List GExpr)) (r : Bool), U_laws_eqExprS n a0 a1 = some r → (mach cfg).call 46 [] [.val false [.seq (eL e_GExpr a0)], .val false [.seq (eL e_GExpr a1)]] = some (.val false [.bool r], [])) ∧ (∀ (a0 : GExpr) (a1 : GExpr) (r : Bool), U_laws_eqExpr n a0 a1 = some r → (mach cfg).call 11 [] [.val true [.int .i64 a0.Kind, .int .i64 a0.N, .seq (eL e_u8 a0.S), .seq (eL (e_sl e_u8) a0.K), .seq (eL e_GExpr a0.Kids)], .val true [.int .i64 a1.Kind, .int .i64 a1.N, .seq (eL e_u8 a1.S), .seq (eL (e_sl e_u8) a1.K), .seq (eL e_GExpr a1.Kids)]] = some (.val false [.bool r], [])) := by
  induction n with
  | zero => exact ⟨fun _ _ _ h => (by rw [U_laws_eqExprS] at h; cases h), fun _ _ _ h => (by rw [U_laws_eqExpr] at h; cases h)⟩
  | succ n ih =>
    obtain ⟨ih_laws_eqExprS, ih_laws_eqExpr⟩ := ih
    exact ⟨fun a0 a1 r h => g_laws_eqExprS (U_laws_eqExpr n) ih_laws_eqExpr n a0 a1 r (by rw [U_laws_eqExprS] at h; exact h),
      fun a0 a1 r h => g_laws_eqExpr (U_laws_eqExprS n) ih_laws_eqExprS a0 a1 r (by rw [U_laws_eqExpr] at h; exact h)⟩
theorem eqExprS_T {G : GExpr → GExpr → Option Bool} {a : List GExpr} {f : Nat} (ha : a.length ≤ 2 ^ 40) (hf : a.length < f) (hG : ∀ v ∈ a, G v v = some true) : T_laws_eqExprS G f a a = some true := by
  have loop : ∀ (d i m : Nat), i + d = a.length → d < m → ∃ z, L_laws_eqExprS_l0 G a a m (i : Int) = some (.inr z) := by
    intro d
    induction d with
    | zero =>
      intro i m hi hm
      obtain ⟨m, rfl, _⟩ := fuel hm
      exact ⟨_, by rw [L_laws_eqExprS_l0, if_neg (by omega)]⟩
    | succ d ih =>
      intro i m hi hm
      obtain ⟨m, rfl, hm'⟩ := fuel hm
      have hil : i < a.length := by omega
      rw [L_laws_eqExprS_l0, if_pos (by omega), natO_nat, Option.bind_some, get_some hil, Option.bind_some, Option.bind_some, hG _ (List.getElem_mem hil), Option.bind_some, w64_succ (by omega)]
      exact ih (i + 1) m (by omega) (by omega)
  obtain ⟨z, hz⟩ := loop a.length 0 f (by omega) (by omega)
  rw [show ((0 : Nat) : Int) = 0 from rfl] at hz
  unfold T_laws_eqExprS
  rw [if_pos rfl, hz]; rfl
theorem eqExpr_U : ∀ (N : Nat) (v : GExpr), xsz v < N → xsz v ≤ 2 ^ 40 → ∀ f : Nat, 2 * xsz v + 3 ≤ f → U_laws_eqExpr f v v = some true := by
  intro N
  induction N with
  | zero => intro v hv; omega
  | succ N ih =>
    intro v hv hs f hf
    obtain ⟨f, rfl, _⟩ := fuel (show 0 < f by omega)
    obtain ⟨f, rfl, _⟩ := fuel (show 0 < f by omega)
    have he := xsz_eq v
    have hl := xszs_len v.Kids
    rw [U_laws_eqExpr]
    unfold T_laws_eqExpr S_laws_eqByteS S_laws_eqByteSS
    rw [if_pos rfl, if_pos rfl, if_pos (show v.S = v.S ∧ v.S.length ≤ 2 ^ 40 from ⟨rfl, by omega⟩), Option.bind_some]
    dsimp only
    rw [if_pos (show v.K = v.K ∧ bsz v.K ≤ 2 ^ 40 from ⟨rfl, by omega⟩), Option.bind_some]
    dsimp only
    rw [U_laws_eqExprS, eqExprS_T (by omega) (by omega) fun x hx => ?_]
    · rfl
    · have := xszs_mem hx
      exact ih x (by omega) (by omega) f (by omega)
open Classical in
noncomputable def S_laws_eqExprS (a0 : (List GExpr)) (a1 : (List GExpr)) : Option Bool := if a0 = a1 ∧ xszs a0 ≤ 2 ^ 40 then some true else none
theorem spec_laws_eqExprS (a0 : (List GExpr)) (a1 : (List GExpr)) (r : Bool) (h : S_laws_eqExprS a0 a1 = some r) : ∃ n, U_laws_eqExprS n a0 a1 = some r := by
  unfold S_laws_eqExprS at h
  obtain ⟨⟨he, ha⟩, h2⟩ := need_c h
  clear h
  subst he
  have hl := xszs_len a0
  refine ⟨2 * xszs a0 + 5, ?_⟩
  rw [U_laws_eqExprS, eqExprS_T (by omega) (by omega) fun x hx => ?_, h2]
  have := xszs_mem hx
  exact eqExpr_U _ x (Nat.lt_succ_self _) (by omega) _ (by omega)
open Classical in
noncomputable def S_laws_eqExpr (a0 : GExpr) (a1 : GExpr) : Option Bool := if a0 = a1 ∧ xsz a0 ≤ 2 ^ 40 then some true else none
theorem spec_laws_eqExpr (a0 : GExpr) (a1 : GExpr) (r : Bool) (h : S_laws_eqExpr a0 a1 = some r) : ∃ n, U_laws_eqExpr n a0 a1 = some r := by
  unfold S_laws_eqExpr at h
  obtain ⟨⟨he, ha⟩, h2⟩ := need_c h
  clear h
  subst he
  exact ⟨2 * xsz a0 + 3, by rw [← h2]; exact eqExpr_U _ a0 (Nat.lt_succ_self _) ha _ (Nat.le_refl _)⟩
theorem ok_laws_eqExprS (a0 : (List GExpr)) (a1 : (List GExpr)) (r : Bool) (h : S_laws_eqExprS a0 a1 = some r) : (mach cfg).call 46 [] [.val false [.seq (eL e_GExpr a0)], .val false [.seq (eL e_GExpr a1)]] = some (.val false [.bool r], []) := by
  obtain ⟨n, hn⟩ := spec_laws_eqExprS a0 a1 r h
  exact (rec_laws_eqExprS n).1 a0 a1 r hn
theorem ok_laws_eqExpr (a0 : GExpr) (a1 : GExpr) (r : Bool) (h : S_laws_eqExpr a0 a1 = some r) : (mach cfg).call 11 [] [.val true [.int .i64 a0.Kind, .int .i64 a0.N, .seq (eL e_u8 a0.S), .seq (eL (e_sl e_u8) a0.K), .seq (eL e_GExpr a0.Kids)], .val true [.int .i64 a1.Kind, .int .i64 a1.N, .seq (eL e_u8 a1.S), .seq (eL (e_sl e_u8) a1.K), .seq (eL e_GExpr a1.Kids)]] = some (.val false [.bool r], []) := by
  obtain ⟨n, hn⟩ := spec_laws_eqExpr a0 a1 r h
  exact (rec_laws_eqExprS n).2 a0 a1 r hn
def L_laws_markByteS_l0 : Nat → Int → Int → (List UInt8) → Option (Int × Int × (List UInt8))
  | 0, _, _, _ => none
  | m + 1, a0, v1, e0 =>
    if v1 < ((e0.length : Nat) : Int) then
      (natO v1).bind fun i2 =>
      (e0[i2]?).bind fun x3 =>
      L_laws_markByteS_l0 m (w64 (a0 + 1)) (w64 (v1 + 1)) (e0.set i2 (b8 a0))
    else
      some (a0, v1, e0)

theorem gl_laws_markByteS_l0 (m : Nat) : ∀ (a0 : Int) (v1 : Int) (e0 : (List UInt8)) (o : (Int × Int × (List UInt8))), L_laws_markByteS_l0 m a0 v1 e0 = some o → (mach cfg).loop 22 (loopB Try.f22 0) ⟨[(0, .val false [.ref 0]), (1, .val false [.int .i64 a0]), (5, .val false [.int .i64 v1])], [.obj 1 (eL e_u8 e0)], 1⟩ = some (match o with | ⟨o_0, o_1, o_2⟩ => (.exit 0, (⟨[(0, .val false [.ref 0]), (1, .val false [.int .i64 o_0]), (5, .val false [.int .i64 o_1]), (9, .val false [.bool false])], [.obj 1 (eL e_u8 o_2)], 1⟩ : S))) := by
  induction m with
  | zero => intro a0 v1 e0 o h; cases h
  | succ m ih =>
    intro a0 v1 e0 o h
    rw [L_laws_markByteS_l0] at h
    rcases ite_some h with ⟨c1, h⟩ | ⟨c1, h⟩
    ·obtain ⟨i2, hi2, h⟩ := bs h
     obtain ⟨x3, hx3, h⟩ := bs h
     exact loop_nQ [.le e_u8 e0, .lT c1, ⟨.conv .u8 a0, .i (((b8 a0).toNat : Nat) : Int), A.conv8⟩, .na hi2, .ix0 e_u8 hx3, .ix0 e_u8 hx3, ⟨.setL (eL e_u8 e0) i2 [.int .u8 (((b8 a0).toNat : Nat) : Int)], .l (eL e_u8 (e0.set i2 (b8 a0))), (A.setL rfl)⟩, .ad a0 1, .ad v1 1] (by kernel_rfl) (ih (w64 (a0 + 1)) (w64 (v1 + 1)) (e0.set i2 (b8 a0)) o h)
    ·obtain rfl := Option.some.inj h
     exact loop_eQ [.le e_u8 e0, .lF c1] (by kernel_rfl) (by intro h; cases h)

def T_laws_markByteS (n : Nat) (a0 : Int) (e0 : (List UInt8)) : Option (Int × (List UInt8)) :=
  (L_laws_markByteS_l0 n a0 0 e0).bind fun ⟨o1_0, o1_1, o1_2⟩ =>
  some (o1_0, o1_2)

set_option maxRecDepth 100000 in
theorem fd_22 : cfg.funcs 22 = some (bodyOf Try.f22, Try.f22.ntmps, Try.f22.results.toList) := fn_of Try.func22 (by kernel_rfl) (by kernel_rfl)
theorem g_laws_markByteS (n : Nat) (a0 : Int) (e0 : (List UInt8)) (r : (Int × (List UInt8))) (h : T_laws_markByteS n a0 e0 = some r) : (mach cfg).call 22 [.obj 1 (eL e_u8 e0)] [.val false [.ref 0], .val false [.int .i64 a0]] = some (.val false [.int .i64 r.1], [.obj 1 (eL e_u8 r.2)]) := by
  unfold T_laws_markByteS at h
  obtain ⟨⟨o1_0, o1_1, o1_2⟩, ho1, h⟩ := bs h
  try dsimp only at h
  obtain rfl := Option.some.inj h
  exact call_wQ [.lp (gl_laws_markByteS_l0 _ a0 0 e0 _ ho1)] rfl fd_22 (by kernel_rfl)

theorem markByteS_loop : ∀ (l p : List UInt8) (k : Int) (m : Nat), 0 ≤ k → k + 2 * l.length ≤ 2 ^ 41 → p.length + l.length ≤ 2 ^ 41 → l.length < m → ∃ z, L_laws_markByteS_l0 m k ((p.length : Nat) : Int) (p ++ l) = some (k + l.length, z, p ++ mB k l) := by
  intro l
  induction l with
  | nil =>
    intro p k m _ _ _ hm
    obtain ⟨m, rfl, _⟩ := fuel hm
    exact ⟨_, by rw [L_laws_markByteS_l0, if_neg (nlt_end p)]; simp [mB]; rfl⟩
  | cons x l ih =>
    intro p k m h0 h1 h2 hm
    obtain ⟨m, rfl, hm'⟩ := fuel hm
    simp only [List.length_cons] at h1 h2 hm'
    obtain ⟨z, hz⟩ := ih (p ++ [b8 k]) (k + 1) m (by omega) (by omega) (by simp; omega) (by omega)
    rw [L_laws_markByteS_l0, if_pos (lt_mid p x l), natO_nat, Option.bind_some, get_mid, Option.bind_some, set_mid, w64_len p (b8 k) (by omega), w64_id (x := k + 1) (by omega) (by omega), snoc_app p (b8 k) l, hz]
    refine ⟨z, ?_⟩
    rw [mB, snoc_app p (b8 k) (mB (k + 1) l)]
    simp only [List.length_cons]
    rw [show k + 1 + (l.length : Int) = k + ((l.length + 1 : Nat) : Int) by omega]
def S_laws_markByteS (a0 : Int) (e0 : (List UInt8)) : Option (Int × (List UInt8)) := if 0 ≤ a0 ∧ a0 + 2 * e0.length ≤ 2 ^ 41 then some (a0 + e0.length, mB a0 e0) else none
theorem markByteS_eq {a : Int} {s : List UInt8} (h0 : 0 ≤ a) (h1 : a + 2 * s.length ≤ 2 ^ 41) : S_laws_markByteS a s = some (a + s.length, mB a s) := if_pos ⟨h0, h1⟩
theorem spec_laws_markByteS (a0 : Int) (e0 : (List UInt8)) (r : (Int × (List UInt8))) (h : S_laws_markByteS a0 e0 = some r) : ∃ n, T_laws_markByteS n a0 e0 = some r := by
  unfold S_laws_markByteS at h
  obtain ⟨⟨h0, h1⟩, h⟩ := need_c h
  obtain ⟨z, hz⟩ := markByteS_loop e0 [] a0 (e0.length + 1) h0 h1 (by simp; omega) (by omega)
  refine ⟨e0.length + 1, ?_⟩
  unfold T_laws_markByteS
  simp only [List.nil_append, List.length_nil, Int.natCast_zero] at hz
  rw [hz]
  exact h
theorem ok_laws_markByteS (a0 : Int) (e0 : (List UInt8)) (r : (Int × (List UInt8))) (h : S_laws_markByteS a0 e0 = some r) : (mach cfg).call 22 [.obj 1 (eL e_u8 e0)] [.val false [.ref 0], .val false [.int .i64 a0]] = some (.val false [.int .i64 r.1], [.obj 1 (eL e_u8 r.2)]) := by
  obtain ⟨n, hn⟩ := spec_laws_markByteS a0 e0 r h
  exact g_laws_markByteS n a0 e0 r hn
def L_laws_markByteSS_l0 : Nat → Int → Int → (List (List UInt8)) → Option (Int × Int × (List (List UInt8)))
  | 0, _, _, _ => none
  | m + 1, a0, v1, e0 =>
    if v1 < ((e0.length : Nat) : Int) then
      (natO v1).bind fun i2 =>
      (e0[i2]?).bind fun x3 =>
      (S_laws_markByteS a0 x3).bind fun ⟨r4_0, r4_1⟩ =>
      L_laws_markByteSS_l0 m r4_0 (w64 (v1 + 1)) (e0.set i2 r4_1)
    else
      some (a0, v1, e0)

theorem gl_laws_markByteSS_l0 (m : Nat) : ∀ (a0 : Int) (v1 : Int) (e0 : (List (List UInt8))) (o : (Int × Int × (List (List UInt8)))), L_laws_markByteSS_l0 m a0 v1 e0 = some o → (mach cfg).loop 47 (loopB Try.f47 0) ⟨[(0, .val false [.ref 0]), (1, .val false [.int .i64 a0]), (5, .val false [.int .i64 v1])], [.obj 1 (eL (o_sl 1 e_u8) e0)], 1⟩ = some (match o with | ⟨o_0, o_1, o_2⟩ => (.exit 0, (⟨[(0, .val false [.ref 0]), (1, .val false [.int .i64 o_0]), (5, .val false [.int .i64 o_1]), (9, .val false [.bool false])], [.obj 1 (eL (o_sl 1 e_u8) o_2)], 1⟩ : S))) := by
  induction m with
  | zero => intro a0 v1 e0 o h; cases h
  | succ m ih =>
    intro a0 v1 e0 o h
    rw [L_laws_markByteSS_l0] at h
    rcases ite_some h with ⟨c1, h⟩ | ⟨c1, h⟩
    ·obtain ⟨i2, hi2, h⟩ := bs h
     obtain ⟨x3, hx3, h⟩ := bs h
     obtain ⟨⟨r4_0, r4_1⟩, hr4, h⟩ := bs h
     try dsimp only at h
     exact loop_nQ [.le (o_sl 1 e_u8) e0, .lT c1, .na hi2, .ix0 (o_sl 1 e_u8) hx3, .ix0 (o_sl 1 e_u8) hx3, .cl (ok_laws_markByteS a0 x3 _ hr4), .ix0 (o_sl 1 e_u8) hx3, ⟨.setL (eL (o_sl 1 e_u8) e0) i2 [.own 1 (eL e_u8 r4_1)], .l (eL (o_sl 1 e_u8) (e0.set i2 r4_1)), (A.setL rfl)⟩, .ad v1 1] (by kernel_rfl) (ih r4_0 (w64 (v1 + 1)) (e0.set i2 r4_1) o h)
    ·obtain rfl := Option.some.inj h
     exact loop_eQ [.le (o_sl 1 e_u8) e0, .lF c1] (by kernel_rfl) (by intro h; cases h)

def T_laws_markByteSS (n : Nat) (a0 : Int) (e0 : (List (List UInt8))) : Option (Int × (List (List UInt8))) :=
  (L_laws_markByteSS_l0 n a0 0 e0).bind fun ⟨o1_0, o1_1, o1_2⟩ =>
  some (o1_0, o1_2)

set_option maxRecDepth 100000 in
theorem fd_47 : cfg.funcs 47 = some (bodyOf Try.f47, Try.f47.ntmps, Try.f47.results.toList) := fn_of Try.func47 (by kernel_rfl) (by kernel_rfl)
theorem g_laws_markByteSS (n : Nat) (a0 : Int) (e0 : (List (List UInt8))) (r : (Int × (List (List UInt8)))) (h : T_laws_markByteSS n a0 e0 = some r) : (mach cfg).call 47 [.obj 1 (eL (o_sl 1 e_u8) e0)] [.val false [.ref 0], .val false [.int .i64 a0]] = some (.val false [.int .i64 r.1], [.obj 1 (eL (o_sl 1 e_u8) r.2)]) := by
  unfold T_laws_markByteSS at h
  obtain ⟨⟨o1_0, o1_1, o1_2⟩, ho1, h⟩ := bs h
  try dsimp only at h
  obtain rfl := Option.some.inj h
  exact call_wQ [.lp (gl_laws_markByteSS_l0 _ a0 0 e0 _ ho1)] rfl fd_47 (by kernel_rfl)

theorem markByteSS_loop : ∀ (l p : List (List UInt8)) (k : Int) (m : Nat), 0 ≤ k → k + 2 * bsz l ≤ 2 ^ 41 → p.length + l.length ≤ 2 ^ 41 → l.length < m → ∃ z, L_laws_markByteSS_l0 m k ((p.length : Nat) : Int) (p ++ l) = some (k + cB l, z, p ++ mBB k l) := by
  intro l
  induction l with
  | nil =>
    intro p k m _ _ _ hm
    obtain ⟨m, rfl, _⟩ := fuel hm
    exact ⟨_, by rw [L_laws_markByteSS_l0, if_neg (nlt_end p)]; simp [mBB, cB]; rfl⟩
  | cons x l ih =>
    intro p k m h0 h1 h2 hm
    obtain ⟨m, rfl, hm'⟩ := fuel hm
    rw [bsz_cons] at h1
    simp only [List.length_cons] at h2 hm'
    obtain ⟨z, hz⟩ := ih (p ++ [mB k x]) (k + x.length) m (by omega) (by omega) (by simp; omega) (by omega)
    rw [L_laws_markByteSS_l0, if_pos (lt_mid p x l), natO_nat, Option.bind_some, get_mid, Option.bind_some, markByteS_eq (by omega) (by omega), Option.bind_some]
    dsimp only
    rw [set_mid, w64_len p (mB k x) (by omega), snoc_app p (mB k x) l, hz]
    refine ⟨z, ?_⟩
    rw [mBB, snoc_app p (mB k x) (mBB (k + x.length) l), cB_cons]
    rw [show k + (x.length : Int) + (cB l : Int) = k + ((x.length + cB l : Nat) : Int) by omega]
def S_laws_markByteSS (a0 : Int) (e0 : (List (List UInt8))) : Option (Int × (List (List UInt8))) := if 0 ≤ a0 ∧ a0 + 2 * bsz e0 ≤ 2 ^ 41 then some (a0 + cB e0, mBB a0 e0) else none
theorem markByteSS_eq {a : Int} {s : List (List UInt8)} (h0 : 0 ≤ a) (h1 : a + 2 * bsz s ≤ 2 ^ 41) : S_laws_markByteSS a s = some (a + cB s, mBB a s) := if_pos ⟨h0, h1⟩
theorem spec_laws_markByteSS (a0 : Int) (e0 : (List (List UInt8))) (r : (Int × (List (List UInt8)))) (h : S_laws_markByteSS a0 e0 = some r) : ∃ n, T_laws_markByteSS n a0 e0 = some r := by
  unfold S_laws_markByteSS at h
  obtain ⟨⟨h0, h1⟩, h⟩ := need_c h
  have := bsz_len e0
  obtain ⟨z, hz⟩ := markByteSS_loop e0 [] a0 (e0.length + 1) h0 h1 (by simp; omega) (by omega)
  refine ⟨e0.length + 1, ?_⟩
  unfold T_laws_markByteSS
  simp only [List.nil_append, List.length_nil, Int.natCast_zero] at hz
  rw [hz]
  exact h
theorem ok_laws_markByteSS (a0 : Int) (e0 : (List (List UInt8))) (r : (Int × (List (List UInt8)))) (h : S_laws_markByteSS a0 e0 = some r) : (mach cfg).call 47 [.obj 1 (eL (o_sl 1 e_u8) e0)] [.val false [.ref 0], .val false [.int .i64 a0]] = some (.val false [.int .i64 r.1], [.obj 1 (eL (o_sl 1 e_u8) r.2)]) := by
  obtain ⟨n, hn⟩ := spec_laws_markByteSS a0 e0 r h
  exact g_laws_markByteSS n a0 e0 r hn
def L_laws_markExprS_l0 (G_laws_markExprS : Int → (List GExpr) → Option (Int × (List GExpr))) : Nat → Int → Int → (List GExpr) → Option (Int × Int × (List GExpr))
  | 0, _, _, _ => none
  | m + 1, a0, v1, e0 =>
    if v1 < ((e0.length : Nat) : Int) then
      (natO v1).bind fun i2 =>
      (e0[i2]?).bind fun x3 =>
      ((e0.set i2 (GExpr.mk a0 x3.N x3.S x3.K x3.Kids))[i2]?).bind fun x4 =>
      (((e0.set i2 (GExpr.mk a0 x3.N x3.S x3.K x3.Kids)).set i2 (GExpr.mk x4.Kind (w64 (a0 + 1)) x4.S x4.K x4.Kids))[i2]?).bind fun x5 =>
      (S_laws_markByteS (w64 ((w64 (a0 + 1)) + 1)) x5.S).bind fun ⟨r6_0, r6_1⟩ =>
      ((((e0.set i2 (GExpr.mk a0 x3.N x3.S x3.K x3.Kids)).set i2 (GExpr.mk x4.Kind (w64 (a0 + 1)) x4.S x4.K x4.Kids)).set i2 (GExpr.mk x5.Kind x5.N r6_1 x5.K x5.Kids))[i2]?).bind fun x7 =>
      (S_laws_markByteSS r6_0 x7.K).bind fun ⟨r8_0, r8_1⟩ =>
      (((((e0.set i2 (GExpr.mk a0 x3.N x3.S x3.K x3.Kids)).set i2 (GExpr.mk x4.Kind (w64 (a0 + 1)) x4.S x4.K x4.Kids)).set i2 (GExpr.mk x5.Kind x5.N r6_1 x5.K x5.Kids)).set i2 (GExpr.mk x7.Kind x7.N x7.S r8_1 x7.Kids))[i2]?).bind fun x9 =>
      (G_laws_markExprS r8_0 x9.Kids).bind fun ⟨r10_0, r10_1⟩ =>
      L_laws_markExprS_l0 G_laws_markExprS m r10_0 (w64 (v1 + 1)) (((((e0.set i2 (GExpr.mk a0 x3.N x3.S x3.K x3.Kids)).set i2 (GExpr.mk x4.Kind (w64 (a0 + 1)) x4.S x4.K x4.Kids)).set i2 (GExpr.mk x5.Kind x5.N r6_1 x5.K x5.Kids)).set i2 (GExpr.mk x7.Kind x7.N x7.S r8_1 x7.Kids)).set i2 (GExpr.mk x9.Kind x9.N x9.S x9.K r10_1))
    else
      some (a0, v1, e0)

theorem gl_laws_markExprS_l0 (G_laws_markExprS : Int → (List GExpr) → Option (Int × (List GExpr))) (H_laws_markExprS : ∀ (a0 : Int) (e0 : (List GExpr)) (r : (Int × (List GExpr))), G_laws_markExprS a0 e0 = some r → (mach cfg).call 48 [.obj 5 (eL o_GExpr e0)] [.val false [.ref 0], .val false [.int .i64 a0]] = some (.val false [.int .i64 r.1], [.obj 5 (eL o_GExpr r.2)])) (m : Nat) : ∀ (a0 : Int) (v1 : Int) (e0 : (List GExpr)) (o : (Int × Int × (List GExpr))), L_laws_markExprS_l0 G_laws_markExprS m a0 v1 e0 = some o → (mach cfg).loop 48 (loopB Try.f48 0) ⟨[(0, .val false [.ref 0]), (1, .val false [.int .i64 a0]), (5, .val false [.int .i64 v1])], [.obj 5 (eL o_GExpr e0)], 1⟩ = some (match o with | ⟨o_0, o_1, o_2⟩ => (.exit 0, (⟨[(0, .val false [.ref 0]), (1, .val false [.int .i64 o_0]), (5, .val false [.int .i64 o_1]), (9, .val false [.bool false])], [.obj 5 (eL o_GExpr o_2)], 1⟩ : S))) := by
  induction m with
  | zero => intro a0 v1 e0 o h; cases h
  | succ m ih =>
    intro a0 v1 e0 o h
    rw [L_laws_markExprS_l0] at h
    rcases ite_some h with ⟨c1, h⟩ | ⟨c1, h⟩
    ·obtain ⟨i2, hi2, h⟩ := bs h
     obtain ⟨x3, hx3, h⟩ := bs h
     obtain ⟨x4, hx4, h⟩ := bs h
     obtain ⟨x5, hx5, h⟩ := bs h
     obtain ⟨⟨r6_0, r6_1⟩, hr6, h⟩ := bs h
     try dsimp only at h
     obtain ⟨x7, hx7, h⟩ := bs h
     obtain ⟨⟨r8_0, r8_1⟩, hr8, h⟩ := bs h
     try dsimp only at h
     obtain ⟨x9, hx9, h⟩ := bs h
     obtain ⟨⟨r10_0, r10_1⟩, hr10, h⟩ := bs h
     try dsimp only at h
     exact loop_nQ [.le o_GExpr e0, .lT c1, .na hi2, .ix hx3 (oeq_GExpr x3), .ix hx3 (oeq_GExpr x3), ⟨.setL (eL o_GExpr e0) i2 [.int .i64 a0, .int .i64 x3.N, .own 1 (eL e_u8 x3.S), .own 1 (eL (o_sl 1 e_u8) x3.K), .own 5 (eL o_GExpr x3.Kids)], .l (eL o_GExpr (e0.set i2 (GExpr.mk a0 x3.N x3.S x3.K x3.Kids))), (A.setL (oeq_GExpr (GExpr.mk a0 x3.N x3.S x3.K x3.Kids)))⟩, .ad a0 1, .na hi2, .ix hx4 (oeq_GExpr x4), .ix hx4 (oeq_GExpr x4), ⟨.setL (eL o_GExpr (e0.set i2 (GExpr.mk a0 x3.N x3.S x3.K x3.Kids))) i2 [.int .i64 x4.Kind, .int .i64 (w64 (a0 + 1)), .own 1 (eL e_u8 x4.S), .own 1 (eL (o_sl 1 e_u8) x4.K), .own 5 (eL o_GExpr x4.Kids)], .l (eL o_GExpr ((e0.set i2 (GExpr.mk a0 x3.N x3.S x3.K x3.Kids)).set i2 (GExpr.mk x4.Kind (w64 (a0 + 1)) x4.S x4.K x4.Kids))), (A.setL (oeq_GExpr (GExpr.mk x4.Kind (w64 (a0 + 1)) x4.S x4.K x4.Kids)))⟩, .ad (w64 (a0 + 1)) 1, .na hi2, .ix hx5 (oeq_GExpr x5), .ix hx5 (oeq_GExpr x5), .cl (ok_laws_markByteS (w64 ((w64 (a0 + 1)) + 1)) x5.S _ hr6), .ix hx5 (oeq_GExpr x5), ⟨.setL (eL o_GExpr ((e0.set i2 (GExpr.mk a0 x3.N x3.S x3.K x3.Kids)).set i2 (GExpr.mk x4.Kind (w64 (a0 + 1)) x4.S x4.K x4.Kids))) i2 [.int .i64 x5.Kind, .int .i64 x5.N, .own 1 (eL e_u8 r6_1), .own 1 (eL (o_sl 1 e_u8) x5.K), .own 5 (eL o_GExpr x5.Kids)], .l (eL o_GExpr (((e0.set i2 (GExpr.mk a0 x3.N x3.S x3.K x3.Kids)).set i2 (GExpr.mk x4.Kind (w64 (a0 + 1)) x4.S x4.K x4.Kids)).set i2 (GExpr.mk x5.Kind x5.N r6_1 x5.K x5.Kids))), (A.setL (oeq_GExpr (GExpr.mk x5.Kind x5.N r6_1 x5.K x5.Kids)))⟩, .na hi2, .ix hx7 (oeq_GExpr x7), .ix hx7 (oeq_GExpr x7), .cl (ok_laws_markByteSS r6_0 x7.K _ hr8), .ix hx7 (oeq_GExpr x7), ⟨.setL (eL o_GExpr (((e0.set i2 (GExpr.mk a0 x3.N x3.S x3.K x3.Kids)).set i2 (GExpr.mk x4.Kind (w64 (a0 + 1)) x4.S x4.K x4.Kids)).set i2 (GExpr.mk x5.Kind x5.N r6_1 x5.K x5.Kids))) i2 [.int .i64 x7.Kind, .int .i64 x7.N, .own 1 (eL e_u8 x7.S), .own 1 (eL (o_sl 1 e_u8) r8_1), .own 5 (eL o_GExpr x7.Kids)], .l (eL o_GExpr ((((e0.set i2 (GExpr.mk a0 x3.N x3.S x3.K x3.Kids)).set i2 (GExpr.mk x4.Kind (w64 (a0 + 1)) x4.S x4.K x4.Kids)).set i2 (GExpr.mk x5.Kind x5.N r6_1 x5.K x5.Kids)).set i2 (GExpr.mk x7.Kind x7.N x7.S r8_1 x7.Kids))), (A.setL (oeq_GExpr (GExpr.mk x7.Kind x7.N x7.S r8_1 x7.Kids)))⟩, .na hi2, .ix hx9 (oeq_GExpr x9), .ix hx9 (oeq_GExpr x9), .cl (H_laws_markExprS r8_0 x9.Kids _ hr10), .ix hx9 (oeq_GExpr x9), ⟨.setL (eL o_GExpr ((((e0.set i2 (GExpr.mk a0 x3.N x3.S x3.K x3.Kids)).set i2 (GExpr.mk x4.Kind (w64 (a0 + 1)) x4.S x4.K x4.Kids)).set i2 (GExpr.mk x5.Kind x5.N r6_1 x5.K x5.Kids)).set i2 (GExpr.mk x7.Kind x7.N x7.S r8_1 x7.Kids))) i2 [.int .i64 x9.Kind, .int .i64 x9.N, .own 1 (eL e_u8 x9.S), .own 1 (eL (o_sl 1 e_u8) x9.K), .own 5 (eL o_GExpr r10_1)], .l (eL o_GExpr (((((e0.set i2 (GExpr.mk a0 x3.N x3.S x3.K x3.Kids)).set i2 (GExpr.mk x4.Kind (w64 (a0 + 1)) x4.S x4.K x4.Kids)).set i2 (GExpr.mk x5.Kind x5.N r6_1 x5.K x5.Kids)).set i2 (GExpr.mk x7.Kind x7.N x7.S r8_1 x7.Kids)).set i2 (GExpr.mk x9.Kind x9.N x9.S x9.K r10_1))), (A.setL (oeq_GExpr (GExpr.mk x9.Kind x9.N x9.S x9.K r10_1)))⟩, .ad v1 1] (by kernel_rfl) (ih r10_0 (w64 (v1 + 1)) (((((e0.set i2 (GExpr.mk a0 x3.N x3.S x3.K x3.Kids)).set i2 (GExpr.mk x4.Kind (w64 (a0 + 1)) x4.S x4.K x4.Kids)).set i2 (GExpr.mk x5.Kind x5.N r6_1 x5.K x5.Kids)).set i2 (GExpr.mk x7.Kind x7.N x7.S r8_1 x7.Kids)).set i2 (GExpr.mk x9.Kind x9.N x9.S x9.K r10_1)) o h)
    ·obtain rfl := Option.some.inj h
     exact loop_eQ [.le o_GExpr e0, .lF c1] (by kernel_rfl) (by intro h; cases h)

def T_laws_markExprS (G_laws_markExprS : Int → (List GExpr) → Option (Int × (List GExpr))) (n : Nat) (a0 : Int) (e0 : (List GExpr)) : Option (Int × (List GExpr)) :=
  (L_laws_markExprS_l0 G_laws_markExprS n a0 0 e0).bind fun ⟨o1_0, o1_1, o1_2⟩ =>
  some (o1_0, o1_2)

set_option maxRecDepth 100000 in
theorem fd_48 : cfg.funcs 48 = some (bodyOf Try.f48, Try.f48.ntmps, Try.f48.results.toList) := fn_of Try.func48 (by kernel_rfl) (by kernel_rfl)
theorem g_laws_markExprS (G_laws_markExprS : Int → (List GExpr) → Option (Int × (List GExpr))) (H_laws_markExprS : ∀ (a0 : Int) (e0 : (List GExpr)) (r : (Int × (List GExpr))), G_laws_markExprS a0 e0 = some r → (mach cfg).call 48 [.obj 5 (eL o_GExpr e0)] [.val false [.ref 0], .val false [.int .i64 a0]] = some (.val false [.int .i64 r.1], [.obj 5 (eL o_GExpr r.2)])) (n : Nat) (a0 : Int) (e0 : (List GExpr)) (r : (Int × (List GExpr))) (h : T_laws_markExprS G_laws_markExprS n a0 e0 = some r) : (mach cfg).call 48 [.obj 5 (eL o_GExpr e0)] [.val false [.ref 0], .val false [.int .i64 a0]] = some (.val false [.int .i64 r.1], [.obj 5 (eL o_GExpr r.2)]) := by
  unfold T_laws_markExprS at h
  obtain ⟨⟨o1_0, o1_1, o1_2⟩, ho1, h⟩ := bs h
  try dsimp only at h
  obtain rfl := Option.some.inj h
  exact call_wQ [.lp (gl_laws_markExprS_l0 G_laws_markExprS H_laws_markExprS _ a0 0 e0 _ ho1)] rfl fd_48 (by kernel_rfl)

def U_laws_markExprS : Nat → Int → (List GExpr) → Option (Int × (List GExpr))
  | 0, _, _ => none
  | n + 1, a0, e0 => T_laws_markExprS (U_laws_markExprS n) n a0 e0
theorem rec_laws_markExprS (n : Nat) : (∀ (a0 : Int) (e0 : (List GExpr)) (r : (Int × (List GExpr))), U_laws_markExprS n a0 e0 = some r → (mach cfg).call 48 [.obj 5 (eL o_GExpr e0)] [.val false [.ref 0], .val false [.int .i64 a0]] = some (.val false [.int .i64 r.1], [.obj 5 (eL o_GExpr r.2)])) := by
  induction n with
  | zero => exact fun _ _ _ h => (by rw [U_laws_markExprS] at h; cases h)
  | succ n ih =>
    have ih_laws_markExprS := ih
    exact fun a0 e0 r h => g_laws_markExprS (U_laws_markExprS n) ih_laws_markExprS n a0 e0 r (by rw [U_laws_markExprS] at h; exact h)
theorem markExprS_loop {G : Int → List GExpr → Option (Int × List GExpr)} : ∀ (l p : List GExpr) (k : Int) (m : Nat), (∀ v ∈ l, ∀ i : Int, 0 ≤ i → i + 2 * xszs v.Kids ≤ 2 ^ 41 → G i v.Kids = some (i + cXs v.Kids, mXs i v.Kids)) → 0 ≤ k → k + 2 * xszs l ≤ 2 ^ 41 → p.length + l.length ≤ 2 ^ 41 → l.length < m → ∃ z, L_laws_markExprS_l0 G m k ((p.length : Nat) : Int) (p ++ l) = some (k + cXs l, z, p ++ mXs k l) := by
  intro l
  induction l with
  | nil =>
    intro p k m _ _ _ _ hm
    obtain ⟨m, rfl, _⟩ := fuel hm
    exact ⟨_, by rw [L_laws_markExprS_l0, if_neg (nlt_end p)]; simp [mXs, cXs]; rfl⟩
  | cons x l ih =>
    intro p k m hG h0 h1 h2 hm
    obtain ⟨m, rfl, hm'⟩ := fuel hm
    simp only [List.length_cons] at h2 hm'
    have hx := hG x List.mem_cons_self
    have hc := cX_le x
    obtain ⟨kd, n, s, kk, ks⟩ := x
    have hb := bsz_cB kk
    have hd := cXs_le ks
    simp only [xszs, xsz] at h1
    simp only [cX, xsz] at hc
    simp only [GExpr.Kids] at hx
    obtain ⟨z, hz⟩ := ih (p ++ [mX k (.mk kd n s kk ks)]) (k + cX (.mk kd n s kk ks)) m (fun v hv => hG v (List.mem_cons_of_mem _ hv)) (by omega) (by simp only [cX]; omega) (by simp; omega) (by omega)
    rw [L_laws_markExprS_l0, if_pos (lt_mid p _ l), natO_nat, Option.bind_some, get_mid, Option.bind_some]
    simp only [set_mid, get_mid, Option.bind_some, GExpr.Kind, GExpr.N, GExpr.S, GExpr.K, GExpr.Kids]
    rw [w64_id (x := k + 1) (by omega) (by omega), w64_id (x := k + 1 + 1) (by omega) (by omega), markByteS_eq (by omega) (by omega)]
    simp only [Option.bind_some, set_mid, get_mid, GExpr.Kind, GExpr.N, GExpr.S, GExpr.K, GExpr.Kids]
    rw [markByteSS_eq (by omega) (by omega)]
    simp only [Option.bind_some, set_mid, get_mid, GExpr.Kind, GExpr.N, GExpr.S, GExpr.K, GExpr.Kids]
    rw [hx _ (by omega) (by omega)]
    simp only [Option.bind_some, set_mid, get_mid, GExpr.Kind, GExpr.N, GExpr.S, GExpr.K, GExpr.Kids]
    refine ⟨z, ?_⟩
    rw [w64_len p (mX k (.mk kd n s kk ks)) (by omega), show GExpr.mk k (k + 1) (mB (k + 1 + 1) s) (mBB (k + 1 + 1 + s.length) kk) (mXs (k + 1 + 1 + s.length + cB kk) ks) = mX k (.mk kd n s kk ks) by simp only [mX], snoc_app p _ l,
      show k + 1 + 1 + (s.length : Int) + (cB kk : Int) + (cXs ks : Int) = k + ((cX (.mk kd n s kk ks) : Nat) : Int) by simp only [cX]; omega, hz]
    simp only [mXs, cXs, List.append_assoc, List.singleton_append]
    rw [show k + ((cX (.mk kd n s kk ks) : Nat) : Int) + (cXs l : Int) = k + ((cX (.mk kd n s kk ks) + cXs l : Nat) : Int) by omega]
theorem markExprS_U : ∀ (N : Nat) (l : List GExpr), xszs l < N → ∀ (k : Int) (f : Nat), 0 ≤ k → k + 2 * xszs l ≤ 2 ^ 41 → xszs l + 2 ≤ f → U_laws_markExprS f k l = some (k + cXs l, mXs k l) := by
  intro N
  induction N with
  | zero => intro l hl; omega
  | succ N ih =>
    intro l hl k f h0 h1 hf
    obtain ⟨f, rfl, _⟩ := fuel (show 0 < f by omega)
    have hlen := xszs_len l
    rw [U_laws_markExprS]
    unfold T_laws_markExprS
    obtain ⟨z, hz⟩ := markExprS_loop (G := U_laws_markExprS f) l [] k f (fun v hv i g0 g1 => by
      have := xszs_mem hv
      have := xsz_eq v
      exact ih v.Kids (by omega) i f g0 g1 (by omega)) h0 h1 (by simp; omega) (by omega)
    simp only [List.nil_append, List.length_nil, Int.natCast_zero] at hz
    rw [hz]; rfl
def S_laws_markExprS (a0 : Int) (e0 : (List GExpr)) : Option (Int × (List GExpr)) := if 0 ≤ a0 ∧ a0 + 2 * xszs e0 ≤ 2 ^ 41 then some (a0 + cXs e0, mXs a0 e0) else none
theorem markExprS_eq {a : Int} {s : List GExpr} (h0 : 0 ≤ a) (h1 : a + 2 * xszs s ≤ 2 ^ 41) : S_laws_markExprS a s = some (a + cXs s, mXs a s) := if_pos ⟨h0, h1⟩
theorem spec_laws_markExprS (a0 : Int) (e0 : (List GExpr)) (r : (Int × (List GExpr))) (h : S_laws_markExprS a0 e0 = some r) : ∃ n, U_laws_markExprS n a0 e0 = some r := by
  unfold S_laws_markExprS at h
  obtain ⟨⟨h0, h1⟩, h⟩ := need_c h
  exact ⟨xszs e0 + 2, by rw [markExprS_U _ e0 (Nat.lt_succ_self _) a0 _ h0 h1 (Nat.le_refl _), h]⟩
theorem ok_laws_markExprS (a0 : Int) (e0 : (List GExpr)) (r : (Int × (List GExpr))) (h : S_laws_markExprS a0 e0 = some r) : (mach cfg).call 48 [.obj 5 (eL o_GExpr e0)] [.val false [.ref 0], .val false [.int .i64 a0]] = some (.val false [.int .i64 r.1], [.obj 5 (eL o_GExpr r.2)]) := by
  obtain ⟨n, hn⟩ := spec_laws_markExprS a0 e0 r h
  exact (rec_laws_markExprS n) a0 e0 r hn
def S_laws_markExpr (a0_0 : Int) (a0_1 : Int) (a1 : Int) (e0 : (List UInt8)) (e1 : (List (List UInt8))) (e2 : (List GExpr)) : Option (Int × (List UInt8) × (List (List UInt8)) × (List GExpr)) :=
  (S_laws_markByteS a1 e0).bind fun ⟨r1_0, r1_1⟩ =>
  (S_laws_markByteSS r1_0 e1).bind fun ⟨r2_0, r2_1⟩ =>
  (S_laws_markExprS r2_0 e2).bind fun ⟨r3_0, r3_1⟩ =>
  some (r3_0, r1_1, r2_1, r3_1)

set_option maxRecDepth 100000 in
theorem fd_14 : cfg.funcs 14 = some (bodyOf Try.f14, Try.f14.ntmps, Try.f14.results.toList) := fn_of Try.func14 (by kernel_rfl) (by kernel_rfl)
theorem ok_laws_markExpr (a0_0 : Int) (a0_1 : Int) (a1 : Int) (e0 : (List UInt8)) (e1 : (List (List UInt8))) (e2 : (List GExpr)) (r : (Int × (List UInt8) × (List (List UInt8)) × (List GExpr))) (h : S_laws_markExpr a0_0 a0_1 a1 e0 e1 e2 = some r) : (mach cfg).call 14 [.obj 1 (eL e_u8 e0), .obj 1 (eL (o_sl 1 e_u8) e1), .obj 5 (eL o_GExpr e2)] [.val true [.int .i64 a0_0, .int .i64 a0_1, .ref 0, .ref 1, .ref 2], .val false [.int .i64 a1]] = some (.val false [.int .i64 r.1], [.obj 1 (eL e_u8 r.2.1), .obj 1 (eL (o_sl 1 e_u8) r.2.2.1), .obj 5 (eL o_GExpr r.2.2.2)]) := by
  unfold S_laws_markExpr at h
  obtain ⟨⟨r1_0, r1_1⟩, hr1, h⟩ := bs h
  try dsimp only at h
  obtain ⟨⟨r2_0, r2_1⟩, hr2, h⟩ := bs h
  try dsimp only at h
  obtain ⟨⟨r3_0, r3_1⟩, hr3, h⟩ := bs h
  try dsimp only at h
  obtain rfl := Option.some.inj h
  exact call_wQ [.cl (ok_laws_markByteS a1 e0 _ hr1), .cl (ok_laws_markByteSS r1_0 e1 _ hr2), .cl (ok_laws_markExprS r2_0 e2 _ hr3)] rfl fd_14 (by kernel_rfl)

def L_laws_heldByteS_l0 (a0 : (List UInt8)) : Nat → Int → Int → Option (Int ⊕ (Int × Int))
  | 0, _, _ => none
  | m + 1, a1, v2 =>
    if v2 < ((a0.length : Nat) : Int) then
      (natO v2).bind fun i2 =>
      (a0[i2]?).bind fun x3 =>
      if ((x3.toNat : Nat) : Int) = (((b8 a1).toNat : Nat) : Int) then
        L_laws_heldByteS_l0 a0 m (w64 (a1 + 1)) (w64 (v2 + 1))
      else
        some (.inl (-1))
    else
      some (.inr (a1, v2))

theorem gl_laws_heldByteS_l0 (a0 : (List UInt8)) (m : Nat) : ∀ (a1 : Int) (v2 : Int) (o : (Int ⊕ (Int × Int))), L_laws_heldByteS_l0 a0 m a1 v2 = some o → (mach cfg).loop 49 (loopB Try.f49 0) ⟨[(0, .val false [.seq (eL e_u8 a0)]), (1, .val false [.int .i64 a1]), (5, .val false [.int .i64 v2])], [], 0⟩ = some (match o with | .inl o_0 => (.ret, (⟨[(4, .val false [.int .i64 o_0])], [], 0⟩ : S)) | .inr (⟨o_1_0, o_1_1⟩) => (.exit 0, (⟨[(0, .val false [.seq (eL e_u8 a0)]), (1, .val false [.int .i64 o_1_0]), (5, .val false [.int .i64 o_1_1]), (9, .val false [.bool false])], [], 0⟩ : S))) := by
  induction m with
  | zero => intro a1 v2 o h; cases h
  | succ m ih =>
    intro a1 v2 o h
    rw [L_laws_heldByteS_l0] at h
    rcases ite_some h with ⟨c1, h⟩ | ⟨c1, h⟩
    ·obtain ⟨i2, hi2, h⟩ := bs h
     obtain ⟨x3, hx3, h⟩ := bs h
     rcases ite_some h with ⟨c4, h⟩ | ⟨c4, h⟩
     ·exact loop_nQ [.le e_u8 a0, .lT c1, .na hi2, .ix0 e_u8 hx3, ⟨.conv .u8 a1, .i (((b8 a1).toNat : Nat) : Int), A.conv8⟩, .eT c4, .nt true, .ad a1 1, .ad v2 1] (by kernel_rfl) (ih (w64 (a1 + 1)) (w64 (v2 + 1)) o h)
     ·obtain rfl := Option.some.inj h
      exact loop_eQ [.le e_u8 a0, .lT c1, .na hi2, .ix0 e_u8 hx3, ⟨.conv .u8 a1, .i (((b8 a1).toNat : Nat) : Int), A.conv8⟩, .eF c4, .nt false] (by kernel_rfl) (by intro h; cases h)
    ·obtain rfl := Option.some.inj h
     exact loop_eQ [.le e_u8 a0, .lF c1] (by kernel_rfl) (by intro h; cases h)

def T_laws_heldByteS (n : Nat) (a0 : (List UInt8)) (a1 : Int) : Option Int :=
  (L_laws_heldByteS_l0 a0 n a1 0).bind fun o1 =>
  match o1 with
  | .inl o1_0 =>
    some o1_0
  | .inr (⟨o1_1_0, o1_1_1⟩) =>
    some o1_1_0

set_option maxRecDepth 100000 in
theorem fd_49 : cfg.funcs 49 = some (bodyOf Try.f49, Try.f49.ntmps, Try.f49.results.toList) := fn_of Try.func49 (by kernel_rfl) (by kernel_rfl)
theorem g_laws_heldByteS (n : Nat) (a0 : (List UInt8)) (a1 : Int) (r : Int) (h : T_laws_heldByteS n a0 a1 = some r) : (mach cfg).call 49 [] [.val false [.seq (eL e_u8 a0)], .val false [.int .i64 a1]] = some (.val false [.int .i64 r], []) := by
  unfold T_laws_heldByteS at h
  obtain ⟨o1, ho1, h⟩ := bs h
  rcases o1 with o1_0 | ⟨o1_1_0, o1_1_1⟩
  · try dsimp only at h
    obtain rfl := Option.some.inj h
    exact call_wQ [.lp (gl_laws_heldByteS_l0 a0 _ a1 0 _ ho1)] rfl fd_49 (by kernel_rfl)
  · try dsimp only at h
    obtain rfl := Option.some.inj h
    exact call_wQ [.lp (gl_laws_heldByteS_l0 a0 _ a1 0 _ ho1)] rfl fd_49 (by kernel_rfl)

theorem heldByteS_loop {a : List UInt8} : ∀ (l p : List UInt8) (k : Int) (m : Nat), a = p ++ l → mB k l = l → 0 ≤ k → k + 2 * l.length ≤ 2 ^ 41 → p.length + l.length ≤ 2 ^ 41 → l.length < m → ∃ z, L_laws_heldByteS_l0 a m k ((p.length : Nat) : Int) = some (.inr (k + l.length, z)) := by
  intro l
  induction l with
  | nil =>
    intro p k m ha _ _ _ _ hm
    subst ha
    obtain ⟨m, rfl, _⟩ := fuel hm
    exact ⟨_, by rw [L_laws_heldByteS_l0, if_neg (nlt_end p)]; simp; rfl⟩
  | cons x l ih =>
    intro p k m ha hm0 h0 h1 h2 hm
    obtain ⟨m, rfl, hm'⟩ := fuel hm
    simp only [List.length_cons] at h1 h2 hm'
    rw [mB] at hm0
    obtain ⟨e1, e2⟩ := List.cons.inj hm0
    obtain ⟨z, hz⟩ := ih (p ++ [x]) (k + 1) m (by rw [ha]; simp) e2 (by omega) (by omega) (by simp; omega) (by omega)
    refine ⟨z, ?_⟩
    rw [L_laws_heldByteS_l0, if_pos (by rw [ha]; exact lt_mid p x l), natO_nat, Option.bind_some, show a[p.length]? = some x by rw [ha]; exact get_mid p x l, Option.bind_some, if_pos (by rw [e1]), w64_len p x (by omega), w64_id (x := k + 1) (by omega) (by omega), hz]
    simp only [List.length_cons]
    rw [show k + 1 + (l.length : Int) = k + ((l.length + 1 : Nat) : Int) by omega]
def S_laws_heldByteS (a0 : (List UInt8)) (a1 : Int) : Option Int := if mB a1 a0 = a0 ∧ 0 ≤ a1 ∧ a1 + 2 * a0.length ≤ 2 ^ 41 then some (a1 + a0.length) else none
theorem heldByteS_eq {a : Int} {s : List UInt8} (h : mB a s = s) (h0 : 0 ≤ a) (h1 : a + 2 * s.length ≤ 2 ^ 41) : S_laws_heldByteS s a = some (a + s.length) := if_pos ⟨h, h0, h1⟩
theorem spec_laws_heldByteS (a0 : (List UInt8)) (a1 : Int) (r : Int) (h : S_laws_heldByteS a0 a1 = some r) : ∃ n, T_laws_heldByteS n a0 a1 = some r := by
  unfold S_laws_heldByteS at h
  obtain ⟨⟨he, h0, h1⟩, h⟩ := need_c h
  obtain ⟨z, hz⟩ := heldByteS_loop (a := a0) a0 [] a1 (a0.length + 1) rfl he h0 h1 (by simp; omega) (by omega)
  refine ⟨a0.length + 1, ?_⟩
  unfold T_laws_heldByteS
  simp only [List.length_nil, Int.natCast_zero] at hz
  rw [hz]
  exact h
theorem ok_laws_heldByteS (a0 : (List UInt8)) (a1 : Int) (r : Int) (h : S_laws_heldByteS a0 a1 = some r) : (mach cfg).call 49 [] [.val false [.seq (eL e_u8 a0)], .val false [.int .i64 a1]] = some (.val false [.int .i64 r], []) := by
  obtain ⟨n, hn⟩ := spec_laws_heldByteS a0 a1 r h
  exact g_laws_heldByteS n a0 a1 r hn
def L_laws_heldByteSS_l0 (a0 : (List (List UInt8))) : Nat → Int → Int → Option (Int ⊕ (Int × Int))
  | 0, _, _ => none
  | m + 1, a1, v2 =>
    if v2 < ((a0.length : Nat) : Int) then
      (natO v2).bind fun i2 =>
      (a0[i2]?).bind fun x3 =>
      (S_laws_heldByteS x3 a1).bind fun r4 =>
      if r4 < 0 then
        some (.inl (-1))
      else
        L_laws_heldByteSS_l0 a0 m r4 (w64 (v2 + 1))
    else
      some (.inr (a1, v2))

theorem gl_laws_heldByteSS_l0 (a0 : (List (List UInt8))) (m : Nat) : ∀ (a1 : Int) (v2 : Int) (o : (Int ⊕ (Int × Int))), L_laws_heldByteSS_l0 a0 m a1 v2 = some o → (mach cfg).loop 50 (loopB Try.f50 0) ⟨[(0, .val false [.seq (eL (e_sl e_u8) a0)]), (1, .val false [.int .i64 a1]), (5, .val false [.int .i64 v2])], [], 0⟩ = some (match o with | .inl o_0 => (.ret, (⟨[(4, .val false [.int .i64 o_0])], [], 0⟩ : S)) | .inr (⟨o_1_0, o_1_1⟩) => (.exit 0, (⟨[(0, .val false [.seq (eL (e_sl e_u8) a0)]), (1, .val false [.int .i64 o_1_0]), (5, .val false [.int .i64 o_1_1]), (9, .val false [.bool false])], [], 0⟩ : S))) := by
  induction m with
  | zero => intro a1 v2 o h; cases h
  | succ m ih =>
    intro a1 v2 o h
    rw [L_laws_heldByteSS_l0] at h
    rcases ite_some h with ⟨c1, h⟩ | ⟨c1, h⟩
    ·obtain ⟨i2, hi2, h⟩ := bs h
     obtain ⟨x3, hx3, h⟩ := bs h
     obtain ⟨r4, hr4, h⟩ := bs h
     rcases ite_some h with ⟨c5, h⟩ | ⟨c5, h⟩
     ·obtain rfl := Option.some.inj h
      exact loop_eQ [.le (e_sl e_u8) a0, .lT c1, .na hi2, .ix0 (e_sl e_u8) hx3, .cl (ok_laws_heldByteS x3 a1 _ hr4), .lT c5] (by kernel_rfl) (by intro h; cases h)
     ·exact loop_nQ [.le (e_sl e_u8) a0, .lT c1, .na hi2, .ix0 (e_sl e_u8) hx3, .cl (ok_laws_heldByteS x3 a1 _ hr4), .lF c5, .ad v2 1] (by kernel_rfl) (ih r4 (w64 (v2 + 1)) o h)
    ·obtain rfl := Option.some.inj h
     exact loop_eQ [.le (e_sl e_u8) a0, .lF c1] (by kernel_rfl) (by intro h; cases h)

def T_laws_heldByteSS (n : Nat) (a0 : (List (List UInt8))) (a1 : Int) : Option Int :=
  (L_laws_heldByteSS_l0 a0 n a1 0).bind fun o1 =>
  match o1 with
  | .inl o1_0 =>
    some o1_0
  | .inr (⟨o1_1_0, o1_1_1⟩) =>
    some o1_1_0

set_option maxRecDepth 100000 in
theorem fd_50 : cfg.funcs 50 = some (bodyOf Try.f50, Try.f50.ntmps, Try.f50.results.toList) := fn_of Try.func50 (by kernel_rfl) (by kernel_rfl)
theorem g_laws_heldByteSS (n : Nat) (a0 : (List (List UInt8))) (a1 : Int) (r : Int) (h : T_laws_heldByteSS n a0 a1 = some r) : (mach cfg).call 50 [] [.val false [.seq (eL (e_sl e_u8) a0)], .val false [.int .i64 a1]] = some (.val false [.int .i64 r], []) := by
  unfold T_laws_heldByteSS at h
  obtain ⟨o1, ho1, h⟩ := bs h
  rcases o1 with o1_0 | ⟨o1_1_0, o1_1_1⟩
  · try dsimp only at h
    obtain rfl := Option.some.inj h
    exact call_wQ [.lp (gl_laws_heldByteSS_l0 a0 _ a1 0 _ ho1)] rfl fd_50 (by kernel_rfl)
  · try dsimp only at h
    obtain rfl := Option.some.inj h
    exact call_wQ [.lp (gl_laws_heldByteSS_l0 a0 _ a1 0 _ ho1)] rfl fd_50 (by kernel_rfl)

theorem heldByteSS_loop {a : List (List UInt8)} : ∀ (l p : List (List UInt8)) (k : Int) (m : Nat), a = p ++ l → mBB k l = l → 0 ≤ k → k + 2 * bsz l ≤ 2 ^ 41 → p.length + l.length ≤ 2 ^ 41 → l.length < m → ∃ z, L_laws_heldByteSS_l0 a m k ((p.length : Nat) : Int) = some (.inr (k + cB l, z)) := by
  intro l
  induction l with
  | nil =>
    intro p k m ha _ _ _ _ hm
    subst ha
    obtain ⟨m, rfl, _⟩ := fuel hm
    exact ⟨_, by rw [L_laws_heldByteSS_l0, if_neg (nlt_end p)]; simp [cB]; rfl⟩
  | cons x l ih =>
    intro p k m ha hm0 h0 h1 h2 hm
    obtain ⟨m, rfl, hm'⟩ := fuel hm
    rw [bsz_cons] at h1
    simp only [List.length_cons] at h2 hm'
    rw [mBB] at hm0
    obtain ⟨e1, e2⟩ := List.cons.inj hm0
    obtain ⟨z, hz⟩ := ih (p ++ [x]) (k + x.length) m (by rw [ha]; simp) e2 (by omega) (by omega) (by simp; omega) (by omega)
    refine ⟨z, ?_⟩
    rw [L_laws_heldByteSS_l0, if_pos (by rw [ha]; exact lt_mid p x l), natO_nat, Option.bind_some, show a[p.length]? = some x by rw [ha]; exact get_mid p x l, Option.bind_some, heldByteS_eq e1 (by omega) (by omega), Option.bind_some, if_neg (by omega), w64_len p x (by omega), hz, cB_cons]
    rw [show k + (x.length : Int) + (cB l : Int) = k + ((x.length + cB l : Nat) : Int) by omega]
def S_laws_heldByteSS (a0 : (List (List UInt8))) (a1 : Int) : Option Int := if mBB a1 a0 = a0 ∧ 0 ≤ a1 ∧ a1 + 2 * bsz a0 ≤ 2 ^ 41 then some (a1 + cB a0) else none
theorem heldByteSS_eq {a : Int} {s : List (List UInt8)} (h : mBB a s = s) (h0 : 0 ≤ a) (h1 : a + 2 * bsz s ≤ 2 ^ 41) : S_laws_heldByteSS s a = some (a + cB s) := if_pos ⟨h, h0, h1⟩
theorem spec_laws_heldByteSS (a0 : (List (List UInt8))) (a1 : Int) (r : Int) (h : S_laws_heldByteSS a0 a1 = some r) : ∃ n, T_laws_heldByteSS n a0 a1 = some r := by
  unfold S_laws_heldByteSS at h
  obtain ⟨⟨he, h0, h1⟩, h⟩ := need_c h
  have := bsz_len a0
  obtain ⟨z, hz⟩ := heldByteSS_loop (a := a0) a0 [] a1 (a0.length + 1) rfl he h0 h1 (by simp; omega) (by omega)
  refine ⟨a0.length + 1, ?_⟩
  unfold T_laws_heldByteSS
  simp only [List.length_nil, Int.natCast_zero] at hz
  rw [hz]
  exact h
theorem ok_laws_heldByteSS (a0 : (List (List UInt8))) (a1 : Int) (r : Int) (h : S_laws_heldByteSS a0 a1 = some r) : (mach cfg).call 50 [] [.val false [.seq (eL (e_sl e_u8) a0)], .val false [.int .i64 a1]] = some (.val false [.int .i64 r], []) := by
  obtain ⟨n, hn⟩ := spec_laws_heldByteSS a0 a1 r h
  exact g_laws_heldByteSS n a0 a1 r hn
def L_laws_heldExprS_l0 (G_laws_heldExprS : (List GExpr) → Int → Option Int) (a0 : (List GExpr)) : Nat → Int → Int → Option (Int ⊕ (Int × Int))
  | 0, _, _ => none
  | m + 1, a1, v2 =>
    if v2 < ((a0.length : Nat) : Int) then
      (natO v2).bind fun i2 =>
      (a0[i2]?).bind fun x3 =>
      if x3.Kind = a1 then
        if x3.N = (w64 (a1 + 1)) then
          (S_laws_heldByteS x3.S (w64 ((w64 (a1 + 1)) + 1))).bind fun r6 =>
          if r6 < 0 then
            some (.inl (-1))
          else
            (S_laws_heldByteSS x3.K r6).bind fun r8 =>
            if r8 < 0 then
              some (.inl (-1))
            else
              (G_laws_heldExprS x3.Kids r8).bind fun r10 =>
              if r10 < 0 then
                some (.inl (-1))
              else
                L_laws_heldExprS_l0 G_laws_heldExprS a0 m r10 (w64 (v2 + 1))
        else
          some (.inl (-1))
      else
        some (.inl (-1))
    else
      some (.inr (a1, v2))

theorem gl_laws_heldExprS_l0 (G_laws_heldExprS : (List GExpr) → Int → Option Int) (H_laws_heldExprS : ∀ (a0 : (List GExpr)) (a1 : Int) (r : Int), G_laws_heldExprS a0 a1 = some r → (mach cfg).call 51 [] [.val false [.seq (eL e_GExpr a0)], .val false [.int .i64 a1]] = some (.val false [.int .i64 r], [])) (a0 : (List GExpr)) (m : Nat) : ∀ (a1 : Int) (v2 : Int) (o : (Int ⊕ (Int × Int))), L_laws_heldExprS_l0 G_laws_heldExprS a0 m a1 v2 = some o → (mach cfg).loop 51 (loopB Try.f51 0) ⟨[(0, .val false [.seq (eL e_GExpr a0)]), (1, .val false [.int .i64 a1]), (5, .val false [.int .i64 v2])], [], 0⟩ = some (match o with | .inl o_0 => (.ret, (⟨[(4, .val false [.int .i64 o_0])], [], 0⟩ : S)) | .inr (⟨o_1_0, o_1_1⟩) => (.exit 0, (⟨[(0, .val false [.seq (eL e_GExpr a0)]), (1, .val false [.int .i64 o_1_0]), (5, .val false [.int .i64 o_1_1]), (9, .val false [.bool false])], [], 0⟩ : S))) := by
  induction m with
  | zero => intro a1 v2 o h; cases h
  | succ m ih =>
    intro a1 v2 o h
    rw [L_laws_heldExprS_l0] at h
    rcases ite_some h with ⟨c1, h⟩ | ⟨c1, h⟩
    ·obtain ⟨i2, hi2, h⟩ := bs h
     obtain ⟨x3, hx3, h⟩ := bs h
     rcases ite_some h with ⟨c4, h⟩ | ⟨c4, h⟩
     ·rcases ite_some h with ⟨c5, h⟩ | ⟨c5, h⟩
      ·obtain ⟨r6, hr6, h⟩ := bs h
       rcases ite_some h with ⟨c7, h⟩ | ⟨c7, h⟩
       ·obtain rfl := Option.some.inj h
        exact loop_eQ [.le e_GExpr a0, .lT c1, .na hi2, .ix hx3 (eq_GExpr x3), .eT c4, .nt true, .ad a1 1, .na hi2, .ix hx3 (eq_GExpr x3), .eT c5, .nt true, .ad (w64 (a1 + 1)) 1, .na hi2, .ix hx3 (eq_GExpr x3), .cl (ok_laws_heldByteS x3.S (w64 ((w64 (a1 + 1)) + 1)) _ hr6), .lT c7] (by kernel_rfl) (by intro h; cases h)
       ·obtain ⟨r8, hr8, h⟩ := bs h
        rcases ite_some h with ⟨c9, h⟩ | ⟨c9, h⟩
        ·obtain rfl := Option.some.inj h
         exact loop_eQ [.le e_GExpr a0, .lT c1, .na hi2, .ix hx3 (eq_GExpr x3), .eT c4, .nt true, .ad a1 1, .na hi2, .ix hx3 (eq_GExpr x3), .eT c5, .nt true, .ad (w64 (a1 + 1)) 1, .na hi2, .ix hx3 (eq_GExpr x3), .cl (ok_laws_heldByteS x3.S (w64 ((w64 (a1 + 1)) + 1)) _ hr6), .lF c7, .na hi2, .ix hx3 (eq_GExpr x3), .cl (ok_laws_heldByteSS x3.K r6 _ hr8), .lT c9] (by kernel_rfl) (by intro h; cases h)
        ·obtain ⟨r10, hr10, h⟩ := bs h
         rcases ite_some h with ⟨c11, h⟩ | ⟨c11, h⟩
         ·obtain rfl := Option.some.inj h
          exact loop_eQ [.le e_GExpr a0, .lT c1, .na hi2, .ix hx3 (eq_GExpr x3), .eT c4, .nt true, .ad a1 1, .na hi2, .ix hx3 (eq_GExpr x3), .eT c5, .nt true, .ad (w64 (a1 + 1)) 1, .na hi2, .ix hx3 (eq_GExpr x3), .cl (ok_laws_heldByteS x3.S (w64 ((w64 (a1 + 1)) + 1)) _ hr6), .lF c7, .na hi2, .ix hx3 (eq_GExpr x3), .cl (ok_laws_heldByteSS x3.K r6 _ hr8), .lF c9, .na hi2, .ix hx3 (eq_GExpr x3), .cl (H_laws_heldExprS x3.Kids r8 _ hr10), .lT c11] (by kernel_rfl) (by intro h; cases h)
         ·exact loop_nQ [.le e_GExpr a0, .lT c1, .na hi2, .ix hx3 (eq_GExpr x3), .eT c4, .nt true, .ad a1 1, .na hi2, .ix hx3 (eq_GExpr x3), .eT c5, .nt true, .ad (w64 (a1 + 1)) 1, .na hi2, .ix hx3 (eq_GExpr x3), .cl (ok_laws_heldByteS x3.S (w64 ((w64 (a1 + 1)) + 1)) _ hr6), .lF c7, .na hi2, .ix hx3 (eq_GExpr x3), .cl (ok_laws_heldByteSS x3.K r6 _ hr8), .lF c9, .na hi2, .ix hx3 (eq_GExpr x3), .cl (H_laws_heldExprS x3.Kids r8 _ hr10), .lF c11, .ad v2 1] (by kernel_rfl) (ih r10 (w64 (v2 + 1)) o h)
      ·obtain rfl := Option.some.inj h
       exact loop_eQ [.le e_GExpr a0, .lT c1, .na hi2, .ix hx3 (eq_GExpr x3), .eT c4, .nt true, .ad a1 1, .na hi2, .ix hx3 (eq_GExpr x3), .eF c5, .nt false] (by kernel_rfl) (by intro h; cases h)
     ·obtain rfl := Option.some.inj h
      exact loop_eQ [.le e_GExpr a0, .lT c1, .na hi2, .ix hx3 (eq_GExpr x3), .eF c4, .nt false] (by kernel_rfl) (by intro h; cases h)
    ·obtain rfl := Option.some.inj h
     exact loop_eQ [.le e_GExpr a0, .lF c1] (by kernel_rfl) (by intro h; cases h)

def T_laws_heldExprS (G_laws_heldExprS : (List GExpr) → Int → Option Int) (n : Nat) (a0 : (List GExpr)) (a1 : Int) : Option Int :=
  (L_laws_heldExprS_l0 G_laws_heldExprS a0 n a1 0).bind fun o1 =>
  match o1 with
  | .inl o1_0 =>
    some o1_0
  | .inr (⟨o1_1_0, o1_1_1⟩) =>
    some o1_1_0

set_option maxRecDepth 100000 in
theorem fd_51 : cfg.funcs 51 = some (bodyOf Try.f51, Try.f51.ntmps, Try.f51.results.toList) := fn_of Try.func51 (by kernel_rfl) (by kernel_rfl)
theorem g_laws_heldExprS (G_laws_heldExprS : (List GExpr) → Int → Option Int) (H_laws_heldExprS : ∀ (a0 : (List GExpr)) (a1 : Int) (r : Int), G_laws_heldExprS a0 a1 = some r → (mach cfg).call 51 [] [.val false [.seq (eL e_GExpr a0)], .val false [.int .i64 a1]] = some (.val false [.int .i64 r], [])) (n : Nat) (a0 : (List GExpr)) (a1 : Int) (r : Int) (h : T_laws_heldExprS G_laws_heldExprS n a0 a1 = some r) : (mach cfg).call 51 [] [.val false [.seq (eL e_GExpr a0)], .val false [.int .i64 a1]] = some (.val false [.int .i64 r], []) := by
  unfold T_laws_heldExprS at h
  obtain ⟨o1, ho1, h⟩ := bs h
  rcases o1 with o1_0 | ⟨o1_1_0, o1_1_1⟩
  · try dsimp only at h
    obtain rfl := Option.some.inj h
    exact call_wQ [.lp (gl_laws_heldExprS_l0 G_laws_heldExprS H_laws_heldExprS a0 _ a1 0 _ ho1)] rfl fd_51 (by kernel_rfl)
  · try dsimp only at h
    obtain rfl := Option.some.inj h
    exact call_wQ [.lp (gl_laws_heldExprS_l0 G_laws_heldExprS H_laws_heldExprS a0 _ a1 0 _ ho1)] rfl fd_51 (by kernel_rfl)

def U_laws_heldExprS : Nat → (List GExpr) → Int → Option Int
  | 0, _, _ => none
  | n + 1, a0, a1 => T_laws_heldExprS (U_laws_heldExprS n) n a0 a1
theorem rec_laws_heldExprS (n : Nat) : (∀ (a0 : (List GExpr)) (a1 : Int) (r : Int), U_laws_heldExprS n a0 a1 = some r → (mach cfg).call 51 [] [.val false [.seq (eL e_GExpr a0)], .val false [.int .i64 a1]] = some (.val false [.int .i64 r], [])) := by
  induction n with
  | zero => exact fun _ _ _ h => (by rw [U_laws_heldExprS] at h; cases h)
  | succ n ih =>
    have ih_laws_heldExprS := ih
    exact fun a0 a1 r h => g_laws_heldExprS (U_laws_heldExprS n) ih_laws_heldExprS n a0 a1 r (by rw [U_laws_heldExprS] at h; exact h)
theorem heldExprS_loop {G : List GExpr → Int → Option Int} {a : List GExpr} : ∀ (l p : List GExpr) (k : Int) (m : Nat), a = p ++ l → mXs k l = l → (∀ v ∈ l, ∀ i : Int, mXs i v.Kids = v.Kids → 0 ≤ i → i + 2 * xszs v.Kids ≤ 2 ^ 41 → G v.Kids i = some (i + cXs v.Kids)) → 0 ≤ k → k + 2 * xszs l ≤ 2 ^ 41 → p.length + l.length ≤ 2 ^ 41 → l.length < m → ∃ z, L_laws_heldExprS_l0 G a m k ((p.length : Nat) : Int) = some (.inr (k + cXs l, z)) := by
  intro l
  induction l with
  | nil =>
    intro p k m ha _ _ _ _ _ hm
    subst ha
    obtain ⟨m, rfl, _⟩ := fuel hm
    exact ⟨_, by rw [L_laws_heldExprS_l0, if_neg (nlt_end p)]; simp [cXs]; rfl⟩
  | cons x l ih =>
    intro p k m ha hm0 hG h0 h1 h2 hm
    obtain ⟨m, rfl, hm'⟩ := fuel hm
    simp only [List.length_cons] at h2 hm'
    have hx := hG x List.mem_cons_self
    have hc := cX_le x
    rw [mXs] at hm0
    obtain ⟨e1, e2⟩ := List.cons.inj hm0
    simp only [xszs] at h1
    obtain ⟨z, hz⟩ := ih (p ++ [x]) (k + cX x) m (by rw [ha]; simp) e2 (fun v hv => hG v (List.mem_cons_of_mem _ hv)) (by omega) (by omega) (by simp; omega) (by omega)
    refine ⟨z, ?_⟩
    rw [L_laws_heldExprS_l0, if_pos (by rw [ha]; exact lt_mid p x l), natO_nat, Option.bind_some, show a[p.length]? = some x by rw [ha]; exact get_mid p x l, Option.bind_some, w64_len p x (by omega)]
    have hb := bsz_cB x.K
    have hd := cXs_le x.Kids
    have hq := xsz_eq x
    have hr := cX_eq x
    rw [mX_eq] at e1
    have f1 : x.Kind = k := (congrArg GExpr.Kind e1).symm
    have f2 : x.N = k + 1 := (congrArg GExpr.N e1).symm
    have f3 : mB (k + 1 + 1) x.S = x.S := congrArg GExpr.S e1
    have f4 : mBB (k + 1 + 1 + x.S.length) x.K = x.K := congrArg GExpr.K e1
    have f5 : mXs (k + 1 + 1 + x.S.length + cB x.K) x.Kids = x.Kids := congrArg GExpr.Kids e1
    rw [w64_id (x := k + 1) (by omega) (by omega), w64_id (x := k + 1 + 1) (by omega) (by omega), if_pos f1, if_pos f2, heldByteS_eq f3 (by omega) (by omega), Option.bind_some, if_neg (by omega), heldByteSS_eq f4 (by omega) (by omega), Option.bind_some, if_neg (by omega), hx _ f5 (by omega) (by omega), Option.bind_some, if_neg (by omega),
      show k + 1 + 1 + (x.S.length : Int) + (cB x.K : Int) + (cXs x.Kids : Int) = k + ((cX x : Nat) : Int) by omega, hz]
    simp only [cXs]
    rw [show k + ((cX x : Nat) : Int) + (cXs l : Int) = k + ((cX x + cXs l : Nat) : Int) by omega]
theorem heldExprS_U : ∀ (N : Nat) (l : List GExpr), xszs l < N → ∀ (k : Int) (f : Nat), mXs k l = l → 0 ≤ k → k + 2 * xszs l ≤ 2 ^ 41 → xszs l + 2 ≤ f → U_laws_heldExprS f l k = some (k + cXs l) := by
  intro N
  induction N with
  | zero => intro l hl; omega
  | succ N ih =>
    intro l hl k f he h0 h1 hf
    obtain ⟨f, rfl, _⟩ := fuel (show 0 < f by omega)
    have hlen := xszs_len l
    rw [U_laws_heldExprS]
    unfold T_laws_heldExprS
    obtain ⟨z, hz⟩ := heldExprS_loop (G := U_laws_heldExprS f) (a := l) l [] k f rfl he (fun v hv i ge g0 g1 => by
      have := xszs_mem hv
      have := xsz_eq v
      exact ih v.Kids (by omega) i f ge g0 g1 (by omega)) h0 h1 (by simp; omega) (by omega)
    simp only [List.length_nil, Int.natCast_zero] at hz
    rw [hz]; rfl
open Classical in
noncomputable def S_laws_heldExprS (a0 : (List GExpr)) (a1 : Int) : Option Int := if mXs a1 a0 = a0 ∧ 0 ≤ a1 ∧ a1 + 2 * xszs a0 ≤ 2 ^ 41 then some (a1 + cXs a0) else none
theorem heldExprS_eq {a : Int} {s : List GExpr} (h : mXs a s = s) (h0 : 0 ≤ a) (h1 : a + 2 * xszs s ≤ 2 ^ 41) : S_laws_heldExprS s a = some (a + cXs s) := if_pos ⟨h, h0, h1⟩
theorem spec_laws_heldExprS (a0 : (List GExpr)) (a1 : Int) (r : Int) (h : S_laws_heldExprS a0 a1 = some r) : ∃ n, U_laws_heldExprS n a0 a1 = some r := by
  unfold S_laws_heldExprS at h
  obtain ⟨⟨he, h0, h1⟩, h⟩ := need_c h
  exact ⟨xszs a0 + 2, by rw [heldExprS_U _ a0 (Nat.lt_succ_self _) a1 _ he h0 h1 (Nat.le_refl _), h]⟩
theorem ok_laws_heldExprS (a0 : (List GExpr)) (a1 : Int) (r : Int) (h : S_laws_heldExprS a0 a1 = some r) : (mach cfg).call 51 [] [.val false [.seq (eL e_GExpr a0)], .val false [.int .i64 a1]] = some (.val false [.int .i64 r], []) := by
  obtain ⟨n, hn⟩ := spec_laws_heldExprS a0 a1 r h
  exact (rec_laws_heldExprS n) a0 a1 r hn
def S_laws_heldExpr (a0 : GExpr) (a1 : Int) : Option Int :=
  (S_laws_heldByteS a0.S a1).bind fun r1 =>
  if r1 < 0 then
    some (-1)
  else
    (S_laws_heldByteSS a0.K r1).bind fun r3 =>
    if r3 < 0 then
      some (-1)
    else
      (S_laws_heldExprS a0.Kids r3).bind fun r5 =>
      if r5 < 0 then
        some (-1)
      else
        some r5

set_option maxRecDepth 100000 in
theorem fd_15 : cfg.funcs 15 = some (bodyOf Try.f15, Try.f15.ntmps, Try.f15.results.toList) := fn_of Try.func15 (by kernel_rfl) (by kernel_rfl)
theorem ok_laws_heldExpr (a0 : GExpr) (a1 : Int) (r : Int) (h : S_laws_heldExpr a0 a1 = some r) : (mach cfg).call 15 [] [.val true [.int .i64 a0.Kind, .int .i64 a0.N, .seq (eL e_u8 a0.S), .seq (eL (e_sl e_u8) a0.K), .seq (eL e_GExpr a0.Kids)], .val false [.int .i64 a1]] = some (.val false [.int .i64 r], []) := by
  unfold S_laws_heldExpr at h
  obtain ⟨r1, hr1, h⟩ := bs h
  rcases ite_some h with ⟨c2, h⟩ | ⟨c2, h⟩
  ·obtain rfl := Option.some.inj h
   exact call_wQ [.cl (ok_laws_heldByteS a0.S a1 _ hr1), .lT c2] rfl fd_15 (by kernel_rfl)
  ·obtain ⟨r3, hr3, h⟩ := bs h
   rcases ite_some h with ⟨c4, h⟩ | ⟨c4, h⟩
   ·obtain rfl := Option.some.inj h
    exact call_wQ [.cl (ok_laws_heldByteS a0.S a1 _ hr1), .lF c2, .cl (ok_laws_heldByteSS a0.K r1 _ hr3), .lT c4] rfl fd_15 (by kernel_rfl)
   ·obtain ⟨r5, hr5, h⟩ := bs h
    rcases ite_some h with ⟨c6, h⟩ | ⟨c6, h⟩
    ·obtain rfl := Option.some.inj h
     exact call_wQ [.cl (ok_laws_heldByteS a0.S a1 _ hr1), .lF c2, .cl (ok_laws_heldByteSS a0.K r1 _ hr3), .lF c4, .cl (ok_laws_heldExprS a0.Kids r3 _ hr5), .lT c6] rfl fd_15 (by kernel_rfl)
    ·obtain rfl := Option.some.inj h
     exact call_wQ [.cl (ok_laws_heldByteS a0.S a1 _ hr1), .lF c2, .cl (ok_laws_heldByteSS a0.K r1 _ hr3), .lF c4, .cl (ok_laws_heldExprS a0.Kids r3 _ hr5), .lF c6] rfl fd_15 (by kernel_rfl)

end
end Go.Am.Try
