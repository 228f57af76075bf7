/- The functions of the program in plain Lean, and that the machine answers as they do; conditions at each theorem. -/
import Derived.Test.YtoopljdbjefgoaaRG2
set_option linter.unusedVariables false
set_option linter.unusedSimpArgs false
namespace Go.Am.Try
open Go.Am Go.Proofs
set_option linter.unusedVariables false
set_option maxRecDepth 20000
set_option maxHeartbeats 2000000
noncomputable section
def L_slices_Index_string_l0 (a0 : (List (List UInt8))) (a1 : (List UInt8)) (v2 : Int) : Nat → Int → Option (Int ⊕ Int)
  | 0, _ => none
  | m + 1, v3 =>
    if v3 < v2 then
      (natO v3).bind fun i2 =>
      (a0[i2]?).bind fun x3 =>
      if a1 = x3 then
        some (.inl v3)
      else
        L_slices_Index_string_l0 a0 a1 v2 m (w64 (v3 + 1))
    else
      some (.inr v3)

theorem gl_slices_Index_string_l0 (a0 : (List (List UInt8))) (a1 : (List UInt8)) (v2 : Int) (m : Nat) : ∀ (v3 : Int) (o : (Int ⊕ Int)), L_slices_Index_string_l0 a0 a1 v2 m v3 = some o → (mach cfg).loop 137 (loopB Try.f137 0) ⟨[(0, .val false [.seq (eL e_str a0)]), (1, .val false [.str a1]), (7, .val false [.int .i64 v2]), (8, .val false [.int .i64 v3])], [], 0⟩ = some (match o with | .inl o_0 => (.ret, (⟨[(4, .val false [.int .i64 o_0])], [], 0⟩ : S)) | .inr (o_1) => (.exit 0, (⟨[(0, .val false [.seq (eL e_str a0)]), (1, .val false [.str a1]), (7, .val false [.int .i64 v2]), (8, .val false [.int .i64 o_1]), (9, .val false [.bool false])], [], 0⟩ : S))) := by
  induction m with
  | zero => intro v3 o h; cases h
  | succ m ih =>
    intro v3 o h
    rw [L_slices_Index_string_l0] at h
    rcases ite_some h with ⟨c1, h⟩ | ⟨c1, h⟩
    ·obtain ⟨i2, hi2, h⟩ := bs h
     obtain ⟨x3, hx3, h⟩ := bs h
     rcases ite_some h with ⟨c4, h⟩ | ⟨c4, h⟩
     ·obtain rfl := Option.some.inj h
      exact loop_eQ [.lT c1, .na hi2, .ix0 e_str hx3, .sT c4] (by kernel_rfl) (by intro h; cases h)
     ·exact loop_nQ [.lT c1, .na hi2, .ix0 e_str hx3, .sF c4, .ad v3 1] (by kernel_rfl) (ih (w64 (v3 + 1)) o h)
    ·obtain rfl := Option.some.inj h
     exact loop_eQ [.lF c1] (by kernel_rfl) (by intro h; cases h)

def T_slices_Index_string (n : Nat) (a0 : (List (List UInt8))) (a1 : (List UInt8)) : Option Int :=
  (L_slices_Index_string_l0 a0 a1 ((a0.length : Nat) : Int) n 0).bind fun o1 =>
  match o1 with
  | .inl o1_0 =>
    some o1_0
  | .inr (o1_1) =>
    some (-1)

set_option maxRecDepth 100000 in
theorem fd_137 : cfg.funcs 137 = some (bodyOf Try.f137, Try.f137.ntmps, Try.f137.results.toList) := fn_of Try.func137 (by kernel_rfl) (by kernel_rfl)
theorem g_slices_Index_string (n : Nat) (a0 : (List (List UInt8))) (a1 : (List UInt8)) (r : Int) (h : T_slices_Index_string n a0 a1 = some r) : (mach cfg).call 137 [] [.val false [.seq (eL e_str a0)], .val false [.str a1]] = some (.val false [.int .i64 r], []) := by
  unfold T_slices_Index_string at h
  obtain ⟨o1, ho1, h⟩ := bs h
  rcases o1 with o1_0 | o1_1
  · try dsimp only at h
    obtain rfl := Option.some.inj h
    exact call_wQ [.le e_str a0, .lp (gl_slices_Index_string_l0 a0 a1 ((a0.length : Nat) : Int) _ 0 _ ho1)] rfl fd_137 (by kernel_rfl)
  · try dsimp only at h
    obtain rfl := Option.some.inj h
    exact call_wQ [.le e_str a0, .lp (gl_slices_Index_string_l0 a0 a1 ((a0.length : Nat) : Int) _ 0 _ ho1)] rfl fd_137 (by kernel_rfl)

/-- Where the text first stands, counted from i; -1: nowhere. -/
def ixF (a : List UInt8) : List (List UInt8) → Nat → Int
  | [], _ => -1
  | x :: r, i => if a = x then (i : Int) else ixF a r (i + 1)
theorem ixF_any (a : List UInt8) (l : List (List UInt8)) (i : Nat) : decide (0 ≤ ixF a l i) = l.any fun w => decide (w = a) := by
  induction l generalizing i with
  | nil => rfl
  | cons x l ih =>
    rw [ixF, List.any_cons]
    by_cases h : a = x
    · rw [if_pos h, decide_eq_true h.symm, Bool.true_or]; exact decide_eq_true (by omega)
    · rw [if_neg h, show decide (x = a) = false from decide_eq_false fun e => h e.symm, Bool.false_or]; exact ih _
theorem index_loop {a : List UInt8} {l : List (List UInt8)} (hl : l.length ≤ 2 ^ 20) : ∀ (d i m : Nat), i + d = l.length → d < m → ∃ z, L_slices_Index_string_l0 l a (l.length : Int) m (i : Int) = some (if 0 ≤ ixF a (l.drop i) i then .inl (ixF a (l.drop i) i) else .inr z) := by
  intro d
  induction d with
  | zero =>
    intro i m hi hm
    obtain ⟨m, rfl, _⟩ := fuel hm
    exact ⟨_, by rw [L_slices_Index_string_l0, if_neg (by omega), List.drop_eq_nil_of_le (by omega)]; rfl⟩
  | succ d ih =>
    intro i m hi hm
    obtain ⟨m, rfl, hm'⟩ := fuel hm
    have hil : i < l.length := by omega
    rw [L_slices_Index_string_l0, if_pos (by omega), natO_nat, Option.bind_some, get_some hil, Option.bind_some, w64_succ (by omega), drop_cons hil, ixF]
    by_cases h : a = l[i]
    · exact ⟨0, by rw [if_pos h, if_pos h, if_pos (by omega)]⟩
    · rw [if_neg h, if_neg h]
      exact ih (i + 1) m (by omega) (by omega)
def S_slices_Index_string (a0 : (List (List UInt8))) (a1 : (List UInt8)) : Option Int := if a0.length ≤ 2 ^ 20 then some (ixF a1 a0 0) else none
theorem spec_slices_Index_string (a0 : (List (List UInt8))) (a1 : (List UInt8)) (r : Int) (h : S_slices_Index_string a0 a1 = some r) : ∃ n, T_slices_Index_string n a0 a1 = some r := by
  unfold S_slices_Index_string at h
  obtain ⟨ha, h⟩ := need_c h
  obtain ⟨z, hz⟩ := index_loop (a := a1) ha a0.length 0 (a0.length + 1) (by omega) (by omega)
  rw [show ((0 : Nat) : Int) = 0 from rfl, List.drop_zero] at hz
  refine ⟨a0.length + 1, ?_⟩
  unfold T_slices_Index_string
  rw [hz, ← h]
  have hm : ∀ (l : List (List UInt8)) (i : Nat), ixF a1 l i = -1 ∨ 0 ≤ ixF a1 l i := fun l => by
    induction l with
    | nil => exact fun i => .inl rfl
    | cons x l ih => intro i; rw [ixF]; split; exact .inr (by omega); exact ih _
  rcases hm a0 0 with h | h
  · rw [h]; rfl
  · rw [if_pos h]; rfl
theorem ok_slices_Index_string (a0 : (List (List UInt8))) (a1 : (List UInt8)) (r : Int) (h : S_slices_Index_string a0 a1 = some r) : (mach cfg).call 137 [] [.val false [.seq (eL e_str a0)], .val false [.str a1]] = some (.val false [.int .i64 r], []) := by
  obtain ⟨n, hn⟩ := spec_slices_Index_string a0 a1 r h
  exact g_slices_Index_string n a0 a1 r hn
def S_slices_Contains_string (a0 : (List (List UInt8))) (a1 : (List UInt8)) : Option Bool :=
  (S_slices_Index_string a0 a1).bind fun r1 =>
  some (decide (0 ≤ r1))

set_option maxRecDepth 100000 in
theorem fd_131 : cfg.funcs 131 = some (bodyOf Try.f131, Try.f131.ntmps, Try.f131.results.toList) := fn_of Try.func131 (by kernel_rfl) (by kernel_rfl)
theorem ok_slices_Contains_string (a0 : (List (List UInt8))) (a1 : (List UInt8)) (r : Bool) (h : S_slices_Contains_string a0 a1 = some r) : (mach cfg).call 131 [] [.val false [.seq (eL e_str a0)], .val false [.str a1]] = some (.val false [.bool r], []) := by
  unfold S_slices_Contains_string at h
  obtain ⟨r1, hr1, h⟩ := bs h
  obtain rfl := Option.some.inj h
  exact call_wQ [.cl (ok_slices_Index_string a0 a1 _ hr1), .gD 0 r1] rfl fd_131 (by kernel_rfl)

def S_impl_isWord (a0 : (List UInt8)) : Option Bool :=
  (S_impl_isName a0).bind fun r1 =>
  match r1 with
  | true =>
    (S_impl_keptWords).bind fun r3 =>
    (S_slices_Contains_string r3 a0).bind fun r4 =>
    some (!r4)
  | false =>
    some false

set_option maxRecDepth 100000 in
theorem fd_116 : cfg.funcs 116 = some (bodyOf Try.f116, Try.f116.ntmps, Try.f116.results.toList) := fn_of Try.func116 (by kernel_rfl) (by kernel_rfl)
theorem ok_impl_isWord (a0 : (List UInt8)) (r : Bool) (h : S_impl_isWord a0 = some r) : (mach cfg).call 116 [] [.val false [.seq (eL e_u8 a0)]] = some (.val false [.bool r], []) := by
  unfold S_impl_isWord at h
  obtain ⟨r1, hr1, h⟩ := bs h
  cases r1 with
  | true =>
   try dsimp only at h
   obtain ⟨r3, hr3, h⟩ := bs h
   obtain ⟨r4, hr4, h⟩ := bs h
   obtain rfl := Option.some.inj h
   exact call_wQ [.cl (ok_impl_isName a0 _ hr1), .cl (ok_impl_keptWords  _ hr3), ⟨.bytes (eL e_u8 a0), .s a0, A.bytes⟩, ⟨.view (eL e_str r3), .l (eL e_str r3), (A.view E_str)⟩, .cl (ok_slices_Contains_string r3 a0 _ hr4), .nt r4] rfl fd_116 (by kernel_rfl)
  | false =>
   try dsimp only at h
   obtain rfl := Option.some.inj h
   exact call_wQ [.cl (ok_impl_isName a0 _ hr1)] rfl fd_116 (by kernel_rfl)

def T_impl_isFormed_1 (G_impl_isFormed : GExpr → Int → Option Bool) (a0 : GExpr) (e0 : Int) : Option Bool :=
  (G_impl_isFormed a0 (w64 (e0 - 1))).bind fun r1 =>
  some (!r1)

set_option maxRecDepth 100000 in
theorem fd_118 : cfg.funcs 118 = some (bodyOf Try.f118, Try.f118.ntmps, Try.f118.results.toList) := fn_of Try.func118 (by kernel_rfl) (by kernel_rfl)
theorem g_impl_isFormed_1 (G_impl_isFormed : GExpr → Int → Option Bool) (H_impl_isFormed : ∀ (a0 : GExpr) (a1 : Int) (r : Bool), G_impl_isFormed a0 a1 = some r → (mach cfg).call 80 [] [.val true [.int .i64 a0.Kind, .int .i64 a0.N, .seq (eL e_u8 a0.S), .seq (eL (e_sl e_u8) a0.K), .seq (eL e_GExpr a0.Kids)], .val false [.int .i64 a1]] = some (.val false [.bool r], [])) (a0 : GExpr) (e0 : Int) (r : Bool) (h : T_impl_isFormed_1 G_impl_isFormed a0 e0 = some r) : (mach cfg).call 118 [.var [.int .i64 e0]] [.val true [.int .i64 a0.Kind, .int .i64 a0.N, .seq (eL e_u8 a0.S), .seq (eL (e_sl e_u8) a0.K), .seq (eL e_GExpr a0.Kids)], .val false [.ptr 0 0]] = some (.val false [.bool r], [.var [.int .i64 e0]]) := by
  unfold T_impl_isFormed_1 at h
  obtain ⟨r1, hr1, h⟩ := bs h
  obtain rfl := Option.some.inj h
  exact call_wQ [.su e0 1, .cl (H_impl_isFormed a0 (w64 (e0 - 1)) _ hr1), .nt r1] rfl fd_118 (by kernel_rfl)

def L_slices_IndexFunc_Expr_isFormed_1_l0 (G_impl_isFormed_1 : GExpr → Int → Option Bool) (a0 : (List GExpr)) (v1 : Int) (e0 : Int) : Nat → Int → Option (Int ⊕ Int)
  | 0, _ => none
  | m + 1, v2 =>
    if v2 < v1 then
      (natO v2).bind fun i2 =>
      (a0[i2]?).bind fun x3 =>
      (G_impl_isFormed_1 x3 e0).bind fun r4 =>
      match r4 with
      | true =>
        some (.inl v2)
      | false =>
        L_slices_IndexFunc_Expr_isFormed_1_l0 G_impl_isFormed_1 a0 v1 e0 m (w64 (v2 + 1))
    else
      some (.inr v2)

theorem gl_slices_IndexFunc_Expr_isFormed_1_l0 (G_impl_isFormed_1 : GExpr → Int → Option Bool) (H_impl_isFormed_1 : ∀ (a0 : GExpr) (e0 : Int) (r : Bool), G_impl_isFormed_1 a0 e0 = some r → (mach cfg).call 118 [.var [.int .i64 e0]] [.val true [.int .i64 a0.Kind, .int .i64 a0.N, .seq (eL e_u8 a0.S), .seq (eL (e_sl e_u8) a0.K), .seq (eL e_GExpr a0.Kids)], .val false [.ptr 0 0]] = some (.val false [.bool r], [.var [.int .i64 e0]])) (a0 : (List GExpr)) (v1 : Int) (e0 : Int) (m : Nat) : ∀ (v2 : Int) (o : (Int ⊕ Int)), L_slices_IndexFunc_Expr_isFormed_1_l0 G_impl_isFormed_1 a0 v1 e0 m v2 = some o → (mach cfg).loop 133 (loopB Try.f133 0) ⟨[(0, .val false [.seq (eL e_GExpr a0)]), (1, .val false [.fn 118 [.ptr 0 0]]), (7, .val false [.int .i64 v1]), (8, .val false [.int .i64 v2])], [.var [.int .i64 e0]], 1⟩ = some (match o with | .inl o_0 => (.ret, (⟨[(4, .val false [.int .i64 o_0])], [.var [.int .i64 e0]], 1⟩ : S)) | .inr (o_1) => (.exit 0, (⟨[(0, .val false [.seq (eL e_GExpr a0)]), (1, .val false [.fn 118 [.ptr 0 0]]), (7, .val false [.int .i64 v1]), (8, .val false [.int .i64 o_1]), (9, .val false [.bool false])], [.var [.int .i64 e0]], 1⟩ : S))) := by
  induction m with
  | zero => intro v2 o h; cases h
  | succ m ih =>
    intro v2 o h
    rw [L_slices_IndexFunc_Expr_isFormed_1_l0] at h
    rcases ite_some h with ⟨c1, h⟩ | ⟨c1, h⟩
    ·obtain ⟨i2, hi2, h⟩ := bs h
     obtain ⟨x3, hx3, h⟩ := bs h
     obtain ⟨r4, hr4, h⟩ := bs h
     cases r4 with
     | true =>
      try dsimp only at h
      obtain rfl := Option.some.inj h
      exact loop_eQ [.lT c1, .na hi2, .ix hx3 (eq_GExpr x3), .cl (H_impl_isFormed_1 x3 e0 _ hr4)] (by kernel_rfl) (by intro h; cases h)
     | false =>
      try dsimp only at h
      exact loop_nQ [.lT c1, .na hi2, .ix hx3 (eq_GExpr x3), .cl (H_impl_isFormed_1 x3 e0 _ hr4), .ad v2 1] (by kernel_rfl) (ih (w64 (v2 + 1)) o h)
    ·obtain rfl := Option.some.inj h
     exact loop_eQ [.lF c1] (by kernel_rfl) (by intro h; cases h)

def T_slices_IndexFunc_Expr_isFormed_1 (G_impl_isFormed_1 : GExpr → Int → Option Bool) (n : Nat) (a0 : (List GExpr)) (e0 : Int) : Option Int :=
  (L_slices_IndexFunc_Expr_isFormed_1_l0 G_impl_isFormed_1 a0 ((a0.length : Nat) : Int) e0 n 0).bind fun o1 =>
  match o1 with
  | .inl o1_0 =>
    some o1_0
  | .inr (o1_1) =>
    some (-1)

set_option maxRecDepth 100000 in
theorem fd_133 : cfg.funcs 133 = some (bodyOf Try.f133, Try.f133.ntmps, Try.f133.results.toList) := fn_of Try.func133 (by kernel_rfl) (by kernel_rfl)
theorem g_slices_IndexFunc_Expr_isFormed_1 (G_impl_isFormed_1 : GExpr → Int → Option Bool) (H_impl_isFormed_1 : ∀ (a0 : GExpr) (e0 : Int) (r : Bool), G_impl_isFormed_1 a0 e0 = some r → (mach cfg).call 118 [.var [.int .i64 e0]] [.val true [.int .i64 a0.Kind, .int .i64 a0.N, .seq (eL e_u8 a0.S), .seq (eL (e_sl e_u8) a0.K), .seq (eL e_GExpr a0.Kids)], .val false [.ptr 0 0]] = some (.val false [.bool r], [.var [.int .i64 e0]])) (n : Nat) (a0 : (List GExpr)) (e0 : Int) (r : Int) (h : T_slices_IndexFunc_Expr_isFormed_1 G_impl_isFormed_1 n a0 e0 = some r) : (mach cfg).call 133 [.var [.int .i64 e0]] [.val false [.seq (eL e_GExpr a0)], .val false [.fn 118 [.ptr 0 0]]] = some (.val false [.int .i64 r], [.var [.int .i64 e0]]) := by
  unfold T_slices_IndexFunc_Expr_isFormed_1 at h
  obtain ⟨o1, ho1, h⟩ := bs h
  rcases o1 with o1_0 | o1_1
  · try dsimp only at h
    obtain rfl := Option.some.inj h
    exact call_wQ [.le e_GExpr a0, .lp (gl_slices_IndexFunc_Expr_isFormed_1_l0 G_impl_isFormed_1 H_impl_isFormed_1 a0 ((a0.length : Nat) : Int) e0 _ 0 _ ho1)] rfl fd_133 (by kernel_rfl)
  · try dsimp only at h
    obtain rfl := Option.some.inj h
    exact call_wQ [.le e_GExpr a0, .lp (gl_slices_IndexFunc_Expr_isFormed_1_l0 G_impl_isFormed_1 H_impl_isFormed_1 a0 ((a0.length : Nat) : Int) e0 _ 0 _ ho1)] rfl fd_133 (by kernel_rfl)

def T_slices_ContainsFunc_Expr_isFormed_1 (G_slices_IndexFunc_Expr_isFormed_1 : (List GExpr) → Int → Option Int) (a0 : (List GExpr)) (e0 : Int) : Option Bool :=
  (G_slices_IndexFunc_Expr_isFormed_1 a0 e0).bind fun r1 =>
  some (decide (0 ≤ r1))

set_option maxRecDepth 100000 in
theorem fd_117 : cfg.funcs 117 = some (bodyOf Try.f117, Try.f117.ntmps, Try.f117.results.toList) := fn_of Try.func117 (by kernel_rfl) (by kernel_rfl)
theorem g_slices_ContainsFunc_Expr_isFormed_1 (G_slices_IndexFunc_Expr_isFormed_1 : (List GExpr) → Int → Option Int) (H_slices_IndexFunc_Expr_isFormed_1 : ∀ (a0 : (List GExpr)) (e0 : Int) (r : Int), G_slices_IndexFunc_Expr_isFormed_1 a0 e0 = some r → (mach cfg).call 133 [.var [.int .i64 e0]] [.val false [.seq (eL e_GExpr a0)], .val false [.fn 118 [.ptr 0 0]]] = some (.val false [.int .i64 r], [.var [.int .i64 e0]])) (a0 : (List GExpr)) (e0 : Int) (r : Bool) (h : T_slices_ContainsFunc_Expr_isFormed_1 G_slices_IndexFunc_Expr_isFormed_1 a0 e0 = some r) : (mach cfg).call 117 [.var [.int .i64 e0]] [.val false [.seq (eL e_GExpr a0)], .val false [.fn 118 [.ptr 0 0]]] = some (.val false [.bool r], [.var [.int .i64 e0]]) := by
  unfold T_slices_ContainsFunc_Expr_isFormed_1 at h
  obtain ⟨r1, hr1, h⟩ := bs h
  obtain rfl := Option.some.inj h
  exact call_wQ [.cl (H_slices_IndexFunc_Expr_isFormed_1 a0 e0 _ hr1), .gD 0 r1] rfl fd_117 (by kernel_rfl)

def L_impl_isFormed_l0 (G_slices_ContainsFunc_Expr_isFormed_1 : (List GExpr) → Int → Option Bool) (v0 : Int) (v1 : Bool) (v2 : (List (List UInt8))) (a0 : GExpr) (a1 : Int) : Nat → Int → Option (Bool ⊕ Int)
  | 0, _ => none
  | m + 1, v3 =>
    if v3 < v0 then
      (natO v3).bind fun i2 =>
      (v2[i2]?).bind fun x3 =>
      (S_impl_isName x3).bind fun r4 =>
      match r4 with
      | true =>
        if 0 < v3 then
          (natO (w64 (v3 - 1))).bind fun i7 =>
          (a0.K[i7]?).bind fun x8 =>
          (S_bytes_Compare x8 x3).bind fun r9 =>
          if 0 ≤ r9 then
            some (.inl false)
          else
            L_impl_isFormed_l0 G_slices_ContainsFunc_Expr_isFormed_1 v0 v1 v2 a0 a1 m (w64 (v3 + 1))
        else
          L_impl_isFormed_l0 G_slices_ContainsFunc_Expr_isFormed_1 v0 v1 v2 a0 a1 m (w64 (v3 + 1))
      | false =>
        some (.inl false)
    else
      some (.inr v3)

theorem gl_impl_isFormed_l0 (G_slices_ContainsFunc_Expr_isFormed_1 : (List GExpr) → Int → Option Bool) (H_slices_ContainsFunc_Expr_isFormed_1 : ∀ (a0 : (List GExpr)) (e0 : Int) (r : Bool), G_slices_ContainsFunc_Expr_isFormed_1 a0 e0 = some r → (mach cfg).call 117 [.var [.int .i64 e0]] [.val false [.seq (eL e_GExpr a0)], .val false [.fn 118 [.ptr 0 0]]] = some (.val false [.bool r], [.var [.int .i64 e0]])) (v0 : Int) (v1 : Bool) (v2 : (List (List UInt8))) (a0 : GExpr) (a1 : Int) (m : Nat) : ∀ (v3 : Int) (o : (Bool ⊕ Int)), L_impl_isFormed_l0 G_slices_ContainsFunc_Expr_isFormed_1 v0 v1 v2 a0 a1 m v3 = some o → (mach cfg).loop 80 (loopB Try.f80 0) ⟨[(2, .val false [.ptr 0 0]), (3, .val false [.ptr 1 0]), (5, .val false [.int .i64 v0]), (6, .val false [.bool v1]), (96, .val false [.seq (eL (e_sl e_u8) v2)]), (97, .val false [.int .i64 v0]), (98, .val false [.int .i64 v3])], [.var [.int .i64 a0.Kind, .int .i64 a0.N, .seq (eL e_u8 a0.S), .seq (eL (e_sl e_u8) a0.K), .seq (eL e_GExpr a0.Kids)], .var [.int .i64 a1]], 0⟩ = some (match o with | .inl o_0 => (.ret, (⟨[(4, .val false [.bool o_0])], [], 0⟩ : S)) | .inr (o_1) => (.exit 1, (⟨[(2, .val false [.ptr 0 0]), (3, .val false [.ptr 1 0]), (5, .val false [.int .i64 v0]), (6, .val false [.bool v1]), (96, .val false [.seq (eL (e_sl e_u8) v2)]), (97, .val false [.int .i64 v0]), (98, .val false [.int .i64 o_1]), (99, .val false [.bool false])], [.var [.int .i64 a0.Kind, .int .i64 a0.N, .seq (eL e_u8 a0.S), .seq (eL (e_sl e_u8) a0.K), .seq (eL e_GExpr a0.Kids)], .var [.int .i64 a1]], 0⟩ : S))) := by
  induction m with
  | zero => intro v3 o h; cases h
  | succ m ih =>
    intro v3 o h
    rw [L_impl_isFormed_l0] at h
    rcases ite_some h with ⟨c1, h⟩ | ⟨c1, h⟩
    ·obtain ⟨i2, hi2, h⟩ := bs h
     obtain ⟨x3, hx3, h⟩ := bs h
     obtain ⟨r4, hr4, h⟩ := bs h
     cases r4 with
     | true =>
      try dsimp only at h
      rcases ite_some h with ⟨c6, h⟩ | ⟨c6, h⟩
      ·obtain ⟨i7, hi7, h⟩ := bs h
       obtain ⟨x8, hx8, h⟩ := bs h
       obtain ⟨r9, hr9, h⟩ := bs h
       rcases ite_some h with ⟨c10, h⟩ | ⟨c10, h⟩
       ·obtain rfl := Option.some.inj h
        exact loop_eQ [.lT c1, .na hi2, .ix0 (e_sl e_u8) hx3, .cl (ok_impl_isName x3 _ hr4), .nt true, .lT c6, .su v3 1, .na hi7, .ix0 (e_sl e_u8) hx8, .cl (ok_bytes_Compare x8 x3 _ hr9), .gT c10] (by kernel_rfl) (by intro h; cases h)
       ·exact loop_nQ [.lT c1, .na hi2, .ix0 (e_sl e_u8) hx3, .cl (ok_impl_isName x3 _ hr4), .nt true, .lT c6, .su v3 1, .na hi7, .ix0 (e_sl e_u8) hx8, .cl (ok_bytes_Compare x8 x3 _ hr9), .gF c10, .ad v3 1] (by kernel_rfl) (ih (w64 (v3 + 1)) o h)
      ·exact loop_nQ [.lT c1, .na hi2, .ix0 (e_sl e_u8) hx3, .cl (ok_impl_isName x3 _ hr4), .nt true, .lF c6, .ad v3 1] (by kernel_rfl) (ih (w64 (v3 + 1)) o h)
     | false =>
      try dsimp only at h
      obtain rfl := Option.some.inj h
      exact loop_eQ [.lT c1, .na hi2, .ix0 (e_sl e_u8) hx3, .cl (ok_impl_isName x3 _ hr4), .nt false] (by kernel_rfl) (by intro h; cases h)
    ·obtain rfl := Option.some.inj h
     exact loop_eQ [.lF c1] (by kernel_rfl) (by intro h; cases h)

def T_impl_isFormed (G_slices_ContainsFunc_Expr_isFormed_1 : (List GExpr) → Int → Option Bool) (n : Nat) (a0 : GExpr) (a1 : Int) : Option Bool :=
  if a1 = 0 then
    some false
  else
    if a0.Kind = 5 then
      if a0.N = 0 then
        (L_impl_isFormed_l0 G_slices_ContainsFunc_Expr_isFormed_1 ((a0.K.length : Nat) : Int) false a0.K a0 a1 n 0).bind fun o4 =>
        match o4 with
        | .inl o4_0 =>
          some o4_0
        | .inr (o4_1) =>
          if 0 < ((a0.S.length : Nat) : Int) then
            some false
          else
            if ((a0.Kids.length : Nat) : Int) = ((a0.K.length : Nat) : Int) then
              if 150 < ((a0.K.length : Nat) : Int) then
                some false
              else
                (G_slices_ContainsFunc_Expr_isFormed_1 a0.Kids a1).bind fun r8 =>
                some (!r8)
            else
              some false
      else
        some false
    else
      if 0 < ((a0.K.length : Nat) : Int) then
        some false
      else
        if a0.Kind = 1 then
          (S_impl_in a0.N 0 1).bind fun r5 =>
          match r5 with
          | true =>
            if 0 < ((a0.S.length : Nat) : Int) then
              some false
            else
              if ((a0.Kids.length : Nat) : Int) = 0 then
                (G_slices_ContainsFunc_Expr_isFormed_1 a0.Kids a1).bind fun r9 =>
                some (!r9)
              else
                some false
          | false =>
            some false
        else
          if a0.Kind = 2 then
            (S_impl_in a0.N 0 1000000000000).bind fun r6 =>
            match r6 with
            | true =>
              if 0 < ((a0.S.length : Nat) : Int) then
                some false
              else
                if ((a0.Kids.length : Nat) : Int) = 0 then
                  (G_slices_ContainsFunc_Expr_isFormed_1 a0.Kids a1).bind fun r10 =>
                  some (!r10)
                else
                  some false
            | false =>
              some false
          else
            if a0.N = 0 then
              if a0.Kind = 0 then
                if 0 < ((a0.S.length : Nat) : Int) then
                  some false
                else
                  if ((a0.Kids.length : Nat) : Int) = 0 then
                    (G_slices_ContainsFunc_Expr_isFormed_1 a0.Kids a1).bind fun r10 =>
                    some (!r10)
                  else
                    some false
              else
                if a0.Kind = 10 then
                  if 0 < ((a0.S.length : Nat) : Int) then
                    some false
                  else
                    if ((a0.Kids.length : Nat) : Int) = 0 then
                      (G_slices_ContainsFunc_Expr_isFormed_1 a0.Kids a1).bind fun r11 =>
                      some (!r11)
                    else
                      some false
                else
                  if a0.Kind = 11 then
                    if 0 < ((a0.S.length : Nat) : Int) then
                      some false
                    else
                      if ((a0.Kids.length : Nat) : Int) = 0 then
                        (G_slices_ContainsFunc_Expr_isFormed_1 a0.Kids a1).bind fun r12 =>
                        some (!r12)
                      else
                        some false
                  else
                    if a0.Kind = 12 then
                      if 0 < ((a0.S.length : Nat) : Int) then
                        some false
                      else
                        if ((a0.Kids.length : Nat) : Int) = 0 then
                          (G_slices_ContainsFunc_Expr_isFormed_1 a0.Kids a1).bind fun r13 =>
                          some (!r13)
                        else
                          some false
                    else
                      if a0.Kind = 3 then
                        (S_impl_isText a0.S).bind fun r12 =>
                        match r12 with
                        | true =>
                          if ((a0.Kids.length : Nat) : Int) = 0 then
                            (G_slices_ContainsFunc_Expr_isFormed_1 a0.Kids a1).bind fun r15 =>
                            some (!r15)
                          else
                            some false
                        | false =>
                          some false
                      else
                        if a0.Kind = 6 then
                          (S_impl_isName a0.S).bind fun r13 =>
                          match r13 with
                          | true =>
                            if ((a0.Kids.length : Nat) : Int) = 0 then
                              (G_slices_ContainsFunc_Expr_isFormed_1 a0.Kids a1).bind fun r16 =>
                              some (!r16)
                            else
                              some false
                          | false =>
                            some false
                        else
                          if a0.Kind = 8 then
                            (S_impl_isName a0.S).bind fun r14 =>
                            match r14 with
                            | true =>
                              if ((a0.Kids.length : Nat) : Int) = 1 then
                                (G_slices_ContainsFunc_Expr_isFormed_1 a0.Kids a1).bind fun r17 =>
                                some (!r17)
                              else
                                some false
                            | false =>
                              some false
                          else
                            if a0.Kind = 7 then
                              (S_impl_isWord a0.S).bind fun r15 =>
                              match r15 with
                              | true =>
                                if ((a0.Kids.length : Nat) : Int) = 0 then
                                  (G_slices_ContainsFunc_Expr_isFormed_1 a0.Kids a1).bind fun r18 =>
                                  some (!r18)
                                else
                                  some false
                              | false =>
                                some false
                            else
                              if a0.Kind = 23 then
                                (S_impl_isWord a0.S).bind fun r16 =>
                                match r16 with
                                | true =>
                                  if 150 < ((a0.Kids.length : Nat) : Int) then
                                    some false
                                  else
                                    (G_slices_ContainsFunc_Expr_isFormed_1 a0.Kids a1).bind fun r19 =>
                                    some (!r19)
                                | false =>
                                  some false
                              else
                                if a0.Kind = 4 then
                                  if 0 < ((a0.S.length : Nat) : Int) then
                                    some false
                                  else
                                    if 150 < ((a0.Kids.length : Nat) : Int) then
                                      some false
                                    else
                                      (G_slices_ContainsFunc_Expr_isFormed_1 a0.Kids a1).bind fun r19 =>
                                      some (!r19)
                                else
                                  if a0.Kind = 13 then
                                    if 0 < ((a0.S.length : Nat) : Int) then
                                      some false
                                    else
                                      if ((a0.Kids.length : Nat) : Int) = 1 then
                                        (G_slices_ContainsFunc_Expr_isFormed_1 a0.Kids a1).bind fun r20 =>
                                        some (!r20)
                                      else
                                        some false
                                  else
                                    if a0.Kind = 14 then
                                      if 0 < ((a0.S.length : Nat) : Int) then
                                        some false
                                      else
                                        if ((a0.Kids.length : Nat) : Int) = 1 then
                                          (G_slices_ContainsFunc_Expr_isFormed_1 a0.Kids a1).bind fun r21 =>
                                          some (!r21)
                                        else
                                          some false
                                    else
                                      if a0.Kind = 9 then
                                        if 0 < ((a0.S.length : Nat) : Int) then
                                          some false
                                        else
                                          if ((a0.Kids.length : Nat) : Int) = 2 then
                                            (G_slices_ContainsFunc_Expr_isFormed_1 a0.Kids a1).bind fun r22 =>
                                            some (!r22)
                                          else
                                            some false
                                      else
                                        if a0.Kind = 15 then
                                          if 0 < ((a0.S.length : Nat) : Int) then
                                            some false
                                          else
                                            if ((a0.Kids.length : Nat) : Int) = 2 then
                                              (G_slices_ContainsFunc_Expr_isFormed_1 a0.Kids a1).bind fun r23 =>
                                              some (!r23)
                                            else
                                              some false
                                        else
                                          if a0.Kind = 16 then
                                            if 0 < ((a0.S.length : Nat) : Int) then
                                              some false
                                            else
                                              if ((a0.Kids.length : Nat) : Int) = 2 then
                                                (G_slices_ContainsFunc_Expr_isFormed_1 a0.Kids a1).bind fun r24 =>
                                                some (!r24)
                                              else
                                                some false
                                          else
                                            if a0.Kind = 17 then
                                              if 0 < ((a0.S.length : Nat) : Int) then
                                                some false
                                              else
                                                if ((a0.Kids.length : Nat) : Int) = 2 then
                                                  (G_slices_ContainsFunc_Expr_isFormed_1 a0.Kids a1).bind fun r25 =>
                                                  some (!r25)
                                                else
                                                  some false
                                            else
                                              if a0.Kind = 18 then
                                                if 0 < ((a0.S.length : Nat) : Int) then
                                                  some false
                                                else
                                                  if ((a0.Kids.length : Nat) : Int) = 2 then
                                                    (G_slices_ContainsFunc_Expr_isFormed_1 a0.Kids a1).bind fun r26 =>
                                                    some (!r26)
                                                  else
                                                    some false
                                              else
                                                if a0.Kind = 19 then
                                                  if 0 < ((a0.S.length : Nat) : Int) then
                                                    some false
                                                  else
                                                    if ((a0.Kids.length : Nat) : Int) = 2 then
                                                      (G_slices_ContainsFunc_Expr_isFormed_1 a0.Kids a1).bind fun r27 =>
                                                      some (!r27)
                                                    else
                                                      some false
                                                else
                                                  if a0.Kind = 20 then
                                                    if 0 < ((a0.S.length : Nat) : Int) then
                                                      some false
                                                    else
                                                      if ((a0.Kids.length : Nat) : Int) = 2 then
                                                        (G_slices_ContainsFunc_Expr_isFormed_1 a0.Kids a1).bind fun r28 =>
                                                        some (!r28)
                                                      else
                                                        some false
                                                  else
                                                    if a0.Kind = 21 then
                                                      if 0 < ((a0.S.length : Nat) : Int) then
                                                        some false
                                                      else
                                                        if ((a0.Kids.length : Nat) : Int) = 2 then
                                                          (G_slices_ContainsFunc_Expr_isFormed_1 a0.Kids a1).bind fun r29 =>
                                                          some (!r29)
                                                        else
                                                          some false
                                                    else
                                                      if a0.Kind = 22 then
                                                        if 0 < ((a0.S.length : Nat) : Int) then
                                                          some false
                                                        else
                                                          if ((a0.Kids.length : Nat) : Int) = 3 then
                                                            (G_slices_ContainsFunc_Expr_isFormed_1 a0.Kids a1).bind fun r30 =>
                                                            some (!r30)
                                                          else
                                                            some false
                                                      else
                                                        some false
            else
              some false

set_option maxRecDepth 100000 in
theorem fd_80 : cfg.funcs 80 = some (bodyOf Try.f80, Try.f80.ntmps, Try.f80.results.toList) := fn_of Try.func80 (by kernel_rfl) (by kernel_rfl)
theorem g_impl_isFormed (G_slices_ContainsFunc_Expr_isFormed_1 : (List GExpr) → Int → Option Bool) (H_slices_ContainsFunc_Expr_isFormed_1 : ∀ (a0 : (List GExpr)) (e0 : Int) (r : Bool), G_slices_ContainsFunc_Expr_isFormed_1 a0 e0 = some r → (mach cfg).call 117 [.var [.int .i64 e0]] [.val false [.seq (eL e_GExpr a0)], .val false [.fn 118 [.ptr 0 0]]] = some (.val false [.bool r], [.var [.int .i64 e0]])) (n : Nat) (a0 : GExpr) (a1 : Int) (r : Bool) (h : T_impl_isFormed G_slices_ContainsFunc_Expr_isFormed_1 n a0 a1 = some r) : (mach cfg).call 80 [] [.val true [.int .i64 a0.Kind, .int .i64 a0.N, .seq (eL e_u8 a0.S), .seq (eL (e_sl e_u8) a0.K), .seq (eL e_GExpr a0.Kids)], .val false [.int .i64 a1]] = some (.val false [.bool r], []) := by
  unfold T_impl_isFormed at h
  rcases ite_some h with ⟨c1, h⟩ | ⟨c1, h⟩
  ·obtain rfl := Option.some.inj h
   exact call_wQ [.eT c1] rfl fd_80 (by kernel_rfl)
  ·rcases ite_some h with ⟨c2, h⟩ | ⟨c2, h⟩
   ·rcases ite_some h with ⟨c3, h⟩ | ⟨c3, h⟩
    ·obtain ⟨o4, ho4, h⟩ := bs h
     rcases o4 with o4_0 | o4_1
     · try dsimp only at h
       obtain rfl := Option.some.inj h
       exact call_wQ [.eF c1, .eT c2, .nt true, .eFo a0.Kind 1 (by omega), .nt false, .eFo a0.Kind 2 (by omega), .nt false, .eT c3, .nt true, .eFo a0.Kind 1 (by omega), .eFo a0.Kind 2 (by omega), .eFo a0.Kind 0 (by omega), .eFo a0.Kind 10 (by omega), .eFo a0.Kind 11 (by omega), .eFo a0.Kind 12 (by omega), .eFo a0.Kind 3 (by omega), .eFo a0.Kind 6 (by omega), .eFo a0.Kind 8 (by omega), .eFo a0.Kind 7 (by omega), .eFo a0.Kind 23 (by omega), .eFo a0.Kind 4 (by omega), .eT c2, .le (e_sl e_u8) a0.K, .le (e_sl e_u8) a0.K, .lp (gl_impl_isFormed_l0 G_slices_ContainsFunc_Expr_isFormed_1 H_slices_ContainsFunc_Expr_isFormed_1 ((a0.K.length : Nat) : Int) false a0.K a0 a1 _ 0 _ ho4)] rfl fd_80 (by kernel_rfl)
     · try dsimp only at h
       rcases ite_some h with ⟨c5, h⟩ | ⟨c5, h⟩
       ·obtain rfl := Option.some.inj h
        exact call_wQ [.eF c1, .eT c2, .nt true, .eFo a0.Kind 1 (by omega), .nt false, .eFo a0.Kind 2 (by omega), .nt false, .eT c3, .nt true, .eFo a0.Kind 1 (by omega), .eFo a0.Kind 2 (by omega), .eFo a0.Kind 0 (by omega), .eFo a0.Kind 10 (by omega), .eFo a0.Kind 11 (by omega), .eFo a0.Kind 12 (by omega), .eFo a0.Kind 3 (by omega), .eFo a0.Kind 6 (by omega), .eFo a0.Kind 8 (by omega), .eFo a0.Kind 7 (by omega), .eFo a0.Kind 23 (by omega), .eFo a0.Kind 4 (by omega), .eT c2, .le (e_sl e_u8) a0.K, .le (e_sl e_u8) a0.K, .lp (gl_impl_isFormed_l0 G_slices_ContainsFunc_Expr_isFormed_1 H_slices_ContainsFunc_Expr_isFormed_1 ((a0.K.length : Nat) : Int) false a0.K a0 a1 _ 0 _ ho4), .nt false, .le e_u8 a0.S, .lT c5] rfl fd_80 (by kernel_rfl)
       ·rcases ite_some h with ⟨c6, h⟩ | ⟨c6, h⟩
        ·rcases ite_some h with ⟨c7, h⟩ | ⟨c7, h⟩
         ·obtain rfl := Option.some.inj h
          exact call_wQ [.eF c1, .eT c2, .nt true, .eFo a0.Kind 1 (by omega), .nt false, .eFo a0.Kind 2 (by omega), .nt false, .eT c3, .nt true, .eFo a0.Kind 1 (by omega), .eFo a0.Kind 2 (by omega), .eFo a0.Kind 0 (by omega), .eFo a0.Kind 10 (by omega), .eFo a0.Kind 11 (by omega), .eFo a0.Kind 12 (by omega), .eFo a0.Kind 3 (by omega), .eFo a0.Kind 6 (by omega), .eFo a0.Kind 8 (by omega), .eFo a0.Kind 7 (by omega), .eFo a0.Kind 23 (by omega), .eFo a0.Kind 4 (by omega), .eT c2, .le (e_sl e_u8) a0.K, .le (e_sl e_u8) a0.K, .lp (gl_impl_isFormed_l0 G_slices_ContainsFunc_Expr_isFormed_1 H_slices_ContainsFunc_Expr_isFormed_1 ((a0.K.length : Nat) : Int) false a0.K a0 a1 _ 0 _ ho4), .nt false, .le e_u8 a0.S, .lF c5, .le e_GExpr a0.Kids, .eT c6, .nt true, .lT c7] rfl fd_80 (by kernel_rfl)
         ·obtain ⟨r8, hr8, h⟩ := bs h
          obtain rfl := Option.some.inj h
          exact call_wQ [.eF c1, .eT c2, .nt true, .eFo a0.Kind 1 (by omega), .nt false, .eFo a0.Kind 2 (by omega), .nt false, .eT c3, .nt true, .eFo a0.Kind 1 (by omega), .eFo a0.Kind 2 (by omega), .eFo a0.Kind 0 (by omega), .eFo a0.Kind 10 (by omega), .eFo a0.Kind 11 (by omega), .eFo a0.Kind 12 (by omega), .eFo a0.Kind 3 (by omega), .eFo a0.Kind 6 (by omega), .eFo a0.Kind 8 (by omega), .eFo a0.Kind 7 (by omega), .eFo a0.Kind 23 (by omega), .eFo a0.Kind 4 (by omega), .eT c2, .le (e_sl e_u8) a0.K, .le (e_sl e_u8) a0.K, .lp (gl_impl_isFormed_l0 G_slices_ContainsFunc_Expr_isFormed_1 H_slices_ContainsFunc_Expr_isFormed_1 ((a0.K.length : Nat) : Int) false a0.K a0 a1 _ 0 _ ho4), .nt false, .le e_u8 a0.S, .lF c5, .le e_GExpr a0.Kids, .eT c6, .nt true, .lF c7, .cl (H_slices_ContainsFunc_Expr_isFormed_1 a0.Kids a1 _ hr8), .nt r8] rfl fd_80 (by kernel_rfl)
        ·obtain rfl := Option.some.inj h
         exact call_wQ [.eF c1, .eT c2, .nt true, .eFo a0.Kind 1 (by omega), .nt false, .eFo a0.Kind 2 (by omega), .nt false, .eT c3, .nt true, .eFo a0.Kind 1 (by omega), .eFo a0.Kind 2 (by omega), .eFo a0.Kind 0 (by omega), .eFo a0.Kind 10 (by omega), .eFo a0.Kind 11 (by omega), .eFo a0.Kind 12 (by omega), .eFo a0.Kind 3 (by omega), .eFo a0.Kind 6 (by omega), .eFo a0.Kind 8 (by omega), .eFo a0.Kind 7 (by omega), .eFo a0.Kind 23 (by omega), .eFo a0.Kind 4 (by omega), .eT c2, .le (e_sl e_u8) a0.K, .le (e_sl e_u8) a0.K, .lp (gl_impl_isFormed_l0 G_slices_ContainsFunc_Expr_isFormed_1 H_slices_ContainsFunc_Expr_isFormed_1 ((a0.K.length : Nat) : Int) false a0.K a0 a1 _ 0 _ ho4), .nt false, .le e_u8 a0.S, .lF c5, .le e_GExpr a0.Kids, .eF c6, .nt false] rfl fd_80 (by kernel_rfl)
    ·obtain rfl := Option.some.inj h
     exact call_wQ [.eF c1, .eT c2, .nt true, .eFo a0.Kind 1 (by omega), .nt false, .eFo a0.Kind 2 (by omega), .nt false, .eF c3, .nt false] rfl fd_80 (by kernel_rfl)
   ·rcases ite_some h with ⟨c3, h⟩ | ⟨c3, h⟩
    ·obtain rfl := Option.some.inj h
     exact call_wQ [.eF c1, .eF c2, .nt false, .le (e_sl e_u8) a0.K, .lT c3] rfl fd_80 (by kernel_rfl)
    ·rcases ite_some h with ⟨c4, h⟩ | ⟨c4, h⟩
     ·obtain ⟨r5, hr5, h⟩ := bs h
      cases r5 with
      | true =>
       try dsimp only at h
       rcases ite_some h with ⟨c7, h⟩ | ⟨c7, h⟩
       ·obtain rfl := Option.some.inj h
        exact call_wQ [.eF c1, .eF c2, .nt false, .le (e_sl e_u8) a0.K, .lF c3, .eT c4, .nt true, .eT c4, .cl (ok_impl_in a0.N 0 1 _ hr5), .nt true, .nt false, .le e_u8 a0.S, .lT c7] rfl fd_80 (by kernel_rfl)
       ·rcases ite_some h with ⟨c8, h⟩ | ⟨c8, h⟩
        ·obtain ⟨r9, hr9, h⟩ := bs h
         obtain rfl := Option.some.inj h
         exact call_wQ [.eF c1, .eF c2, .nt false, .le (e_sl e_u8) a0.K, .lF c3, .eT c4, .nt true, .eT c4, .cl (ok_impl_in a0.N 0 1 _ hr5), .nt true, .nt false, .le e_u8 a0.S, .lF c7, .le e_GExpr a0.Kids, .eT c8, .nt true, .lFo 150 0 (by omega), .cl (H_slices_ContainsFunc_Expr_isFormed_1 a0.Kids a1 _ hr9), .nt r9] rfl fd_80 (by kernel_rfl)
        ·obtain rfl := Option.some.inj h
         exact call_wQ [.eF c1, .eF c2, .nt false, .le (e_sl e_u8) a0.K, .lF c3, .eT c4, .nt true, .eT c4, .cl (ok_impl_in a0.N 0 1 _ hr5), .nt true, .nt false, .le e_u8 a0.S, .lF c7, .le e_GExpr a0.Kids, .eF c8, .nt false] rfl fd_80 (by kernel_rfl)
      | false =>
       try dsimp only at h
       obtain rfl := Option.some.inj h
       exact call_wQ [.eF c1, .eF c2, .nt false, .le (e_sl e_u8) a0.K, .lF c3, .eT c4, .nt true, .eT c4, .cl (ok_impl_in a0.N 0 1 _ hr5), .nt false] rfl fd_80 (by kernel_rfl)
     ·rcases ite_some h with ⟨c5, h⟩ | ⟨c5, h⟩
      ·obtain ⟨r6, hr6, h⟩ := bs h
       cases r6 with
       | true =>
        try dsimp only at h
        rcases ite_some h with ⟨c8, h⟩ | ⟨c8, h⟩
        ·obtain rfl := Option.some.inj h
         exact call_wQ [.eF c1, .eF c2, .nt false, .le (e_sl e_u8) a0.K, .lF c3, .eF c4, .nt false, .eT c5, .nt true, .eF c4, .eT c5, .cl (ok_impl_in a0.N 0 1000000000000 _ hr6), .nt true, .nt false, .le e_u8 a0.S, .lT c8] rfl fd_80 (by kernel_rfl)
        ·rcases ite_some h with ⟨c9, h⟩ | ⟨c9, h⟩
         ·obtain ⟨r10, hr10, h⟩ := bs h
          obtain rfl := Option.some.inj h
          exact call_wQ [.eF c1, .eF c2, .nt false, .le (e_sl e_u8) a0.K, .lF c3, .eF c4, .nt false, .eT c5, .nt true, .eF c4, .eT c5, .cl (ok_impl_in a0.N 0 1000000000000 _ hr6), .nt true, .nt false, .le e_u8 a0.S, .lF c8, .le e_GExpr a0.Kids, .eT c9, .nt true, .lFo 150 0 (by omega), .cl (H_slices_ContainsFunc_Expr_isFormed_1 a0.Kids a1 _ hr10), .nt r10] rfl fd_80 (by kernel_rfl)
         ·obtain rfl := Option.some.inj h
          exact call_wQ [.eF c1, .eF c2, .nt false, .le (e_sl e_u8) a0.K, .lF c3, .eF c4, .nt false, .eT c5, .nt true, .eF c4, .eT c5, .cl (ok_impl_in a0.N 0 1000000000000 _ hr6), .nt true, .nt false, .le e_u8 a0.S, .lF c8, .le e_GExpr a0.Kids, .eF c9, .nt false] rfl fd_80 (by kernel_rfl)
       | false =>
        try dsimp only at h
        obtain rfl := Option.some.inj h
        exact call_wQ [.eF c1, .eF c2, .nt false, .le (e_sl e_u8) a0.K, .lF c3, .eF c4, .nt false, .eT c5, .nt true, .eF c4, .eT c5, .cl (ok_impl_in a0.N 0 1000000000000 _ hr6), .nt false] rfl fd_80 (by kernel_rfl)
      ·rcases ite_some h with ⟨c6, h⟩ | ⟨c6, h⟩
       ·rcases ite_some h with ⟨c7, h⟩ | ⟨c7, h⟩
        ·rcases ite_some h with ⟨c8, h⟩ | ⟨c8, h⟩
         ·obtain rfl := Option.some.inj h
          exact call_wQ [.eF c1, .eF c2, .nt false, .le (e_sl e_u8) a0.K, .lF c3, .eF c4, .nt false, .eF c5, .nt false, .eT c6, .nt true, .eF c4, .eF c5, .eT c7, .nt false, .le e_u8 a0.S, .lT c8] rfl fd_80 (by kernel_rfl)
         ·rcases ite_some h with ⟨c9, h⟩ | ⟨c9, h⟩
          ·obtain ⟨r10, hr10, h⟩ := bs h
           obtain rfl := Option.some.inj h
           exact call_wQ [.eF c1, .eF c2, .nt false, .le (e_sl e_u8) a0.K, .lF c3, .eF c4, .nt false, .eF c5, .nt false, .eT c6, .nt true, .eF c4, .eF c5, .eT c7, .nt false, .le e_u8 a0.S, .lF c8, .le e_GExpr a0.Kids, .eT c9, .nt true, .lFo 150 0 (by omega), .cl (H_slices_ContainsFunc_Expr_isFormed_1 a0.Kids a1 _ hr10), .nt r10] rfl fd_80 (by kernel_rfl)
          ·obtain rfl := Option.some.inj h
           exact call_wQ [.eF c1, .eF c2, .nt false, .le (e_sl e_u8) a0.K, .lF c3, .eF c4, .nt false, .eF c5, .nt false, .eT c6, .nt true, .eF c4, .eF c5, .eT c7, .nt false, .le e_u8 a0.S, .lF c8, .le e_GExpr a0.Kids, .eF c9, .nt false] rfl fd_80 (by kernel_rfl)
        ·rcases ite_some h with ⟨c8, h⟩ | ⟨c8, h⟩
         ·rcases ite_some h with ⟨c9, h⟩ | ⟨c9, h⟩
          ·obtain rfl := Option.some.inj h
           exact call_wQ [.eF c1, .eF c2, .nt false, .le (e_sl e_u8) a0.K, .lF c3, .eF c4, .nt false, .eF c5, .nt false, .eT c6, .nt true, .eF c4, .eF c5, .eF c7, .eT c8, .nt false, .le e_u8 a0.S, .lT c9] rfl fd_80 (by kernel_rfl)
          ·rcases ite_some h with ⟨c10, h⟩ | ⟨c10, h⟩
           ·obtain ⟨r11, hr11, h⟩ := bs h
            obtain rfl := Option.some.inj h
            exact call_wQ [.eF c1, .eF c2, .nt false, .le (e_sl e_u8) a0.K, .lF c3, .eF c4, .nt false, .eF c5, .nt false, .eT c6, .nt true, .eF c4, .eF c5, .eF c7, .eT c8, .nt false, .le e_u8 a0.S, .lF c9, .le e_GExpr a0.Kids, .eT c10, .nt true, .lFo 150 0 (by omega), .cl (H_slices_ContainsFunc_Expr_isFormed_1 a0.Kids a1 _ hr11), .nt r11] rfl fd_80 (by kernel_rfl)
           ·obtain rfl := Option.some.inj h
            exact call_wQ [.eF c1, .eF c2, .nt false, .le (e_sl e_u8) a0.K, .lF c3, .eF c4, .nt false, .eF c5, .nt false, .eT c6, .nt true, .eF c4, .eF c5, .eF c7, .eT c8, .nt false, .le e_u8 a0.S, .lF c9, .le e_GExpr a0.Kids, .eF c10, .nt false] rfl fd_80 (by kernel_rfl)
         ·rcases ite_some h with ⟨c9, h⟩ | ⟨c9, h⟩
          ·rcases ite_some h with ⟨c10, h⟩ | ⟨c10, h⟩
           ·obtain rfl := Option.some.inj h
            exact call_wQ [.eF c1, .eF c2, .nt false, .le (e_sl e_u8) a0.K, .lF c3, .eF c4, .nt false, .eF c5, .nt false, .eT c6, .nt true, .eF c4, .eF c5, .eF c7, .eF c8, .eT c9, .nt false, .le e_u8 a0.S, .lT c10] rfl fd_80 (by kernel_rfl)
           ·rcases ite_some h with ⟨c11, h⟩ | ⟨c11, h⟩
            ·obtain ⟨r12, hr12, h⟩ := bs h
             obtain rfl := Option.some.inj h
             exact call_wQ [.eF c1, .eF c2, .nt false, .le (e_sl e_u8) a0.K, .lF c3, .eF c4, .nt false, .eF c5, .nt false, .eT c6, .nt true, .eF c4, .eF c5, .eF c7, .eF c8, .eT c9, .nt false, .le e_u8 a0.S, .lF c10, .le e_GExpr a0.Kids, .eT c11, .nt true, .lFo 150 0 (by omega), .cl (H_slices_ContainsFunc_Expr_isFormed_1 a0.Kids a1 _ hr12), .nt r12] rfl fd_80 (by kernel_rfl)
            ·obtain rfl := Option.some.inj h
             exact call_wQ [.eF c1, .eF c2, .nt false, .le (e_sl e_u8) a0.K, .lF c3, .eF c4, .nt false, .eF c5, .nt false, .eT c6, .nt true, .eF c4, .eF c5, .eF c7, .eF c8, .eT c9, .nt false, .le e_u8 a0.S, .lF c10, .le e_GExpr a0.Kids, .eF c11, .nt false] rfl fd_80 (by kernel_rfl)
          ·rcases ite_some h with ⟨c10, h⟩ | ⟨c10, h⟩
           ·rcases ite_some h with ⟨c11, h⟩ | ⟨c11, h⟩
            ·obtain rfl := Option.some.inj h
             exact call_wQ [.eF c1, .eF c2, .nt false, .le (e_sl e_u8) a0.K, .lF c3, .eF c4, .nt false, .eF c5, .nt false, .eT c6, .nt true, .eF c4, .eF c5, .eF c7, .eF c8, .eF c9, .eT c10, .nt false, .le e_u8 a0.S, .lT c11] rfl fd_80 (by kernel_rfl)
            ·rcases ite_some h with ⟨c12, h⟩ | ⟨c12, h⟩
             ·obtain ⟨r13, hr13, h⟩ := bs h
              obtain rfl := Option.some.inj h
              exact call_wQ [.eF c1, .eF c2, .nt false, .le (e_sl e_u8) a0.K, .lF c3, .eF c4, .nt false, .eF c5, .nt false, .eT c6, .nt true, .eF c4, .eF c5, .eF c7, .eF c8, .eF c9, .eT c10, .nt false, .le e_u8 a0.S, .lF c11, .le e_GExpr a0.Kids, .eT c12, .nt true, .lFo 150 0 (by omega), .cl (H_slices_ContainsFunc_Expr_isFormed_1 a0.Kids a1 _ hr13), .nt r13] rfl fd_80 (by kernel_rfl)
             ·obtain rfl := Option.some.inj h
              exact call_wQ [.eF c1, .eF c2, .nt false, .le (e_sl e_u8) a0.K, .lF c3, .eF c4, .nt false, .eF c5, .nt false, .eT c6, .nt true, .eF c4, .eF c5, .eF c7, .eF c8, .eF c9, .eT c10, .nt false, .le e_u8 a0.S, .lF c11, .le e_GExpr a0.Kids, .eF c12, .nt false] rfl fd_80 (by kernel_rfl)
           ·rcases ite_some h with ⟨c11, h⟩ | ⟨c11, h⟩
            ·obtain ⟨r12, hr12, h⟩ := bs h
             cases r12 with
             | true =>
              try dsimp only at h
              rcases ite_some h with ⟨c14, h⟩ | ⟨c14, h⟩
              ·obtain ⟨r15, hr15, h⟩ := bs h
               obtain rfl := Option.some.inj h
               exact call_wQ [.eF c1, .eF c2, .nt false, .le (e_sl e_u8) a0.K, .lF c3, .eF c4, .nt false, .eF c5, .nt false, .eT c6, .nt true, .eF c4, .eF c5, .eF c7, .eF c8, .eF c9, .eF c10, .eT c11, .cl (ok_impl_isText a0.S _ hr12), .nt true, .nt true, .le e_GExpr a0.Kids, .eT c14, .nt true, .lFo 150 0 (by omega), .cl (H_slices_ContainsFunc_Expr_isFormed_1 a0.Kids a1 _ hr15), .nt r15] rfl fd_80 (by kernel_rfl)
              ·obtain rfl := Option.some.inj h
               exact call_wQ [.eF c1, .eF c2, .nt false, .le (e_sl e_u8) a0.K, .lF c3, .eF c4, .nt false, .eF c5, .nt false, .eT c6, .nt true, .eF c4, .eF c5, .eF c7, .eF c8, .eF c9, .eF c10, .eT c11, .cl (ok_impl_isText a0.S _ hr12), .nt true, .nt true, .le e_GExpr a0.Kids, .eF c14, .nt false] rfl fd_80 (by kernel_rfl)
             | false =>
              try dsimp only at h
              obtain rfl := Option.some.inj h
              exact call_wQ [.eF c1, .eF c2, .nt false, .le (e_sl e_u8) a0.K, .lF c3, .eF c4, .nt false, .eF c5, .nt false, .eT c6, .nt true, .eF c4, .eF c5, .eF c7, .eF c8, .eF c9, .eF c10, .eT c11, .cl (ok_impl_isText a0.S _ hr12), .nt false] rfl fd_80 (by kernel_rfl)
            ·rcases ite_some h with ⟨c12, h⟩ | ⟨c12, h⟩
             ·obtain ⟨r13, hr13, h⟩ := bs h
              cases r13 with
              | true =>
               try dsimp only at h
               rcases ite_some h with ⟨c15, h⟩ | ⟨c15, h⟩
               ·obtain ⟨r16, hr16, h⟩ := bs h
                obtain rfl := Option.some.inj h
                exact call_wQ [.eF c1, .eF c2, .nt false, .le (e_sl e_u8) a0.K, .lF c3, .eF c4, .nt false, .eF c5, .nt false, .eT c6, .nt true, .eF c4, .eF c5, .eF c7, .eF c8, .eF c9, .eF c10, .eF c11, .eT c12, .cl (ok_impl_isName a0.S _ hr13), .nt true, .eFo a0.Kind 8 (by omega), .nt true, .le e_GExpr a0.Kids, .eT c15, .nt true, .lFo 150 0 (by omega), .cl (H_slices_ContainsFunc_Expr_isFormed_1 a0.Kids a1 _ hr16), .nt r16] rfl fd_80 (by kernel_rfl)
               ·obtain rfl := Option.some.inj h
                exact call_wQ [.eF c1, .eF c2, .nt false, .le (e_sl e_u8) a0.K, .lF c3, .eF c4, .nt false, .eF c5, .nt false, .eT c6, .nt true, .eF c4, .eF c5, .eF c7, .eF c8, .eF c9, .eF c10, .eF c11, .eT c12, .cl (ok_impl_isName a0.S _ hr13), .nt true, .eFo a0.Kind 8 (by omega), .nt true, .le e_GExpr a0.Kids, .eF c15, .nt false] rfl fd_80 (by kernel_rfl)
              | false =>
               try dsimp only at h
               obtain rfl := Option.some.inj h
               exact call_wQ [.eF c1, .eF c2, .nt false, .le (e_sl e_u8) a0.K, .lF c3, .eF c4, .nt false, .eF c5, .nt false, .eT c6, .nt true, .eF c4, .eF c5, .eF c7, .eF c8, .eF c9, .eF c10, .eF c11, .eT c12, .cl (ok_impl_isName a0.S _ hr13), .nt false] rfl fd_80 (by kernel_rfl)
             ·rcases ite_some h with ⟨c13, h⟩ | ⟨c13, h⟩
              ·obtain ⟨r14, hr14, h⟩ := bs h
               cases r14 with
               | true =>
                try dsimp only at h
                rcases ite_some h with ⟨c16, h⟩ | ⟨c16, h⟩
                ·obtain ⟨r17, hr17, h⟩ := bs h
                 obtain rfl := Option.some.inj h
                 exact call_wQ [.eF c1, .eF c2, .nt false, .le (e_sl e_u8) a0.K, .lF c3, .eF c4, .nt false, .eF c5, .nt false, .eT c6, .nt true, .eF c4, .eF c5, .eF c7, .eF c8, .eF c9, .eF c10, .eF c11, .eF c12, .eT c13, .cl (ok_impl_isName a0.S _ hr14), .nt true, .eT c13, .nt true, .le e_GExpr a0.Kids, .eT c16, .nt true, .lFo 150 1 (by omega), .cl (H_slices_ContainsFunc_Expr_isFormed_1 a0.Kids a1 _ hr17), .nt r17] rfl fd_80 (by kernel_rfl)
                ·obtain rfl := Option.some.inj h
                 exact call_wQ [.eF c1, .eF c2, .nt false, .le (e_sl e_u8) a0.K, .lF c3, .eF c4, .nt false, .eF c5, .nt false, .eT c6, .nt true, .eF c4, .eF c5, .eF c7, .eF c8, .eF c9, .eF c10, .eF c11, .eF c12, .eT c13, .cl (ok_impl_isName a0.S _ hr14), .nt true, .eT c13, .nt true, .le e_GExpr a0.Kids, .eF c16, .nt false] rfl fd_80 (by kernel_rfl)
               | false =>
                try dsimp only at h
                obtain rfl := Option.some.inj h
                exact call_wQ [.eF c1, .eF c2, .nt false, .le (e_sl e_u8) a0.K, .lF c3, .eF c4, .nt false, .eF c5, .nt false, .eT c6, .nt true, .eF c4, .eF c5, .eF c7, .eF c8, .eF c9, .eF c10, .eF c11, .eF c12, .eT c13, .cl (ok_impl_isName a0.S _ hr14), .nt false] rfl fd_80 (by kernel_rfl)
              ·rcases ite_some h with ⟨c14, h⟩ | ⟨c14, h⟩
               ·obtain ⟨r15, hr15, h⟩ := bs h
                cases r15 with
                | true =>
                 try dsimp only at h
                 rcases ite_some h with ⟨c17, h⟩ | ⟨c17, h⟩
                 ·obtain ⟨r18, hr18, h⟩ := bs h
                  obtain rfl := Option.some.inj h
                  exact call_wQ [.eF c1, .eF c2, .nt false, .le (e_sl e_u8) a0.K, .lF c3, .eF c4, .nt false, .eF c5, .nt false, .eT c6, .nt true, .eF c4, .eF c5, .eF c7, .eF c8, .eF c9, .eF c10, .eF c11, .eF c12, .eF c13, .eT c14, .cl (ok_impl_isWord a0.S _ hr15), .nt true, .eFo a0.Kind 23 (by omega), .nt true, .le e_GExpr a0.Kids, .eT c17, .nt true, .lFo 150 0 (by omega), .cl (H_slices_ContainsFunc_Expr_isFormed_1 a0.Kids a1 _ hr18), .nt r18] rfl fd_80 (by kernel_rfl)
                 ·obtain rfl := Option.some.inj h
                  exact call_wQ [.eF c1, .eF c2, .nt false, .le (e_sl e_u8) a0.K, .lF c3, .eF c4, .nt false, .eF c5, .nt false, .eT c6, .nt true, .eF c4, .eF c5, .eF c7, .eF c8, .eF c9, .eF c10, .eF c11, .eF c12, .eF c13, .eT c14, .cl (ok_impl_isWord a0.S _ hr15), .nt true, .eFo a0.Kind 23 (by omega), .nt true, .le e_GExpr a0.Kids, .eF c17, .nt false] rfl fd_80 (by kernel_rfl)
                | false =>
                 try dsimp only at h
                 obtain rfl := Option.some.inj h
                 exact call_wQ [.eF c1, .eF c2, .nt false, .le (e_sl e_u8) a0.K, .lF c3, .eF c4, .nt false, .eF c5, .nt false, .eT c6, .nt true, .eF c4, .eF c5, .eF c7, .eF c8, .eF c9, .eF c10, .eF c11, .eF c12, .eF c13, .eT c14, .cl (ok_impl_isWord a0.S _ hr15), .nt false] rfl fd_80 (by kernel_rfl)
               ·rcases ite_some h with ⟨c15, h⟩ | ⟨c15, h⟩
                ·obtain ⟨r16, hr16, h⟩ := bs h
                 cases r16 with
                 | true =>
                  try dsimp only at h
                  rcases ite_some h with ⟨c18, h⟩ | ⟨c18, h⟩
                  ·obtain rfl := Option.some.inj h
                   exact call_wQ [.eF c1, .eF c2, .nt false, .le (e_sl e_u8) a0.K, .lF c3, .eF c4, .nt false, .eF c5, .nt false, .eT c6, .nt true, .eF c4, .eF c5, .eF c7, .eF c8, .eF c9, .eF c10, .eF c11, .eF c12, .eF c13, .eF c14, .eT c15, .cl (ok_impl_isWord a0.S _ hr16), .nt true, .eT c15, .le e_GExpr a0.Kids, .nt true, .le e_GExpr a0.Kids, .eTo ((a0.Kids.length : Nat) : Int) ((a0.Kids.length : Nat) : Int) (by omega), .nt true, .lT c18] rfl fd_80 (by kernel_rfl)
                  ·obtain ⟨r19, hr19, h⟩ := bs h
                   obtain rfl := Option.some.inj h
                   exact call_wQ [.eF c1, .eF c2, .nt false, .le (e_sl e_u8) a0.K, .lF c3, .eF c4, .nt false, .eF c5, .nt false, .eT c6, .nt true, .eF c4, .eF c5, .eF c7, .eF c8, .eF c9, .eF c10, .eF c11, .eF c12, .eF c13, .eF c14, .eT c15, .cl (ok_impl_isWord a0.S _ hr16), .nt true, .eT c15, .le e_GExpr a0.Kids, .nt true, .le e_GExpr a0.Kids, .eTo ((a0.Kids.length : Nat) : Int) ((a0.Kids.length : Nat) : Int) (by omega), .nt true, .lF c18, .cl (H_slices_ContainsFunc_Expr_isFormed_1 a0.Kids a1 _ hr19), .nt r19] rfl fd_80 (by kernel_rfl)
                 | false =>
                  try dsimp only at h
                  obtain rfl := Option.some.inj h
                  exact call_wQ [.eF c1, .eF c2, .nt false, .le (e_sl e_u8) a0.K, .lF c3, .eF c4, .nt false, .eF c5, .nt false, .eT c6, .nt true, .eF c4, .eF c5, .eF c7, .eF c8, .eF c9, .eF c10, .eF c11, .eF c12, .eF c13, .eF c14, .eT c15, .cl (ok_impl_isWord a0.S _ hr16), .nt false] rfl fd_80 (by kernel_rfl)
                ·rcases ite_some h with ⟨c16, h⟩ | ⟨c16, h⟩
                 ·rcases ite_some h with ⟨c17, h⟩ | ⟨c17, h⟩
                  ·obtain rfl := Option.some.inj h
                   exact call_wQ [.eF c1, .eF c2, .nt false, .le (e_sl e_u8) a0.K, .lF c3, .eF c4, .nt false, .eF c5, .nt false, .eT c6, .nt true, .eF c4, .eF c5, .eF c7, .eF c8, .eF c9, .eF c10, .eF c11, .eF c12, .eF c13, .eF c14, .eF c15, .eT c16, .le e_GExpr a0.Kids, .nt false, .le e_u8 a0.S, .lT c17] rfl fd_80 (by kernel_rfl)
                  ·rcases ite_some h with ⟨c18, h⟩ | ⟨c18, h⟩
                   ·obtain rfl := Option.some.inj h
                    exact call_wQ [.eF c1, .eF c2, .nt false, .le (e_sl e_u8) a0.K, .lF c3, .eF c4, .nt false, .eF c5, .nt false, .eT c6, .nt true, .eF c4, .eF c5, .eF c7, .eF c8, .eF c9, .eF c10, .eF c11, .eF c12, .eF c13, .eF c14, .eF c15, .eT c16, .le e_GExpr a0.Kids, .nt false, .le e_u8 a0.S, .lF c17, .le e_GExpr a0.Kids, .eTo ((a0.Kids.length : Nat) : Int) ((a0.Kids.length : Nat) : Int) (by omega), .nt true, .lT c18] rfl fd_80 (by kernel_rfl)
                   ·obtain ⟨r19, hr19, h⟩ := bs h
                    obtain rfl := Option.some.inj h
                    exact call_wQ [.eF c1, .eF c2, .nt false, .le (e_sl e_u8) a0.K, .lF c3, .eF c4, .nt false, .eF c5, .nt false, .eT c6, .nt true, .eF c4, .eF c5, .eF c7, .eF c8, .eF c9, .eF c10, .eF c11, .eF c12, .eF c13, .eF c14, .eF c15, .eT c16, .le e_GExpr a0.Kids, .nt false, .le e_u8 a0.S, .lF c17, .le e_GExpr a0.Kids, .eTo ((a0.Kids.length : Nat) : Int) ((a0.Kids.length : Nat) : Int) (by omega), .nt true, .lF c18, .cl (H_slices_ContainsFunc_Expr_isFormed_1 a0.Kids a1 _ hr19), .nt r19] rfl fd_80 (by kernel_rfl)
                 ·rcases ite_some h with ⟨c17, h⟩ | ⟨c17, h⟩
                  ·rcases ite_some h with ⟨c18, h⟩ | ⟨c18, h⟩
                   ·obtain rfl := Option.some.inj h
                    exact call_wQ [.eF c1, .eF c2, .nt false, .le (e_sl e_u8) a0.K, .lF c3, .eF c4, .nt false, .eF c5, .nt false, .eT c6, .nt true, .eF c4, .eF c5, .eF c7, .eF c8, .eF c9, .eF c10, .eF c11, .eF c12, .eF c13, .eF c14, .eF c15, .eF c16, .eF c2, .eT c17, .nt false, .le e_u8 a0.S, .lT c18] rfl fd_80 (by kernel_rfl)
                   ·rcases ite_some h with ⟨c19, h⟩ | ⟨c19, h⟩
                    ·obtain ⟨r20, hr20, h⟩ := bs h
                     obtain rfl := Option.some.inj h
                     exact call_wQ [.eF c1, .eF c2, .nt false, .le (e_sl e_u8) a0.K, .lF c3, .eF c4, .nt false, .eF c5, .nt false, .eT c6, .nt true, .eF c4, .eF c5, .eF c7, .eF c8, .eF c9, .eF c10, .eF c11, .eF c12, .eF c13, .eF c14, .eF c15, .eF c16, .eF c2, .eT c17, .nt false, .le e_u8 a0.S, .lF c18, .le e_GExpr a0.Kids, .eT c19, .nt true, .lFo 150 1 (by omega), .cl (H_slices_ContainsFunc_Expr_isFormed_1 a0.Kids a1 _ hr20), .nt r20] rfl fd_80 (by kernel_rfl)
                    ·obtain rfl := Option.some.inj h
                     exact call_wQ [.eF c1, .eF c2, .nt false, .le (e_sl e_u8) a0.K, .lF c3, .eF c4, .nt false, .eF c5, .nt false, .eT c6, .nt true, .eF c4, .eF c5, .eF c7, .eF c8, .eF c9, .eF c10, .eF c11, .eF c12, .eF c13, .eF c14, .eF c15, .eF c16, .eF c2, .eT c17, .nt false, .le e_u8 a0.S, .lF c18, .le e_GExpr a0.Kids, .eF c19, .nt false] rfl fd_80 (by kernel_rfl)
                  ·rcases ite_some h with ⟨c18, h⟩ | ⟨c18, h⟩
                   ·rcases ite_some h with ⟨c19, h⟩ | ⟨c19, h⟩
                    ·obtain rfl := Option.some.inj h
                     exact call_wQ [.eF c1, .eF c2, .nt false, .le (e_sl e_u8) a0.K, .lF c3, .eF c4, .nt false, .eF c5, .nt false, .eT c6, .nt true, .eF c4, .eF c5, .eF c7, .eF c8, .eF c9, .eF c10, .eF c11, .eF c12, .eF c13, .eF c14, .eF c15, .eF c16, .eF c2, .eF c17, .eT c18, .nt false, .le e_u8 a0.S, .lT c19] rfl fd_80 (by kernel_rfl)
                    ·rcases ite_some h with ⟨c20, h⟩ | ⟨c20, h⟩
                     ·obtain ⟨r21, hr21, h⟩ := bs h
                      obtain rfl := Option.some.inj h
                      exact call_wQ [.eF c1, .eF c2, .nt false, .le (e_sl e_u8) a0.K, .lF c3, .eF c4, .nt false, .eF c5, .nt false, .eT c6, .nt true, .eF c4, .eF c5, .eF c7, .eF c8, .eF c9, .eF c10, .eF c11, .eF c12, .eF c13, .eF c14, .eF c15, .eF c16, .eF c2, .eF c17, .eT c18, .nt false, .le e_u8 a0.S, .lF c19, .le e_GExpr a0.Kids, .eT c20, .nt true, .lFo 150 1 (by omega), .cl (H_slices_ContainsFunc_Expr_isFormed_1 a0.Kids a1 _ hr21), .nt r21] rfl fd_80 (by kernel_rfl)
                     ·obtain rfl := Option.some.inj h
                      exact call_wQ [.eF c1, .eF c2, .nt false, .le (e_sl e_u8) a0.K, .lF c3, .eF c4, .nt false, .eF c5, .nt false, .eT c6, .nt true, .eF c4, .eF c5, .eF c7, .eF c8, .eF c9, .eF c10, .eF c11, .eF c12, .eF c13, .eF c14, .eF c15, .eF c16, .eF c2, .eF c17, .eT c18, .nt false, .le e_u8 a0.S, .lF c19, .le e_GExpr a0.Kids, .eF c20, .nt false] rfl fd_80 (by kernel_rfl)
                   ·rcases ite_some h with ⟨c19, h⟩ | ⟨c19, h⟩
                    ·rcases ite_some h with ⟨c20, h⟩ | ⟨c20, h⟩
                     ·obtain rfl := Option.some.inj h
                      exact call_wQ [.eF c1, .eF c2, .nt false, .le (e_sl e_u8) a0.K, .lF c3, .eF c4, .nt false, .eF c5, .nt false, .eT c6, .nt true, .eF c4, .eF c5, .eF c7, .eF c8, .eF c9, .eF c10, .eF c11, .eF c12, .eF c13, .eF c14, .eF c15, .eF c16, .eF c2, .eF c17, .eF c18, .eT c19, .nt false, .le e_u8 a0.S, .lT c20] rfl fd_80 (by kernel_rfl)
                     ·rcases ite_some h with ⟨c21, h⟩ | ⟨c21, h⟩
                      ·obtain ⟨r22, hr22, h⟩ := bs h
                       obtain rfl := Option.some.inj h
                       exact call_wQ [.eF c1, .eF c2, .nt false, .le (e_sl e_u8) a0.K, .lF c3, .eF c4, .nt false, .eF c5, .nt false, .eT c6, .nt true, .eF c4, .eF c5, .eF c7, .eF c8, .eF c9, .eF c10, .eF c11, .eF c12, .eF c13, .eF c14, .eF c15, .eF c16, .eF c2, .eF c17, .eF c18, .eT c19, .nt false, .le e_u8 a0.S, .lF c20, .le e_GExpr a0.Kids, .eT c21, .nt true, .lFo 150 2 (by omega), .cl (H_slices_ContainsFunc_Expr_isFormed_1 a0.Kids a1 _ hr22), .nt r22] rfl fd_80 (by kernel_rfl)
                      ·obtain rfl := Option.some.inj h
                       exact call_wQ [.eF c1, .eF c2, .nt false, .le (e_sl e_u8) a0.K, .lF c3, .eF c4, .nt false, .eF c5, .nt false, .eT c6, .nt true, .eF c4, .eF c5, .eF c7, .eF c8, .eF c9, .eF c10, .eF c11, .eF c12, .eF c13, .eF c14, .eF c15, .eF c16, .eF c2, .eF c17, .eF c18, .eT c19, .nt false, .le e_u8 a0.S, .lF c20, .le e_GExpr a0.Kids, .eF c21, .nt false] rfl fd_80 (by kernel_rfl)
                    ·rcases ite_some h with ⟨c20, h⟩ | ⟨c20, h⟩
                     ·rcases ite_some h with ⟨c21, h⟩ | ⟨c21, h⟩
                      ·obtain rfl := Option.some.inj h
                       exact call_wQ [.eF c1, .eF c2, .nt false, .le (e_sl e_u8) a0.K, .lF c3, .eF c4, .nt false, .eF c5, .nt false, .eT c6, .nt true, .eF c4, .eF c5, .eF c7, .eF c8, .eF c9, .eF c10, .eF c11, .eF c12, .eF c13, .eF c14, .eF c15, .eF c16, .eF c2, .eF c17, .eF c18, .eF c19, .eT c20, .nt false, .le e_u8 a0.S, .lT c21] rfl fd_80 (by kernel_rfl)
                      ·rcases ite_some h with ⟨c22, h⟩ | ⟨c22, h⟩
                       ·obtain ⟨r23, hr23, h⟩ := bs h
                        obtain rfl := Option.some.inj h
                        exact call_wQ [.eF c1, .eF c2, .nt false, .le (e_sl e_u8) a0.K, .lF c3, .eF c4, .nt false, .eF c5, .nt false, .eT c6, .nt true, .eF c4, .eF c5, .eF c7, .eF c8, .eF c9, .eF c10, .eF c11, .eF c12, .eF c13, .eF c14, .eF c15, .eF c16, .eF c2, .eF c17, .eF c18, .eF c19, .eT c20, .nt false, .le e_u8 a0.S, .lF c21, .le e_GExpr a0.Kids, .eT c22, .nt true, .lFo 150 2 (by omega), .cl (H_slices_ContainsFunc_Expr_isFormed_1 a0.Kids a1 _ hr23), .nt r23] rfl fd_80 (by kernel_rfl)
                       ·obtain rfl := Option.some.inj h
                        exact call_wQ [.eF c1, .eF c2, .nt false, .le (e_sl e_u8) a0.K, .lF c3, .eF c4, .nt false, .eF c5, .nt false, .eT c6, .nt true, .eF c4, .eF c5, .eF c7, .eF c8, .eF c9, .eF c10, .eF c11, .eF c12, .eF c13, .eF c14, .eF c15, .eF c16, .eF c2, .eF c17, .eF c18, .eF c19, .eT c20, .nt false, .le e_u8 a0.S, .lF c21, .le e_GExpr a0.Kids, .eF c22, .nt false] rfl fd_80 (by kernel_rfl)
                     ·rcases ite_some h with ⟨c21, h⟩ | ⟨c21, h⟩
                      ·rcases ite_some h with ⟨c22, h⟩ | ⟨c22, h⟩
                       ·obtain rfl := Option.some.inj h
                        exact call_wQ [.eF c1, .eF c2, .nt false, .le (e_sl e_u8) a0.K, .lF c3, .eF c4, .nt false, .eF c5, .nt false, .eT c6, .nt true, .eF c4, .eF c5, .eF c7, .eF c8, .eF c9, .eF c10, .eF c11, .eF c12, .eF c13, .eF c14, .eF c15, .eF c16, .eF c2, .eF c17, .eF c18, .eF c19, .eF c20, .eT c21, .nt false, .le e_u8 a0.S, .lT c22] rfl fd_80 (by kernel_rfl)
                       ·rcases ite_some h with ⟨c23, h⟩ | ⟨c23, h⟩
                        ·obtain ⟨r24, hr24, h⟩ := bs h
                         obtain rfl := Option.some.inj h
                         exact call_wQ [.eF c1, .eF c2, .nt false, .le (e_sl e_u8) a0.K, .lF c3, .eF c4, .nt false, .eF c5, .nt false, .eT c6, .nt true, .eF c4, .eF c5, .eF c7, .eF c8, .eF c9, .eF c10, .eF c11, .eF c12, .eF c13, .eF c14, .eF c15, .eF c16, .eF c2, .eF c17, .eF c18, .eF c19, .eF c20, .eT c21, .nt false, .le e_u8 a0.S, .lF c22, .le e_GExpr a0.Kids, .eT c23, .nt true, .lFo 150 2 (by omega), .cl (H_slices_ContainsFunc_Expr_isFormed_1 a0.Kids a1 _ hr24), .nt r24] rfl fd_80 (by kernel_rfl)
                        ·obtain rfl := Option.some.inj h
                         exact call_wQ [.eF c1, .eF c2, .nt false, .le (e_sl e_u8) a0.K, .lF c3, .eF c4, .nt false, .eF c5, .nt false, .eT c6, .nt true, .eF c4, .eF c5, .eF c7, .eF c8, .eF c9, .eF c10, .eF c11, .eF c12, .eF c13, .eF c14, .eF c15, .eF c16, .eF c2, .eF c17, .eF c18, .eF c19, .eF c20, .eT c21, .nt false, .le e_u8 a0.S, .lF c22, .le e_GExpr a0.Kids, .eF c23, .nt false] rfl fd_80 (by kernel_rfl)
                      ·rcases ite_some h with ⟨c22, h⟩ | ⟨c22, h⟩
                       ·rcases ite_some h with ⟨c23, h⟩ | ⟨c23, h⟩
                        ·obtain rfl := Option.some.inj h
                         exact call_wQ [.eF c1, .eF c2, .nt false, .le (e_sl e_u8) a0.K, .lF c3, .eF c4, .nt false, .eF c5, .nt false, .eT c6, .nt true, .eF c4, .eF c5, .eF c7, .eF c8, .eF c9, .eF c10, .eF c11, .eF c12, .eF c13, .eF c14, .eF c15, .eF c16, .eF c2, .eF c17, .eF c18, .eF c19, .eF c20, .eF c21, .eT c22, .nt false, .le e_u8 a0.S, .lT c23] rfl fd_80 (by kernel_rfl)
                        ·rcases ite_some h with ⟨c24, h⟩ | ⟨c24, h⟩
                         ·obtain ⟨r25, hr25, h⟩ := bs h
                          obtain rfl := Option.some.inj h
                          exact call_wQ [.eF c1, .eF c2, .nt false, .le (e_sl e_u8) a0.K, .lF c3, .eF c4, .nt false, .eF c5, .nt false, .eT c6, .nt true, .eF c4, .eF c5, .eF c7, .eF c8, .eF c9, .eF c10, .eF c11, .eF c12, .eF c13, .eF c14, .eF c15, .eF c16, .eF c2, .eF c17, .eF c18, .eF c19, .eF c20, .eF c21, .eT c22, .nt false, .le e_u8 a0.S, .lF c23, .le e_GExpr a0.Kids, .eT c24, .nt true, .lFo 150 2 (by omega), .cl (H_slices_ContainsFunc_Expr_isFormed_1 a0.Kids a1 _ hr25), .nt r25] rfl fd_80 (by kernel_rfl)
                         ·obtain rfl := Option.some.inj h
                          exact call_wQ [.eF c1, .eF c2, .nt false, .le (e_sl e_u8) a0.K, .lF c3, .eF c4, .nt false, .eF c5, .nt false, .eT c6, .nt true, .eF c4, .eF c5, .eF c7, .eF c8, .eF c9, .eF c10, .eF c11, .eF c12, .eF c13, .eF c14, .eF c15, .eF c16, .eF c2, .eF c17, .eF c18, .eF c19, .eF c20, .eF c21, .eT c22, .nt false, .le e_u8 a0.S, .lF c23, .le e_GExpr a0.Kids, .eF c24, .nt false] rfl fd_80 (by kernel_rfl)
                       ·rcases ite_some h with ⟨c23, h⟩ | ⟨c23, h⟩
                        ·rcases ite_some h with ⟨c24, h⟩ | ⟨c24, h⟩
                         ·obtain rfl := Option.some.inj h
                          exact call_wQ [.eF c1, .eF c2, .nt false, .le (e_sl e_u8) a0.K, .lF c3, .eF c4, .nt false, .eF c5, .nt false, .eT c6, .nt true, .eF c4, .eF c5, .eF c7, .eF c8, .eF c9, .eF c10, .eF c11, .eF c12, .eF c13, .eF c14, .eF c15, .eF c16, .eF c2, .eF c17, .eF c18, .eF c19, .eF c20, .eF c21, .eF c22, .eT c23, .nt false, .le e_u8 a0.S, .lT c24] rfl fd_80 (by kernel_rfl)
                         ·rcases ite_some h with ⟨c25, h⟩ | ⟨c25, h⟩
                          ·obtain ⟨r26, hr26, h⟩ := bs h
                           obtain rfl := Option.some.inj h
                           exact call_wQ [.eF c1, .eF c2, .nt false, .le (e_sl e_u8) a0.K, .lF c3, .eF c4, .nt false, .eF c5, .nt false, .eT c6, .nt true, .eF c4, .eF c5, .eF c7, .eF c8, .eF c9, .eF c10, .eF c11, .eF c12, .eF c13, .eF c14, .eF c15, .eF c16, .eF c2, .eF c17, .eF c18, .eF c19, .eF c20, .eF c21, .eF c22, .eT c23, .nt false, .le e_u8 a0.S, .lF c24, .le e_GExpr a0.Kids, .eT c25, .nt true, .lFo 150 2 (by omega), .cl (H_slices_ContainsFunc_Expr_isFormed_1 a0.Kids a1 _ hr26), .nt r26] rfl fd_80 (by kernel_rfl)
                          ·obtain rfl := Option.some.inj h
                           exact call_wQ [.eF c1, .eF c2, .nt false, .le (e_sl e_u8) a0.K, .lF c3, .eF c4, .nt false, .eF c5, .nt false, .eT c6, .nt true, .eF c4, .eF c5, .eF c7, .eF c8, .eF c9, .eF c10, .eF c11, .eF c12, .eF c13, .eF c14, .eF c15, .eF c16, .eF c2, .eF c17, .eF c18, .eF c19, .eF c20, .eF c21, .eF c22, .eT c23, .nt false, .le e_u8 a0.S, .lF c24, .le e_GExpr a0.Kids, .eF c25, .nt false] rfl fd_80 (by kernel_rfl)
                        ·rcases ite_some h with ⟨c24, h⟩ | ⟨c24, h⟩
                         ·rcases ite_some h with ⟨c25, h⟩ | ⟨c25, h⟩
                          ·obtain rfl := Option.some.inj h
                           exact call_wQ [.eF c1, .eF c2, .nt false, .le (e_sl e_u8) a0.K, .lF c3, .eF c4, .nt false, .eF c5, .nt false, .eT c6, .nt true, .eF c4, .eF c5, .eF c7, .eF c8, .eF c9, .eF c10, .eF c11, .eF c12, .eF c13, .eF c14, .eF c15, .eF c16, .eF c2, .eF c17, .eF c18, .eF c19, .eF c20, .eF c21, .eF c22, .eF c23, .eT c24, .nt false, .le e_u8 a0.S, .lT c25] rfl fd_80 (by kernel_rfl)
                          ·rcases ite_some h with ⟨c26, h⟩ | ⟨c26, h⟩
                           ·obtain ⟨r27, hr27, h⟩ := bs h
                            obtain rfl := Option.some.inj h
                            exact call_wQ [.eF c1, .eF c2, .nt false, .le (e_sl e_u8) a0.K, .lF c3, .eF c4, .nt false, .eF c5, .nt false, .eT c6, .nt true, .eF c4, .eF c5, .eF c7, .eF c8, .eF c9, .eF c10, .eF c11, .eF c12, .eF c13, .eF c14, .eF c15, .eF c16, .eF c2, .eF c17, .eF c18, .eF c19, .eF c20, .eF c21, .eF c22, .eF c23, .eT c24, .nt false, .le e_u8 a0.S, .lF c25, .le e_GExpr a0.Kids, .eT c26, .nt true, .lFo 150 2 (by omega), .cl (H_slices_ContainsFunc_Expr_isFormed_1 a0.Kids a1 _ hr27), .nt r27] rfl fd_80 (by kernel_rfl)
                           ·obtain rfl := Option.some.inj h
                            exact call_wQ [.eF c1, .eF c2, .nt false, .le (e_sl e_u8) a0.K, .lF c3, .eF c4, .nt false, .eF c5, .nt false, .eT c6, .nt true, .eF c4, .eF c5, .eF c7, .eF c8, .eF c9, .eF c10, .eF c11, .eF c12, .eF c13, .eF c14, .eF c15, .eF c16, .eF c2, .eF c17, .eF c18, .eF c19, .eF c20, .eF c21, .eF c22, .eF c23, .eT c24, .nt false, .le e_u8 a0.S, .lF c25, .le e_GExpr a0.Kids, .eF c26, .nt false] rfl fd_80 (by kernel_rfl)
                         ·rcases ite_some h with ⟨c25, h⟩ | ⟨c25, h⟩
                          ·rcases ite_some h with ⟨c26, h⟩ | ⟨c26, h⟩
                           ·obtain rfl := Option.some.inj h
                            exact call_wQ [.eF c1, .eF c2, .nt false, .le (e_sl e_u8) a0.K, .lF c3, .eF c4, .nt false, .eF c5, .nt false, .eT c6, .nt true, .eF c4, .eF c5, .eF c7, .eF c8, .eF c9, .eF c10, .eF c11, .eF c12, .eF c13, .eF c14, .eF c15, .eF c16, .eF c2, .eF c17, .eF c18, .eF c19, .eF c20, .eF c21, .eF c22, .eF c23, .eF c24, .eT c25, .nt false, .le e_u8 a0.S, .lT c26] rfl fd_80 (by kernel_rfl)
                           ·rcases ite_some h with ⟨c27, h⟩ | ⟨c27, h⟩
                            ·obtain ⟨r28, hr28, h⟩ := bs h
                             obtain rfl := Option.some.inj h
                             exact call_wQ [.eF c1, .eF c2, .nt false, .le (e_sl e_u8) a0.K, .lF c3, .eF c4, .nt false, .eF c5, .nt false, .eT c6, .nt true, .eF c4, .eF c5, .eF c7, .eF c8, .eF c9, .eF c10, .eF c11, .eF c12, .eF c13, .eF c14, .eF c15, .eF c16, .eF c2, .eF c17, .eF c18, .eF c19, .eF c20, .eF c21, .eF c22, .eF c23, .eF c24, .eT c25, .nt false, .le e_u8 a0.S, .lF c26, .le e_GExpr a0.Kids, .eT c27, .nt true, .lFo 150 2 (by omega), .cl (H_slices_ContainsFunc_Expr_isFormed_1 a0.Kids a1 _ hr28), .nt r28] rfl fd_80 (by kernel_rfl)
                            ·obtain rfl := Option.some.inj h
                             exact call_wQ [.eF c1, .eF c2, .nt false, .le (e_sl e_u8) a0.K, .lF c3, .eF c4, .nt false, .eF c5, .nt false, .eT c6, .nt true, .eF c4, .eF c5, .eF c7, .eF c8, .eF c9, .eF c10, .eF c11, .eF c12, .eF c13, .eF c14, .eF c15, .eF c16, .eF c2, .eF c17, .eF c18, .eF c19, .eF c20, .eF c21, .eF c22, .eF c23, .eF c24, .eT c25, .nt false, .le e_u8 a0.S, .lF c26, .le e_GExpr a0.Kids, .eF c27, .nt false] rfl fd_80 (by kernel_rfl)
                          ·rcases ite_some h with ⟨c26, h⟩ | ⟨c26, h⟩
                           ·rcases ite_some h with ⟨c27, h⟩ | ⟨c27, h⟩
                            ·obtain rfl := Option.some.inj h
                             exact call_wQ [.eF c1, .eF c2, .nt false, .le (e_sl e_u8) a0.K, .lF c3, .eF c4, .nt false, .eF c5, .nt false, .eT c6, .nt true, .eF c4, .eF c5, .eF c7, .eF c8, .eF c9, .eF c10, .eF c11, .eF c12, .eF c13, .eF c14, .eF c15, .eF c16, .eF c2, .eF c17, .eF c18, .eF c19, .eF c20, .eF c21, .eF c22, .eF c23, .eF c24, .eF c25, .eT c26, .nt false, .le e_u8 a0.S, .lT c27] rfl fd_80 (by kernel_rfl)
                            ·rcases ite_some h with ⟨c28, h⟩ | ⟨c28, h⟩
                             ·obtain ⟨r29, hr29, h⟩ := bs h
                              obtain rfl := Option.some.inj h
                              exact call_wQ [.eF c1, .eF c2, .nt false, .le (e_sl e_u8) a0.K, .lF c3, .eF c4, .nt false, .eF c5, .nt false, .eT c6, .nt true, .eF c4, .eF c5, .eF c7, .eF c8, .eF c9, .eF c10, .eF c11, .eF c12, .eF c13, .eF c14, .eF c15, .eF c16, .eF c2, .eF c17, .eF c18, .eF c19, .eF c20, .eF c21, .eF c22, .eF c23, .eF c24, .eF c25, .eT c26, .nt false, .le e_u8 a0.S, .lF c27, .le e_GExpr a0.Kids, .eT c28, .nt true, .lFo 150 2 (by omega), .cl (H_slices_ContainsFunc_Expr_isFormed_1 a0.Kids a1 _ hr29), .nt r29] rfl fd_80 (by kernel_rfl)
                             ·obtain rfl := Option.some.inj h
                              exact call_wQ [.eF c1, .eF c2, .nt false, .le (e_sl e_u8) a0.K, .lF c3, .eF c4, .nt false, .eF c5, .nt false, .eT c6, .nt true, .eF c4, .eF c5, .eF c7, .eF c8, .eF c9, .eF c10, .eF c11, .eF c12, .eF c13, .eF c14, .eF c15, .eF c16, .eF c2, .eF c17, .eF c18, .eF c19, .eF c20, .eF c21, .eF c22, .eF c23, .eF c24, .eF c25, .eT c26, .nt false, .le e_u8 a0.S, .lF c27, .le e_GExpr a0.Kids, .eF c28, .nt false] rfl fd_80 (by kernel_rfl)
                           ·rcases ite_some h with ⟨c27, h⟩ | ⟨c27, h⟩
                            ·rcases ite_some h with ⟨c28, h⟩ | ⟨c28, h⟩
                             ·obtain rfl := Option.some.inj h
                              exact call_wQ [.eF c1, .eF c2, .nt false, .le (e_sl e_u8) a0.K, .lF c3, .eF c4, .nt false, .eF c5, .nt false, .eT c6, .nt true, .eF c4, .eF c5, .eF c7, .eF c8, .eF c9, .eF c10, .eF c11, .eF c12, .eF c13, .eF c14, .eF c15, .eF c16, .eF c2, .eF c17, .eF c18, .eF c19, .eF c20, .eF c21, .eF c22, .eF c23, .eF c24, .eF c25, .eF c26, .eT c27, .nt false, .le e_u8 a0.S, .lT c28] rfl fd_80 (by kernel_rfl)
                             ·rcases ite_some h with ⟨c29, h⟩ | ⟨c29, h⟩
                              ·obtain ⟨r30, hr30, h⟩ := bs h
                               obtain rfl := Option.some.inj h
                               exact call_wQ [.eF c1, .eF c2, .nt false, .le (e_sl e_u8) a0.K, .lF c3, .eF c4, .nt false, .eF c5, .nt false, .eT c6, .nt true, .eF c4, .eF c5, .eF c7, .eF c8, .eF c9, .eF c10, .eF c11, .eF c12, .eF c13, .eF c14, .eF c15, .eF c16, .eF c2, .eF c17, .eF c18, .eF c19, .eF c20, .eF c21, .eF c22, .eF c23, .eF c24, .eF c25, .eF c26, .eT c27, .nt false, .le e_u8 a0.S, .lF c28, .le e_GExpr a0.Kids, .eT c29, .nt true, .lFo 150 3 (by omega), .cl (H_slices_ContainsFunc_Expr_isFormed_1 a0.Kids a1 _ hr30), .nt r30] rfl fd_80 (by kernel_rfl)
                              ·obtain rfl := Option.some.inj h
                               exact call_wQ [.eF c1, .eF c2, .nt false, .le (e_sl e_u8) a0.K, .lF c3, .eF c4, .nt false, .eF c5, .nt false, .eT c6, .nt true, .eF c4, .eF c5, .eF c7, .eF c8, .eF c9, .eF c10, .eF c11, .eF c12, .eF c13, .eF c14, .eF c15, .eF c16, .eF c2, .eF c17, .eF c18, .eF c19, .eF c20, .eF c21, .eF c22, .eF c23, .eF c24, .eF c25, .eF c26, .eT c27, .nt false, .le e_u8 a0.S, .lF c28, .le e_GExpr a0.Kids, .eF c29, .nt false] rfl fd_80 (by kernel_rfl)
                            ·obtain rfl := Option.some.inj h
                             exact call_wQ [.eF c1, .eF c2, .nt false, .le (e_sl e_u8) a0.K, .lF c3, .eF c4, .nt false, .eF c5, .nt false, .eT c6, .nt true, .eF c4, .eF c5, .eF c7, .eF c8, .eF c9, .eF c10, .eF c11, .eF c12, .eF c13, .eF c14, .eF c15, .eF c16, .eF c2, .eF c17, .eF c18, .eF c19, .eF c20, .eF c21, .eF c22, .eF c23, .eF c24, .eF c25, .eF c26, .eF c27] rfl fd_80 (by kernel_rfl)
       ·obtain rfl := Option.some.inj h
        exact call_wQ [.eF c1, .eF c2, .nt false, .le (e_sl e_u8) a0.K, .lF c3, .eF c4, .nt false, .eF c5, .nt false, .eF c6, .nt false] rfl fd_80 (by kernel_rfl)

mutual
def U_impl_isFormed_1 : Nat → GExpr → Int → Option Bool
  | 0, _, _ => none
  | n + 1, a0, e0 => T_impl_isFormed_1 (U_impl_isFormed n) a0 e0
def U_slices_IndexFunc_Expr_isFormed_1 : Nat → (List GExpr) → Int → Option Int
  | 0, _, _ => none
  | n + 1, a0, e0 => T_slices_IndexFunc_Expr_isFormed_1 (U_impl_isFormed_1 n) n a0 e0
def U_slices_ContainsFunc_Expr_isFormed_1 : Nat → (List GExpr) → Int → Option Bool
  | 0, _, _ => none
  | n + 1, a0, e0 => T_slices_ContainsFunc_Expr_isFormed_1 (U_slices_IndexFunc_Expr_isFormed_1 n) a0 e0
def U_impl_isFormed : Nat → GExpr → Int → Option Bool
  | 0, _, _ => none
  | n + 1, a0, a1 => T_impl_isFormed (U_slices_ContainsFunc_Expr_isFormed_1 n) n a0 a1
end
theorem rec_impl_isFormed_1 (n : Nat) : (∀ (a0 : GExpr) (e0 : Int) (r : Bool), U_impl_isFormed_1 n a0 e0 = some r → (mach cfg).call 118 [.var [.int .i64 e0]] [.val true [.int .i64 a0.Kind, .int .i64 a0.N, .seq (eL e_u8 a0.S), .seq (eL (e_sl e_u8) a0.K), .seq (eL e_GExpr a0.Kids)], .val false [.ptr 0 0]] = some (.val false [.bool r], [.var [.int .i64 e0]])) ∧ (∀ (a0 : (List GExpr)) (e0 : Int) (r : Int), U_slices_IndexFunc_Expr_isFormed_1 n a0 e0 = some r → (mach cfg).call 133 [.var [.int .i64 e0]] [.val false [.seq (eL e_GExpr a0)], .val false [.fn 118 [.ptr 0 0]]] = some (.val false [.int .i64 r], [.var [.int .i64 e0]])) ∧ (∀ (a0 : (List GExpr)) (e0 : Int) (r : Bool), U_slices_ContainsFunc_Expr_isFormed_1 n a0 e0 = some r → (mach cfg).call 117 [.var [.int .i64 e0]] [.val false [.seq (eL e_GExpr a0)], .val false [.fn 118 [.ptr 0 0]]] = some (.val false [.bool r], [.var [.int .i64 e0]])) ∧ (∀ (a0 : GExpr) (a1 : Int) (r : Bool), U_impl_isFormed n a0 a1 = some r → (mach cfg).call 80 [] [.val true [.int .i64 a0.Kind, .int .i64 a0.N, .seq (eL e_u8 a0.S), .seq (eL (e_sl e_u8) a0.K), .seq (eL e_GExpr a0.Kids)], .val false [.int .i64 a1]] = some (.val false [.bool r], [])) := by
  induction n with
  | zero => exact ⟨fun _ _ _ h => (by rw [U_impl_isFormed_1] at h; cases h), fun _ _ _ h => (by rw [U_slices_IndexFunc_Expr_isFormed_1] at h; cases h), fun _ _ _ h => (by rw [U_slices_ContainsFunc_Expr_isFormed_1] at h; cases h), fun _ _ _ h => (by rw [U_impl_isFormed] at h; cases h)⟩
  | succ n ih =>
    obtain ⟨ih_impl_isFormed_1, ih_slices_IndexFunc_Expr_isFormed_1, ih_slices_ContainsFunc_Expr_isFormed_1, ih_impl_isFormed⟩ := ih
    exact ⟨fun a0 e0 r h => g_impl_isFormed_1 (U_impl_isFormed n) ih_impl_isFormed a0 e0 r (by rw [U_impl_isFormed_1] at h; exact h),
      fun a0 e0 r h => g_slices_IndexFunc_Expr_isFormed_1 (U_impl_isFormed_1 n) ih_impl_isFormed_1 n a0 e0 r (by rw [U_slices_IndexFunc_Expr_isFormed_1] at h; exact h),
      fun a0 e0 r h => g_slices_ContainsFunc_Expr_isFormed_1 (U_slices_IndexFunc_Expr_isFormed_1 n) ih_slices_IndexFunc_Expr_isFormed_1 a0 e0 r (by rw [U_slices_ContainsFunc_Expr_isFormed_1] at h; exact h),
      fun a0 a1 r h => g_impl_isFormed (U_slices_ContainsFunc_Expr_isFormed_1 n) ih_slices_ContainsFunc_Expr_isFormed_1 n a0 a1 r (by rw [U_impl_isFormed] at h; exact h)⟩
theorem cmpS_eq (a b : List UInt8) : S_bytes_Compare a b = some (Lib.compareBytes a b) := rfl
theorem isName_eq {a : List UInt8} (h : a.length ≤ 2 ^ 20) : S_impl_isName a = some (nameB a) := if_pos h
theorem isText_eq {a : List UInt8} (h : a.length ≤ 2 ^ 20) : S_impl_isText a = some (textB a) := if_pos h
theorem slices_ContainsFunc_Expr_isFormed_1_T {G : GExpr → Int → Option Bool} {a : List GExpr} {f : Nat} {e : Int} {p : GExpr → Bool} (ha : a.length ≤ 2 ^ 20) (hf : a.length < f) (hG : ∀ x ∈ a, G x e = some (!p x)) : ∃ r : Int, T_slices_IndexFunc_Expr_isFormed_1 G f a e = some r ∧ decide (0 ≤ r) = !(a.all p) := by
  have loop : ∀ (d i m : Nat), i + d = a.length → d < m → ∃ (q : Nat) (z : Int), L_slices_IndexFunc_Expr_isFormed_1_l0 G a ((a.length : Nat) : Int) e m (i : Int) = some (if (a.drop i).all p = true then .inr z else .inl (q : Int)) := by
    intro d
    induction d with
    | zero =>
      intro i m hi hm
      obtain ⟨m, rfl, _⟩ := fuel hm
      exact ⟨0, _, by rw [L_slices_IndexFunc_Expr_isFormed_1_l0, if_neg (by omega), List.drop_eq_nil_of_le (by omega)]; rfl⟩
    | succ d ih =>
      intro i m hi hm
      obtain ⟨m, rfl, hm'⟩ := fuel hm
      have hil : i < a.length := by omega
      rw [L_slices_IndexFunc_Expr_isFormed_1_l0, if_pos (by omega), natO_nat, Option.bind_some, get_some hil, Option.bind_some, hG _ (List.getElem_mem hil), Option.bind_some, w64_succ (by omega), drop_cons hil, List.all_cons]
      cases hp : p a[i] with
      | false => exact ⟨i, 0, rfl⟩
      | true =>
        obtain ⟨q, z, hz⟩ := ih (i + 1) m (by omega) (by omega)
        exact ⟨q, z, by rw [Bool.true_and]; exact hz⟩
  obtain ⟨q, z, hz⟩ := loop a.length 0 f (by omega) (by omega)
  rw [show ((0 : Nat) : Int) = 0 from rfl, List.drop_zero] at hz
  unfold T_slices_IndexFunc_Expr_isFormed_1
  rw [hz, Option.bind_some]
  cases hp : a.all p with
  | true => exact ⟨-1, rfl, rfl⟩
  | false => exact ⟨(q : Int), rfl, by simp⟩
theorem isFormed_keys {G : List GExpr → Int → Option Bool} {v : GExpr} {v1 : Bool} {a1 : Int} (hs : xsz v ≤ 2 ^ 20) : ∀ (d i m : Nat), i + d = v.K.length → d < m → ∃ z, L_impl_isFormed_l0 G ((v.K.length : Nat) : Int) v1 v.K v a1 m (i : Int) = some (if kAll v.K i d = true then .inr z else .inl false) := by
  have he := xsz_eq v
  have hl := bsz_len v.K
  intro d
  induction d with
  | zero =>
    intro i m hi hm
    obtain ⟨m, rfl, _⟩ := fuel hm
    exact ⟨_, by rw [L_impl_isFormed_l0, if_neg (by omega)]; rfl⟩
  | succ d ih =>
    intro i m hi hm
    obtain ⟨m, rfl, hm'⟩ := fuel hm
    have hil : i < v.K.length := by omega
    have hx := bsz_mem (List.getElem_mem hil)
    rw [L_impl_isFormed_l0, if_pos (by omega), natO_nat, Option.bind_some, get_some hil, Option.bind_some, isName_eq (by omega), Option.bind_some, w64_succ (by omega), kAll_succ]
    obtain ⟨z, hz⟩ := ih (i + 1) m (by omega) (by omega)
    cases hnm : nameB v.K[i] with
    | false =>
      refine ⟨0, ?_⟩
      have : kOk v.K i = false := by
        by_cases h0 : i = 0
        · subst h0; rw [kOk_zero hil, hnm]
        · rw [kOk_eq hil (by omega), hnm]; rfl
      rw [this]; rfl
    | true =>
      dsimp only
      by_cases h0 : 0 < i
      · rw [if_pos (by omega), w64_pred (by omega) h0, natO_nat, Option.bind_some, get_some (show i - 1 < v.K.length by omega), Option.bind_some, cmpS_eq, Option.bind_some]
        by_cases hb : Op.bytesLess (v.K[i - 1]'(by omega)) v.K[i] = true
        · rw [if_neg (by rw [less_cmp]; exact fun h => h hb), kOk_eq hil h0, hnm, hb]
          exact ⟨z, hz⟩
        · rw [if_pos (by rw [less_cmp]; exact hb), kOk_eq hil h0, hnm, show Op.bytesLess (v.K[i - 1]'(by omega)) v.K[i] = false by simpa using hb]
          exact ⟨0, rfl⟩
      · have : i = 0 := by omega
        subst this
        rw [if_neg (by omega), kOk_zero hil, hnm]
        exact ⟨z, hz⟩
theorem isWord_eq {a : List UInt8} (h : a.length ≤ 2 ^ 20) : S_impl_isWord a = some (nameB a && !keptB a) := by
  unfold S_impl_isWord
  rw [isName_eq h, Option.bind_some]
  cases nameB a with
  | false => rfl
  | true =>
    dsimp only
    rw [show S_impl_keptWords = some keptL from rfl, Option.bind_some]
    unfold S_slices_Contains_string S_slices_Index_string
    rw [if_pos (by decide), Option.bind_some, Option.bind_some, ixF_any]
    rfl
theorem isFormed_dec {G : List GExpr → Int → Option Bool} {v : GExpr} {n : Nat} {a1 : Int} {X : Option Bool} (hs : v.S.length ≤ 2 ^ 20) (h1 : ¬ a1 = 0) (h5 : ¬ v.Kind = 5)
    (hX : ((G v.Kids a1).bind fun r => some (!r)) = X) : Dec X (some false) (LocX v ∧ v.Kids.length ≤ 150) (T_impl_isFormed G n v a1) := by
  have hw := bi_and (nameB v.S) (keptB v.S)
  unfold T_impl_isFormed LocX
  rw [if_neg h1, if_neg h5]
  have q1 : (0 : Int) ≤ ((v.S.length : Nat) : Int) := by omega
  have q2 : (0 : Int) ≤ ((v.K.length : Nat) : Int) := by omega
  have q3 : (0 : Int) ≤ ((v.Kids.length : Nat) : Int) := by omega
  rw [show (v.Kids.length ≤ 150) = (((v.Kids.length : Nat) : Int) ≤ 150) from propext (by omega)]
  generalize v.Kind = k at h5
  generalize ((v.S.length : Nat) : Int) = s at q1
  generalize ((v.K.length : Nat) : Int) = kk at q2
  generalize ((v.Kids.length : Nat) : Int) = kl at q3
  repeat' first
    | refine Dec.ite (fun _ => ?_) (fun _ => ?_)
    | refine Dec.bndD (in_eq _ _ _) (fun _ => ?_) (fun _ => ?_)
    | refine Dec.bndB (isText_eq hs) (fun _ => ?_) (fun _ => ?_)
    | refine Dec.bndB (isName_eq hs) (fun _ => ?_) (fun _ => ?_)
    | refine Dec.bndB (isWord_eq hs) (fun _ => ?_) (fun _ => ?_)
  all_goals first
    | (refine .inl ⟨hX, ?_⟩; (try subst_vars); first | (simp [LocA, arI]; done) | (simp [LocA, arI]; omega))
    | (refine .inr ⟨rfl, ?_⟩; rintro ⟨h, hk⟩; (try subst_vars); first
      | (have g := h.1; clear h hw; omega)
      | (have g := h.2.2.2.1; clear h hw; omega)
      | (have g := h.2.2.2.2.2.2.1; clear h hw; omega)
      | (simp [LocA, arI] at h; done)
      | (simp [LocA, arI] at h; omega))
theorem isFormed_T {G : List GExpr → Int → Option Bool} {v : GExpr} {f d : Nat} (hs : xsz v ≤ 2 ^ 20) (hf : v.K.length < f) (hd : 0 < d) (hG : G v.Kids (d : Int) = some (!(v.Kids.all (frX (d - 1))))) : T_impl_isFormed G f v (d : Int) = some (frX d v) := by
  obtain ⟨e, rfl⟩ : ∃ e, d = e + 1 := ⟨d - 1, by omega⟩
  have he := xsz_eq v
  have hl := xszs_len v.Kids
  have hb := bsz_len v.K
  rw [show e + 1 - 1 = e by omega] at hG
  rw [frX_succ]
  have no : locX v = false → some false = some (locX v && v.Kids.all (frX e)) := fun h => by rw [h]; rfl
  have yes : locX v = true → ((G v.Kids ((e + 1 : Nat) : Int)).bind fun r => some (!r)) = some (locX v && v.Kids.all (frX e)) := fun h => by rw [hG, Option.bind_some, h, Bool.not_not, Bool.true_and]
  by_cases h5 : v.Kind = 5
  · have har := arI_all v.Kind
    have hbad : ∀ {p : Prop}, p → (p → ¬ (LocX v ∧ v.Kids.length ≤ 150 ∧ (v.Kind = 5 → kAll v.K 0 v.K.length = true))) → locX v = false := fun hp h => by
      cases hx : locX v with
      | false => rfl
      | true => exact (h hp (locX_inv hx)).elim
    unfold T_impl_isFormed
    rw [if_neg (by omega), if_pos h5]
    by_cases a2 : v.N = 0
    · rw [if_pos a2]
      obtain ⟨z, hz⟩ := isFormed_keys (G := G) (v1 := false) (a1 := ((e + 1 : Nat) : Int)) hs v.K.length 0 f (by omega) (by omega)
      rw [show ((0 : Nat) : Int) = 0 from rfl] at hz
      rw [hz, Option.bind_some]
      cases hk : kAll v.K 0 v.K.length with
      | false => exact no (hbad hk fun h h' => by have := h'.2.2 h5; rw [h] at this; cases this)
      | true =>
        rw [if_pos rfl]
        dsimp only
        by_cases a3 : 0 < ((v.S.length : Nat) : Int)
        · rw [if_pos a3]; exact no (hbad a3 fun h h' => by have := h'.1; unfold LocX LocA at this; omega)
        · rw [if_neg a3]
          by_cases a4 : ((v.Kids.length : Nat) : Int) = ((v.K.length : Nat) : Int)
          · rw [if_pos a4]
            by_cases a5 : 150 < ((v.K.length : Nat) : Int)
            · rw [if_pos a5]; exact no (hbad a5 fun h h' => by have := h'.2.1; omega)
            · rw [if_neg a5]
              refine yes (locX_true ?_ (by omega) fun _ => hk)
              unfold LocX LocA; omega
          · rw [if_neg a4]; exact no (hbad a4 fun h h' => by have := h'.1; unfold LocX LocA at this; omega)
    · rw [if_neg a2]; exact no (hbad a2 fun h h' => by have := h'.1; unfold LocX LocA at this; omega)
  · rcases isFormed_dec (G := G) (n := f) (v := v) (a1 := ((e + 1 : Nat) : Int)) (by omega) (by omega) h5 rfl with ⟨h, hL⟩ | ⟨h, hL⟩
    · rw [h]; exact yes (locX_true hL.1 hL.2 fun k => (h5 k).elim)
    · rw [h]
      refine no ?_
      cases hx : locX v with
      | false => rfl
      | true => have := locX_inv hx; exact (hL ⟨this.1, this.2.1⟩).elim
theorem isFormed_U : ∀ (N : Nat) (v : GExpr), xsz v < N → xsz v ≤ 2 ^ 20 → ∀ (f d : Nat), 4 * xsz v + 6 ≤ f → d ≤ 2 ^ 20 → U_impl_isFormed f v (d : Int) = some (frX d v) := by
  intro N
  induction N with
  | zero => intro v hv; omega
  | succ N ih =>
    intro v hv hs f d hf hd
    have he := xsz_eq v
    have hl := xszs_len v.Kids
    have hb := bsz_len v.K
    obtain ⟨f, rfl, _⟩ := fuel (show 0 < f by omega)
    rw [U_impl_isFormed]
    by_cases h0 : d = 0
    · subst h0; unfold T_impl_isFormed; rw [if_pos (show ((0 : Nat) : Int) = 0 from rfl)]; rfl
    refine isFormed_T hs (by omega) (by omega) ?_
    obtain ⟨f, rfl, _⟩ := fuel (show 0 < f by omega)
    obtain ⟨f, rfl, _⟩ := fuel (show 0 < f by omega)
    obtain ⟨f, rfl, _⟩ := fuel (show 0 < f by omega)
    rw [U_slices_ContainsFunc_Expr_isFormed_1]
    unfold T_slices_ContainsFunc_Expr_isFormed_1
    rw [U_slices_IndexFunc_Expr_isFormed_1]
    obtain ⟨r, hr, hr2⟩ := slices_ContainsFunc_Expr_isFormed_1_T (G := U_impl_isFormed_1 (f + 1)) (a := v.Kids) (f := f + 1) (e := (d : Int)) (p := frX (d - 1)) (by omega) (by omega) fun x hx => by
      have := xszs_mem hx
      rw [U_impl_isFormed_1]
      unfold T_impl_isFormed_1
      rw [w64_pred (by omega) (by omega), ih x (by omega) (by omega) f (d - 1) (by omega) (by omega)]
      rfl
    rw [hr, Option.bind_some, hr2]
def S_impl_isFormed_1 (a0 : GExpr) (e0 : Int) : Option Bool := none
theorem spec_impl_isFormed_1 (a0 : GExpr) (e0 : Int) (r : Bool) (h : S_impl_isFormed_1 a0 e0 = some r) : ∃ n, U_impl_isFormed_1 n a0 e0 = some r := by cases h
def S_slices_IndexFunc_Expr_isFormed_1 (a0 : (List GExpr)) (e0 : Int) : Option Int := none
theorem spec_slices_IndexFunc_Expr_isFormed_1 (a0 : (List GExpr)) (e0 : Int) (r : Int) (h : S_slices_IndexFunc_Expr_isFormed_1 a0 e0 = some r) : ∃ n, U_slices_IndexFunc_Expr_isFormed_1 n a0 e0 = some r := by cases h
def S_slices_ContainsFunc_Expr_isFormed_1 (a0 : (List GExpr)) (e0 : Int) : Option Bool := none
theorem spec_slices_ContainsFunc_Expr_isFormed_1 (a0 : (List GExpr)) (e0 : Int) (r : Bool) (h : S_slices_ContainsFunc_Expr_isFormed_1 a0 e0 = some r) : ∃ n, U_slices_ContainsFunc_Expr_isFormed_1 n a0 e0 = some r := by cases h
noncomputable def S_impl_isFormed (a0 : GExpr) (a1 : Int) : Option Bool := if xsz a0 ≤ 2 ^ 20 ∧ 0 ≤ a1 ∧ a1 ≤ 2 ^ 20 then some (frX a1.toNat a0) else none
theorem spec_impl_isFormed (a0 : GExpr) (a1 : Int) (r : Bool) (h : S_impl_isFormed a0 a1 = some r) : ∃ n, U_impl_isFormed n a0 a1 = some r := by
  unfold S_impl_isFormed at h
  obtain ⟨⟨hs, h0, h1⟩, h⟩ := need_c h
  refine ⟨4 * xsz a0 + 6, ?_⟩
  have := isFormed_U _ a0 (Nat.lt_succ_self _) hs _ a1.toNat (Nat.le_refl _) (by omega)
  rw [show ((a1.toNat : Nat) : Int) = a1 by omega] at this
  rw [this]; exact h
theorem ok_impl_isFormed_1 (a0 : GExpr) (e0 : Int) (r : Bool) (h : S_impl_isFormed_1 a0 e0 = some r) : (mach cfg).call 118 [.var [.int .i64 e0]] [.val true [.int .i64 a0.Kind, .int .i64 a0.N, .seq (eL e_u8 a0.S), .seq (eL (e_sl e_u8) a0.K), .seq (eL e_GExpr a0.Kids)], .val false [.ptr 0 0]] = some (.val false [.bool r], [.var [.int .i64 e0]]) := by
  obtain ⟨n, hn⟩ := spec_impl_isFormed_1 a0 e0 r h
  exact (rec_impl_isFormed_1 n).1 a0 e0 r hn
theorem ok_slices_IndexFunc_Expr_isFormed_1 (a0 : (List GExpr)) (e0 : Int) (r : Int) (h : S_slices_IndexFunc_Expr_isFormed_1 a0 e0 = some r) : (mach cfg).call 133 [.var [.int .i64 e0]] [.val false [.seq (eL e_GExpr a0)], .val false [.fn 118 [.ptr 0 0]]] = some (.val false [.int .i64 r], [.var [.int .i64 e0]]) := by
  obtain ⟨n, hn⟩ := spec_slices_IndexFunc_Expr_isFormed_1 a0 e0 r h
  exact (rec_impl_isFormed_1 n).2.1 a0 e0 r hn
theorem ok_slices_ContainsFunc_Expr_isFormed_1 (a0 : (List GExpr)) (e0 : Int) (r : Bool) (h : S_slices_ContainsFunc_Expr_isFormed_1 a0 e0 = some r) : (mach cfg).call 117 [.var [.int .i64 e0]] [.val false [.seq (eL e_GExpr a0)], .val false [.fn 118 [.ptr 0 0]]] = some (.val false [.bool r], [.var [.int .i64 e0]]) := by
  obtain ⟨n, hn⟩ := spec_slices_ContainsFunc_Expr_isFormed_1 a0 e0 r h
  exact (rec_impl_isFormed_1 n).2.2.1 a0 e0 r hn
theorem ok_impl_isFormed (a0 : GExpr) (a1 : Int) (r : Bool) (h : S_impl_isFormed a0 a1 = some r) : (mach cfg).call 80 [] [.val true [.int .i64 a0.Kind, .int .i64 a0.N, .seq (eL e_u8 a0.S), .seq (eL (e_sl e_u8) a0.K), .seq (eL e_GExpr a0.Kids)], .val false [.int .i64 a1]] = some (.val false [.bool r], []) := by
  obtain ⟨n, hn⟩ := spec_impl_isFormed a0 a1 r h
  exact (rec_impl_isFormed_1 n).2.2.2 a0 a1 r hn
def L_impl_Expr_parts_l0 (G_impl_Expr_parts : GExpr → Option Int) (v1 : (List GExpr)) (v2 : Int) : Nat → Int → Int → Option (Int × Int)
  | 0, _, _ => none
  | m + 1, v0, v3 =>
    if v3 < v2 then
      (natO v3).bind fun i2 =>
      (v1[i2]?).bind fun x3 =>
      (G_impl_Expr_parts x3).bind fun r4 =>
      L_impl_Expr_parts_l0 G_impl_Expr_parts v1 v2 m (w64 (v0 + r4)) (w64 (v3 + 1))
    else
      some (v0, v3)

theorem gl_impl_Expr_parts_l0 (G_impl_Expr_parts : GExpr → Option Int) (H_impl_Expr_parts : ∀ (a0 : GExpr) (r : Int), G_impl_Expr_parts a0 = some r → (mach cfg).call 81 [] [.val true [.int .i64 a0.Kind, .int .i64 a0.N, .seq (eL e_u8 a0.S), .seq (eL (e_sl e_u8) a0.K), .seq (eL e_GExpr a0.Kids)]] = some (.val false [.int .i64 r], [])) (v1 : (List GExpr)) (v2 : Int) (m : Nat) : ∀ (v0 : Int) (v3 : Int) (o : (Int × Int)), L_impl_Expr_parts_l0 G_impl_Expr_parts v1 v2 m v0 v3 = some o → (mach cfg).loop 81 (loopB Try.f81 0) ⟨[(3, .val false [.int .i64 v0]), (7, .val false [.seq (eL e_GExpr v1)]), (8, .val false [.int .i64 v2]), (9, .val false [.int .i64 v3])], [], 0⟩ = some (match o with | ⟨o_0, o_1⟩ => (.exit 0, (⟨[(3, .val false [.int .i64 o_0]), (7, .val false [.seq (eL e_GExpr v1)]), (8, .val false [.int .i64 v2]), (9, .val false [.int .i64 o_1]), (10, .val false [.bool false])], [], 0⟩ : S))) := by
  induction m with
  | zero => intro v0 v3 o h; cases h
  | succ m ih =>
    intro v0 v3 o h
    rw [L_impl_Expr_parts_l0] at h
    rcases ite_some h with ⟨c1, h⟩ | ⟨c1, h⟩
    ·obtain ⟨i2, hi2, h⟩ := bs h
     obtain ⟨x3, hx3, h⟩ := bs h
     obtain ⟨r4, hr4, h⟩ := bs h
     exact loop_nQ [.lT c1, .na hi2, .ix hx3 (eq_GExpr x3), .cl (H_impl_Expr_parts x3 _ hr4), .ad v0 r4, .ad v3 1] (by kernel_rfl) (ih (w64 (v0 + r4)) (w64 (v3 + 1)) o h)
    ·obtain rfl := Option.some.inj h
     exact loop_eQ [.lF c1] (by kernel_rfl) (by intro h; cases h)

def T_impl_Expr_parts (G_impl_Expr_parts : GExpr → Option Int) (n : Nat) (a0 : GExpr) : Option Int :=
  (L_impl_Expr_parts_l0 G_impl_Expr_parts a0.Kids ((a0.Kids.length : Nat) : Int) n 1 0).bind fun ⟨o1_0, o1_1⟩ =>
  some o1_0

set_option maxRecDepth 100000 in
theorem fd_81 : cfg.funcs 81 = some (bodyOf Try.f81, Try.f81.ntmps, Try.f81.results.toList) := fn_of Try.func81 (by kernel_rfl) (by kernel_rfl)
theorem g_impl_Expr_parts (G_impl_Expr_parts : GExpr → Option Int) (H_impl_Expr_parts : ∀ (a0 : GExpr) (r : Int), G_impl_Expr_parts a0 = some r → (mach cfg).call 81 [] [.val true [.int .i64 a0.Kind, .int .i64 a0.N, .seq (eL e_u8 a0.S), .seq (eL (e_sl e_u8) a0.K), .seq (eL e_GExpr a0.Kids)]] = some (.val false [.int .i64 r], [])) (n : Nat) (a0 : GExpr) (r : Int) (h : T_impl_Expr_parts G_impl_Expr_parts n a0 = some r) : (mach cfg).call 81 [] [.val true [.int .i64 a0.Kind, .int .i64 a0.N, .seq (eL e_u8 a0.S), .seq (eL (e_sl e_u8) a0.K), .seq (eL e_GExpr a0.Kids)]] = some (.val false [.int .i64 r], []) := by
  unfold T_impl_Expr_parts at h
  obtain ⟨⟨o1_0, o1_1⟩, ho1, h⟩ := bs h
  try dsimp only at h
  obtain rfl := Option.some.inj h
  exact call_wQ [.le e_GExpr a0.Kids, .lp (gl_impl_Expr_parts_l0 G_impl_Expr_parts H_impl_Expr_parts a0.Kids ((a0.Kids.length : Nat) : Int) _ 1 0 _ ho1)] rfl fd_81 (by kernel_rfl)

def U_impl_Expr_parts : Nat → GExpr → Option Int
  | 0, _ => none
  | n + 1, a0 => T_impl_Expr_parts (U_impl_Expr_parts n) n a0
theorem rec_impl_Expr_parts (n : Nat) : (∀ (a0 : GExpr) (r : Int), U_impl_Expr_parts n a0 = some r → (mach cfg).call 81 [] [.val true [.int .i64 a0.Kind, .int .i64 a0.N, .seq (eL e_u8 a0.S), .seq (eL (e_sl e_u8) a0.K), .seq (eL e_GExpr a0.Kids)]] = some (.val false [.int .i64 r], [])) := by
  induction n with
  | zero => exact fun _ _ h => (by rw [U_impl_Expr_parts] at h; cases h)
  | succ n ih =>
    have ih_impl_Expr_parts := ih
    exact fun a0 r h => g_impl_Expr_parts (U_impl_Expr_parts n) ih_impl_Expr_parts n a0 r (by rw [U_impl_Expr_parts] at h; exact h)
theorem impl_Expr_parts_T {G : GExpr → Option Int} {v : GExpr} {f : Nat} (hs : xsz v ≤ 2 ^ 20) (hf : v.Kids.length < f) (hG : ∀ x ∈ v.Kids, G x = some (((ptX x) : Nat) : Int)) : T_impl_Expr_parts G f v = some (((ptX v) : Nat) : Int) := by
  have he := xsz_eq v
  have hl := xszs_len v.Kids
  have loop : ∀ (d i m : Nat) (r : Int), i + d = v.Kids.length → d < m → 0 ≤ r → r ≤ 2 ^ 21 - ptXs (v.Kids.drop i) → ∃ z, L_impl_Expr_parts_l0 G v.Kids ((v.Kids.length : Nat) : Int) m r (i : Int) = some (r + ptXs (v.Kids.drop i), z) := by
    intro d
    induction d with
    | zero =>
      intro i m r hi hm h0 h1
      obtain ⟨m, rfl, _⟩ := fuel hm
      exact ⟨_, by rw [L_impl_Expr_parts_l0, if_neg (by omega), List.drop_eq_nil_of_le (by omega)]; simp [ptXs]; rfl⟩
    | succ d ih =>
      intro i m r hi hm h0 h1
      obtain ⟨m, rfl, hm'⟩ := fuel hm
      have hil : i < v.Kids.length := by omega
      have hp : ptXs (v.Kids.drop i) = ptX v.Kids[i] + ptXs (v.Kids.drop (i + 1)) := by rw [drop_cons hil]; simp only [ptXs]
      rw [hp] at h1 ⊢
      rw [L_impl_Expr_parts_l0, if_pos (by omega), natO_nat, Option.bind_some, get_some hil, Option.bind_some, hG _ (List.getElem_mem hil), Option.bind_some, w64_succ (by omega), w64_id (by omega) (by omega)]
      obtain ⟨z, hz⟩ := ih (i + 1) m (r + ptX v.Kids[i]) (by omega) (by omega) (by omega) (by omega)
      exact ⟨z, by rw [hz]; congr 2; omega⟩
  have hle := ptXs_le v.Kids
  obtain ⟨z, hz⟩ := loop v.Kids.length 0 f 1 (by omega) (by omega) (by omega) (by rw [List.drop_zero]; omega)
  rw [show ((0 : Nat) : Int) = 0 from rfl, List.drop_zero] at hz
  unfold T_impl_Expr_parts
  rw [hz, ptX_eq]
  simp only [Option.bind_some]
  congr 1
theorem impl_Expr_parts_U : ∀ (N : Nat) (v : GExpr), xsz v < N → xsz v ≤ 2 ^ 20 → ∀ f : Nat, xsz v + 2 ≤ f → U_impl_Expr_parts f v = some (((ptX v) : Nat) : Int) := by
  intro N
  induction N with
  | zero => intro v hv; omega
  | succ N ih =>
    intro v hv hs f hf
    obtain ⟨f, rfl, _⟩ := fuel (show 0 < f by omega)
    have he := xsz_eq v
    have hl := xszs_len v.Kids
    rw [U_impl_Expr_parts]
    refine impl_Expr_parts_T hs (by omega) fun x hx => ?_
    have := xszs_mem hx
    exact ih x (by omega) (by omega) f (by omega)
def S_impl_Expr_parts (a0 : GExpr) : Option Int := if xsz a0 ≤ 2 ^ 20 then some (((ptX a0) : Nat) : Int) else none
theorem spec_impl_Expr_parts (a0 : GExpr) (r : Int) (h : S_impl_Expr_parts a0 = some r) : ∃ n, U_impl_Expr_parts n a0 = some r := by
  unfold S_impl_Expr_parts at h
  obtain ⟨ha, h⟩ := need_c h
  exact ⟨xsz a0 + 2, by rw [← h]; exact impl_Expr_parts_U _ a0 (Nat.lt_succ_self _) ha _ (Nat.le_refl _)⟩
theorem ok_impl_Expr_parts (a0 : GExpr) (r : Int) (h : S_impl_Expr_parts a0 = some r) : (mach cfg).call 81 [] [.val true [.int .i64 a0.Kind, .int .i64 a0.N, .seq (eL e_u8 a0.S), .seq (eL (e_sl e_u8) a0.K), .seq (eL e_GExpr a0.Kids)]] = some (.val false [.int .i64 r], []) := by
  obtain ⟨n, hn⟩ := spec_impl_Expr_parts a0 r h
  exact (rec_impl_Expr_parts n) a0 r hn
def S_impl_isExpr (a0 : GExpr) : Option Bool :=
  (S_impl_isFormed a0 10).bind fun r1 =>
  match r1 with
  | true =>
    (S_impl_Expr_parts a0).bind fun r3 =>
    some (decide (r3 ≤ 150))
  | false =>
    some false

set_option maxRecDepth 100000 in
theorem fd_57 : cfg.funcs 57 = some (bodyOf Try.f57, Try.f57.ntmps, Try.f57.results.toList) := fn_of Try.func57 (by kernel_rfl) (by kernel_rfl)
theorem ok_impl_isExpr (a0 : GExpr) (r : Bool) (h : S_impl_isExpr a0 = some r) : (mach cfg).call 57 [] [.val true [.int .i64 a0.Kind, .int .i64 a0.N, .seq (eL e_u8 a0.S), .seq (eL (e_sl e_u8) a0.K), .seq (eL e_GExpr a0.Kids)]] = some (.val false [.bool r], []) := by
  unfold S_impl_isExpr at h
  obtain ⟨r1, hr1, h⟩ := bs h
  cases r1 with
  | true =>
   try dsimp only at h
   obtain ⟨r3, hr3, h⟩ := bs h
   obtain rfl := Option.some.inj h
   exact call_wQ [.cl (ok_impl_isFormed a0 10 _ hr1), .cl (ok_impl_Expr_parts a0 _ hr3), .gD r3 150] rfl fd_57 (by kernel_rfl)
  | false =>
   try dsimp only at h
   obtain rfl := Option.some.inj h
   exact call_wQ [.cl (ok_impl_isFormed a0 10 _ hr1)] rfl fd_57 (by kernel_rfl)

def S_impl_copyBytes (a0 : (List UInt8)) : Option (List UInt8) :=
  if roomP 1 (0 + a0.length) then
  some a0
  else none

set_option maxRecDepth 100000 in
theorem fd_77 : cfg.funcs 77 = some (bodyOf Try.f77, Try.f77.ntmps, Try.f77.results.toList) := fn_of Try.func77 (by kernel_rfl) (by kernel_rfl)
theorem ok_impl_copyBytes (a0 : (List UInt8)) (r : (List UInt8)) (h : S_impl_copyBytes a0 = some r) : (mach cfg).call 77 [] [.val false [.seq (eL e_u8 a0)]] = some (.val false [.own 1 (eL e_u8 r)], []) := by
  unfold S_impl_copyBytes at h
  obtain ⟨n1, h⟩ := need_some h
  obtain rfl := Option.some.inj h
  exact call_wQ [⟨.room 1 (eL e_u8 []) (eL e_u8 a0), .b true, (A.room n1)⟩, ⟨.uni 1 (eL e_u8 a0), .b true, (A.uni E_u8)⟩, ⟨.app (eL e_u8 []) (eL e_u8 a0), .l (eL e_u8 a0), A.app0⟩] rfl fd_77 (by kernel_rfl)

def L_impl_copyTexts_l0 (a0 : (List (List UInt8))) (v1 : Int) : Nat → Int → (List (List UInt8)) → Option (Int × (List (List UInt8)))
  | 0, _, _ => none
  | m + 1, v2, v3 =>
    if v2 < v1 then
      (natO v2).bind fun i2 =>
      (a0[i2]?).bind fun x3 =>
      (S_impl_copyBytes x3).bind fun r4 =>
      if roomP 24 (v3.length + [r4].length) then
      L_impl_copyTexts_l0 a0 v1 m (w64 (v2 + 1)) (v3 ++ [r4])
      else none
    else
      some (v2, v3)

theorem gl_impl_copyTexts_l0 (a0 : (List (List UInt8))) (v1 : Int) (m : Nat) : ∀ (v2 : Int) (v3 : (List (List UInt8))) (o : (Int × (List (List UInt8)))), L_impl_copyTexts_l0 a0 v1 m v2 v3 = some o → (mach cfg).loop 78 (loopB Try.f78 0) ⟨[(3, .val false [.ref 0]), (7, .val false [.seq (eL (e_sl e_u8) a0)]), (8, .val false [.int .i64 v1]), (9, .val false [.int .i64 v2])], [.obj 1 (eL (o_sl 1 e_u8) v3)], 0⟩ = some (match o with | ⟨o_0, o_1⟩ => (.exit 0, (⟨[(3, .val false [.ref 0]), (7, .val false [.seq (eL (e_sl e_u8) a0)]), (8, .val false [.int .i64 v1]), (9, .val false [.int .i64 o_0]), (10, .val false [.bool false])], [.obj 1 (eL (o_sl 1 e_u8) o_1)], 0⟩ : S))) := by
  induction m with
  | zero => intro v2 v3 o h; cases h
  | succ m ih =>
    intro v2 v3 o h
    rw [L_impl_copyTexts_l0] at h
    rcases ite_some h with ⟨c1, h⟩ | ⟨c1, h⟩
    ·obtain ⟨i2, hi2, h⟩ := bs h
     obtain ⟨x3, hx3, h⟩ := bs h
     obtain ⟨r4, hr4, h⟩ := bs h
     obtain ⟨n5, h⟩ := need_some h
     exact loop_nQ [.lT c1, .na hi2, .ix0 (e_sl e_u8) hx3, .cl (ok_impl_copyBytes x3 _ hr4), ⟨.room 24 (eL (o_sl 1 e_u8) v3) (eL (o_sl 1 e_u8) [r4]), .b true, (A.room n5)⟩, ⟨.uni 1 (eL (o_sl 1 e_u8) [r4]), .b true, (A.uniO (O_sl 1 O_u8))⟩, ⟨.app (eL (o_sl 1 e_u8) v3) (eL (o_sl 1 e_u8) [r4]), .l (eL (o_sl 1 e_u8) (v3 ++ [r4])), A.app⟩, .ad v2 1] (by kernel_rfl) (ih (w64 (v2 + 1)) (v3 ++ [r4]) o h)
    ·obtain rfl := Option.some.inj h
     exact loop_eQ [.lF c1] (by kernel_rfl) (by intro h; cases h)

def T_impl_copyTexts (n : Nat) (a0 : (List (List UInt8))) : Option (List (List UInt8)) :=
  (L_impl_copyTexts_l0 a0 ((a0.length : Nat) : Int) n 0 []).bind fun ⟨o1_0, o1_1⟩ =>
  some o1_1

set_option maxRecDepth 100000 in
theorem fd_78 : cfg.funcs 78 = some (bodyOf Try.f78, Try.f78.ntmps, Try.f78.results.toList) := fn_of Try.func78 (by kernel_rfl) (by kernel_rfl)
theorem g_impl_copyTexts (n : Nat) (a0 : (List (List UInt8))) (r : (List (List UInt8))) (h : T_impl_copyTexts n a0 = some r) : (mach cfg).call 78 [] [.val false [.seq (eL (e_sl e_u8) a0)]] = some (.val false [.own 1 (eL (o_sl 1 e_u8) r)], []) := by
  unfold T_impl_copyTexts at h
  obtain ⟨⟨o1_0, o1_1⟩, ho1, h⟩ := bs h
  try dsimp only at h
  obtain rfl := Option.some.inj h
  exact call_wQ [.le (e_sl e_u8) a0, .lp (gl_impl_copyTexts_l0 a0 ((a0.length : Nat) : Int) _ 0 [] _ ho1)] rfl fd_78 (by kernel_rfl)

theorem copyBytes_eq {a : List UInt8} (h : a.length ≤ 2 ^ 39) : S_impl_copyBytes a = some a := if_pos (room_ok (by decide) (by omega))
theorem copyTexts_loop {a : List (List UInt8)} (ha : bsz a ≤ 2 ^ 39) : ∀ (l p : List (List UInt8)) (m : Nat), a = p ++ l → l.length < m → ∃ z, L_impl_copyTexts_l0 a ((a.length : Nat) : Int) m ((p.length : Nat) : Int) p = some (z, a) := by
  have hl := bsz_len a
  intro l
  induction l with
  | nil =>
    intro p m he hm
    subst he
    obtain ⟨m, rfl, _⟩ := fuel hm
    exact ⟨_, by rw [L_impl_copyTexts_l0, if_neg (nlt_end p)]; simp; rfl⟩
  | cons x l ih =>
    intro p m he hm
    obtain ⟨m, rfl, hm'⟩ := fuel hm
    have hx : 1 + x.length ≤ bsz a := bsz_mem (by rw [he]; simp)
    have hlen : a.length = p.length + (l.length + 1) := by rw [he]; simp
    obtain ⟨z, hz⟩ := ih (p ++ [x]) m (by rw [he]; simp) (by simp only [List.length_cons] at hm'; omega)
    refine ⟨z, ?_⟩
    rw [L_impl_copyTexts_l0, if_pos (by omega), natO_nat, Option.bind_some, show a[p.length]? = some x by rw [he]; exact get_mid p x l, Option.bind_some, copyBytes_eq (by omega), Option.bind_some, if_pos (room_ok (by decide) (by simp only [List.length_cons, List.length_nil]; omega)), w64_len p x (by omega), hz]
def S_impl_copyTexts (a0 : (List (List UInt8))) : Option (List (List UInt8)) := if bsz a0 ≤ 2 ^ 39 then some a0 else none
theorem copyTexts_eq {a : List (List UInt8)} (h : bsz a ≤ 2 ^ 39) : S_impl_copyTexts a = some a := if_pos h
theorem spec_impl_copyTexts (a0 : (List (List UInt8))) (r : (List (List UInt8))) (h : S_impl_copyTexts a0 = some r) : ∃ n, T_impl_copyTexts n a0 = some r := by
  unfold S_impl_copyTexts at h
  obtain ⟨ha, h⟩ := need_c h
  obtain ⟨z, hz⟩ := copyTexts_loop ha a0 [] (a0.length + 1) rfl (by omega)
  refine ⟨a0.length + 1, ?_⟩
  unfold T_impl_copyTexts
  simp only [List.length_nil, Int.natCast_zero] at hz
  rw [hz]; exact h
theorem ok_impl_copyTexts (a0 : (List (List UInt8))) (r : (List (List UInt8))) (h : S_impl_copyTexts a0 = some r) : (mach cfg).call 78 [] [.val false [.seq (eL (e_sl e_u8) a0)]] = some (.val false [.own 1 (eL (o_sl 1 e_u8) r)], []) := by
  obtain ⟨n, hn⟩ := spec_impl_copyTexts a0 r h
  exact g_impl_copyTexts n a0 r hn
def S_bytes_Equal (a0 : (List UInt8)) (a1 : (List UInt8)) : Option Bool :=
  some (decide (a0 = a1))

set_option maxRecDepth 100000 in
theorem fd_83 : cfg.funcs 83 = some (bodyOf Try.f83, Try.f83.ntmps, Try.f83.results.toList) := fn_of Try.func83 (by kernel_rfl) (by kernel_rfl)
theorem ok_bytes_Equal (a0 : (List UInt8)) (a1 : (List UInt8)) (r : Bool) (h : S_bytes_Equal a0 a1 = some r) : (mach cfg).call 83 [] [.val false [.seq (eL e_u8 a0)], .val false [.seq (eL e_u8 a1)]] = some (.val false [.bool r], []) := by
  unfold S_bytes_Equal at h
  obtain rfl := Option.some.inj h
  exact call_wQ [⟨.bytes (eL e_u8 a0), .s a0, A.bytes⟩, ⟨.bytes (eL e_u8 a1), .s a1, A.bytes⟩, ⟨.eqS a0 a1, .b (decide (a0 = a1)), A.eqS_d⟩] rfl fd_83 (by kernel_rfl)

end
end Go.Am.Try
