/- The functions of the program in plain Lean, and that the machine answers as they do; conditions at each theorem. -/
import Derived.Test.YtoopljdbjefgoaaRP1
set_option linter.unusedVariables false
set_option linter.unusedSimpArgs false
namespace Go.Am.Try
open Go.Am Go.Proofs
set_option linter.unusedVariables false
set_option maxRecDepth 20000
set_option maxHeartbeats 2000000
noncomputable section
def S_laws_szByteS (a0 : (List UInt8)) (a1 : Int) : Option Int :=
  if (w64 (a1 - ((a0.length : Nat) : Int))) < 0 then
    some (-1)
  else
    some (w64 (a1 - ((a0.length : Nat) : Int)))

set_option maxRecDepth 100000 in
theorem fd_36 : cfg.funcs 36 = some (bodyOf Try.f36, Try.f36.ntmps, Try.f36.results.toList) := fn_of Try.func36 (by kernel_rfl) (by kernel_rfl)
theorem ok_laws_szByteS (a0 : (List UInt8)) (a1 : Int) (r : Int) (h : S_laws_szByteS a0 a1 = some r) : (mach cfg).call 36 [] [.val false [.seq (eL e_u8 a0)], .val false [.int .i64 a1]] = some (.val false [.int .i64 r], []) := by
  unfold S_laws_szByteS at h
  rcases ite_some h with ⟨c1, h⟩ | ⟨c1, h⟩
  ·obtain rfl := Option.some.inj h
   exact call_wQ [.le e_u8 a0, .su a1 ((a0.length : Nat) : Int), .lT c1] rfl fd_36 (by kernel_rfl)
  ·obtain rfl := Option.some.inj h
   exact call_wQ [.le e_u8 a0, .su a1 ((a0.length : Nat) : Int), .lF c1] rfl fd_36 (by kernel_rfl)

def L_laws_szByteSS_l0 (a0 : (List (List UInt8))) : Nat → Int → Int → Option (Int ⊕ (Int × Int))
  | 0, _, _ => none
  | m + 1, v1, v2 =>
    if v2 < ((a0.length : Nat) : Int) then
      (natO v2).bind fun i2 =>
      (a0[i2]?).bind fun x3 =>
      (S_laws_szByteS x3 v1).bind fun r4 =>
      if r4 < 0 then
        some (.inl (-1))
      else
        L_laws_szByteSS_l0 a0 m r4 (w64 (v2 + 1))
    else
      some (.inr (v1, v2))

theorem gl_laws_szByteSS_l0 (a0 : (List (List UInt8))) (m : Nat) : ∀ (v1 : Int) (v2 : Int) (o : (Int ⊕ (Int × Int))), L_laws_szByteSS_l0 a0 m v1 v2 = some o → (mach cfg).loop 37 (loopB Try.f37 0) ⟨[(0, .val false [.seq (eL (e_sl e_u8) a0)]), (1, .val false [.int .i64 v1]), (5, .val false [.int .i64 v2])], [], 0⟩ = some (match o with | .inl o_0 => (.ret, (⟨[(4, .val false [.int .i64 o_0])], [], 0⟩ : S)) | .inr (⟨o_1_0, o_1_1⟩) => (.exit 0, (⟨[(0, .val false [.seq (eL (e_sl e_u8) a0)]), (1, .val false [.int .i64 o_1_0]), (5, .val false [.int .i64 o_1_1]), (15, .val false [.bool false])], [], 0⟩ : S))) := by
  induction m with
  | zero => intro v1 v2 o h; cases h
  | succ m ih =>
    intro v1 v2 o h
    rw [L_laws_szByteSS_l0] at h
    rcases ite_some h with ⟨c1, h⟩ | ⟨c1, h⟩
    ·obtain ⟨i2, hi2, h⟩ := bs h
     obtain ⟨x3, hx3, h⟩ := bs h
     obtain ⟨r4, hr4, h⟩ := bs h
     rcases ite_some h with ⟨c5, h⟩ | ⟨c5, h⟩
     ·obtain rfl := Option.some.inj h
      exact loop_eQ [.le (e_sl e_u8) a0, .lT c1, .na hi2, .ix0 (e_sl e_u8) hx3, .cl (ok_laws_szByteS x3 v1 _ hr4), .lT c5] (by kernel_rfl) (by intro h; cases h)
     ·exact loop_nQ [.le (e_sl e_u8) a0, .lT c1, .na hi2, .ix0 (e_sl e_u8) hx3, .cl (ok_laws_szByteS x3 v1 _ hr4), .lF c5, .ad v2 1] (by kernel_rfl) (ih r4 (w64 (v2 + 1)) o h)
    ·obtain rfl := Option.some.inj h
     exact loop_eQ [.le (e_sl e_u8) a0, .lF c1] (by kernel_rfl) (by intro h; cases h)

def T_laws_szByteSS (n : Nat) (a0 : (List (List UInt8))) (a1 : Int) : Option Int :=
  if (w64 (a1 - ((a0.length : Nat) : Int))) < 0 then
    some (-1)
  else
    (L_laws_szByteSS_l0 a0 n (w64 (a1 - ((a0.length : Nat) : Int))) 0).bind fun o2 =>
    match o2 with
    | .inl o2_0 =>
      some o2_0
    | .inr (⟨o2_1_0, o2_1_1⟩) =>
      some o2_1_0

set_option maxRecDepth 100000 in
theorem fd_37 : cfg.funcs 37 = some (bodyOf Try.f37, Try.f37.ntmps, Try.f37.results.toList) := fn_of Try.func37 (by kernel_rfl) (by kernel_rfl)
theorem g_laws_szByteSS (n : Nat) (a0 : (List (List UInt8))) (a1 : Int) (r : Int) (h : T_laws_szByteSS n a0 a1 = some r) : (mach cfg).call 37 [] [.val false [.seq (eL (e_sl e_u8) a0)], .val false [.int .i64 a1]] = some (.val false [.int .i64 r], []) := by
  unfold T_laws_szByteSS at h
  rcases ite_some h with ⟨c1, h⟩ | ⟨c1, h⟩
  ·obtain rfl := Option.some.inj h
   exact call_wQ [.le (e_sl e_u8) a0, .su a1 ((a0.length : Nat) : Int), .lT c1] rfl fd_37 (by kernel_rfl)
  ·obtain ⟨o2, ho2, h⟩ := bs h
   rcases o2 with o2_0 | ⟨o2_1_0, o2_1_1⟩
   · try dsimp only at h
     obtain rfl := Option.some.inj h
     exact call_wQ [.le (e_sl e_u8) a0, .su a1 ((a0.length : Nat) : Int), .lF c1, .lp (gl_laws_szByteSS_l0 a0 _ (w64 (a1 - ((a0.length : Nat) : Int))) 0 _ ho2)] rfl fd_37 (by kernel_rfl)
   · try dsimp only at h
     obtain rfl := Option.some.inj h
     exact call_wQ [.le (e_sl e_u8) a0, .su a1 ((a0.length : Nat) : Int), .lF c1, .lp (gl_laws_szByteSS_l0 a0 _ (w64 (a1 - ((a0.length : Nat) : Int))) 0 _ ho2)] rfl fd_37 (by kernel_rfl)

def MdB (k : List (List UInt8)) : Prop := k.length ≤ 2 ^ 63 - 1 ∧ ∀ b ∈ k, b.length ≤ 2 ^ 63 - 1
theorem szByteS_eq {a : List UInt8} {n : Int} (h : a.length ≤ 2 ^ 63 - 1) (h0 : 0 ≤ n) (h1 : n ≤ 2 ^ 20) : S_laws_szByteS a n = some (if (a.length : Int) ≤ n then n - a.length else -1) := by
  unfold S_laws_szByteS
  rw [w64_id (by omega) (by omega)]
  by_cases hc : (a.length : Int) ≤ n
  · rw [if_neg (by omega), if_pos hc]
  · rw [if_pos (by omega), if_neg hc]
theorem szByteSS_loop {a : List (List UInt8)} (ha : a.length ≤ 2 ^ 20) (hb : ∀ b ∈ a, b.length ≤ 2 ^ 63 - 1) : ∀ (d i m : Nat) (r : Int), i + d = a.length → d < m → 0 ≤ r → r ≤ 2 ^ 20 →
    ∃ z, L_laws_szByteSS_l0 a m r (i : Int) = some (if (((a.drop i).map List.length).sum : Int) ≤ r then .inr (r - ((a.drop i).map List.length).sum, z) else .inl (-1)) := by
  intro d
  induction d with
  | zero =>
    intro i m r hi hm h0 h1
    obtain ⟨m, rfl, _⟩ := fuel hm
    refine ⟨(i : Int), ?_⟩
    rw [L_laws_szByteSS_l0, if_neg (by omega), List.drop_eq_nil_of_le (by omega)]
    rw [List.map_nil, List.sum_nil, if_pos (by simpa using h0)]; simp
  | succ d ih =>
    intro i m r hi hm h0 h1
    obtain ⟨m, rfl, hm'⟩ := fuel hm
    have hil : i < a.length := by omega
    have hx := hb a[i] (List.getElem_mem hil)
    rw [L_laws_szByteSS_l0, if_pos (by omega), natO_nat, Option.bind_some, get_some hil, Option.bind_some, szByteS_eq hx h0 h1, Option.bind_some]
    rw [drop_cons hil, List.map_cons, List.sum_cons]
    by_cases hc : ((a[i]).length : Int) ≤ r
    · rw [if_pos hc, if_neg (by omega), w64_succ (by omega)]
      obtain ⟨z, hz⟩ := ih (i + 1) m (r - (a[i]).length) (by omega) (by omega) (by omega) (by omega)
      refine ⟨z, ?_⟩
      rw [hz]
      by_cases hd : (((a.drop (i + 1)).map List.length).sum : Int) ≤ r - (a[i]).length
      · rw [if_pos hd, if_pos (by omega)]; congr 3; omega
      · rw [if_neg hd, if_neg (by omega)]
    · refine ⟨0, ?_⟩
      rw [if_neg hc, if_pos (by omega), if_neg (by omega)]
theorem szByteSS_val {a : List (List UInt8)} {n : Int} (h : MdB a ∧ 0 ≤ n ∧ n ≤ 2 ^ 20) : T_laws_szByteSS (a.length + 1) a n = some (if (bsz a : Int) ≤ n then n - bsz a else -1) := by
  obtain ⟨⟨ha, hb⟩, h0, h1⟩ := h
  unfold T_laws_szByteSS
  rw [w64_id (by omega) (by omega)]
  unfold bsz
  by_cases hc : (a.length : Int) ≤ n
  · rw [if_neg (by omega)]
    obtain ⟨z, hz⟩ := szByteSS_loop (by omega) hb a.length 0 (a.length + 1) (n - a.length) (by omega) (by omega) (by omega) (by omega)
    rw [show ((0 : Nat) : Int) = 0 from rfl] at hz
    rw [hz]
    simp only [List.drop_zero]
    by_cases hd : ((a.map List.length).sum : Int) ≤ n - a.length
    · rw [if_pos hd, if_pos (by omega)]
      simp only [Option.bind_some]; congr 1; omega
    · rw [if_neg hd, if_neg (by omega)]; rfl
  · rw [if_pos (by omega), if_neg (by omega)]
open Classical in
noncomputable def S_laws_szByteSS (a0 : (List (List UInt8))) (a1 : Int) : Option Int := if MdB a0 ∧ 0 ≤ a1 ∧ a1 ≤ 2 ^ 20 then some (if (bsz a0 : Int) ≤ a1 then a1 - bsz a0 else -1) else none
theorem spec_laws_szByteSS (a0 : (List (List UInt8))) (a1 : Int) (r : Int) (h : S_laws_szByteSS a0 a1 = some r) : ∃ n, T_laws_szByteSS n a0 a1 = some r := by
  unfold S_laws_szByteSS at h
  obtain ⟨hp, h⟩ := need_c h
  exact ⟨_, by rw [← h]; exact szByteSS_val hp⟩
theorem ok_laws_szByteSS (a0 : (List (List UInt8))) (a1 : Int) (r : Int) (h : S_laws_szByteSS a0 a1 = some r) : (mach cfg).call 37 [] [.val false [.seq (eL (e_sl e_u8) a0)], .val false [.int .i64 a1]] = some (.val false [.int .i64 r], []) := by
  obtain ⟨n, hn⟩ := spec_laws_szByteSS a0 a1 r h
  exact g_laws_szByteSS n a0 a1 r hn
def L_laws_szExprS_l0 (G_laws_szExpr : GExpr → Int → Option Int) (a0 : (List GExpr)) : Nat → Int → Int → Option (Int ⊕ (Int × Int))
  | 0, _, _ => none
  | m + 1, v1, v2 =>
    if v2 < ((a0.length : Nat) : Int) then
      (natO v2).bind fun i2 =>
      (a0[i2]?).bind fun x3 =>
      (G_laws_szExpr x3 v1).bind fun r4 =>
      if r4 < 0 then
        some (.inl (-1))
      else
        L_laws_szExprS_l0 G_laws_szExpr a0 m r4 (w64 (v2 + 1))
    else
      some (.inr (v1, v2))

theorem gl_laws_szExprS_l0 (G_laws_szExpr : GExpr → Int → Option Int) (H_laws_szExpr : ∀ (a0 : GExpr) (a1 : Int) (r : Int), G_laws_szExpr a0 a1 = some r → (mach cfg).call 16 [] [.val true [.int .i64 a0.Kind, .int .i64 a0.N, .seq (eL e_u8 a0.S), .seq (eL (e_sl e_u8) a0.K), .seq (eL e_GExpr a0.Kids)], .val false [.int .i64 a1]] = some (.val false [.int .i64 r], [])) (a0 : (List GExpr)) (m : Nat) : ∀ (v1 : Int) (v2 : Int) (o : (Int ⊕ (Int × Int))), L_laws_szExprS_l0 G_laws_szExpr a0 m v1 v2 = some o → (mach cfg).loop 52 (loopB Try.f52 0) ⟨[(0, .val false [.seq (eL e_GExpr a0)]), (1, .val false [.int .i64 v1]), (5, .val false [.int .i64 v2])], [], 0⟩ = some (match o with | .inl o_0 => (.ret, (⟨[(4, .val false [.int .i64 o_0])], [], 0⟩ : S)) | .inr (⟨o_1_0, o_1_1⟩) => (.exit 0, (⟨[(0, .val false [.seq (eL e_GExpr a0)]), (1, .val false [.int .i64 o_1_0]), (5, .val false [.int .i64 o_1_1]), (15, .val false [.bool false])], [], 0⟩ : S))) := by
  induction m with
  | zero => intro v1 v2 o h; cases h
  | succ m ih =>
    intro v1 v2 o h
    rw [L_laws_szExprS_l0] at h
    rcases ite_some h with ⟨c1, h⟩ | ⟨c1, h⟩
    ·obtain ⟨i2, hi2, h⟩ := bs h
     obtain ⟨x3, hx3, h⟩ := bs h
     obtain ⟨r4, hr4, h⟩ := bs h
     rcases ite_some h with ⟨c5, h⟩ | ⟨c5, h⟩
     ·obtain rfl := Option.some.inj h
      exact loop_eQ [.le e_GExpr a0, .lT c1, .na hi2, .ix hx3 (eq_GExpr x3), .cl (H_laws_szExpr x3 v1 _ hr4), .lT c5] (by kernel_rfl) (by intro h; cases h)
     ·exact loop_nQ [.le e_GExpr a0, .lT c1, .na hi2, .ix hx3 (eq_GExpr x3), .cl (H_laws_szExpr x3 v1 _ hr4), .lF c5, .ad v2 1] (by kernel_rfl) (ih r4 (w64 (v2 + 1)) o h)
    ·obtain rfl := Option.some.inj h
     exact loop_eQ [.le e_GExpr a0, .lF c1] (by kernel_rfl) (by intro h; cases h)

def T_laws_szExprS (G_laws_szExpr : GExpr → Int → Option Int) (n : Nat) (a0 : (List GExpr)) (a1 : Int) : Option Int :=
  if (w64 (a1 - ((a0.length : Nat) : Int))) < 0 then
    some (-1)
  else
    (L_laws_szExprS_l0 G_laws_szExpr a0 n (w64 (a1 - ((a0.length : Nat) : Int))) 0).bind fun o2 =>
    match o2 with
    | .inl o2_0 =>
      some o2_0
    | .inr (⟨o2_1_0, o2_1_1⟩) =>
      some o2_1_0

set_option maxRecDepth 100000 in
theorem fd_52 : cfg.funcs 52 = some (bodyOf Try.f52, Try.f52.ntmps, Try.f52.results.toList) := fn_of Try.func52 (by kernel_rfl) (by kernel_rfl)
theorem g_laws_szExprS (G_laws_szExpr : GExpr → Int → Option Int) (H_laws_szExpr : ∀ (a0 : GExpr) (a1 : Int) (r : Int), G_laws_szExpr a0 a1 = some r → (mach cfg).call 16 [] [.val true [.int .i64 a0.Kind, .int .i64 a0.N, .seq (eL e_u8 a0.S), .seq (eL (e_sl e_u8) a0.K), .seq (eL e_GExpr a0.Kids)], .val false [.int .i64 a1]] = some (.val false [.int .i64 r], [])) (n : Nat) (a0 : (List GExpr)) (a1 : Int) (r : Int) (h : T_laws_szExprS G_laws_szExpr n a0 a1 = some r) : (mach cfg).call 52 [] [.val false [.seq (eL e_GExpr a0)], .val false [.int .i64 a1]] = some (.val false [.int .i64 r], []) := by
  unfold T_laws_szExprS at h
  rcases ite_some h with ⟨c1, h⟩ | ⟨c1, h⟩
  ·obtain rfl := Option.some.inj h
   exact call_wQ [.le e_GExpr a0, .su a1 ((a0.length : Nat) : Int), .lT c1] rfl fd_52 (by kernel_rfl)
  ·obtain ⟨o2, ho2, h⟩ := bs h
   rcases o2 with o2_0 | ⟨o2_1_0, o2_1_1⟩
   · try dsimp only at h
     obtain rfl := Option.some.inj h
     exact call_wQ [.le e_GExpr a0, .su a1 ((a0.length : Nat) : Int), .lF c1, .lp (gl_laws_szExprS_l0 G_laws_szExpr H_laws_szExpr a0 _ (w64 (a1 - ((a0.length : Nat) : Int))) 0 _ ho2)] rfl fd_52 (by kernel_rfl)
   · try dsimp only at h
     obtain rfl := Option.some.inj h
     exact call_wQ [.le e_GExpr a0, .su a1 ((a0.length : Nat) : Int), .lF c1, .lp (gl_laws_szExprS_l0 G_laws_szExpr H_laws_szExpr a0 _ (w64 (a1 - ((a0.length : Nat) : Int))) 0 _ ho2)] rfl fd_52 (by kernel_rfl)

def T_laws_szExpr (G_laws_szExprS : (List GExpr) → Int → Option Int) (a0 : GExpr) (a1 : Int) : Option Int :=
  (S_laws_szByteS a0.S a1).bind fun r1 =>
  if r1 < 0 then
    some (-1)
  else
    (S_laws_szByteSS a0.K r1).bind fun r3 =>
    if r3 < 0 then
      some (-1)
    else
      (G_laws_szExprS a0.Kids r3).bind fun r5 =>
      if r5 < 0 then
        some (-1)
      else
        some r5

set_option maxRecDepth 100000 in
theorem fd_16 : cfg.funcs 16 = some (bodyOf Try.f16, Try.f16.ntmps, Try.f16.results.toList) := fn_of Try.func16 (by kernel_rfl) (by kernel_rfl)
theorem g_laws_szExpr (G_laws_szExprS : (List GExpr) → Int → Option Int) (H_laws_szExprS : ∀ (a0 : (List GExpr)) (a1 : Int) (r : Int), G_laws_szExprS a0 a1 = some r → (mach cfg).call 52 [] [.val false [.seq (eL e_GExpr a0)], .val false [.int .i64 a1]] = some (.val false [.int .i64 r], [])) (a0 : GExpr) (a1 : Int) (r : Int) (h : T_laws_szExpr G_laws_szExprS a0 a1 = some r) : (mach cfg).call 16 [] [.val true [.int .i64 a0.Kind, .int .i64 a0.N, .seq (eL e_u8 a0.S), .seq (eL (e_sl e_u8) a0.K), .seq (eL e_GExpr a0.Kids)], .val false [.int .i64 a1]] = some (.val false [.int .i64 r], []) := by
  unfold T_laws_szExpr at h
  obtain ⟨r1, hr1, h⟩ := bs h
  rcases ite_some h with ⟨c2, h⟩ | ⟨c2, h⟩
  ·obtain rfl := Option.some.inj h
   exact call_wQ [.cl (ok_laws_szByteS a0.S a1 _ hr1), .lT c2] rfl fd_16 (by kernel_rfl)
  ·obtain ⟨r3, hr3, h⟩ := bs h
   rcases ite_some h with ⟨c4, h⟩ | ⟨c4, h⟩
   ·obtain rfl := Option.some.inj h
    exact call_wQ [.cl (ok_laws_szByteS a0.S a1 _ hr1), .lF c2, .cl (ok_laws_szByteSS a0.K r1 _ hr3), .lT c4] rfl fd_16 (by kernel_rfl)
   ·obtain ⟨r5, hr5, h⟩ := bs h
    rcases ite_some h with ⟨c6, h⟩ | ⟨c6, h⟩
    ·obtain rfl := Option.some.inj h
     exact call_wQ [.cl (ok_laws_szByteS a0.S a1 _ hr1), .lF c2, .cl (ok_laws_szByteSS a0.K r1 _ hr3), .lF c4, .cl (H_laws_szExprS a0.Kids r3 _ hr5), .lT c6] rfl fd_16 (by kernel_rfl)
    ·obtain rfl := Option.some.inj h
     exact call_wQ [.cl (ok_laws_szByteS a0.S a1 _ hr1), .lF c2, .cl (ok_laws_szByteSS a0.K r1 _ hr3), .lF c4, .cl (H_laws_szExprS a0.Kids r3 _ hr5), .lF c6] rfl fd_16 (by kernel_rfl)

mutual
def U_laws_szExprS : Nat → (List GExpr) → Int → Option Int
  | 0, _, _ => none
  | n + 1, a0, a1 => T_laws_szExprS (U_laws_szExpr n) n a0 a1
def U_laws_szExpr : Nat → GExpr → Int → Option Int
  | 0, _, _ => none
  | n + 1, a0, a1 => T_laws_szExpr (U_laws_szExprS n) a0 a1
end
theorem rec_laws_szExprS (n : Nat) : (∀ (a0 : (List GExpr)) (a1 : Int) (r : Int), U_laws_szExprS n a0 a1 = some r → (mach cfg).call 52 [] [.val false [.seq (eL e_GExpr a0)], .val false [.int .i64 a1]] = some (.val false [.int .i64 r], [])) ∧ (∀ (a0 : GExpr) (a1 : Int) (r : Int), U_laws_szExpr n a0 a1 = some r → (mach cfg).call 16 [] [.val true [.int .i64 a0.Kind, .int .i64 a0.N, .seq (eL e_u8 a0.S), .seq (eL (e_sl e_u8) a0.K), .seq (eL e_GExpr a0.Kids)], .val false [.int .i64 a1]] = some (.val false [.int .i64 r], [])) := by
  induction n with
  | zero => exact ⟨fun _ _ _ h => (by rw [U_laws_szExprS] at h; cases h), fun _ _ _ h => (by rw [U_laws_szExpr] at h; cases h)⟩
  | succ n ih =>
    obtain ⟨ih_laws_szExprS, ih_laws_szExpr⟩ := ih
    exact ⟨fun a0 a1 r h => g_laws_szExprS (U_laws_szExpr n) ih_laws_szExpr n a0 a1 r (by rw [U_laws_szExprS] at h; exact h),
      fun a0 a1 r h => g_laws_szExpr (U_laws_szExprS n) ih_laws_szExprS a0 a1 r (by rw [U_laws_szExpr] at h; exact h)⟩
mutual
def MdX : GExpr → Prop
  | .mk _ _ s k l => s.length ≤ 2 ^ 63 - 1 ∧ MdB k ∧ l.length ≤ 2 ^ 63 - 1 ∧ MdXs l
def MdXs : List GExpr → Prop
  | [] => True
  | v :: l => MdX v ∧ MdXs l
end
theorem MdXs_mem {l : List GExpr} (h : MdXs l) {v : GExpr} (hv : v ∈ l) : MdX v := by
  induction l with
  | nil => cases hv
  | cons x l ih =>
    simp only [MdXs] at h
    rcases List.mem_cons.1 hv with rfl | hv
    · exact h.1
    · exact ih h.2 hv
theorem MdX_eq (v : GExpr) : MdX v = (v.S.length ≤ 2 ^ 63 - 1 ∧ MdB v.K ∧ v.Kids.length ≤ 2 ^ 63 - 1 ∧ MdXs v.Kids) := by cases v; simp only [MdX, GExpr.S, GExpr.K, GExpr.Kids]
/-- What is left behind the values, without their number. -/
def xin (l : List GExpr) : Nat := (l.map xsz).sum
theorem xszs_xin (l : List GExpr) : xszs l = l.length + xin l := by
  unfold xin
  induction l with
  | nil => rfl
  | cons v l ih => simp only [xszs, ih, List.length_cons, List.map_cons, List.sum_cons]; omega
theorem szExprS_loop {G : GExpr → Int → Option Int} {a : List GExpr} (ha : a.length ≤ 2 ^ 20) (hG : ∀ v ∈ a, ∀ n : Int, 0 ≤ n → n ≤ 2 ^ 20 → G v n = some (leftV (xsz v) n)) : ∀ (d i m : Nat) (r : Int), i + d = a.length → d < m → 0 ≤ r → r ≤ 2 ^ 20 →
    ∃ z, L_laws_szExprS_l0 G a m r (i : Int) = some (if (xin (a.drop i) : Int) ≤ r then .inr (r - xin (a.drop i), z) else .inl (-1)) := by
  intro d
  induction d with
  | zero =>
    intro i m r hi hm h0 h1
    obtain ⟨m, rfl, _⟩ := fuel hm
    refine ⟨(i : Int), ?_⟩
    rw [L_laws_szExprS_l0, if_neg (by omega), List.drop_eq_nil_of_le (by omega)]
    simp only [xin, List.map_nil, List.sum_nil]
    rw [if_pos (by simpa using h0)]; simp
  | succ d ih =>
    intro i m r hi hm h0 h1
    obtain ⟨m, rfl, hm'⟩ := fuel hm
    have hil : i < a.length := by omega
    rw [L_laws_szExprS_l0, if_pos (by omega), natO_nat, Option.bind_some, get_some hil, Option.bind_some, hG _ (List.getElem_mem hil) r h0 h1, Option.bind_some]
    have hv : xin (a.drop i) = xsz a[i] + xin (a.drop (i + 1)) := by simp only [xin, drop_cons hil, List.map_cons, List.sum_cons]
    rw [hv]
    unfold leftV
    by_cases hc : (xsz a[i] : Int) ≤ r
    · rw [if_pos hc, if_neg (by omega), w64_succ (by omega)]
      obtain ⟨z, hz⟩ := ih (i + 1) m (r - xsz a[i]) (by omega) (by omega) (by omega) (by omega)
      refine ⟨z, ?_⟩
      rw [hz]
      by_cases hd : (xin (a.drop (i + 1)) : Int) ≤ r - xsz a[i]
      · rw [if_pos hd, if_pos (by omega)]; congr 3; omega
      · rw [if_neg hd, if_neg (by omega)]
    · refine ⟨0, ?_⟩
      rw [if_neg hc, if_pos (by omega), if_neg (by omega)]
theorem szExprS_T {G : GExpr → Int → Option Int} {a : List GExpr} {f : Nat} {n : Int} (ha : a.length ≤ 2 ^ 63 - 1) (h0 : 0 ≤ n) (h1 : n ≤ 2 ^ 20) (hf : a.length < f ∨ n < a.length) (hG : ∀ v ∈ a, ∀ n : Int, 0 ≤ n → n ≤ 2 ^ 20 → G v n = some (leftV (xsz v) n)) :
    T_laws_szExprS G f a n = some (leftV (xszs a) n) := by
  unfold T_laws_szExprS
  rw [w64_id (by omega) (by omega), xszs_xin]
  unfold leftV
  by_cases hc : (a.length : Int) ≤ n
  · rw [if_neg (by omega)]
    obtain ⟨z, hz⟩ := szExprS_loop (G := G) (by omega) hG a.length 0 f (n - a.length) (by omega) (by omega) (by omega) (by omega)
    rw [show ((0 : Nat) : Int) = 0 from rfl] at hz
    rw [hz]
    simp only [List.drop_zero]
    by_cases hd : (xin a : Int) ≤ n - a.length
    · rw [if_pos hd, if_pos (by omega)]
      simp only [Option.bind_some]; congr 1; omega
    · rw [if_neg hd, if_neg (by omega)]; rfl
  · rw [if_pos (by omega), if_neg (by omega)]
theorem szExpr_U : ∀ (N : Nat) (v : GExpr), xsz v < N → MdX v → ∀ (f : Nat) (n : Int), 2 * xsz v + 3 ≤ f → 0 ≤ n → n ≤ 2 ^ 20 → U_laws_szExpr f v n = some (leftV (xsz v) n) := by
  intro N
  induction N with
  | zero => intro v hv; omega
  | succ N ih =>
    intro v hv hmd f n hf h0 h1
    obtain ⟨f, rfl, _⟩ := fuel (show 0 < f by omega)
    rw [MdX_eq] at hmd
    have he := xsz_eq v
    have hl := xszs_len v.Kids
    obtain ⟨f, rfl, _⟩ := fuel (show 0 < f by omega)
    rw [U_laws_szExpr]
    unfold T_laws_szExpr
    rw [szByteS_eq hmd.1 h0 h1, Option.bind_some]
    unfold leftV
    by_cases c1 : (v.S.length : Int) ≤ n
    · rw [if_pos c1, if_neg (by omega)]
      unfold S_laws_szByteSS
      rw [if_pos ⟨hmd.2.1, by omega, by omega⟩, Option.bind_some]
      by_cases c2 : (bsz v.K : Int) ≤ n - v.S.length
      · rw [if_pos c2, if_neg (by omega)]
        rw [U_laws_szExprS, szExprS_T hmd.2.2.1 (by omega) (by omega) (.inl (by omega)) (fun x hx m g0 g1 => ?_), Option.bind_some]
        · unfold leftV
          by_cases c3 : (xszs v.Kids : Int) ≤ n - v.S.length - bsz v.K
          · rw [if_pos c3, if_neg (by omega), if_pos (by omega)]; congr 1; omega
          · rw [if_neg c3, if_pos (by omega), if_neg (by omega)]
        · have := xszs_mem hx
          exact ih x (by omega) (MdXs_mem hmd.2.2.2 hx) f m (by omega) g0 g1
      · rw [if_neg c2, if_pos (by omega), if_neg (by omega)]
    · rw [if_neg c1, if_pos (by omega), if_neg (by omega)]
open Classical in
noncomputable def S_laws_szExprS (a0 : (List GExpr)) (a1 : Int) : Option Int := if a0.length ≤ 2 ^ 63 - 1 ∧ MdXs a0 ∧ 0 ≤ a1 ∧ a1 ≤ 2 ^ 20 then some (leftV (xszs a0) a1) else none
theorem spec_laws_szExprS (a0 : (List GExpr)) (a1 : Int) (r : Int) (h : S_laws_szExprS a0 a1 = some r) : ∃ n, U_laws_szExprS n a0 a1 = some r := by
  unfold S_laws_szExprS at h
  obtain ⟨⟨hl, hm, h0, h1⟩, h⟩ := need_c h
  refine ⟨2 * xszs a0 + 5, ?_⟩
  have := xszs_len a0
  rw [U_laws_szExprS, szExprS_T hl h0 h1 (.inl (by omega)) fun x hx m g0 g1 => ?_, h]
  have := xszs_mem hx
  exact szExpr_U _ x (Nat.lt_succ_self _) (MdXs_mem hm hx) _ m (by omega) g0 g1
open Classical in
noncomputable def S_laws_szExpr (a0 : GExpr) (a1 : Int) : Option Int := if MdX a0 ∧ 0 ≤ a1 ∧ a1 ≤ 2 ^ 20 then some (leftV (xsz a0) a1) else none
theorem spec_laws_szExpr (a0 : GExpr) (a1 : Int) (r : Int) (h : S_laws_szExpr a0 a1 = some r) : ∃ n, U_laws_szExpr n a0 a1 = some r := by
  unfold S_laws_szExpr at h
  obtain ⟨⟨hm, h0, h1⟩, h⟩ := need_c h
  exact ⟨2 * xsz a0 + 3, by rw [← h]; exact szExpr_U _ a0 (Nat.lt_succ_self _) hm _ a1 (Nat.le_refl _) h0 h1⟩
theorem ok_laws_szExprS (a0 : (List GExpr)) (a1 : Int) (r : Int) (h : S_laws_szExprS a0 a1 = some r) : (mach cfg).call 52 [] [.val false [.seq (eL e_GExpr a0)], .val false [.int .i64 a1]] = some (.val false [.int .i64 r], []) := by
  obtain ⟨n, hn⟩ := spec_laws_szExprS a0 a1 r h
  exact (rec_laws_szExprS n).1 a0 a1 r hn
theorem ok_laws_szExpr (a0 : GExpr) (a1 : Int) (r : Int) (h : S_laws_szExpr a0 a1 = some r) : (mach cfg).call 16 [] [.val true [.int .i64 a0.Kind, .int .i64 a0.N, .seq (eL e_u8 a0.S), .seq (eL (e_sl e_u8) a0.K), .seq (eL e_GExpr a0.Kids)], .val false [.int .i64 a1]] = some (.val false [.int .i64 r], []) := by
  obtain ⟨n, hn⟩ := spec_laws_szExpr a0 a1 r h
  exact (rec_laws_szExprS n).2 a0 a1 r hn
def L_laws_toByteS_l0 (a0 : (List UInt8)) : Nat → Int → (List UInt8) → Option (Int × (List UInt8))
  | 0, _, _ => none
  | m + 1, v1, v2 =>
    if v1 < ((a0.length : Nat) : Int) then
      (natO v1).bind fun i2 =>
      (a0[i2]?).bind fun x3 =>
      (v2[i2]?).bind fun x4 =>
      L_laws_toByteS_l0 a0 m (w64 (v1 + 1)) (v2.set i2 x3)
    else
      some (v1, v2)

theorem gl_laws_toByteS_l0 (a0 : (List UInt8)) (m : Nat) : ∀ (v1 : Int) (v2 : (List UInt8)) (o : (Int × (List UInt8))), L_laws_toByteS_l0 a0 m v1 v2 = some o → (mach cfg).loop 19 (loopB Try.f19 0) ⟨[(0, .val false [.seq (eL e_u8 a0)]), (3, .val false [.ref 0]), (4, .val false [.int .i64 v1])], [.obj 1 (eL e_u8 v2)], 0⟩ = some (match o with | ⟨o_0, o_1⟩ => (.exit 0, (⟨[(0, .val false [.seq (eL e_u8 a0)]), (3, .val false [.ref 0]), (4, .val false [.int .i64 o_0]), (11, .val false [.bool false])], [.obj 1 (eL e_u8 o_1)], 0⟩ : S))) := by
  induction m with
  | zero => intro v1 v2 o h; cases h
  | succ m ih =>
    intro v1 v2 o h
    rw [L_laws_toByteS_l0] at h
    rcases ite_some h with ⟨c1, h⟩ | ⟨c1, h⟩
    ·obtain ⟨i2, hi2, h⟩ := bs h
     obtain ⟨x3, hx3, h⟩ := bs h
     obtain ⟨x4, hx4, h⟩ := bs h
     exact loop_nQ [.le e_u8 a0, .lT c1, .na hi2, .ix0 e_u8 hx3, .na hi2, .ix0 e_u8 hx4, .ix0 e_u8 hx4, ⟨.setL (eL e_u8 v2) i2 [.int .u8 ((x3.toNat : Nat) : Int)], .l (eL e_u8 (v2.set i2 x3)), (A.setL rfl)⟩, .ad v1 1] (by kernel_rfl) (ih (w64 (v1 + 1)) (v2.set i2 x3) o h)
    ·obtain rfl := Option.some.inj h
     exact loop_eQ [.le e_u8 a0, .lF c1] (by kernel_rfl) (by intro h; cases h)

def T_laws_toByteS (n : Nat) (a0 : (List UInt8)) : Option (List UInt8) :=
  (madeO 1 ((a0.length : Nat) : Int)).bind fun k1 =>
  (L_laws_toByteS_l0 a0 n 0 (List.replicate k1 0)).bind fun ⟨o2_0, o2_1⟩ =>
  some o2_1

set_option maxRecDepth 100000 in
theorem fd_19 : cfg.funcs 19 = some (bodyOf Try.f19, Try.f19.ntmps, Try.f19.results.toList) := fn_of Try.func19 (by kernel_rfl) (by kernel_rfl)
theorem g_laws_toByteS (n : Nat) (a0 : (List UInt8)) (r : (List UInt8)) (h : T_laws_toByteS n a0 = some r) : (mach cfg).call 19 [] [.val false [.seq (eL e_u8 a0)]] = some (.val false [.own 1 (eL e_u8 r)], []) := by
  unfold T_laws_toByteS at h
  obtain ⟨k1, hk1, h⟩ := bs h
  obtain ⟨⟨o2_0, o2_1⟩, ho2, h⟩ := bs h
  try dsimp only at h
  obtain rfl := Option.some.inj h
  exact call_wQ [.le e_u8 a0, .eTo ((a0.length : Nat) : Int) ((a0.length : Nat) : Int) rfl, ⟨.made 1 ((a0.length : Nat) : Int), .n k1, (A.made hk1)⟩, ⟨.rep k1 [.int .u8 0], .l (eL e_u8 (List.replicate k1 0)), (A.rep rfl)⟩, .lp (gl_laws_toByteS_l0 a0 _ 0 (List.replicate k1 0) _ ho2)] rfl fd_19 (by kernel_rfl)

theorem toByteS_loop {a : List UInt8} (ha : a.length ≤ 2 ^ 20) : ∀ (d i m : Nat) (v : List UInt8), i + d = a.length → d < m → Pre a v i → ∃ z, L_laws_toByteS_l0 a m (i : Int) v = some (z, a) := by
  intro d
  induction d with
  | zero =>
    intro i m v hi hm hp
    obtain ⟨m, rfl, _⟩ := fuel hm
    exact ⟨_, by rw [L_laws_toByteS_l0, if_neg (by omega), hp.done (by omega)]⟩
  | succ d ih =>
    intro i m v hi hm hp
    obtain ⟨m, rfl, hm'⟩ := fuel hm
    have hil : i < a.length := by omega
    rw [L_laws_toByteS_l0, if_pos (by omega), natO_nat, Option.bind_some, get_some hil, Option.bind_some, get_some (by rw [hp.1]; exact hil), Option.bind_some, w64_succ (by omega)]
    exact ih (i + 1) m _ (by omega) (by omega) (hp.step hil)
def S_laws_toByteS (a0 : (List UInt8)) : Option (List UInt8) := if a0.length ≤ 2 ^ 20 then some a0 else none
theorem spec_laws_toByteS (a0 : (List UInt8)) (r : (List UInt8)) (h : S_laws_toByteS a0 = some r) : ∃ n, T_laws_toByteS n a0 = some r := by
  unfold S_laws_toByteS at h
  obtain ⟨ha, h⟩ := need_c h
  refine ⟨a0.length + 1, ?_⟩
  obtain ⟨z, hz⟩ := toByteS_loop ha a0.length 0 (a0.length + 1) (List.replicate a0.length 0) (by omega) (by omega) (Pre.start (by simp))
  unfold T_laws_toByteS
  rw [made_ok ha (by decide), Option.bind_some, show (0 : Int) = ((0 : Nat) : Int) from rfl, hz]
  exact h
theorem ok_laws_toByteS (a0 : (List UInt8)) (r : (List UInt8)) (h : S_laws_toByteS a0 = some r) : (mach cfg).call 19 [] [.val false [.seq (eL e_u8 a0)]] = some (.val false [.own 1 (eL e_u8 r)], []) := by
  obtain ⟨n, hn⟩ := spec_laws_toByteS a0 r h
  exact g_laws_toByteS n a0 r hn
def L_laws_toByteSS_l0 (a0 : (List (List UInt8))) : Nat → Int → (List (List UInt8)) → Option (Int × (List (List UInt8)))
  | 0, _, _ => none
  | m + 1, v1, v2 =>
    if v1 < ((a0.length : Nat) : Int) then
      (natO v1).bind fun i2 =>
      (a0[i2]?).bind fun x3 =>
      (S_laws_toByteS x3).bind fun r4 =>
      (v2[i2]?).bind fun x5 =>
      L_laws_toByteSS_l0 a0 m (w64 (v1 + 1)) (v2.set i2 r4)
    else
      some (v1, v2)

theorem gl_laws_toByteSS_l0 (a0 : (List (List UInt8))) (m : Nat) : ∀ (v1 : Int) (v2 : (List (List UInt8))) (o : (Int × (List (List UInt8)))), L_laws_toByteSS_l0 a0 m v1 v2 = some o → (mach cfg).loop 41 (loopB Try.f41 0) ⟨[(0, .val false [.seq (eL (e_sl e_u8) a0)]), (3, .val false [.ref 0]), (4, .val false [.int .i64 v1])], [.obj 1 (eL (o_sl 1 e_u8) v2)], 0⟩ = some (match o with | ⟨o_0, o_1⟩ => (.exit 0, (⟨[(0, .val false [.seq (eL (e_sl e_u8) a0)]), (3, .val false [.ref 0]), (4, .val false [.int .i64 o_0]), (11, .val false [.bool false])], [.obj 1 (eL (o_sl 1 e_u8) o_1)], 0⟩ : S))) := by
  induction m with
  | zero => intro v1 v2 o h; cases h
  | succ m ih =>
    intro v1 v2 o h
    rw [L_laws_toByteSS_l0] at h
    rcases ite_some h with ⟨c1, h⟩ | ⟨c1, h⟩
    ·obtain ⟨i2, hi2, h⟩ := bs h
     obtain ⟨x3, hx3, h⟩ := bs h
     obtain ⟨r4, hr4, h⟩ := bs h
     obtain ⟨x5, hx5, h⟩ := bs h
     exact loop_nQ [.le (e_sl e_u8) a0, .lT c1, .na hi2, .ix0 (e_sl e_u8) hx3, .cl (ok_laws_toByteS x3 _ hr4), .na hi2, .ix0 (o_sl 1 e_u8) hx5, .ix0 (o_sl 1 e_u8) hx5, ⟨.setL (eL (o_sl 1 e_u8) v2) i2 [.own 1 (eL e_u8 r4)], .l (eL (o_sl 1 e_u8) (v2.set i2 r4)), (A.setL rfl)⟩, .ad v1 1] (by kernel_rfl) (ih (w64 (v1 + 1)) (v2.set i2 r4) o h)
    ·obtain rfl := Option.some.inj h
     exact loop_eQ [.le (e_sl e_u8) a0, .lF c1] (by kernel_rfl) (by intro h; cases h)

def T_laws_toByteSS (n : Nat) (a0 : (List (List UInt8))) : Option (List (List UInt8)) :=
  (madeO 24 ((a0.length : Nat) : Int)).bind fun k1 =>
  (L_laws_toByteSS_l0 a0 n 0 (List.replicate k1 [])).bind fun ⟨o2_0, o2_1⟩ =>
  some o2_1

set_option maxRecDepth 100000 in
theorem fd_41 : cfg.funcs 41 = some (bodyOf Try.f41, Try.f41.ntmps, Try.f41.results.toList) := fn_of Try.func41 (by kernel_rfl) (by kernel_rfl)
theorem g_laws_toByteSS (n : Nat) (a0 : (List (List UInt8))) (r : (List (List UInt8))) (h : T_laws_toByteSS n a0 = some r) : (mach cfg).call 41 [] [.val false [.seq (eL (e_sl e_u8) a0)]] = some (.val false [.own 1 (eL (o_sl 1 e_u8) r)], []) := by
  unfold T_laws_toByteSS at h
  obtain ⟨k1, hk1, h⟩ := bs h
  obtain ⟨⟨o2_0, o2_1⟩, ho2, h⟩ := bs h
  try dsimp only at h
  obtain rfl := Option.some.inj h
  exact call_wQ [.le (e_sl e_u8) a0, .eTo ((a0.length : Nat) : Int) ((a0.length : Nat) : Int) rfl, ⟨.made 24 ((a0.length : Nat) : Int), .n k1, (A.made hk1)⟩, ⟨.rep k1 [.own 1 []], .l (eL (o_sl 1 e_u8) (List.replicate k1 [])), (A.rep rfl)⟩, .lp (gl_laws_toByteSS_l0 a0 _ 0 (List.replicate k1 []) _ ho2)] rfl fd_41 (by kernel_rfl)

theorem toByteSS_loop {a : List (List UInt8)} (ha : bsz a ≤ 2 ^ 20) : ∀ (d i m : Nat) (v : List (List UInt8)), i + d = a.length → d < m → Pre a v i → ∃ z, L_laws_toByteSS_l0 a m (i : Int) v = some (z, a) := by
  have hl := bsz_len a
  intro d
  induction d with
  | zero =>
    intro i m v hi hm hp
    obtain ⟨m, rfl, _⟩ := fuel hm
    exact ⟨_, by rw [L_laws_toByteSS_l0, if_neg (by omega), hp.done (by omega)]⟩
  | succ d ih =>
    intro i m v hi hm hp
    obtain ⟨m, rfl, hm'⟩ := fuel hm
    have hil : i < a.length := by omega
    have hx := bsz_mem (List.getElem_mem hil)
    rw [L_laws_toByteSS_l0, if_pos (by omega), natO_nat, Option.bind_some, get_some hil, Option.bind_some]
    unfold S_laws_toByteS
    rw [if_pos (by omega), Option.bind_some, get_some (by rw [hp.1]; exact hil), Option.bind_some, w64_succ (by omega)]
    exact ih (i + 1) m _ (by omega) (by omega) (hp.step hil)
def S_laws_toByteSS (a0 : (List (List UInt8))) : Option (List (List UInt8)) := if bsz a0 ≤ 2 ^ 20 then some a0 else none
theorem spec_laws_toByteSS (a0 : (List (List UInt8))) (r : (List (List UInt8))) (h : S_laws_toByteSS a0 = some r) : ∃ n, T_laws_toByteSS n a0 = some r := by
  unfold S_laws_toByteSS at h
  obtain ⟨ha, h⟩ := need_c h
  have hl := bsz_len a0
  refine ⟨a0.length + 1, ?_⟩
  obtain ⟨z, hz⟩ := toByteSS_loop ha a0.length 0 (a0.length + 1) (List.replicate a0.length []) (by omega) (by omega) (Pre.start (by simp))
  unfold T_laws_toByteSS
  rw [made_ok (by omega) (by decide), Option.bind_some, show (0 : Int) = ((0 : Nat) : Int) from rfl, hz]
  exact h
theorem ok_laws_toByteSS (a0 : (List (List UInt8))) (r : (List (List UInt8))) (h : S_laws_toByteSS a0 = some r) : (mach cfg).call 41 [] [.val false [.seq (eL (e_sl e_u8) a0)]] = some (.val false [.own 1 (eL (o_sl 1 e_u8) r)], []) := by
  obtain ⟨n, hn⟩ := spec_laws_toByteSS a0 r h
  exact g_laws_toByteSS n a0 r hn
def L_laws_toExprS_l0 (G_laws_toExpr : GExpr → Option GExpr) (a0 : (List GExpr)) : Nat → Int → (List GExpr) → Option (Int × (List GExpr))
  | 0, _, _ => none
  | m + 1, v1, v2 =>
    if v1 < ((a0.length : Nat) : Int) then
      (natO v1).bind fun i2 =>
      (a0[i2]?).bind fun x3 =>
      (G_laws_toExpr x3).bind fun r4 =>
      (v2[i2]?).bind fun x5 =>
      L_laws_toExprS_l0 G_laws_toExpr a0 m (w64 (v1 + 1)) (v2.set i2 r4)
    else
      some (v1, v2)

theorem gl_laws_toExprS_l0 (G_laws_toExpr : GExpr → Option GExpr) (H_laws_toExpr : ∀ (a0 : GExpr) (r : GExpr), G_laws_toExpr a0 = some r → (mach cfg).call 18 [] [.val true [.int .i64 a0.Kind, .int .i64 a0.N, .seq (eL e_u8 a0.S), .seq (eL (e_sl e_u8) a0.K), .seq (eL e_GExpr a0.Kids)]] = some (.val true [.int .i64 r.Kind, .int .i64 r.N, .own 1 (eL e_u8 r.S), .own 1 (eL (o_sl 1 e_u8) r.K), .own 5 (eL o_GExpr r.Kids)], [])) (a0 : (List GExpr)) (m : Nat) : ∀ (v1 : Int) (v2 : (List GExpr)) (o : (Int × (List GExpr))), L_laws_toExprS_l0 G_laws_toExpr a0 m v1 v2 = some o → (mach cfg).loop 56 (loopB Try.f56 0) ⟨[(0, .val false [.seq (eL e_GExpr a0)]), (3, .val false [.ref 0]), (4, .val false [.int .i64 v1])], [.obj 5 (eL o_GExpr v2)], 0⟩ = some (match o with | ⟨o_0, o_1⟩ => (.exit 0, (⟨[(0, .val false [.seq (eL e_GExpr a0)]), (3, .val false [.ref 0]), (4, .val false [.int .i64 o_0]), (11, .val false [.bool false])], [.obj 5 (eL o_GExpr o_1)], 0⟩ : S))) := by
  induction m with
  | zero => intro v1 v2 o h; cases h
  | succ m ih =>
    intro v1 v2 o h
    rw [L_laws_toExprS_l0] at h
    rcases ite_some h with ⟨c1, h⟩ | ⟨c1, h⟩
    ·obtain ⟨i2, hi2, h⟩ := bs h
     obtain ⟨x3, hx3, h⟩ := bs h
     obtain ⟨r4, hr4, h⟩ := bs h
     obtain ⟨x5, hx5, h⟩ := bs h
     exact loop_nQ [.le e_GExpr a0, .lT c1, .na hi2, .ix hx3 (eq_GExpr x3), .cl (H_laws_toExpr x3 _ hr4), .na hi2, .ix hx5 (oeq_GExpr x5), .ix hx5 (oeq_GExpr x5), ⟨.setL (eL o_GExpr v2) i2 [.int .i64 r4.Kind, .int .i64 r4.N, .own 1 (eL e_u8 r4.S), .own 1 (eL (o_sl 1 e_u8) r4.K), .own 5 (eL o_GExpr r4.Kids)], .l (eL o_GExpr (v2.set i2 r4)), (A.setL (oeq_GExpr r4))⟩, .ad v1 1] (by kernel_rfl) (ih (w64 (v1 + 1)) (v2.set i2 r4) o h)
    ·obtain rfl := Option.some.inj h
     exact loop_eQ [.le e_GExpr a0, .lF c1] (by kernel_rfl) (by intro h; cases h)

def T_laws_toExprS (G_laws_toExpr : GExpr → Option GExpr) (n : Nat) (a0 : (List GExpr)) : Option (List GExpr) :=
  (madeO 88 ((a0.length : Nat) : Int)).bind fun k1 =>
  (L_laws_toExprS_l0 G_laws_toExpr a0 n 0 (List.replicate k1 (GExpr.mk 0 0 [] [] []))).bind fun ⟨o2_0, o2_1⟩ =>
  some o2_1

set_option maxRecDepth 100000 in
theorem fd_56 : cfg.funcs 56 = some (bodyOf Try.f56, Try.f56.ntmps, Try.f56.results.toList) := fn_of Try.func56 (by kernel_rfl) (by kernel_rfl)
theorem g_laws_toExprS (G_laws_toExpr : GExpr → Option GExpr) (H_laws_toExpr : ∀ (a0 : GExpr) (r : GExpr), G_laws_toExpr a0 = some r → (mach cfg).call 18 [] [.val true [.int .i64 a0.Kind, .int .i64 a0.N, .seq (eL e_u8 a0.S), .seq (eL (e_sl e_u8) a0.K), .seq (eL e_GExpr a0.Kids)]] = some (.val true [.int .i64 r.Kind, .int .i64 r.N, .own 1 (eL e_u8 r.S), .own 1 (eL (o_sl 1 e_u8) r.K), .own 5 (eL o_GExpr r.Kids)], [])) (n : Nat) (a0 : (List GExpr)) (r : (List GExpr)) (h : T_laws_toExprS G_laws_toExpr n a0 = some r) : (mach cfg).call 56 [] [.val false [.seq (eL e_GExpr a0)]] = some (.val false [.own 5 (eL o_GExpr r)], []) := by
  unfold T_laws_toExprS at h
  obtain ⟨k1, hk1, h⟩ := bs h
  obtain ⟨⟨o2_0, o2_1⟩, ho2, h⟩ := bs h
  try dsimp only at h
  obtain rfl := Option.some.inj h
  exact call_wQ [.le e_GExpr a0, .eTo ((a0.length : Nat) : Int) ((a0.length : Nat) : Int) rfl, ⟨.made 88 ((a0.length : Nat) : Int), .n k1, (A.made hk1)⟩, ⟨.rep k1 [.int .i64 0, .int .i64 0, .own 1 [], .own 1 [], .own 5 []], .l (eL o_GExpr (List.replicate k1 (GExpr.mk 0 0 [] [] []))), (A.rep (oeq_GExpr (GExpr.mk 0 0 [] [] [])))⟩, .lp (gl_laws_toExprS_l0 G_laws_toExpr H_laws_toExpr a0 _ 0 (List.replicate k1 (GExpr.mk 0 0 [] [] [])) _ ho2)] rfl fd_56 (by kernel_rfl)

def T_laws_toExpr (G_laws_toExprS : (List GExpr) → Option (List GExpr)) (a0 : GExpr) : Option GExpr :=
  (S_laws_toByteS a0.S).bind fun r1 =>
  (S_laws_toByteSS a0.K).bind fun r2 =>
  (G_laws_toExprS a0.Kids).bind fun r3 =>
  some (GExpr.mk a0.Kind a0.N r1 r2 r3)

set_option maxRecDepth 100000 in
theorem fd_18 : cfg.funcs 18 = some (bodyOf Try.f18, Try.f18.ntmps, Try.f18.results.toList) := fn_of Try.func18 (by kernel_rfl) (by kernel_rfl)
theorem g_laws_toExpr (G_laws_toExprS : (List GExpr) → Option (List GExpr)) (H_laws_toExprS : ∀ (a0 : (List GExpr)) (r : (List GExpr)), G_laws_toExprS a0 = some r → (mach cfg).call 56 [] [.val false [.seq (eL e_GExpr a0)]] = some (.val false [.own 5 (eL o_GExpr r)], [])) (a0 : GExpr) (r : GExpr) (h : T_laws_toExpr G_laws_toExprS a0 = some r) : (mach cfg).call 18 [] [.val true [.int .i64 a0.Kind, .int .i64 a0.N, .seq (eL e_u8 a0.S), .seq (eL (e_sl e_u8) a0.K), .seq (eL e_GExpr a0.Kids)]] = some (.val true [.int .i64 r.Kind, .int .i64 r.N, .own 1 (eL e_u8 r.S), .own 1 (eL (o_sl 1 e_u8) r.K), .own 5 (eL o_GExpr r.Kids)], []) := by
  unfold T_laws_toExpr at h
  obtain ⟨r1, hr1, h⟩ := bs h
  obtain ⟨r2, hr2, h⟩ := bs h
  obtain ⟨r3, hr3, h⟩ := bs h
  obtain rfl := Option.some.inj h
  exact call_wQ [.cl (ok_laws_toByteS a0.S _ hr1), .cl (ok_laws_toByteSS a0.K _ hr2), .cl (H_laws_toExprS a0.Kids _ hr3)] rfl fd_18 (by kernel_rfl)

mutual
def U_laws_toExprS : Nat → (List GExpr) → Option (List GExpr)
  | 0, _ => none
  | n + 1, a0 => T_laws_toExprS (U_laws_toExpr n) n a0
def U_laws_toExpr : Nat → GExpr → Option GExpr
  | 0, _ => none
  | n + 1, a0 => T_laws_toExpr (U_laws_toExprS n) a0
end
theorem rec_laws_toExprS (n : Nat) : (∀ (a0 : (List GExpr)) (r : (List GExpr)), U_laws_toExprS n a0 = some r → (mach cfg).call 56 [] [.val false [.seq (eL e_GExpr a0)]] = some (.val false [.own 5 (eL o_GExpr r)], [])) ∧ (∀ (a0 : GExpr) (r : GExpr), U_laws_toExpr n a0 = some r → (mach cfg).call 18 [] [.val true [.int .i64 a0.Kind, .int .i64 a0.N, .seq (eL e_u8 a0.S), .seq (eL (e_sl e_u8) a0.K), .seq (eL e_GExpr a0.Kids)]] = some (.val true [.int .i64 r.Kind, .int .i64 r.N, .own 1 (eL e_u8 r.S), .own 1 (eL (o_sl 1 e_u8) r.K), .own 5 (eL o_GExpr r.Kids)], [])) := by
  induction n with
  | zero => exact ⟨fun _ _ h => (by rw [U_laws_toExprS] at h; cases h), fun _ _ h => (by rw [U_laws_toExpr] at h; cases h)⟩
  | succ n ih =>
    obtain ⟨ih_laws_toExprS, ih_laws_toExpr⟩ := ih
    exact ⟨fun a0 r h => g_laws_toExprS (U_laws_toExpr n) ih_laws_toExpr n a0 r (by rw [U_laws_toExprS] at h; exact h),
      fun a0 r h => g_laws_toExpr (U_laws_toExprS n) ih_laws_toExprS a0 r (by rw [U_laws_toExpr] at h; exact h)⟩
theorem toExprS_T {G : GExpr → Option GExpr} {a : List GExpr} {f : Nat} (ha : a.length ≤ 2 ^ 20) (hf : a.length < f) (hG : ∀ v ∈ a, G v = some v) : T_laws_toExprS G f a = some a := by
  have loop : ∀ (d i m : Nat) (v : List GExpr), i + d = a.length → d < m → Pre a v i → ∃ z, L_laws_toExprS_l0 G a m (i : Int) v = some (z, a) := by
    intro d
    induction d with
    | zero =>
      intro i m v hi hm hp
      obtain ⟨m, rfl, _⟩ := fuel hm
      exact ⟨_, by rw [L_laws_toExprS_l0, if_neg (by omega), hp.done (by omega)]⟩
    | succ d ih =>
      intro i m v hi hm hp
      obtain ⟨m, rfl, hm'⟩ := fuel hm
      have hil : i < a.length := by omega
      rw [L_laws_toExprS_l0, if_pos (by omega), natO_nat, Option.bind_some, get_some hil, Option.bind_some, hG _ (List.getElem_mem hil), Option.bind_some, get_some (by rw [hp.1]; exact hil), Option.bind_some, w64_succ (by omega)]
      exact ih (i + 1) m _ (by omega) (by omega) (hp.step hil)
  obtain ⟨z, hz⟩ := loop a.length 0 f (List.replicate a.length (GExpr.mk 0 0 [] [] [])) (by omega) (by omega) (Pre.start (by simp))
  rw [show ((0 : Nat) : Int) = 0 from rfl] at hz
  unfold T_laws_toExprS
  rw [made_ok ha (by decide), Option.bind_some, hz]; rfl
theorem toExpr_U : ∀ (N : Nat) (v : GExpr), xsz v < N → xsz v ≤ 2 ^ 20 → ∀ f : Nat, 2 * xsz v + 3 ≤ f → U_laws_toExpr f v = some v := by
  intro N
  induction N with
  | zero => intro v hv; omega
  | succ N ih =>
    intro v hv hs f hf
    obtain ⟨f, rfl, _⟩ := fuel (show 0 < f by omega)
    obtain ⟨f, rfl, _⟩ := fuel (show 0 < f by omega)
    have he := xsz_eq v
    have hl := xszs_len v.Kids
    rw [U_laws_toExpr]
    unfold T_laws_toExpr S_laws_toByteS S_laws_toByteSS
    rw [if_pos (by omega), Option.bind_some, if_pos (by omega), Option.bind_some, U_laws_toExprS, toExprS_T (by omega) (by omega) fun x hx => ?_, Option.bind_some, GExpr.eta]
    have := xszs_mem hx
    exact ih x (by omega) (by omega) f (by omega)
def S_laws_toExprS (a0 : (List GExpr)) : Option (List GExpr) := if xszs a0 ≤ 2 ^ 20 then some a0 else none
theorem spec_laws_toExprS (a0 : (List GExpr)) (r : (List GExpr)) (h : S_laws_toExprS a0 = some r) : ∃ n, U_laws_toExprS n a0 = some r := by
  unfold S_laws_toExprS at h
  obtain ⟨ha, h⟩ := need_c h
  have hl := xszs_len a0
  refine ⟨2 * xszs a0 + 5, ?_⟩
  rw [U_laws_toExprS, toExprS_T (by omega) (by omega) fun x hx => ?_, h]
  have := xszs_mem hx
  exact toExpr_U _ x (Nat.lt_succ_self _) (by omega) _ (by omega)
def S_laws_toExpr (a0 : GExpr) : Option GExpr := if xsz a0 ≤ 2 ^ 20 then some a0 else none
theorem spec_laws_toExpr (a0 : GExpr) (r : GExpr) (h : S_laws_toExpr a0 = some r) : ∃ n, U_laws_toExpr n a0 = some r := by
  unfold S_laws_toExpr at h
  obtain ⟨ha, h⟩ := need_c h
  exact ⟨2 * xsz a0 + 3, by rw [← h]; exact toExpr_U _ a0 (Nat.lt_succ_self _) ha _ (Nat.le_refl _)⟩
theorem ok_laws_toExprS (a0 : (List GExpr)) (r : (List GExpr)) (h : S_laws_toExprS a0 = some r) : (mach cfg).call 56 [] [.val false [.seq (eL e_GExpr a0)]] = some (.val false [.own 5 (eL o_GExpr r)], []) := by
  obtain ⟨n, hn⟩ := spec_laws_toExprS a0 r h
  exact (rec_laws_toExprS n).1 a0 r hn
theorem ok_laws_toExpr (a0 : GExpr) (r : GExpr) (h : S_laws_toExpr a0 = some r) : (mach cfg).call 18 [] [.val true [.int .i64 a0.Kind, .int .i64 a0.N, .seq (eL e_u8 a0.S), .seq (eL (e_sl e_u8) a0.K), .seq (eL e_GExpr a0.Kids)]] = some (.val true [.int .i64 r.Kind, .int .i64 r.N, .own 1 (eL e_u8 r.S), .own 1 (eL (o_sl 1 e_u8) r.K), .own 5 (eL o_GExpr r.Kids)], []) := by
  obtain ⟨n, hn⟩ := spec_laws_toExpr a0 r h
  exact (rec_laws_toExprS n).2 a0 r hn
def S_spec_l6arity (a0 : Int) : Option Int :=
  if a0 = 4 then
    some (-1)
  else
    if a0 = 5 then
      some (-1)
    else
      if a0 = 23 then
        some (-1)
      else
        if a0 = 8 then
          some 1
        else
          if a0 = 13 then
            some 1
          else
            if a0 = 14 then
              some 1
            else
              if a0 = 9 then
                some 2
              else
                if a0 = 15 then
                  some 2
                else
                  if a0 = 16 then
                    some 2
                  else
                    if a0 = 17 then
                      some 2
                    else
                      if a0 = 18 then
                        some 2
                      else
                        if a0 = 19 then
                          some 2
                        else
                          if a0 = 20 then
                            some 2
                          else
                            if a0 = 21 then
                              some 2
                            else
                              if a0 = 22 then
                                some 3
                              else
                                some 0

set_option maxRecDepth 100000 in
theorem fd_113 : cfg.funcs 113 = some (bodyOf Try.f113, Try.f113.ntmps, Try.f113.results.toList) := fn_of Try.func113 (by kernel_rfl) (by kernel_rfl)
theorem ok_spec_l6arity (a0 : Int) (r : Int) (h : S_spec_l6arity a0 = some r) : (mach cfg).call 113 [] [.val false [.int .i64 a0]] = some (.val false [.int .i64 r], []) := by
  unfold S_spec_l6arity at h
  rcases ite_some h with ⟨c1, h⟩ | ⟨c1, h⟩
  ·obtain rfl := Option.some.inj h
   exact call_wQ [.eT c1] rfl fd_113 (by kernel_rfl)
  ·rcases ite_some h with ⟨c2, h⟩ | ⟨c2, h⟩
   ·obtain rfl := Option.some.inj h
    exact call_wQ [.eF c1, .eT c2] rfl fd_113 (by kernel_rfl)
   ·rcases ite_some h with ⟨c3, h⟩ | ⟨c3, h⟩
    ·obtain rfl := Option.some.inj h
     exact call_wQ [.eF c1, .eF c2, .eT c3] rfl fd_113 (by kernel_rfl)
    ·rcases ite_some h with ⟨c4, h⟩ | ⟨c4, h⟩
     ·obtain rfl := Option.some.inj h
      exact call_wQ [.eF c1, .eF c2, .eF c3, .eT c4] rfl fd_113 (by kernel_rfl)
     ·rcases ite_some h with ⟨c5, h⟩ | ⟨c5, h⟩
      ·obtain rfl := Option.some.inj h
       exact call_wQ [.eF c1, .eF c2, .eF c3, .eF c4, .eT c5] rfl fd_113 (by kernel_rfl)
      ·rcases ite_some h with ⟨c6, h⟩ | ⟨c6, h⟩
       ·obtain rfl := Option.some.inj h
        exact call_wQ [.eF c1, .eF c2, .eF c3, .eF c4, .eF c5, .eT c6] rfl fd_113 (by kernel_rfl)
       ·rcases ite_some h with ⟨c7, h⟩ | ⟨c7, h⟩
        ·obtain rfl := Option.some.inj h
         exact call_wQ [.eF c1, .eF c2, .eF c3, .eF c4, .eF c5, .eF c6, .eT c7] rfl fd_113 (by kernel_rfl)
        ·rcases ite_some h with ⟨c8, h⟩ | ⟨c8, h⟩
         ·obtain rfl := Option.some.inj h
          exact call_wQ [.eF c1, .eF c2, .eF c3, .eF c4, .eF c5, .eF c6, .eF c7, .eT c8] rfl fd_113 (by kernel_rfl)
         ·rcases ite_some h with ⟨c9, h⟩ | ⟨c9, h⟩
          ·obtain rfl := Option.some.inj h
           exact call_wQ [.eF c1, .eF c2, .eF c3, .eF c4, .eF c5, .eF c6, .eF c7, .eF c8, .eT c9] rfl fd_113 (by kernel_rfl)
          ·rcases ite_some h with ⟨c10, h⟩ | ⟨c10, h⟩
           ·obtain rfl := Option.some.inj h
            exact call_wQ [.eF c1, .eF c2, .eF c3, .eF c4, .eF c5, .eF c6, .eF c7, .eF c8, .eF c9, .eT c10] rfl fd_113 (by kernel_rfl)
           ·rcases ite_some h with ⟨c11, h⟩ | ⟨c11, h⟩
            ·obtain rfl := Option.some.inj h
             exact call_wQ [.eF c1, .eF c2, .eF c3, .eF c4, .eF c5, .eF c6, .eF c7, .eF c8, .eF c9, .eF c10, .eT c11] rfl fd_113 (by kernel_rfl)
            ·rcases ite_some h with ⟨c12, h⟩ | ⟨c12, h⟩
             ·obtain rfl := Option.some.inj h
              exact call_wQ [.eF c1, .eF c2, .eF c3, .eF c4, .eF c5, .eF c6, .eF c7, .eF c8, .eF c9, .eF c10, .eF c11, .eT c12] rfl fd_113 (by kernel_rfl)
             ·rcases ite_some h with ⟨c13, h⟩ | ⟨c13, h⟩
              ·obtain rfl := Option.some.inj h
               exact call_wQ [.eF c1, .eF c2, .eF c3, .eF c4, .eF c5, .eF c6, .eF c7, .eF c8, .eF c9, .eF c10, .eF c11, .eF c12, .eT c13] rfl fd_113 (by kernel_rfl)
              ·rcases ite_some h with ⟨c14, h⟩ | ⟨c14, h⟩
               ·obtain rfl := Option.some.inj h
                exact call_wQ [.eF c1, .eF c2, .eF c3, .eF c4, .eF c5, .eF c6, .eF c7, .eF c8, .eF c9, .eF c10, .eF c11, .eF c12, .eF c13, .eT c14] rfl fd_113 (by kernel_rfl)
               ·rcases ite_some h with ⟨c15, h⟩ | ⟨c15, h⟩
                ·obtain rfl := Option.some.inj h
                 exact call_wQ [.eF c1, .eF c2, .eF c3, .eF c4, .eF c5, .eF c6, .eF c7, .eF c8, .eF c9, .eF c10, .eF c11, .eF c12, .eF c13, .eF c14, .eT c15] rfl fd_113 (by kernel_rfl)
                ·obtain rfl := Option.some.inj h
                 exact call_wQ [.eF c1, .eF c2, .eF c3, .eF c4, .eF c5, .eF c6, .eF c7, .eF c8, .eF c9, .eF c10, .eF c11, .eF c12, .eF c13, .eF c14, .eF c15] rfl fd_113 (by kernel_rfl)

def L_spec_NameOk_l0 (a0 : (List UInt8)) : Nat → Int → Option (Bool ⊕ Int)
  | 0, _ => none
  | m + 1, v1 =>
    if v1 < ((a0.length : Nat) : Int) then
      (natO v1).bind fun i2 =>
      (a0[i2]?).bind fun x3 =>
      if ((x3.toNat : Nat) : Int) < 97 then
        some (.inl false)
      else
        if 122 < ((x3.toNat : Nat) : Int) then
          some (.inl false)
        else
          L_spec_NameOk_l0 a0 m (w64 (v1 + 1))
    else
      some (.inr v1)

theorem gl_spec_NameOk_l0 (a0 : (List UInt8)) (m : Nat) : ∀ (v1 : Int) (o : (Bool ⊕ Int)), L_spec_NameOk_l0 a0 m v1 = some o → (mach cfg).loop 54 (loopB Try.f54 0) ⟨[(0, .val false [.seq (eL e_u8 a0)]), (3, .val false [.int .i64 v1])], [], 0⟩ = some (match o with | .inl o_0 => (.ret, (⟨[(2, .val false [.bool o_0])], [], 0⟩ : S)) | .inr (o_1) => (.exit 0, (⟨[(0, .val false [.seq (eL e_u8 a0)]), (3, .val false [.int .i64 o_1]), (15, .val false [.bool false])], [], 0⟩ : S))) := by
  induction m with
  | zero => intro v1 o h; cases h
  | succ m ih =>
    intro v1 o h
    rw [L_spec_NameOk_l0] at h
    rcases ite_some h with ⟨c1, h⟩ | ⟨c1, h⟩
    ·obtain ⟨i2, hi2, h⟩ := bs h
     obtain ⟨x3, hx3, h⟩ := bs h
     rcases ite_some h with ⟨c4, h⟩ | ⟨c4, h⟩
     ·obtain rfl := Option.some.inj h
      exact loop_eQ [.le e_u8 a0, .lT c1, .na hi2, .ix0 e_u8 hx3, .lT c4] (by kernel_rfl) (by intro h; cases h)
     ·rcases ite_some h with ⟨c5, h⟩ | ⟨c5, h⟩
      ·obtain rfl := Option.some.inj h
       exact loop_eQ [.le e_u8 a0, .lT c1, .na hi2, .ix0 e_u8 hx3, .lF c4, .na hi2, .ix0 e_u8 hx3, .lT c5] (by kernel_rfl) (by intro h; cases h)
      ·exact loop_nQ [.le e_u8 a0, .lT c1, .na hi2, .ix0 e_u8 hx3, .lF c4, .na hi2, .ix0 e_u8 hx3, .lF c5, .ad v1 1] (by kernel_rfl) (ih (w64 (v1 + 1)) o h)
    ·obtain rfl := Option.some.inj h
     exact loop_eQ [.le e_u8 a0, .lF c1] (by kernel_rfl) (by intro h; cases h)

def T_spec_NameOk (n : Nat) (a0 : (List UInt8)) : Option Bool :=
  if ((a0.length : Nat) : Int) < 1 then
    some false
  else
    if 8 < ((a0.length : Nat) : Int) then
      some false
    else
      (L_spec_NameOk_l0 a0 n 0).bind fun o3 =>
      match o3 with
      | .inl o3_0 =>
        some o3_0
      | .inr (o3_1) =>
        some true

set_option maxRecDepth 100000 in
theorem fd_54 : cfg.funcs 54 = some (bodyOf Try.f54, Try.f54.ntmps, Try.f54.results.toList) := fn_of Try.func54 (by kernel_rfl) (by kernel_rfl)
theorem g_spec_NameOk (n : Nat) (a0 : (List UInt8)) (r : Bool) (h : T_spec_NameOk n a0 = some r) : (mach cfg).call 54 [] [.val false [.seq (eL e_u8 a0)]] = some (.val false [.bool r], []) := by
  unfold T_spec_NameOk at h
  rcases ite_some h with ⟨c1, h⟩ | ⟨c1, h⟩
  ·obtain rfl := Option.some.inj h
   exact call_wQ [.le e_u8 a0, .lT c1] rfl fd_54 (by kernel_rfl)
  ·rcases ite_some h with ⟨c2, h⟩ | ⟨c2, h⟩
   ·obtain rfl := Option.some.inj h
    exact call_wQ [.le e_u8 a0, .lF c1, .le e_u8 a0, .lT c2] rfl fd_54 (by kernel_rfl)
   ·obtain ⟨o3, ho3, h⟩ := bs h
    rcases o3 with o3_0 | o3_1
    · try dsimp only at h
      obtain rfl := Option.some.inj h
      exact call_wQ [.le e_u8 a0, .lF c1, .le e_u8 a0, .lF c2, .lp (gl_spec_NameOk_l0 a0 _ 0 _ ho3)] rfl fd_54 (by kernel_rfl)
    · try dsimp only at h
      obtain rfl := Option.some.inj h
      exact call_wQ [.le e_u8 a0, .lF c1, .le e_u8 a0, .lF c2, .lp (gl_spec_NameOk_l0 a0 _ 0 _ ho3)] rfl fd_54 (by kernel_rfl)

theorem spec_NameOk_loop {a : List UInt8} (ha : a.length ≤ 2 ^ 20) : ∀ (d i m : Nat), i + d = a.length → d < m → ∃ z, L_spec_NameOk_l0 a m (i : Int) = some (if (a.drop i).all (inB 97 122) = true then .inr z else .inl false) := by
  intro d
  induction d with
  | zero =>
    intro i m hi hm
    obtain ⟨m, rfl, _⟩ := fuel hm
    exact ⟨_, by rw [L_spec_NameOk_l0, if_neg (by omega), List.drop_eq_nil_of_le (by omega)]; rfl⟩
  | succ d ih =>
    intro i m hi hm
    obtain ⟨m, rfl, hm'⟩ := fuel hm
    have hil : i < a.length := by omega
    rw [L_spec_NameOk_l0, if_pos (by omega), natO_nat, Option.bind_some, get_some hil, Option.bind_some, w64_succ (by omega), drop_cons hil, List.all_cons]
    by_cases h1 : ((a[i].toNat : Nat) : Int) < 97
    · exact ⟨0, by rw [if_pos h1, if_neg]; simp [inB]; omega⟩
    · rw [if_neg h1]
      by_cases h2 : (122 : Int) < ((a[i].toNat : Nat) : Int)
      · exact ⟨0, by rw [if_pos h2, if_neg]; simp [inB]; omega⟩
      · rw [if_neg h2, show inB 97 122 a[i] = true by simp [inB]; omega, Bool.true_and]
        exact ih (i + 1) m (by omega) (by omega)
def S_spec_NameOk (a0 : (List UInt8)) : Option Bool := if a0.length ≤ 2 ^ 20 then some (nameB a0) else none
theorem spec_spec_NameOk (a0 : (List UInt8)) (r : Bool) (h : S_spec_NameOk a0 = some r) : ∃ n, T_spec_NameOk n a0 = some r := by
  unfold S_spec_NameOk at h
  obtain ⟨ha, h⟩ := need_c h
  refine ⟨a0.length + 1, ?_⟩
  obtain ⟨z, hz⟩ := spec_NameOk_loop ha a0.length 0 (a0.length + 1) (by omega) (by omega)
  rw [show ((0 : Nat) : Int) = 0 from rfl, List.drop_zero] at hz
  unfold T_spec_NameOk
  rw [← h, hz]
  unfold nameB
  by_cases h1 : 1 ≤ a0.length
  · rw [if_neg (by omega)]
    by_cases hl : a0.length ≤ 8
    · rw [if_neg (by omega), decide_eq_true ⟨h1, hl⟩]
      cases a0.all (inB 97 122) <;> rfl
    · rw [if_pos (by omega), decide_eq_false (fun h => hl h.2)]; rfl
  · rw [if_pos (by omega), decide_eq_false (fun h => h1 h.1)]; rfl
theorem ok_spec_NameOk (a0 : (List UInt8)) (r : Bool) (h : S_spec_NameOk a0 = some r) : (mach cfg).call 54 [] [.val false [.seq (eL e_u8 a0)]] = some (.val false [.bool r], []) := by
  obtain ⟨n, hn⟩ := spec_spec_NameOk a0 r h
  exact g_spec_NameOk n a0 r hn
def L_spec_l2text_l0 (a0 : (List UInt8)) : Nat → Int → Option (Bool ⊕ Int)
  | 0, _ => none
  | m + 1, v1 =>
    if v1 < ((a0.length : Nat) : Int) then
      (natO v1).bind fun i2 =>
      (a0[i2]?).bind fun x3 =>
      if ((x3.toNat : Nat) : Int) < 32 then
        some (.inl false)
      else
        if 126 < ((x3.toNat : Nat) : Int) then
          some (.inl false)
        else
          L_spec_l2text_l0 a0 m (w64 (v1 + 1))
    else
      some (.inr v1)

theorem gl_spec_l2text_l0 (a0 : (List UInt8)) (m : Nat) : ∀ (v1 : Int) (o : (Bool ⊕ Int)), L_spec_l2text_l0 a0 m v1 = some o → (mach cfg).loop 108 (loopB Try.f108 0) ⟨[(0, .val false [.seq (eL e_u8 a0)]), (3, .val false [.int .i64 v1])], [], 0⟩ = some (match o with | .inl o_0 => (.ret, (⟨[(2, .val false [.bool o_0])], [], 0⟩ : S)) | .inr (o_1) => (.exit 0, (⟨[(0, .val false [.seq (eL e_u8 a0)]), (3, .val false [.int .i64 o_1]), (10, .val false [.bool false])], [], 0⟩ : S))) := by
  induction m with
  | zero => intro v1 o h; cases h
  | succ m ih =>
    intro v1 o h
    rw [L_spec_l2text_l0] at h
    rcases ite_some h with ⟨c1, h⟩ | ⟨c1, h⟩
    ·obtain ⟨i2, hi2, h⟩ := bs h
     obtain ⟨x3, hx3, h⟩ := bs h
     rcases ite_some h with ⟨c4, h⟩ | ⟨c4, h⟩
     ·obtain rfl := Option.some.inj h
      exact loop_eQ [.le e_u8 a0, .lT c1, .na hi2, .ix0 e_u8 hx3, .lT c4] (by kernel_rfl) (by intro h; cases h)
     ·rcases ite_some h with ⟨c5, h⟩ | ⟨c5, h⟩
      ·obtain rfl := Option.some.inj h
       exact loop_eQ [.le e_u8 a0, .lT c1, .na hi2, .ix0 e_u8 hx3, .lF c4, .na hi2, .ix0 e_u8 hx3, .lT c5] (by kernel_rfl) (by intro h; cases h)
      ·exact loop_nQ [.le e_u8 a0, .lT c1, .na hi2, .ix0 e_u8 hx3, .lF c4, .na hi2, .ix0 e_u8 hx3, .lF c5, .ad v1 1] (by kernel_rfl) (ih (w64 (v1 + 1)) o h)
    ·obtain rfl := Option.some.inj h
     exact loop_eQ [.le e_u8 a0, .lF c1] (by kernel_rfl) (by intro h; cases h)

def T_spec_l2text (n : Nat) (a0 : (List UInt8)) : Option Bool :=
  if 20 < ((a0.length : Nat) : Int) then
    some false
  else
    (L_spec_l2text_l0 a0 n 0).bind fun o2 =>
    match o2 with
    | .inl o2_0 =>
      some o2_0
    | .inr (o2_1) =>
      some true

set_option maxRecDepth 100000 in
theorem fd_108 : cfg.funcs 108 = some (bodyOf Try.f108, Try.f108.ntmps, Try.f108.results.toList) := fn_of Try.func108 (by kernel_rfl) (by kernel_rfl)
theorem g_spec_l2text (n : Nat) (a0 : (List UInt8)) (r : Bool) (h : T_spec_l2text n a0 = some r) : (mach cfg).call 108 [] [.val false [.seq (eL e_u8 a0)]] = some (.val false [.bool r], []) := by
  unfold T_spec_l2text at h
  rcases ite_some h with ⟨c1, h⟩ | ⟨c1, h⟩
  ·obtain rfl := Option.some.inj h
   exact call_wQ [.le e_u8 a0, .lT c1] rfl fd_108 (by kernel_rfl)
  ·obtain ⟨o2, ho2, h⟩ := bs h
   rcases o2 with o2_0 | o2_1
   · try dsimp only at h
     obtain rfl := Option.some.inj h
     exact call_wQ [.le e_u8 a0, .lF c1, .lp (gl_spec_l2text_l0 a0 _ 0 _ ho2)] rfl fd_108 (by kernel_rfl)
   · try dsimp only at h
     obtain rfl := Option.some.inj h
     exact call_wQ [.le e_u8 a0, .lF c1, .lp (gl_spec_l2text_l0 a0 _ 0 _ ho2)] rfl fd_108 (by kernel_rfl)

theorem spec_l2text_loop {a : List UInt8} (ha : a.length ≤ 2 ^ 20) : ∀ (d i m : Nat), i + d = a.length → d < m → ∃ z, L_spec_l2text_l0 a m (i : Int) = some (if (a.drop i).all (inB 32 126) = true then .inr z else .inl false) := by
  intro d
  induction d with
  | zero =>
    intro i m hi hm
    obtain ⟨m, rfl, _⟩ := fuel hm
    exact ⟨_, by rw [L_spec_l2text_l0, if_neg (by omega), List.drop_eq_nil_of_le (by omega)]; rfl⟩
  | succ d ih =>
    intro i m hi hm
    obtain ⟨m, rfl, hm'⟩ := fuel hm
    have hil : i < a.length := by omega
    rw [L_spec_l2text_l0, if_pos (by omega), natO_nat, Option.bind_some, get_some hil, Option.bind_some, w64_succ (by omega), drop_cons hil, List.all_cons]
    by_cases h1 : ((a[i].toNat : Nat) : Int) < 32
    · exact ⟨0, by rw [if_pos h1, if_neg]; simp [inB]; omega⟩
    · rw [if_neg h1]
      by_cases h2 : (126 : Int) < ((a[i].toNat : Nat) : Int)
      · exact ⟨0, by rw [if_pos h2, if_neg]; simp [inB]; omega⟩
      · rw [if_neg h2, show inB 32 126 a[i] = true by simp [inB]; omega, Bool.true_and]
        exact ih (i + 1) m (by omega) (by omega)
def S_spec_l2text (a0 : (List UInt8)) : Option Bool := if a0.length ≤ 2 ^ 20 then some (textB a0) else none
theorem spec_spec_l2text (a0 : (List UInt8)) (r : Bool) (h : S_spec_l2text a0 = some r) : ∃ n, T_spec_l2text n a0 = some r := by
  unfold S_spec_l2text at h
  obtain ⟨ha, h⟩ := need_c h
  refine ⟨a0.length + 1, ?_⟩
  obtain ⟨z, hz⟩ := spec_l2text_loop ha a0.length 0 (a0.length + 1) (by omega) (by omega)
  rw [show ((0 : Nat) : Int) = 0 from rfl, List.drop_zero] at hz
  unfold T_spec_l2text
  rw [← h, hz]
  unfold textB
  by_cases hl : a0.length ≤ 20
  · rw [if_neg (by omega), decide_eq_true hl]
    cases a0.all (inB 32 126) <;> rfl
  · rw [if_pos (by omega), decide_eq_false hl]; rfl
theorem ok_spec_l2text (a0 : (List UInt8)) (r : Bool) (h : S_spec_l2text a0 = some r) : (mach cfg).call 108 [] [.val false [.seq (eL e_u8 a0)]] = some (.val false [.bool r], []) := by
  obtain ⟨n, hn⟩ := spec_spec_l2text a0 r h
  exact g_spec_l2text n a0 r hn
def L_spec_l6kept_l0 (a0 : (List UInt8)) (v2 : (List (List UInt8))) : Nat → Int → Option (Bool ⊕ Int)
  | 0, _ => none
  | m + 1, v1 =>
    if v1 < ((v2.length : Nat) : Int) then
      (natO v1).bind fun i2 =>
      (v2[i2]?).bind fun x3 =>
      if x3 = a0 then
        some (.inl true)
      else
        L_spec_l6kept_l0 a0 v2 m (w64 (v1 + 1))
    else
      some (.inr v1)

theorem gl_spec_l6kept_l0 (a0 : (List UInt8)) (v2 : (List (List UInt8))) (m : Nat) : ∀ (v1 : Int) (o : (Bool ⊕ Int)), L_spec_l6kept_l0 a0 v2 m v1 = some o → (mach cfg).loop 114 (loopB Try.f114 0) ⟨[(0, .val false [.seq (eL e_u8 a0)]), (3, .val false [.ref 0]), (4, .val false [.int .i64 v1])], [.obj 1 (eL e_str v2)], 0⟩ = some (match o with | .inl o_0 => (.ret, (⟨[(2, .val false [.bool o_0])], [], 0⟩ : S)) | .inr (o_1) => (.exit 0, (⟨[(0, .val false [.seq (eL e_u8 a0)]), (3, .val false [.ref 0]), (4, .val false [.int .i64 o_1]), (9, .val false [.bool false])], [.obj 1 (eL e_str v2)], 0⟩ : S))) := by
  induction m with
  | zero => intro v1 o h; cases h
  | succ m ih =>
    intro v1 o h
    rw [L_spec_l6kept_l0] at h
    rcases ite_some h with ⟨c1, h⟩ | ⟨c1, h⟩
    ·obtain ⟨i2, hi2, h⟩ := bs h
     obtain ⟨x3, hx3, h⟩ := bs h
     rcases ite_some h with ⟨c4, h⟩ | ⟨c4, h⟩
     ·obtain rfl := Option.some.inj h
      exact loop_eQ [.le e_str v2, .lT c1, .na hi2, .ix0 e_str hx3, .ix0 e_str hx3, ⟨.bytes (eL e_u8 a0), .s a0, A.bytes⟩, .sT c4] (by kernel_rfl) (by intro h; cases h)
     ·exact loop_nQ [.le e_str v2, .lT c1, .na hi2, .ix0 e_str hx3, .ix0 e_str hx3, ⟨.bytes (eL e_u8 a0), .s a0, A.bytes⟩, .sF c4, .ad v1 1] (by kernel_rfl) (ih (w64 (v1 + 1)) o h)
    ·obtain rfl := Option.some.inj h
     exact loop_eQ [.le e_str v2, .lF c1] (by kernel_rfl) (by intro h; cases h)

def T_spec_l6kept (n : Nat) (a0 : (List UInt8)) : Option Bool :=
  (L_spec_l6kept_l0 a0 [[110, 117, 108, 108], [116, 114, 117, 101], [102, 97, 108, 115, 101], [105, 110, 100, 101, 120], [107, 101, 121], [118, 97, 108], [108, 111, 99, 97, 108], [114, 101, 115], [111, 117, 116], [99, 111, 117, 110, 116], [101, 97, 99, 104]] n 0).bind fun o1 =>
  match o1 with
  | .inl o1_0 =>
    some o1_0
  | .inr (o1_1) =>
    some false

set_option maxRecDepth 100000 in
theorem fd_114 : cfg.funcs 114 = some (bodyOf Try.f114, Try.f114.ntmps, Try.f114.results.toList) := fn_of Try.func114 (by kernel_rfl) (by kernel_rfl)
theorem g_spec_l6kept (n : Nat) (a0 : (List UInt8)) (r : Bool) (h : T_spec_l6kept n a0 = some r) : (mach cfg).call 114 [] [.val false [.seq (eL e_u8 a0)]] = some (.val false [.bool r], []) := by
  unfold T_spec_l6kept at h
  obtain ⟨o1, ho1, h⟩ := bs h
  rcases o1 with o1_0 | o1_1
  · try dsimp only at h
    obtain rfl := Option.some.inj h
    exact call_wQ [.lp (gl_spec_l6kept_l0 a0 [[110, 117, 108, 108], [116, 114, 117, 101], [102, 97, 108, 115, 101], [105, 110, 100, 101, 120], [107, 101, 121], [118, 97, 108], [108, 111, 99, 97, 108], [114, 101, 115], [111, 117, 116], [99, 111, 117, 110, 116], [101, 97, 99, 104]] _ 0 _ ho1)] rfl fd_114 (by kernel_rfl)
  · try dsimp only at h
    obtain rfl := Option.some.inj h
    exact call_wQ [.lp (gl_spec_l6kept_l0 a0 [[110, 117, 108, 108], [116, 114, 117, 101], [102, 97, 108, 115, 101], [105, 110, 100, 101, 120], [107, 101, 121], [118, 97, 108], [108, 111, 99, 97, 108], [114, 101, 115], [111, 117, 116], [99, 111, 117, 110, 116], [101, 97, 99, 104]] _ 0 _ ho1)] rfl fd_114 (by kernel_rfl)

theorem l6kept_loop {a : List UInt8} {l : List (List UInt8)} (hl : l.length ≤ 2 ^ 20) : ∀ (d i m : Nat), i + d = l.length → d < m → ∃ z, L_spec_l6kept_l0 a l m (i : Int) = some (if ((l.drop i).any fun w => decide (w = a)) = true then .inl true else .inr z) := by
  intro d
  induction d with
  | zero =>
    intro i m hi hm
    obtain ⟨m, rfl, _⟩ := fuel hm
    exact ⟨_, by rw [L_spec_l6kept_l0, if_neg (by omega), List.drop_eq_nil_of_le (by omega)]; rfl⟩
  | succ d ih =>
    intro i m hi hm
    obtain ⟨m, rfl, hm'⟩ := fuel hm
    have hil : i < l.length := by omega
    rw [L_spec_l6kept_l0, if_pos (by omega), natO_nat, Option.bind_some, get_some hil, Option.bind_some, w64_succ (by omega), drop_cons hil, List.any_cons]
    by_cases h : l[i] = a
    · exact ⟨0, by rw [if_pos h, decide_eq_true h, Bool.true_or]; rfl⟩
    · rw [if_neg h, decide_eq_false h, Bool.false_or]
      exact ih (i + 1) m (by omega) (by omega)
def S_spec_l6kept (a0 : (List UInt8)) : Option Bool := some (keptB a0)
theorem spec_spec_l6kept (a0 : (List UInt8)) (r : Bool) (h : S_spec_l6kept a0 = some r) : ∃ n, T_spec_l6kept n a0 = some r := by
  obtain rfl := Option.some.inj h
  obtain ⟨z, hz⟩ := l6kept_loop (a := a0) (l := keptL) (by decide) 11 0 12 (by decide) (by omega)
  rw [show ((0 : Nat) : Int) = 0 from rfl, List.drop_zero] at hz
  refine ⟨12, ?_⟩
  unfold T_spec_l6kept
  rw [show [[110, 117, 108, 108], [116, 114, 117, 101], [102, 97, 108, 115, 101], [105, 110, 100, 101, 120], [107, 101, 121], [118, 97, 108], [108, 111, 99, 97, 108], [114, 101, 115], [111, 117, 116], [99, 111, 117, 110, 116], [101, 97, 99, 104]] = keptL from rfl, hz]
  unfold keptB
  cases keptL.any fun w => decide (w = a0) <;> rfl
theorem ok_spec_l6kept (a0 : (List UInt8)) (r : Bool) (h : S_spec_l6kept a0 = some r) : (mach cfg).call 114 [] [.val false [.seq (eL e_u8 a0)]] = some (.val false [.bool r], []) := by
  obtain ⟨n, hn⟩ := spec_spec_l6kept a0 r h
  exact g_spec_l6kept n a0 r hn
def S_spec_l6free (a0 : (List UInt8)) : Option Bool :=
  (S_spec_NameOk a0).bind fun r1 =>
  match r1 with
  | true =>
    (S_spec_l6kept a0).bind fun r3 =>
    some (!r3)
  | false =>
    some false

set_option maxRecDepth 100000 in
theorem fd_115 : cfg.funcs 115 = some (bodyOf Try.f115, Try.f115.ntmps, Try.f115.results.toList) := fn_of Try.func115 (by kernel_rfl) (by kernel_rfl)
theorem ok_spec_l6free (a0 : (List UInt8)) (r : Bool) (h : S_spec_l6free a0 = some r) : (mach cfg).call 115 [] [.val false [.seq (eL e_u8 a0)]] = some (.val false [.bool r], []) := by
  unfold S_spec_l6free at h
  obtain ⟨r1, hr1, h⟩ := bs h
  cases r1 with
  | true =>
   try dsimp only at h
   obtain ⟨r3, hr3, h⟩ := bs h
   obtain rfl := Option.some.inj h
   exact call_wQ [.cl (ok_spec_NameOk a0 _ hr1), .cl (ok_spec_l6kept a0 _ hr3), .nt r3] rfl fd_115 (by kernel_rfl)
  | false =>
   try dsimp only at h
   obtain rfl := Option.some.inj h
   exact call_wQ [.cl (ok_spec_NameOk a0 _ hr1)] rfl fd_115 (by kernel_rfl)

end
end Go.Am.Try
