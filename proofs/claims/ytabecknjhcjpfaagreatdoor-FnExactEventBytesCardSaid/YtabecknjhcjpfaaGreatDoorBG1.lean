/- The functions of the program in plain Lean, and that the machine answers as they do; conditions at each theorem. -/
import Derived.Test.YtabecknjhcjpfaaGreatDoorBP1
set_option linter.unusedVariables false
set_option linter.unusedSimpArgs false
namespace Go.Am.Try
open Go.Am Go.Proofs
set_option linter.unusedVariables false
set_option maxRecDepth 20000
set_option maxHeartbeats 2000000
noncomputable section
def S_laws_szByteS (a0 : (List UInt8)) (a1 : Int) : Option Int :=
  if (w64 (a1 - ((a0.length : Nat) : Int))) < 0 then
    some (-1)
  else
    some (w64 (a1 - ((a0.length : Nat) : Int)))
set_option maxRecDepth 100000 in
theorem fd_59 : cfg.funcs 59 = some (bodyOf Tryz.f59, Tryz.f59.ntmps, Tryz.f59.results.toList) := fn_of Tryz.func59 (by kernel_rfl) (by kernel_rfl)
theorem ok_laws_szByteS (a0 : (List UInt8)) (a1 : Int) (r : Int) (h : S_laws_szByteS a0 a1 = some r) : (mach cfg).call 59 [] [.val false [.seq (eL e_u8 a0)], .val false [.int .i64 a1]] = some (.val false [.int .i64 r], []) := by
  unfold S_laws_szByteS at h
  rcases ite_some h with ⟨c1, h⟩ | ⟨c1, h⟩
  ·obtain rfl := Option.some.inj h
   exact call_wQ [.le e_u8 a0, .su a1 ((a0.length : Nat) : Int), .lT c1] rfl fd_59 (by kernel_rfl)
  ·obtain rfl := Option.some.inj h
   exact call_wQ [.le e_u8 a0, .su a1 ((a0.length : Nat) : Int), .lF c1] rfl fd_59 (by kernel_rfl)
def L_laws_szByteSS_l0 (a0 : (List (List UInt8))) : Nat → Int → Int → Option (Int ⊕ (Int × Int))
  | 0, _, _ => none
  | m + 1, v1, v2 =>
    if v2 < ((a0.length : Nat) : Int) then
      (natO v2).bind fun i2 =>
      (a0[i2]?).bind fun x3 =>
      (S_laws_szByteS x3 v1).bind fun r4 =>
      if r4 < 0 then
        some (.inl (-1))
      else
        L_laws_szByteSS_l0 a0 m r4 (w64 (v2 + 1))
    else
      some (.inr (v1, v2))
theorem gl_laws_szByteSS_l0 (a0 : (List (List UInt8))) (m : Nat) : ∀ (v1 : Int) (v2 : Int) (o : (Int ⊕ (Int × Int))), L_laws_szByteSS_l0 a0 m v1 v2 = some o → (mach cfg).loop 80 (loopB Tryz.f80 0) ⟨[(0, .val false [.seq (eL (e_sl e_u8) a0)]), (1, .val false [.int .i64 v1]), (5, .val false [.int .i64 v2])], [], 0⟩ = some (match o with | .inl o_0 => (.ret, (⟨[(4, .val false [.int .i64 o_0])], [], 0⟩ : S)) | .inr (⟨o_1_0, o_1_1⟩) => (.exit 0, (⟨[(0, .val false [.seq (eL (e_sl e_u8) a0)]), (1, .val false [.int .i64 o_1_0]), (5, .val false [.int .i64 o_1_1]), (15, .val false [.bool false])], [], 0⟩ : S))) := by
  induction m with
  | zero => intro v1 v2 o h; cases h
  | succ m ih =>
    intro v1 v2 o h
    rw [L_laws_szByteSS_l0] at h
    rcases ite_some h with ⟨c1, h⟩ | ⟨c1, h⟩
    ·obtain ⟨i2, hi2, h⟩ := bs h
     obtain ⟨x3, hx3, h⟩ := bs h
     obtain ⟨r4, hr4, h⟩ := bs h
     let p1 : List (Q cfg) := [.le (e_sl e_u8) a0, .lT c1, .na hi2, .ix0 (e_sl e_u8) hx3, .cl (ok_laws_szByteS x3 v1 _ hr4)]
     rcases ite_some h with ⟨c5, h⟩ | ⟨c5, h⟩
     ·obtain rfl := Option.some.inj h
      exact loop_eQ (p1 ++ [.lT c5]) (by kernel_rfl) (by intro h; cases h)
     ·exact loop_nQ (p1 ++ [.lF c5, .ad v2 1]) (by kernel_rfl) (ih r4 (w64 (v2 + 1)) o h)
    ·obtain rfl := Option.some.inj h
     exact loop_eQ [.le (e_sl e_u8) a0, .lF c1] (by kernel_rfl) (by intro h; cases h)
def T_laws_szByteSS (n : Nat) (a0 : (List (List UInt8))) (a1 : Int) : Option Int :=
  if (w64 (a1 - ((a0.length : Nat) : Int))) < 0 then
    some (-1)
  else
    (L_laws_szByteSS_l0 a0 n (w64 (a1 - ((a0.length : Nat) : Int))) 0).bind fun o2 =>
    match o2 with
    | .inl o2_0 =>
      some o2_0
    | .inr (⟨o2_1_0, o2_1_1⟩) =>
      some o2_1_0
set_option maxRecDepth 100000 in
theorem fd_80 : cfg.funcs 80 = some (bodyOf Tryz.f80, Tryz.f80.ntmps, Tryz.f80.results.toList) := fn_of Tryz.func80 (by kernel_rfl) (by kernel_rfl)
theorem g_laws_szByteSS (n : Nat) (a0 : (List (List UInt8))) (a1 : Int) (r : Int) (h : T_laws_szByteSS n a0 a1 = some r) : (mach cfg).call 80 [] [.val false [.seq (eL (e_sl e_u8) a0)], .val false [.int .i64 a1]] = some (.val false [.int .i64 r], []) := by
  unfold T_laws_szByteSS at h
  rcases ite_some h with ⟨c1, h⟩ | ⟨c1, h⟩
  ·obtain rfl := Option.some.inj h
   exact call_wQ [.le (e_sl e_u8) a0, .su a1 ((a0.length : Nat) : Int), .lT c1] rfl fd_80 (by kernel_rfl)
  ·obtain ⟨o2, ho2, h⟩ := bs h
   let p2 : List (Q cfg) := [.le (e_sl e_u8) a0, .su a1 ((a0.length : Nat) : Int), .lF c1, .lp (gl_laws_szByteSS_l0 a0 _ (w64 (a1 - ((a0.length : Nat) : Int))) 0 _ ho2)]
   rcases o2 with o2_0 | ⟨o2_1_0, o2_1_1⟩
   · try dsimp only at h
     obtain rfl := Option.some.inj h
     exact call_wQ p2 rfl fd_80 (by kernel_rfl)
   · try dsimp only at h
     obtain rfl := Option.some.inj h
     exact call_wQ p2 rfl fd_80 (by kernel_rfl)
def MdB (k : List (List UInt8)) : Prop := k.length <= 2 ^ 63 - 1 ∧ ∀ b ∈ k, b.length <= 2 ^ 63 - 1
theorem szByteS_eq {a : List UInt8} {n : Int} (h : a.length <= 2 ^ 63 - 1) (h0 : 0 <= n) (h1 : n <= 2 ^ 20) : S_laws_szByteS a n = some (if (a.length : Int) <= n then n - a.length else -1) := by
  unfold S_laws_szByteS
  rw [w64_id (by omega) (by omega)]
  by_cases hc : (a.length : Int) <= n
  · rw [if_neg (by omega), if_pos hc]
  · rw [if_pos (by omega), if_neg hc]
theorem szByteSS_loop {a : List (List UInt8)} (ha : a.length <= 2 ^ 20) (hb : ∀ b ∈ a, b.length <= 2 ^ 63 - 1) : ∀ (d i m : Nat) (r : Int), i + d = a.length → d < m → 0 <= r → r <= 2 ^ 20 →
    ∃ z, L_laws_szByteSS_l0 a m r (i : Int) = some (if (((a.drop i).map List.length).sum : Int) <= r then .inr (r - ((a.drop i).map List.length).sum, z) else .inl (-1)) := by
  intro d
  induction d with
  | zero =>
    intro i m r hi hm h0 h1
    obtain ⟨m, rfl, _⟩ := fuel hm
    refine ⟨(i : Int), ?_⟩
    rw [L_laws_szByteSS_l0, if_neg (by omega), List.drop_eq_nil_of_le (by omega)]
    rw [List.map_nil, List.sum_nil, if_pos (by simpa using h0)]; simp
  | succ d ih =>
    intro i m r hi hm h0 h1
    obtain ⟨m, rfl, hm'⟩ := fuel hm
    have hil : i < a.length := by omega
    have hx := hb a[i] (List.getElem_mem hil)
    rw [L_laws_szByteSS_l0, if_pos (by omega), natO_nat, Option.bind_some, get_some hil, Option.bind_some, szByteS_eq hx h0 h1, Option.bind_some]
    rw [drop_cons hil, List.map_cons, List.sum_cons]
    by_cases hc : ((a[i]).length : Int) <= r
    · rw [if_pos hc, if_neg (by omega), w64_succ (by omega)]
      obtain ⟨z, hz⟩ := ih (i + 1) m (r - (a[i]).length) (by omega) (by omega) (by omega) (by omega)
      refine ⟨z, ?_⟩
      rw [hz]
      by_cases hd : (((a.drop (i + 1)).map List.length).sum : Int) <= r - (a[i]).length
      · rw [if_pos hd, if_pos (by omega)]; congr 3; omega
      · rw [if_neg hd, if_neg (by omega)]
    · refine ⟨0, ?_⟩
      rw [if_neg hc, if_pos (by omega), if_neg (by omega)]
theorem szByteSS_val {a : List (List UInt8)} {n : Int} (h : MdB a ∧ 0 <= n ∧ n <= 2 ^ 20) : T_laws_szByteSS (a.length + 1) a n = some (if (bsz a : Int) <= n then n - bsz a else -1) := by
  obtain ⟨⟨ha, hb⟩, h0, h1⟩ := h
  unfold T_laws_szByteSS
  rw [w64_id (by omega) (by omega)]
  unfold bsz
  by_cases hc : (a.length : Int) <= n
  · rw [if_neg (by omega)]
    obtain ⟨z, hz⟩ := szByteSS_loop (by omega) hb a.length 0 (a.length + 1) (n - a.length) (by omega) (by omega) (by omega) (by omega)
    rw [show ((0 : Nat) : Int) = 0 from rfl] at hz
    rw [hz]
    simp only [List.drop_zero]
    by_cases hd : ((a.map List.length).sum : Int) <= n - a.length
    · rw [if_pos hd, if_pos (by omega)]
      simp only [Option.bind_some]; congr 1; omega
    · rw [if_neg hd, if_neg (by omega)]; rfl
  · rw [if_pos (by omega), if_neg (by omega)]
open Classical in
noncomputable def S_laws_szByteSS (a0 : (List (List UInt8))) (a1 : Int) : Option Int := if MdB a0 ∧ 0 <= a1 ∧ a1 <= 2 ^ 20 then some (if (bsz a0 : Int) <= a1 then a1 - bsz a0 else -1) else none
theorem spec_laws_szByteSS (a0 : (List (List UInt8))) (a1 : Int) (r : Int) (h : S_laws_szByteSS a0 a1 = some r) : ∃ n, T_laws_szByteSS n a0 a1 = some r := by
  unfold S_laws_szByteSS at h
  obtain ⟨hp, h⟩ := need_c h
  exact ⟨_, by rw [<- h]; exact szByteSS_val hp⟩
theorem ok_laws_szByteSS (a0 : (List (List UInt8))) (a1 : Int) (r : Int) (h : S_laws_szByteSS a0 a1 = some r) : (mach cfg).call 80 [] [.val false [.seq (eL (e_sl e_u8) a0)], .val false [.int .i64 a1]] = some (.val false [.int .i64 r], []) := by
  obtain ⟨n, hn⟩ := spec_laws_szByteSS a0 a1 r h
  exact g_laws_szByteSS n a0 a1 r hn
def L_laws_szValueS_l0 (G_laws_szValue : GValue → Int → Option Int) (a0 : (List GValue)) : Nat → Int → Int → Option (Int ⊕ (Int × Int))
  | 0, _, _ => none
  | m + 1, v1, v2 =>
    if v2 < ((a0.length : Nat) : Int) then
      (natO v2).bind fun i2 =>
      (a0[i2]?).bind fun x3 =>
      (G_laws_szValue x3 v1).bind fun r4 =>
      if r4 < 0 then
        some (.inl (-1))
      else
        L_laws_szValueS_l0 G_laws_szValue a0 m r4 (w64 (v2 + 1))
    else
      some (.inr (v1, v2))
theorem gl_laws_szValueS_l0 (G_laws_szValue : GValue → Int → Option Int) (H_laws_szValue : ∀ (a0 : GValue) (a1 : Int) (r : Int), G_laws_szValue a0 a1 = some r → (mach cfg).call 79 [] [.val true [.int .i64 a0.Kind, .int .i64 a0.N, .seq (eL e_u8 a0.S), .seq (eL (e_sl e_u8) a0.K), .seq (eL e_GValue a0.L)], .val false [.int .i64 a1]] = some (.val false [.int .i64 r], [])) (a0 : (List GValue)) (m : Nat) : ∀ (v1 : Int) (v2 : Int) (o : (Int ⊕ (Int × Int))), L_laws_szValueS_l0 G_laws_szValue a0 m v1 v2 = some o → (mach cfg).loop 123 (loopB Tryz.f123 0) ⟨[(0, .val false [.seq (eL e_GValue a0)]), (1, .val false [.int .i64 v1]), (5, .val false [.int .i64 v2])], [], 0⟩ = some (match o with | .inl o_0 => (.ret, (⟨[(4, .val false [.int .i64 o_0])], [], 0⟩ : S)) | .inr (⟨o_1_0, o_1_1⟩) => (.exit 0, (⟨[(0, .val false [.seq (eL e_GValue a0)]), (1, .val false [.int .i64 o_1_0]), (5, .val false [.int .i64 o_1_1]), (15, .val false [.bool false])], [], 0⟩ : S))) := by
  induction m with
  | zero => intro v1 v2 o h; cases h
  | succ m ih =>
    intro v1 v2 o h
    rw [L_laws_szValueS_l0] at h
    rcases ite_some h with ⟨c1, h⟩ | ⟨c1, h⟩
    ·obtain ⟨i2, hi2, h⟩ := bs h
     obtain ⟨x3, hx3, h⟩ := bs h
     obtain ⟨r4, hr4, h⟩ := bs h
     let p3 : List (Q cfg) := [.le e_GValue a0, .lT c1, .na hi2, .ix hx3 (eq_GValue x3), .cl (H_laws_szValue x3 v1 _ hr4)]
     rcases ite_some h with ⟨c5, h⟩ | ⟨c5, h⟩
     ·obtain rfl := Option.some.inj h
      exact loop_eQ (p3 ++ [.lT c5]) (by kernel_rfl) (by intro h; cases h)
     ·exact loop_nQ (p3 ++ [.lF c5, .ad v2 1]) (by kernel_rfl) (ih r4 (w64 (v2 + 1)) o h)
    ·obtain rfl := Option.some.inj h
     exact loop_eQ [.le e_GValue a0, .lF c1] (by kernel_rfl) (by intro h; cases h)
def T_laws_szValueS (G_laws_szValue : GValue → Int → Option Int) (n : Nat) (a0 : (List GValue)) (a1 : Int) : Option Int :=
  if (w64 (a1 - ((a0.length : Nat) : Int))) < 0 then
    some (-1)
  else
    (L_laws_szValueS_l0 G_laws_szValue a0 n (w64 (a1 - ((a0.length : Nat) : Int))) 0).bind fun o2 =>
    match o2 with
    | .inl o2_0 =>
      some o2_0
    | .inr (⟨o2_1_0, o2_1_1⟩) =>
      some o2_1_0
set_option maxRecDepth 100000 in
theorem fd_123 : cfg.funcs 123 = some (bodyOf Tryz.f123, Tryz.f123.ntmps, Tryz.f123.results.toList) := fn_of Tryz.func123 (by kernel_rfl) (by kernel_rfl)
theorem g_laws_szValueS (G_laws_szValue : GValue → Int → Option Int) (H_laws_szValue : ∀ (a0 : GValue) (a1 : Int) (r : Int), G_laws_szValue a0 a1 = some r → (mach cfg).call 79 [] [.val true [.int .i64 a0.Kind, .int .i64 a0.N, .seq (eL e_u8 a0.S), .seq (eL (e_sl e_u8) a0.K), .seq (eL e_GValue a0.L)], .val false [.int .i64 a1]] = some (.val false [.int .i64 r], [])) (n : Nat) (a0 : (List GValue)) (a1 : Int) (r : Int) (h : T_laws_szValueS G_laws_szValue n a0 a1 = some r) : (mach cfg).call 123 [] [.val false [.seq (eL e_GValue a0)], .val false [.int .i64 a1]] = some (.val false [.int .i64 r], []) := by
  unfold T_laws_szValueS at h
  rcases ite_some h with ⟨c1, h⟩ | ⟨c1, h⟩
  ·obtain rfl := Option.some.inj h
   exact call_wQ [.le e_GValue a0, .su a1 ((a0.length : Nat) : Int), .lT c1] rfl fd_123 (by kernel_rfl)
  ·obtain ⟨o2, ho2, h⟩ := bs h
   let p4 : List (Q cfg) := [.le e_GValue a0, .su a1 ((a0.length : Nat) : Int), .lF c1, .lp (gl_laws_szValueS_l0 G_laws_szValue H_laws_szValue a0 _ (w64 (a1 - ((a0.length : Nat) : Int))) 0 _ ho2)]
   rcases o2 with o2_0 | ⟨o2_1_0, o2_1_1⟩
   · try dsimp only at h
     obtain rfl := Option.some.inj h
     exact call_wQ p4 rfl fd_123 (by kernel_rfl)
   · try dsimp only at h
     obtain rfl := Option.some.inj h
     exact call_wQ p4 rfl fd_123 (by kernel_rfl)
def T_laws_szValue (G_laws_szValueS : (List GValue) → Int → Option Int) (a0 : GValue) (a1 : Int) : Option Int :=
  (S_laws_szByteS a0.S a1).bind fun r1 =>
  if r1 < 0 then
    some (-1)
  else
    (S_laws_szByteSS a0.K r1).bind fun r3 =>
    if r3 < 0 then
      some (-1)
    else
      (G_laws_szValueS a0.L r3).bind fun r5 =>
      if r5 < 0 then
        some (-1)
      else
        some r5
set_option maxRecDepth 100000 in
theorem fd_79 : cfg.funcs 79 = some (bodyOf Tryz.f79, Tryz.f79.ntmps, Tryz.f79.results.toList) := fn_of Tryz.func79 (by kernel_rfl) (by kernel_rfl)
theorem g_laws_szValue (G_laws_szValueS : (List GValue) → Int → Option Int) (H_laws_szValueS : ∀ (a0 : (List GValue)) (a1 : Int) (r : Int), G_laws_szValueS a0 a1 = some r → (mach cfg).call 123 [] [.val false [.seq (eL e_GValue a0)], .val false [.int .i64 a1]] = some (.val false [.int .i64 r], [])) (a0 : GValue) (a1 : Int) (r : Int) (h : T_laws_szValue G_laws_szValueS a0 a1 = some r) : (mach cfg).call 79 [] [.val true [.int .i64 a0.Kind, .int .i64 a0.N, .seq (eL e_u8 a0.S), .seq (eL (e_sl e_u8) a0.K), .seq (eL e_GValue a0.L)], .val false [.int .i64 a1]] = some (.val false [.int .i64 r], []) := by
  unfold T_laws_szValue at h
  obtain ⟨r1, hr1, h⟩ := bs h
  let p5 : List (Q cfg) := [.cl (ok_laws_szByteS a0.S a1 _ hr1)]
  rcases ite_some h with ⟨c2, h⟩ | ⟨c2, h⟩
  ·obtain rfl := Option.some.inj h
   exact call_wQ (p5 ++ [.lT c2]) rfl fd_79 (by kernel_rfl)
  ·obtain ⟨r3, hr3, h⟩ := bs h
   let p6 : List (Q cfg) := p5 ++ [.lF c2, .cl (ok_laws_szByteSS a0.K r1 _ hr3)]
   rcases ite_some h with ⟨c4, h⟩ | ⟨c4, h⟩
   ·obtain rfl := Option.some.inj h
    exact call_wQ (p6 ++ [.lT c4]) rfl fd_79 (by kernel_rfl)
   ·obtain ⟨r5, hr5, h⟩ := bs h
    rcases ite_some h with ⟨c6, h⟩ | ⟨c6, h⟩
    ·obtain rfl := Option.some.inj h
     exact call_wQ (p6 ++ [.lF c4, .cl (H_laws_szValueS a0.L r3 _ hr5), .lT c6]) rfl fd_79 (by kernel_rfl)
    ·obtain rfl := Option.some.inj h
     exact call_wQ (p6 ++ [.lF c4, .cl (H_laws_szValueS a0.L r3 _ hr5), .lF c6]) rfl fd_79 (by kernel_rfl)
mutual
def U_laws_szValueS : Nat → (List GValue) → Int → Option Int
  | 0, _, _ => none
  | n + 1, a0, a1 => T_laws_szValueS (U_laws_szValue n) n a0 a1
def U_laws_szValue : Nat → GValue → Int → Option Int
  | 0, _, _ => none
  | n + 1, a0, a1 => T_laws_szValue (U_laws_szValueS n) a0 a1
end
theorem rec_laws_szValueS (n : Nat) : (∀ (a0 : (List GValue)) (a1 : Int) (r : Int), U_laws_szValueS n a0 a1 = some r → (mach cfg).call 123 [] [.val false [.seq (eL e_GValue a0)], .val false [.int .i64 a1]] = some (.val false [.int .i64 r], [])) ∧ (∀ (a0 : GValue) (a1 : Int) (r : Int), U_laws_szValue n a0 a1 = some r → (mach cfg).call 79 [] [.val true [.int .i64 a0.Kind, .int .i64 a0.N, .seq (eL e_u8 a0.S), .seq (eL (e_sl e_u8) a0.K), .seq (eL e_GValue a0.L)], .val false [.int .i64 a1]] = some (.val false [.int .i64 r], [])) := by
  induction n with
  | zero => exact ⟨fun _ _ _ h => (by rw [U_laws_szValueS] at h; cases h), fun _ _ _ h => (by rw [U_laws_szValue] at h; cases h)⟩
  | succ n ih =>
    obtain ⟨ih_laws_szValueS, ih_laws_szValue⟩ := ih
    exact ⟨fun a0 a1 r h => g_laws_szValueS (U_laws_szValue n) ih_laws_szValue n a0 a1 r (by rw [U_laws_szValueS] at h; exact h),
      fun a0 a1 r h => g_laws_szValue (U_laws_szValueS n) ih_laws_szValueS a0 a1 r (by rw [U_laws_szValue] at h; exact h)⟩
mutual
def MdV : GValue → Prop
  | .mk _ _ s k l => s.length <= 2 ^ 63 - 1 ∧ MdB k ∧ l.length <= 2 ^ 63 - 1 ∧ MdVs l
def MdVs : List GValue → Prop
  | [] => True
  | v :: l => MdV v ∧ MdVs l
end
theorem MdVs_mem {l : List GValue} (h : MdVs l) {v : GValue} (hv : v ∈ l) : MdV v := by
  induction l with
  | nil => cases hv
  | cons x l ih =>
    simp only [MdVs] at h
    rcases List.mem_cons.1 hv with rfl | hv
    · exact h.1
    · exact ih h.2 hv
theorem MdV_eq (v : GValue) : MdV v = (v.S.length <= 2 ^ 63 - 1 ∧ MdB v.K ∧ v.L.length <= 2 ^ 63 - 1 ∧ MdVs v.L) := by cases v; simp only [MdV, GValue.S, GValue.K, GValue.L]
def vin (l : List GValue) : Nat := (l.map vsz).sum
theorem vszs_vin (l : List GValue) : vszs l = l.length + vin l := by
  unfold vin
  induction l with
  | nil => rfl
  | cons v l ih => simp only [vszs, ih, List.length_cons, List.map_cons, List.sum_cons]; omega
theorem szValueS_loop {G : GValue → Int → Option Int} {a : List GValue} (ha : a.length <= 2 ^ 20) (hG : ∀ v ∈ a, ∀ n : Int, 0 <= n → n <= 2 ^ 20 → G v n = some (leftV (vsz v) n)) : ∀ (d i m : Nat) (r : Int), i + d = a.length → d < m → 0 <= r → r <= 2 ^ 20 →
    ∃ z, L_laws_szValueS_l0 G a m r (i : Int) = some (if (vin (a.drop i) : Int) <= r then .inr (r - vin (a.drop i), z) else .inl (-1)) := by
  intro d
  induction d with
  | zero =>
    intro i m r hi hm h0 h1
    obtain ⟨m, rfl, _⟩ := fuel hm
    refine ⟨(i : Int), ?_⟩
    rw [L_laws_szValueS_l0, if_neg (by omega), List.drop_eq_nil_of_le (by omega)]
    simp only [vin, List.map_nil, List.sum_nil]
    rw [if_pos (by simpa using h0)]; simp
  | succ d ih =>
    intro i m r hi hm h0 h1
    obtain ⟨m, rfl, hm'⟩ := fuel hm
    have hil : i < a.length := by omega
    rw [L_laws_szValueS_l0, if_pos (by omega), natO_nat, Option.bind_some, get_some hil, Option.bind_some, hG _ (List.getElem_mem hil) r h0 h1, Option.bind_some]
    have hv : vin (a.drop i) = vsz a[i] + vin (a.drop (i + 1)) := by simp only [vin, drop_cons hil, List.map_cons, List.sum_cons]
    rw [hv]
    unfold leftV
    by_cases hc : (vsz a[i] : Int) <= r
    · rw [if_pos hc, if_neg (by omega), w64_succ (by omega)]
      obtain ⟨z, hz⟩ := ih (i + 1) m (r - vsz a[i]) (by omega) (by omega) (by omega) (by omega)
      refine ⟨z, ?_⟩
      rw [hz]
      by_cases hd : (vin (a.drop (i + 1)) : Int) <= r - vsz a[i]
      · rw [if_pos hd, if_pos (by omega)]; congr 3; omega
      · rw [if_neg hd, if_neg (by omega)]
    · refine ⟨0, ?_⟩
      rw [if_neg hc, if_pos (by omega), if_neg (by omega)]
theorem szValueS_T {G : GValue → Int → Option Int} {a : List GValue} {f : Nat} {n : Int} (ha : a.length <= 2 ^ 63 - 1) (h0 : 0 <= n) (h1 : n <= 2 ^ 20) (hf : a.length < f ∨ n < a.length) (hG : ∀ v ∈ a, ∀ n : Int, 0 <= n → n <= 2 ^ 20 → G v n = some (leftV (vsz v) n)) :
    T_laws_szValueS G f a n = some (leftV (vszs a) n) := by
  unfold T_laws_szValueS
  rw [w64_id (by omega) (by omega), vszs_vin]
  unfold leftV
  by_cases hc : (a.length : Int) <= n
  · rw [if_neg (by omega)]
    obtain ⟨z, hz⟩ := szValueS_loop (G := G) (by omega) hG a.length 0 f (n - a.length) (by omega) (by omega) (by omega) (by omega)
    rw [show ((0 : Nat) : Int) = 0 from rfl] at hz
    rw [hz]
    simp only [List.drop_zero]
    by_cases hd : (vin a : Int) <= n - a.length
    · rw [if_pos hd, if_pos (by omega)]
      simp only [Option.bind_some]; congr 1; omega
    · rw [if_neg hd, if_neg (by omega)]; rfl
  · rw [if_pos (by omega), if_neg (by omega)]
theorem szValue_U : ∀ (N : Nat) (v : GValue), vsz v < N → MdV v → ∀ (f : Nat) (n : Int), 2 * vsz v + 3 <= f → 0 <= n → n <= 2 ^ 20 → U_laws_szValue f v n = some (leftV (vsz v) n) := by
  intro N
  induction N with
  | zero => intro v hv; omega
  | succ N ih =>
    intro v hv hmd f n hf h0 h1
    obtain ⟨f, rfl, _⟩ := fuel (show 0 < f by omega)
    rw [MdV_eq] at hmd
    have he := vsz_eq v
    have hl := vszs_len v.L
    obtain ⟨f, rfl, _⟩ := fuel (show 0 < f by omega)
    rw [U_laws_szValue]
    unfold T_laws_szValue
    rw [szByteS_eq hmd.1 h0 h1, Option.bind_some]
    unfold leftV
    by_cases c1 : (v.S.length : Int) <= n
    · rw [if_pos c1, if_neg (by omega)]
      unfold S_laws_szByteSS
      rw [if_pos ⟨hmd.2.1, by omega, by omega⟩, Option.bind_some]
      by_cases c2 : (bsz v.K : Int) <= n - v.S.length
      · rw [if_pos c2, if_neg (by omega)]
        rw [U_laws_szValueS, szValueS_T hmd.2.2.1 (by omega) (by omega) (.inl (by omega)) (fun x hx m g0 g1 => ?_), Option.bind_some]
        · unfold leftV
          by_cases c3 : (vszs v.L : Int) <= n - v.S.length - bsz v.K
          · rw [if_pos c3, if_neg (by omega), if_pos (by omega)]; congr 1; omega
          · rw [if_neg c3, if_pos (by omega), if_neg (by omega)]
        · have := vszs_mem hx
          exact ih x (by omega) (MdVs_mem hmd.2.2.2 hx) f m (by omega) g0 g1
      · rw [if_neg c2, if_pos (by omega), if_neg (by omega)]
    · rw [if_neg c1, if_pos (by omega), if_neg (by omega)]
open Classical in
noncomputable def S_laws_szValueS (a0 : (List GValue)) (a1 : Int) : Option Int := if a0.length <= 2 ^ 63 - 1 ∧ MdVs a0 ∧ 0 <= a1 ∧ a1 <= 2 ^ 20 then some (leftV (vszs a0) a1) else none
theorem spec_laws_szValueS (a0 : (List GValue)) (a1 : Int) (r : Int) (h : S_laws_szValueS a0 a1 = some r) : ∃ n, U_laws_szValueS n a0 a1 = some r := by
  unfold S_laws_szValueS at h
  obtain ⟨⟨hl, hm, h0, h1⟩, h⟩ := need_c h
  refine ⟨2 * vszs a0 + 5, ?_⟩
  have := vszs_len a0
  rw [U_laws_szValueS, szValueS_T hl h0 h1 (.inl (by omega)) fun x hx m g0 g1 => ?_, h]
  have := vszs_mem hx
  exact szValue_U _ x (Nat.lt_succ_self _) (MdVs_mem hm hx) _ m (by omega) g0 g1
open Classical in
noncomputable def S_laws_szValue (a0 : GValue) (a1 : Int) : Option Int := if MdV a0 ∧ 0 <= a1 ∧ a1 <= 2 ^ 20 then some (leftV (vsz a0) a1) else none
theorem spec_laws_szValue (a0 : GValue) (a1 : Int) (r : Int) (h : S_laws_szValue a0 a1 = some r) : ∃ n, U_laws_szValue n a0 a1 = some r := by
  unfold S_laws_szValue at h
  obtain ⟨⟨hm, h0, h1⟩, h⟩ := need_c h
  exact ⟨2 * vsz a0 + 3, by rw [<- h]; exact szValue_U _ a0 (Nat.lt_succ_self _) hm _ a1 (Nat.le_refl _) h0 h1⟩
theorem ok_laws_szValueS (a0 : (List GValue)) (a1 : Int) (r : Int) (h : S_laws_szValueS a0 a1 = some r) : (mach cfg).call 123 [] [.val false [.seq (eL e_GValue a0)], .val false [.int .i64 a1]] = some (.val false [.int .i64 r], []) := by
  obtain ⟨n, hn⟩ := spec_laws_szValueS a0 a1 r h
  exact (rec_laws_szValueS n).1 a0 a1 r hn
theorem ok_laws_szValue (a0 : GValue) (a1 : Int) (r : Int) (h : S_laws_szValue a0 a1 = some r) : (mach cfg).call 79 [] [.val true [.int .i64 a0.Kind, .int .i64 a0.N, .seq (eL e_u8 a0.S), .seq (eL (e_sl e_u8) a0.K), .seq (eL e_GValue a0.L)], .val false [.int .i64 a1]] = some (.val false [.int .i64 r], []) := by
  obtain ⟨n, hn⟩ := spec_laws_szValue a0 a1 r h
  exact (rec_laws_szValueS n).2 a0 a1 r hn
def S_laws_szEvent (a0 : GEvent) (a1 : Int) : Option Int :=
  (S_laws_szByteS a0.Addr a1).bind fun r1 =>
  if r1 < 0 then
    some (-1)
  else
    (S_laws_szValue a0.Val r1).bind fun r3 =>
    if r3 < 0 then
      some (-1)
    else
      (S_laws_szByteSS a0.Deps r3).bind fun r5 =>
      if r5 < 0 then
        some (-1)
      else
        some r5
set_option maxRecDepth 100000 in
theorem fd_34 : cfg.funcs 34 = some (bodyOf Tryz.f34, Tryz.f34.ntmps, Tryz.f34.results.toList) := fn_of Tryz.func34 (by kernel_rfl) (by kernel_rfl)
theorem ok_laws_szEvent (a0 : GEvent) (a1 : Int) (r : Int) (h : S_laws_szEvent a0 a1 = some r) : (mach cfg).call 34 [] [.val true [.int .i64 a0.Kind, .seq (eL e_u8 a0.Addr), .int .i64 a0.Act, .int .i64 a0.Val.Kind, .int .i64 a0.Val.N, .seq (eL e_u8 a0.Val.S), .seq (eL (e_sl e_u8) a0.Val.K), .seq (eL e_GValue a0.Val.L), .seq (eL (e_sl e_u8) a0.Deps)], .val false [.int .i64 a1]] = some (.val false [.int .i64 r], []) := by
  unfold S_laws_szEvent at h
  obtain ⟨r1, hr1, h⟩ := bs h
  let p7 : List (Q cfg) := [.cl (ok_laws_szByteS a0.Addr a1 _ hr1)]
  rcases ite_some h with ⟨c2, h⟩ | ⟨c2, h⟩
  ·obtain rfl := Option.some.inj h
   exact call_wQ (p7 ++ [.lT c2]) rfl fd_34 (by kernel_rfl)
  ·obtain ⟨r3, hr3, h⟩ := bs h
   let p8 : List (Q cfg) := p7 ++ [.lF c2, .cl (ok_laws_szValue a0.Val r1 _ hr3)]
   rcases ite_some h with ⟨c4, h⟩ | ⟨c4, h⟩
   ·obtain rfl := Option.some.inj h
    exact call_wQ (p8 ++ [.lT c4]) rfl fd_34 (by kernel_rfl)
   ·obtain ⟨r5, hr5, h⟩ := bs h
    rcases ite_some h with ⟨c6, h⟩ | ⟨c6, h⟩
    ·obtain rfl := Option.some.inj h
     exact call_wQ (p8 ++ [.lF c4, .cl (ok_laws_szByteSS a0.Deps r3 _ hr5), .lT c6]) rfl fd_34 (by kernel_rfl)
    ·obtain rfl := Option.some.inj h
     exact call_wQ (p8 ++ [.lF c4, .cl (ok_laws_szByteSS a0.Deps r3 _ hr5), .lF c6]) rfl fd_34 (by kernel_rfl)
def L_laws_toByteS_l0 (a0 : (List UInt8)) : Nat → Int → (List UInt8) → Option (Int × (List UInt8))
  | 0, _, _ => none
  | m + 1, v1, v2 =>
    if v1 < ((a0.length : Nat) : Int) then
      (natO v1).bind fun i2 =>
      (a0[i2]?).bind fun x3 =>
      (v2[i2]?).bind fun x4 =>
      L_laws_toByteS_l0 a0 m (w64 (v1 + 1)) (v2.set i2 x3)
    else
      some (v1, v2)
theorem gl_laws_toByteS_l0 (a0 : (List UInt8)) (m : Nat) : ∀ (v1 : Int) (v2 : (List UInt8)) (o : (Int × (List UInt8))), L_laws_toByteS_l0 a0 m v1 v2 = some o → (mach cfg).loop 25 (loopB Tryz.f25 0) ⟨[(0, .val false [.seq (eL e_u8 a0)]), (3, .val false [.ref 0]), (4, .val false [.int .i64 v1])], [.obj 1 (eL e_u8 v2)], 0⟩ = some (match o with | ⟨o_0, o_1⟩ => (.exit 0, (⟨[(0, .val false [.seq (eL e_u8 a0)]), (3, .val false [.ref 0]), (4, .val false [.int .i64 o_0]), (11, .val false [.bool false])], [.obj 1 (eL e_u8 o_1)], 0⟩ : S))) := by
  induction m with
  | zero => intro v1 v2 o h; cases h
  | succ m ih =>
    intro v1 v2 o h
    rw [L_laws_toByteS_l0] at h
    rcases ite_some h with ⟨c1, h⟩ | ⟨c1, h⟩
    ·obtain ⟨i2, hi2, h⟩ := bs h
     obtain ⟨x3, hx3, h⟩ := bs h
     obtain ⟨x4, hx4, h⟩ := bs h
     exact loop_nQ [.le e_u8 a0, .lT c1, .na hi2, .ix0 e_u8 hx3, .na hi2, .ix0 e_u8 hx4, .ix0 e_u8 hx4, ⟨.setL (eL e_u8 v2) i2 [.int .u8 ((x3.toNat : Nat) : Int)], .l (eL e_u8 (v2.set i2 x3)), (A.setL rfl)⟩, .ad v1 1] (by kernel_rfl) (ih (w64 (v1 + 1)) (v2.set i2 x3) o h)
    ·obtain rfl := Option.some.inj h
     exact loop_eQ [.le e_u8 a0, .lF c1] (by kernel_rfl) (by intro h; cases h)
def T_laws_toByteS (n : Nat) (a0 : (List UInt8)) : Option (List UInt8) :=
  (madeO 1 ((a0.length : Nat) : Int)).bind fun k1 =>
  (L_laws_toByteS_l0 a0 n 0 (List.replicate k1 0)).bind fun ⟨o2_0, o2_1⟩ =>
  some o2_1
set_option maxRecDepth 100000 in
theorem fd_25 : cfg.funcs 25 = some (bodyOf Tryz.f25, Tryz.f25.ntmps, Tryz.f25.results.toList) := fn_of Tryz.func25 (by kernel_rfl) (by kernel_rfl)
theorem g_laws_toByteS (n : Nat) (a0 : (List UInt8)) (r : (List UInt8)) (h : T_laws_toByteS n a0 = some r) : (mach cfg).call 25 [] [.val false [.seq (eL e_u8 a0)]] = some (.val false [.own 1 (eL e_u8 r)], []) := by
  unfold T_laws_toByteS at h
  obtain ⟨k1, hk1, h⟩ := bs h
  obtain ⟨⟨o2_0, o2_1⟩, ho2, h⟩ := bs h
  try dsimp only at h
  obtain rfl := Option.some.inj h
  exact call_wQ [.le e_u8 a0, .eTo ((a0.length : Nat) : Int) ((a0.length : Nat) : Int) rfl, ⟨.made 1 ((a0.length : Nat) : Int), .n k1, (A.made hk1)⟩, ⟨.rep k1 [.int .u8 0], .l (eL e_u8 (List.replicate k1 0)), (A.rep rfl)⟩, .lp (gl_laws_toByteS_l0 a0 _ 0 (List.replicate k1 0) _ ho2)] rfl fd_25 (by kernel_rfl)
theorem toByteS_loop {a : List UInt8} (ha : a.length <= 2 ^ 20) : ∀ (d i m : Nat) (v : List UInt8), i + d = a.length → d < m → Pre a v i → ∃ z, L_laws_toByteS_l0 a m (i : Int) v = some (z, a) := by
  intro d
  induction d with
  | zero =>
    intro i m v hi hm hp
    obtain ⟨m, rfl, _⟩ := fuel hm
    exact ⟨_, by rw [L_laws_toByteS_l0, if_neg (by omega), hp.done (by omega)]⟩
  | succ d ih =>
    intro i m v hi hm hp
    obtain ⟨m, rfl, hm'⟩ := fuel hm
    have hil : i < a.length := by omega
    rw [L_laws_toByteS_l0, if_pos (by omega), natO_nat, Option.bind_some, get_some hil, Option.bind_some, get_some (by rw [hp.1]; exact hil), Option.bind_some, w64_succ (by omega)]
    exact ih (i + 1) m _ (by omega) (by omega) (hp.step hil)
def S_laws_toByteS (a0 : (List UInt8)) : Option (List UInt8) := if a0.length <= 2 ^ 20 then some a0 else none
theorem spec_laws_toByteS (a0 : (List UInt8)) (r : (List UInt8)) (h : S_laws_toByteS a0 = some r) : ∃ n, T_laws_toByteS n a0 = some r := by
  unfold S_laws_toByteS at h
  obtain ⟨ha, h⟩ := need_c h
  refine ⟨a0.length + 1, ?_⟩
  obtain ⟨z, hz⟩ := toByteS_loop ha a0.length 0 (a0.length + 1) (List.replicate a0.length 0) (by omega) (by omega) (Pre.start (by simp))
  unfold T_laws_toByteS
  rw [made_ok ha (by decide), Option.bind_some, show (0 : Int) = ((0 : Nat) : Int) from rfl, hz]
  exact h
theorem ok_laws_toByteS (a0 : (List UInt8)) (r : (List UInt8)) (h : S_laws_toByteS a0 = some r) : (mach cfg).call 25 [] [.val false [.seq (eL e_u8 a0)]] = some (.val false [.own 1 (eL e_u8 r)], []) := by
  obtain ⟨n, hn⟩ := spec_laws_toByteS a0 r h
  exact g_laws_toByteS n a0 r hn
def L_laws_toByteSS_l0 (a0 : (List (List UInt8))) : Nat → Int → (List (List UInt8)) → Option (Int × (List (List UInt8)))
  | 0, _, _ => none
  | m + 1, v1, v2 =>
    if v1 < ((a0.length : Nat) : Int) then
      (natO v1).bind fun i2 =>
      (a0[i2]?).bind fun x3 =>
      (S_laws_toByteS x3).bind fun r4 =>
      (v2[i2]?).bind fun x5 =>
      L_laws_toByteSS_l0 a0 m (w64 (v1 + 1)) (v2.set i2 r4)
    else
      some (v1, v2)
theorem gl_laws_toByteSS_l0 (a0 : (List (List UInt8))) (m : Nat) : ∀ (v1 : Int) (v2 : (List (List UInt8))) (o : (Int × (List (List UInt8)))), L_laws_toByteSS_l0 a0 m v1 v2 = some o → (mach cfg).loop 84 (loopB Tryz.f84 0) ⟨[(0, .val false [.seq (eL (e_sl e_u8) a0)]), (3, .val false [.ref 0]), (4, .val false [.int .i64 v1])], [.obj 1 (eL (o_sl 1 e_u8) v2)], 0⟩ = some (match o with | ⟨o_0, o_1⟩ => (.exit 0, (⟨[(0, .val false [.seq (eL (e_sl e_u8) a0)]), (3, .val false [.ref 0]), (4, .val false [.int .i64 o_0]), (11, .val false [.bool false])], [.obj 1 (eL (o_sl 1 e_u8) o_1)], 0⟩ : S))) := by
  induction m with
  | zero => intro v1 v2 o h; cases h
  | succ m ih =>
    intro v1 v2 o h
    rw [L_laws_toByteSS_l0] at h
    rcases ite_some h with ⟨c1, h⟩ | ⟨c1, h⟩
    ·obtain ⟨i2, hi2, h⟩ := bs h
     obtain ⟨x3, hx3, h⟩ := bs h
     obtain ⟨r4, hr4, h⟩ := bs h
     obtain ⟨x5, hx5, h⟩ := bs h
     exact loop_nQ [.le (e_sl e_u8) a0, .lT c1, .na hi2, .ix0 (e_sl e_u8) hx3, .cl (ok_laws_toByteS x3 _ hr4), .na hi2, .ix0 (o_sl 1 e_u8) hx5, .ix0 (o_sl 1 e_u8) hx5, ⟨.setL (eL (o_sl 1 e_u8) v2) i2 [.own 1 (eL e_u8 r4)], .l (eL (o_sl 1 e_u8) (v2.set i2 r4)), (A.setL rfl)⟩, .ad v1 1] (by kernel_rfl) (ih (w64 (v1 + 1)) (v2.set i2 r4) o h)
    ·obtain rfl := Option.some.inj h
     exact loop_eQ [.le (e_sl e_u8) a0, .lF c1] (by kernel_rfl) (by intro h; cases h)
def T_laws_toByteSS (n : Nat) (a0 : (List (List UInt8))) : Option (List (List UInt8)) :=
  (madeO 24 ((a0.length : Nat) : Int)).bind fun k1 =>
  (L_laws_toByteSS_l0 a0 n 0 (List.replicate k1 [])).bind fun ⟨o2_0, o2_1⟩ =>
  some o2_1
set_option maxRecDepth 100000 in
theorem fd_84 : cfg.funcs 84 = some (bodyOf Tryz.f84, Tryz.f84.ntmps, Tryz.f84.results.toList) := fn_of Tryz.func84 (by kernel_rfl) (by kernel_rfl)
theorem g_laws_toByteSS (n : Nat) (a0 : (List (List UInt8))) (r : (List (List UInt8))) (h : T_laws_toByteSS n a0 = some r) : (mach cfg).call 84 [] [.val false [.seq (eL (e_sl e_u8) a0)]] = some (.val false [.own 1 (eL (o_sl 1 e_u8) r)], []) := by
  unfold T_laws_toByteSS at h
  obtain ⟨k1, hk1, h⟩ := bs h
  obtain ⟨⟨o2_0, o2_1⟩, ho2, h⟩ := bs h
  try dsimp only at h
  obtain rfl := Option.some.inj h
  exact call_wQ [.le (e_sl e_u8) a0, .eTo ((a0.length : Nat) : Int) ((a0.length : Nat) : Int) rfl, ⟨.made 24 ((a0.length : Nat) : Int), .n k1, (A.made hk1)⟩, ⟨.rep k1 [.own 1 []], .l (eL (o_sl 1 e_u8) (List.replicate k1 [])), (A.rep rfl)⟩, .lp (gl_laws_toByteSS_l0 a0 _ 0 (List.replicate k1 []) _ ho2)] rfl fd_84 (by kernel_rfl)
theorem toByteSS_loop {a : List (List UInt8)} (ha : bsz a <= 2 ^ 20) : ∀ (d i m : Nat) (v : List (List UInt8)), i + d = a.length → d < m → Pre a v i → ∃ z, L_laws_toByteSS_l0 a m (i : Int) v = some (z, a) := by
  have hl := bsz_len a
  intro d
  induction d with
  | zero =>
    intro i m v hi hm hp
    obtain ⟨m, rfl, _⟩ := fuel hm
    exact ⟨_, by rw [L_laws_toByteSS_l0, if_neg (by omega), hp.done (by omega)]⟩
  | succ d ih =>
    intro i m v hi hm hp
    obtain ⟨m, rfl, hm'⟩ := fuel hm
    have hil : i < a.length := by omega
    have hx := bsz_mem (List.getElem_mem hil)
    rw [L_laws_toByteSS_l0, if_pos (by omega), natO_nat, Option.bind_some, get_some hil, Option.bind_some]
    unfold S_laws_toByteS
    rw [if_pos (by omega), Option.bind_some, get_some (by rw [hp.1]; exact hil), Option.bind_some, w64_succ (by omega)]
    exact ih (i + 1) m _ (by omega) (by omega) (hp.step hil)
def S_laws_toByteSS (a0 : (List (List UInt8))) : Option (List (List UInt8)) := if bsz a0 <= 2 ^ 20 then some a0 else none
theorem spec_laws_toByteSS (a0 : (List (List UInt8))) (r : (List (List UInt8))) (h : S_laws_toByteSS a0 = some r) : ∃ n, T_laws_toByteSS n a0 = some r := by
  unfold S_laws_toByteSS at h
  obtain ⟨ha, h⟩ := need_c h
  have hl := bsz_len a0
  refine ⟨a0.length + 1, ?_⟩
  obtain ⟨z, hz⟩ := toByteSS_loop ha a0.length 0 (a0.length + 1) (List.replicate a0.length []) (by omega) (by omega) (Pre.start (by simp))
  unfold T_laws_toByteSS
  rw [made_ok (by omega) (by decide), Option.bind_some, show (0 : Int) = ((0 : Nat) : Int) from rfl, hz]
  exact h
theorem ok_laws_toByteSS (a0 : (List (List UInt8))) (r : (List (List UInt8))) (h : S_laws_toByteSS a0 = some r) : (mach cfg).call 84 [] [.val false [.seq (eL (e_sl e_u8) a0)]] = some (.val false [.own 1 (eL (o_sl 1 e_u8) r)], []) := by
  obtain ⟨n, hn⟩ := spec_laws_toByteSS a0 r h
  exact g_laws_toByteSS n a0 r hn
def L_laws_toValueS_l0 (G_laws_toValue : GValue → Option GValue) (a0 : (List GValue)) : Nat → Int → (List GValue) → Option (Int × (List GValue))
  | 0, _, _ => none
  | m + 1, v1, v2 =>
    if v1 < ((a0.length : Nat) : Int) then
      (natO v1).bind fun i2 =>
      (a0[i2]?).bind fun x3 =>
      (G_laws_toValue x3).bind fun r4 =>
      (v2[i2]?).bind fun x5 =>
      L_laws_toValueS_l0 G_laws_toValue a0 m (w64 (v1 + 1)) (v2.set i2 r4)
    else
      some (v1, v2)
theorem gl_laws_toValueS_l0 (G_laws_toValue : GValue → Option GValue) (H_laws_toValue : ∀ (a0 : GValue) (r : GValue), G_laws_toValue a0 = some r → (mach cfg).call 83 [] [.val true [.int .i64 a0.Kind, .int .i64 a0.N, .seq (eL e_u8 a0.S), .seq (eL (e_sl e_u8) a0.K), .seq (eL e_GValue a0.L)]] = some (.val true [.int .i64 r.Kind, .int .i64 r.N, .own 1 (eL e_u8 r.S), .own 1 (eL (o_sl 1 e_u8) r.K), .own 5 (eL o_GValue r.L)], [])) (a0 : (List GValue)) (m : Nat) : ∀ (v1 : Int) (v2 : (List GValue)) (o : (Int × (List GValue))), L_laws_toValueS_l0 G_laws_toValue a0 m v1 v2 = some o → (mach cfg).loop 128 (loopB Tryz.f128 0) ⟨[(0, .val false [.seq (eL e_GValue a0)]), (3, .val false [.ref 0]), (4, .val false [.int .i64 v1])], [.obj 5 (eL o_GValue v2)], 0⟩ = some (match o with | ⟨o_0, o_1⟩ => (.exit 0, (⟨[(0, .val false [.seq (eL e_GValue a0)]), (3, .val false [.ref 0]), (4, .val false [.int .i64 o_0]), (11, .val false [.bool false])], [.obj 5 (eL o_GValue o_1)], 0⟩ : S))) := by
  induction m with
  | zero => intro v1 v2 o h; cases h
  | succ m ih =>
    intro v1 v2 o h
    rw [L_laws_toValueS_l0] at h
    rcases ite_some h with ⟨c1, h⟩ | ⟨c1, h⟩
    ·obtain ⟨i2, hi2, h⟩ := bs h
     obtain ⟨x3, hx3, h⟩ := bs h
     obtain ⟨r4, hr4, h⟩ := bs h
     obtain ⟨x5, hx5, h⟩ := bs h
     exact loop_nQ [.le e_GValue a0, .lT c1, .na hi2, .ix hx3 (eq_GValue x3), .cl (H_laws_toValue x3 _ hr4), .na hi2, .ix hx5 (oeq_GValue x5), .ix hx5 (oeq_GValue x5), ⟨.setL (eL o_GValue v2) i2 [.int .i64 r4.Kind, .int .i64 r4.N, .own 1 (eL e_u8 r4.S), .own 1 (eL (o_sl 1 e_u8) r4.K), .own 5 (eL o_GValue r4.L)], .l (eL o_GValue (v2.set i2 r4)), (A.setL (oeq_GValue r4))⟩, .ad v1 1] (by kernel_rfl) (ih (w64 (v1 + 1)) (v2.set i2 r4) o h)
    ·obtain rfl := Option.some.inj h
     exact loop_eQ [.le e_GValue a0, .lF c1] (by kernel_rfl) (by intro h; cases h)
def T_laws_toValueS (G_laws_toValue : GValue → Option GValue) (n : Nat) (a0 : (List GValue)) : Option (List GValue) :=
  (madeO 88 ((a0.length : Nat) : Int)).bind fun k1 =>
  (L_laws_toValueS_l0 G_laws_toValue a0 n 0 (List.replicate k1 (GValue.mk 0 0 [] [] []))).bind fun ⟨o2_0, o2_1⟩ =>
  some o2_1
set_option maxRecDepth 100000 in
theorem fd_128 : cfg.funcs 128 = some (bodyOf Tryz.f128, Tryz.f128.ntmps, Tryz.f128.results.toList) := fn_of Tryz.func128 (by kernel_rfl) (by kernel_rfl)
theorem g_laws_toValueS (G_laws_toValue : GValue → Option GValue) (H_laws_toValue : ∀ (a0 : GValue) (r : GValue), G_laws_toValue a0 = some r → (mach cfg).call 83 [] [.val true [.int .i64 a0.Kind, .int .i64 a0.N, .seq (eL e_u8 a0.S), .seq (eL (e_sl e_u8) a0.K), .seq (eL e_GValue a0.L)]] = some (.val true [.int .i64 r.Kind, .int .i64 r.N, .own 1 (eL e_u8 r.S), .own 1 (eL (o_sl 1 e_u8) r.K), .own 5 (eL o_GValue r.L)], [])) (n : Nat) (a0 : (List GValue)) (r : (List GValue)) (h : T_laws_toValueS G_laws_toValue n a0 = some r) : (mach cfg).call 128 [] [.val false [.seq (eL e_GValue a0)]] = some (.val false [.own 5 (eL o_GValue r)], []) := by
  unfold T_laws_toValueS at h
  obtain ⟨k1, hk1, h⟩ := bs h
  obtain ⟨⟨o2_0, o2_1⟩, ho2, h⟩ := bs h
  try dsimp only at h
  obtain rfl := Option.some.inj h
  exact call_wQ [.le e_GValue a0, .eTo ((a0.length : Nat) : Int) ((a0.length : Nat) : Int) rfl, ⟨.made 88 ((a0.length : Nat) : Int), .n k1, (A.made hk1)⟩, ⟨.rep k1 [.int .i64 0, .int .i64 0, .own 1 [], .own 1 [], .own 5 []], .l (eL o_GValue (List.replicate k1 (GValue.mk 0 0 [] [] []))), (A.rep (oeq_GValue (GValue.mk 0 0 [] [] [])))⟩, .lp (gl_laws_toValueS_l0 G_laws_toValue H_laws_toValue a0 _ 0 (List.replicate k1 (GValue.mk 0 0 [] [] [])) _ ho2)] rfl fd_128 (by kernel_rfl)
def T_laws_toValue (G_laws_toValueS : (List GValue) → Option (List GValue)) (a0 : GValue) : Option GValue :=
  (S_laws_toByteS a0.S).bind fun r1 =>
  (S_laws_toByteSS a0.K).bind fun r2 =>
  (G_laws_toValueS a0.L).bind fun r3 =>
  some (GValue.mk a0.Kind a0.N r1 r2 r3)
set_option maxRecDepth 100000 in
theorem fd_83 : cfg.funcs 83 = some (bodyOf Tryz.f83, Tryz.f83.ntmps, Tryz.f83.results.toList) := fn_of Tryz.func83 (by kernel_rfl) (by kernel_rfl)
theorem g_laws_toValue (G_laws_toValueS : (List GValue) → Option (List GValue)) (H_laws_toValueS : ∀ (a0 : (List GValue)) (r : (List GValue)), G_laws_toValueS a0 = some r → (mach cfg).call 128 [] [.val false [.seq (eL e_GValue a0)]] = some (.val false [.own 5 (eL o_GValue r)], [])) (a0 : GValue) (r : GValue) (h : T_laws_toValue G_laws_toValueS a0 = some r) : (mach cfg).call 83 [] [.val true [.int .i64 a0.Kind, .int .i64 a0.N, .seq (eL e_u8 a0.S), .seq (eL (e_sl e_u8) a0.K), .seq (eL e_GValue a0.L)]] = some (.val true [.int .i64 r.Kind, .int .i64 r.N, .own 1 (eL e_u8 r.S), .own 1 (eL (o_sl 1 e_u8) r.K), .own 5 (eL o_GValue r.L)], []) := by
  unfold T_laws_toValue at h
  obtain ⟨r1, hr1, h⟩ := bs h
  obtain ⟨r2, hr2, h⟩ := bs h
  obtain ⟨r3, hr3, h⟩ := bs h
  obtain rfl := Option.some.inj h
  exact call_wQ [.cl (ok_laws_toByteS a0.S _ hr1), .cl (ok_laws_toByteSS a0.K _ hr2), .cl (H_laws_toValueS a0.L _ hr3)] rfl fd_83 (by kernel_rfl)
mutual
def U_laws_toValueS : Nat → (List GValue) → Option (List GValue)
  | 0, _ => none
  | n + 1, a0 => T_laws_toValueS (U_laws_toValue n) n a0
def U_laws_toValue : Nat → GValue → Option GValue
  | 0, _ => none
  | n + 1, a0 => T_laws_toValue (U_laws_toValueS n) a0
end
theorem rec_laws_toValueS (n : Nat) : (∀ (a0 : (List GValue)) (r : (List GValue)), U_laws_toValueS n a0 = some r → (mach cfg).call 128 [] [.val false [.seq (eL e_GValue a0)]] = some (.val false [.own 5 (eL o_GValue r)], [])) ∧ (∀ (a0 : GValue) (r : GValue), U_laws_toValue n a0 = some r → (mach cfg).call 83 [] [.val true [.int .i64 a0.Kind, .int .i64 a0.N, .seq (eL e_u8 a0.S), .seq (eL (e_sl e_u8) a0.K), .seq (eL e_GValue a0.L)]] = some (.val true [.int .i64 r.Kind, .int .i64 r.N, .own 1 (eL e_u8 r.S), .own 1 (eL (o_sl 1 e_u8) r.K), .own 5 (eL o_GValue r.L)], [])) := by
  induction n with
  | zero => exact ⟨fun _ _ h => (by rw [U_laws_toValueS] at h; cases h), fun _ _ h => (by rw [U_laws_toValue] at h; cases h)⟩
  | succ n ih =>
    obtain ⟨ih_laws_toValueS, ih_laws_toValue⟩ := ih
    exact ⟨fun a0 r h => g_laws_toValueS (U_laws_toValue n) ih_laws_toValue n a0 r (by rw [U_laws_toValueS] at h; exact h),
      fun a0 r h => g_laws_toValue (U_laws_toValueS n) ih_laws_toValueS a0 r (by rw [U_laws_toValue] at h; exact h)⟩
theorem toValueS_T {G : GValue → Option GValue} {a : List GValue} {f : Nat} (ha : a.length <= 2 ^ 20) (hf : a.length < f) (hG : ∀ v ∈ a, G v = some v) : T_laws_toValueS G f a = some a := by
  have loop : ∀ (d i m : Nat) (v : List GValue), i + d = a.length → d < m → Pre a v i → ∃ z, L_laws_toValueS_l0 G a m (i : Int) v = some (z, a) := by
    intro d
    induction d with
    | zero =>
      intro i m v hi hm hp
      obtain ⟨m, rfl, _⟩ := fuel hm
      exact ⟨_, by rw [L_laws_toValueS_l0, if_neg (by omega), hp.done (by omega)]⟩
    | succ d ih =>
      intro i m v hi hm hp
      obtain ⟨m, rfl, hm'⟩ := fuel hm
      have hil : i < a.length := by omega
      rw [L_laws_toValueS_l0, if_pos (by omega), natO_nat, Option.bind_some, get_some hil, Option.bind_some, hG _ (List.getElem_mem hil), Option.bind_some, get_some (by rw [hp.1]; exact hil), Option.bind_some, w64_succ (by omega)]
      exact ih (i + 1) m _ (by omega) (by omega) (hp.step hil)
  obtain ⟨z, hz⟩ := loop a.length 0 f (List.replicate a.length (GValue.mk 0 0 [] [] [])) (by omega) (by omega) (Pre.start (by simp))
  rw [show ((0 : Nat) : Int) = 0 from rfl] at hz
  unfold T_laws_toValueS
  rw [made_ok ha (by decide), Option.bind_some, hz]; rfl
theorem toValue_U : ∀ (N : Nat) (v : GValue), vsz v < N → vsz v <= 2 ^ 20 → ∀ f : Nat, 2 * vsz v + 3 <= f → U_laws_toValue f v = some v := by
  intro N
  induction N with
  | zero => intro v hv; omega
  | succ N ih =>
    intro v hv hs f hf
    obtain ⟨f, rfl, _⟩ := fuel (show 0 < f by omega)
    obtain ⟨f, rfl, _⟩ := fuel (show 0 < f by omega)
    have he := vsz_eq v
    have hl := vszs_len v.L
    rw [U_laws_toValue]
    unfold T_laws_toValue S_laws_toByteS S_laws_toByteSS
    rw [if_pos (by omega), Option.bind_some, if_pos (by omega), Option.bind_some, U_laws_toValueS, toValueS_T (by omega) (by omega) fun x hx => ?_, Option.bind_some, GValue.eta]
    have := vszs_mem hx
    exact ih x (by omega) (by omega) f (by omega)
def S_laws_toValueS (a0 : (List GValue)) : Option (List GValue) := if vszs a0 <= 2 ^ 20 then some a0 else none
theorem spec_laws_toValueS (a0 : (List GValue)) (r : (List GValue)) (h : S_laws_toValueS a0 = some r) : ∃ n, U_laws_toValueS n a0 = some r := by
  unfold S_laws_toValueS at h
  obtain ⟨ha, h⟩ := need_c h
  have hl := vszs_len a0
  refine ⟨2 * vszs a0 + 5, ?_⟩
  rw [U_laws_toValueS, toValueS_T (by omega) (by omega) fun x hx => ?_, h]
  have := vszs_mem hx
  exact toValue_U _ x (Nat.lt_succ_self _) (by omega) _ (by omega)
def S_laws_toValue (a0 : GValue) : Option GValue := if vsz a0 <= 2 ^ 20 then some a0 else none
theorem spec_laws_toValue (a0 : GValue) (r : GValue) (h : S_laws_toValue a0 = some r) : ∃ n, U_laws_toValue n a0 = some r := by
  unfold S_laws_toValue at h
  obtain ⟨ha, h⟩ := need_c h
  exact ⟨2 * vsz a0 + 3, by rw [<- h]; exact toValue_U _ a0 (Nat.lt_succ_self _) ha _ (Nat.le_refl _)⟩
theorem ok_laws_toValueS (a0 : (List GValue)) (r : (List GValue)) (h : S_laws_toValueS a0 = some r) : (mach cfg).call 128 [] [.val false [.seq (eL e_GValue a0)]] = some (.val false [.own 5 (eL o_GValue r)], []) := by
  obtain ⟨n, hn⟩ := spec_laws_toValueS a0 r h
  exact (rec_laws_toValueS n).1 a0 r hn
theorem ok_laws_toValue (a0 : GValue) (r : GValue) (h : S_laws_toValue a0 = some r) : (mach cfg).call 83 [] [.val true [.int .i64 a0.Kind, .int .i64 a0.N, .seq (eL e_u8 a0.S), .seq (eL (e_sl e_u8) a0.K), .seq (eL e_GValue a0.L)]] = some (.val true [.int .i64 r.Kind, .int .i64 r.N, .own 1 (eL e_u8 r.S), .own 1 (eL (o_sl 1 e_u8) r.K), .own 5 (eL o_GValue r.L)], []) := by
  obtain ⟨n, hn⟩ := spec_laws_toValue a0 r h
  exact (rec_laws_toValueS n).2 a0 r hn
def S_laws_toEvent (a0 : GEvent) : Option GEvent :=
  (S_laws_toByteS a0.Addr).bind fun r1 =>
  (S_laws_toValue a0.Val).bind fun r2 =>
  (S_laws_toByteSS a0.Deps).bind fun r3 =>
  some (GEvent.mk a0.Kind r1 a0.Act r2 r3)
set_option maxRecDepth 100000 in
theorem fd_36 : cfg.funcs 36 = some (bodyOf Tryz.f36, Tryz.f36.ntmps, Tryz.f36.results.toList) := fn_of Tryz.func36 (by kernel_rfl) (by kernel_rfl)
theorem ok_laws_toEvent (a0 : GEvent) (r : GEvent) (h : S_laws_toEvent a0 = some r) : (mach cfg).call 36 [] [.val true [.int .i64 a0.Kind, .seq (eL e_u8 a0.Addr), .int .i64 a0.Act, .int .i64 a0.Val.Kind, .int .i64 a0.Val.N, .seq (eL e_u8 a0.Val.S), .seq (eL (e_sl e_u8) a0.Val.K), .seq (eL e_GValue a0.Val.L), .seq (eL (e_sl e_u8) a0.Deps)]] = some (.val true [.int .i64 r.Kind, .own 1 (eL e_u8 r.Addr), .int .i64 r.Act, .int .i64 r.Val.Kind, .int .i64 r.Val.N, .own 1 (eL e_u8 r.Val.S), .own 1 (eL (o_sl 1 e_u8) r.Val.K), .own 5 (eL o_GValue r.Val.L), .own 1 (eL (o_sl 1 e_u8) r.Deps)], []) := by
  unfold S_laws_toEvent at h
  obtain ⟨r1, hr1, h⟩ := bs h
  obtain ⟨r2, hr2, h⟩ := bs h
  obtain ⟨r3, hr3, h⟩ := bs h
  obtain rfl := Option.some.inj h
  exact call_wQ [.cl (ok_laws_toByteS a0.Addr _ hr1), .cl (ok_laws_toValue a0.Val _ hr2), .cl (ok_laws_toByteSS a0.Deps _ hr3)] rfl fd_36 (by kernel_rfl)
def L_spec_NameOk_l0 (a0 : (List UInt8)) : Nat → Int → Option (Bool ⊕ Int)
  | 0, _ => none
  | m + 1, v1 =>
    if v1 < ((a0.length : Nat) : Int) then
      (natO v1).bind fun i2 =>
      (a0[i2]?).bind fun x3 =>
      if ((x3.toNat : Nat) : Int) < 97 then
        some (.inl false)
      else
        if 122 < ((x3.toNat : Nat) : Int) then
          some (.inl false)
        else
          L_spec_NameOk_l0 a0 m (w64 (v1 + 1))
    else
      some (.inr v1)
theorem gl_spec_NameOk_l0 (a0 : (List UInt8)) (m : Nat) : ∀ (v1 : Int) (o : (Bool ⊕ Int)), L_spec_NameOk_l0 a0 m v1 = some o → (mach cfg).loop 146 (loopB Tryz.f146 0) ⟨[(0, .val false [.seq (eL e_u8 a0)]), (3, .val false [.int .i64 v1])], [], 0⟩ = some (match o with | .inl o_0 => (.ret, (⟨[(2, .val false [.bool o_0])], [], 0⟩ : S)) | .inr (o_1) => (.exit 0, (⟨[(0, .val false [.seq (eL e_u8 a0)]), (3, .val false [.int .i64 o_1]), (15, .val false [.bool false])], [], 0⟩ : S))) := by
  induction m with
  | zero => intro v1 o h; cases h
  | succ m ih =>
    intro v1 o h
    rw [L_spec_NameOk_l0] at h
    rcases ite_some h with ⟨c1, h⟩ | ⟨c1, h⟩
    ·obtain ⟨i2, hi2, h⟩ := bs h
     obtain ⟨x3, hx3, h⟩ := bs h
     let p9 : List (Q cfg) := [.le e_u8 a0, .lT c1, .na hi2, .ix0 e_u8 hx3]
     rcases ite_some h with ⟨c4, h⟩ | ⟨c4, h⟩
     ·obtain rfl := Option.some.inj h
      exact loop_eQ (p9 ++ [.lT c4]) (by kernel_rfl) (by intro h; cases h)
     ·rcases ite_some h with ⟨c5, h⟩ | ⟨c5, h⟩
      ·obtain rfl := Option.some.inj h
       exact loop_eQ (p9 ++ [.lF c4, .na hi2, .ix0 e_u8 hx3, .lT c5]) (by kernel_rfl) (by intro h; cases h)
      ·exact loop_nQ (p9 ++ [.lF c4, .na hi2, .ix0 e_u8 hx3, .lF c5, .ad v1 1]) (by kernel_rfl) (ih (w64 (v1 + 1)) o h)
    ·obtain rfl := Option.some.inj h
     exact loop_eQ [.le e_u8 a0, .lF c1] (by kernel_rfl) (by intro h; cases h)
def T_spec_NameOk (n : Nat) (a0 : (List UInt8)) : Option Bool :=
  if ((a0.length : Nat) : Int) < 1 then
    some false
  else
    if 8 < ((a0.length : Nat) : Int) then
      some false
    else
      (L_spec_NameOk_l0 a0 n 0).bind fun o3 =>
      match o3 with
      | .inl o3_0 =>
        some o3_0
      | .inr (o3_1) =>
        some true
set_option maxRecDepth 100000 in
theorem fd_146 : cfg.funcs 146 = some (bodyOf Tryz.f146, Tryz.f146.ntmps, Tryz.f146.results.toList) := fn_of Tryz.func146 (by kernel_rfl) (by kernel_rfl)
theorem g_spec_NameOk (n : Nat) (a0 : (List UInt8)) (r : Bool) (h : T_spec_NameOk n a0 = some r) : (mach cfg).call 146 [] [.val false [.seq (eL e_u8 a0)]] = some (.val false [.bool r], []) := by
  unfold T_spec_NameOk at h
  rcases ite_some h with ⟨c1, h⟩ | ⟨c1, h⟩
  ·obtain rfl := Option.some.inj h
   exact call_wQ [.le e_u8 a0, .lT c1] rfl fd_146 (by kernel_rfl)
  ·rcases ite_some h with ⟨c2, h⟩ | ⟨c2, h⟩
   ·obtain rfl := Option.some.inj h
    exact call_wQ [.le e_u8 a0, .lF c1, .le e_u8 a0, .lT c2] rfl fd_146 (by kernel_rfl)
   ·obtain ⟨o3, ho3, h⟩ := bs h
    let p10 : List (Q cfg) := [.le e_u8 a0, .lF c1, .le e_u8 a0, .lF c2, .lp (gl_spec_NameOk_l0 a0 _ 0 _ ho3)]
    rcases o3 with o3_0 | o3_1
    · try dsimp only at h
      obtain rfl := Option.some.inj h
      exact call_wQ p10 rfl fd_146 (by kernel_rfl)
    · try dsimp only at h
      obtain rfl := Option.some.inj h
      exact call_wQ p10 rfl fd_146 (by kernel_rfl)
theorem spec_NameOk_loop {a : List UInt8} (ha : a.length <= 2 ^ 20) : ∀ (d i m : Nat), i + d = a.length → d < m → ∃ z, L_spec_NameOk_l0 a m (i : Int) = some (if (a.drop i).all (inB 97 122) = true then .inr z else .inl false) := by
  intro d
  induction d with
  | zero =>
    intro i m hi hm
    obtain ⟨m, rfl, _⟩ := fuel hm
    exact ⟨_, by rw [L_spec_NameOk_l0, if_neg (by omega), List.drop_eq_nil_of_le (by omega)]; rfl⟩
  | succ d ih =>
    intro i m hi hm
    obtain ⟨m, rfl, hm'⟩ := fuel hm
    have hil : i < a.length := by omega
    rw [L_spec_NameOk_l0, if_pos (by omega), natO_nat, Option.bind_some, get_some hil, Option.bind_some, w64_succ (by omega), drop_cons hil, List.all_cons]
    by_cases h1 : ((a[i].toNat : Nat) : Int) < 97
    · exact ⟨0, by rw [if_pos h1, if_neg]; simp [inB]; omega⟩
    · rw [if_neg h1]
      by_cases h2 : (122 : Int) < ((a[i].toNat : Nat) : Int)
      · exact ⟨0, by rw [if_pos h2, if_neg]; simp [inB]; omega⟩
      · rw [if_neg h2, show inB 97 122 a[i] = true by simp [inB]; omega, Bool.true_and]
        exact ih (i + 1) m (by omega) (by omega)
def S_spec_NameOk (a0 : (List UInt8)) : Option Bool := if a0.length <= 2 ^ 20 then some (nameB a0) else none
theorem spec_spec_NameOk (a0 : (List UInt8)) (r : Bool) (h : S_spec_NameOk a0 = some r) : ∃ n, T_spec_NameOk n a0 = some r := by
  unfold S_spec_NameOk at h
  obtain ⟨ha, h⟩ := need_c h
  refine ⟨a0.length + 1, ?_⟩
  obtain ⟨z, hz⟩ := spec_NameOk_loop ha a0.length 0 (a0.length + 1) (by omega) (by omega)
  rw [show ((0 : Nat) : Int) = 0 from rfl, List.drop_zero] at hz
  unfold T_spec_NameOk
  rw [<- h, hz]
  unfold nameB
  by_cases h1 : 1 <= a0.length
  · rw [if_neg (by omega)]
    by_cases hl : a0.length <= 8
    · rw [if_neg (by omega), decide_eq_true ⟨h1, hl⟩]
      cases a0.all (inB 97 122) <;> rfl
    · rw [if_pos (by omega), decide_eq_false (fun h => hl h.2)]; rfl
  · rw [if_pos (by omega), decide_eq_false (fun h => h1 h.1)]; rfl
theorem ok_spec_NameOk (a0 : (List UInt8)) (r : Bool) (h : S_spec_NameOk a0 = some r) : (mach cfg).call 146 [] [.val false [.seq (eL e_u8 a0)]] = some (.val false [.bool r], []) := by
  obtain ⟨n, hn⟩ := spec_spec_NameOk a0 r h
  exact g_spec_NameOk n a0 r hn
def L_spec_l4split_l0 (a0 : (List UInt8)) : Nat → Int → Option Int
  | 0, _ => none
  | m + 1, v1 =>
    if v1 < ((a0.length : Nat) : Int) then
      (natO v1).bind fun i2 =>
      (a0[i2]?).bind fun x3 =>
      if ((x3.toNat : Nat) : Int) = 91 then
        some v1
      else
        L_spec_l4split_l0 a0 m (w64 (v1 + 1))
    else
      some v1
theorem gl_spec_l4split_l0 (a0 : (List UInt8)) (m : Nat) : ∀ (v1 : Int) (o : Int), L_spec_l4split_l0 a0 m v1 = some o → (mach cfg).loop 106 (loopB Tryz.f106 0) ⟨[(0, .val false [.seq (eL e_u8 a0)]), (5, .val false [.int .i64 v1])], [], 0⟩ = some (match o with | o => (.exit 0, (⟨[(0, .val false [.seq (eL e_u8 a0)]), (5, .val false [.int .i64 o]), (20, .val false [.bool false])], [], 0⟩ : S))) := by
  induction m with
  | zero => intro v1 o h; cases h
  | succ m ih =>
    intro v1 o h
    rw [L_spec_l4split_l0] at h
    rcases ite_some h with ⟨c1, h⟩ | ⟨c1, h⟩
    ·obtain ⟨i2, hi2, h⟩ := bs h
     obtain ⟨x3, hx3, h⟩ := bs h
     rcases ite_some h with ⟨c4, h⟩ | ⟨c4, h⟩
     ·obtain rfl := Option.some.inj h
      exact loop_eQ [.le e_u8 a0, .lT c1, .na hi2, .ix0 e_u8 hx3, .eT c4, .nt true] (by kernel_rfl) (by intro h; cases h)
     ·exact loop_nQ [.le e_u8 a0, .lT c1, .na hi2, .ix0 e_u8 hx3, .eF c4, .nt false, .ad v1 1] (by kernel_rfl) (ih (w64 (v1 + 1)) o h)
    ·obtain rfl := Option.some.inj h
     exact loop_eQ [.le e_u8 a0, .lF c1] (by kernel_rfl) (by intro h; cases h)
def L_spec_l4split_l1 (a0 : (List UInt8)) (v1 : Int) (v2 : (List UInt8)) (v3 : (List UInt8)) : Nat → Int → Option ((Bool × (List UInt8)) ⊕ Int)
  | 0, _ => none
  | m + 1, v4 =>
    if v4 < ((v3.length : Nat) : Int) then
      (natO v4).bind fun i2 =>
      (v3[i2]?).bind fun x3 =>
      if ((x3.toNat : Nat) : Int) < 48 then
        some (.inl (false, []))
      else
        if 57 < ((x3.toNat : Nat) : Int) then
          some (.inl (false, []))
        else
          L_spec_l4split_l1 a0 v1 v2 v3 m (w64 (v4 + 1))
    else
      some (.inr v4)
theorem gl_spec_l4split_l1 (a0 : (List UInt8)) (v1 : Int) (v2 : (List UInt8)) (v3 : (List UInt8)) (m : Nat) : ∀ (v4 : Int) (o : ((Bool × (List UInt8)) ⊕ Int)), L_spec_l4split_l1 a0 v1 v2 v3 m v4 = some o → (mach cfg).loop 106 (loopB Tryz.f106 1) ⟨[(0, .val false [.seq (eL e_u8 a0)]), (5, .val false [.int .i64 v1]), (6, .val false [.seq (eL e_u8 v2)]), (8, .val false [.seq (eL e_u8 v3)]), (9, .val false [.int .i64 v4])], [], 0⟩ = some (match o with | .inl ⟨o_0_0, o_0_1⟩ => (.ret, (⟨[(2, .val false [.ref 0]), (3, .val false [.ref 1]), (4, .val false [.bool o_0_0])], [.obj 1 (eL e_u8 o_0_1), .obj 1 (eL e_u8 o_0_1)], 0⟩ : S)) | .inr (o_1) => (.exit 2, (⟨[(0, .val false [.seq (eL e_u8 a0)]), (5, .val false [.int .i64 v1]), (6, .val false [.seq (eL e_u8 v2)]), (8, .val false [.seq (eL e_u8 v3)]), (9, .val false [.int .i64 o_1]), (98, .val false [.bool false])], [], 0⟩ : S))) := by
  induction m with
  | zero => intro v4 o h; cases h
  | succ m ih =>
    intro v4 o h
    rw [L_spec_l4split_l1] at h
    rcases ite_some h with ⟨c1, h⟩ | ⟨c1, h⟩
    ·obtain ⟨i2, hi2, h⟩ := bs h
     obtain ⟨x3, hx3, h⟩ := bs h
     let p11 : List (Q cfg) := [.le e_u8 v3, .lT c1, .na hi2, .ix0 e_u8 hx3]
     rcases ite_some h with ⟨c4, h⟩ | ⟨c4, h⟩
     ·obtain rfl := Option.some.inj h
      exact loop_eQ (p11 ++ [.lT c4]) (by kernel_rfl) (by intro h; cases h)
     ·rcases ite_some h with ⟨c5, h⟩ | ⟨c5, h⟩
      ·obtain rfl := Option.some.inj h
       exact loop_eQ (p11 ++ [.lF c4, .na hi2, .ix0 e_u8 hx3, .lT c5]) (by kernel_rfl) (by intro h; cases h)
      ·exact loop_nQ (p11 ++ [.lF c4, .na hi2, .ix0 e_u8 hx3, .lF c5, .ad v4 1]) (by kernel_rfl) (ih (w64 (v4 + 1)) o h)
    ·obtain rfl := Option.some.inj h
     exact loop_eQ [.le e_u8 v3, .lF c1] (by kernel_rfl) (by intro h; cases h)
def T_spec_l4split (n : Nat) (a0 : (List UInt8)) : Option ((List UInt8) × (List UInt8) × Bool) :=
  (L_spec_l4split_l0 a0 n 0).bind fun o1 =>
  (natO o1).bind fun i2 =>
  (cutO a0 none (some i2)).bind fun s3 =>
  (S_spec_NameOk s3).bind fun r4 =>
  match r4 with
  | true =>
    (cutO a0 (some i2) none).bind fun s6 =>
    if ((s6.length : Nat) : Int) = 0 then
      some (a0, s6, true)
    else
      if ((s6.length : Nat) : Int) < 3 then
        some ([], [], false)
      else
        (natO (w64 (((s6.length : Nat) : Int) - 1))).bind fun i9 =>
        (s6[i9]?).bind fun x10 =>
        if ((x10.toNat : Nat) : Int) = 93 then
          (cutO s6 (some 1) (some i9)).bind fun s12 =>
          (s12[0]?).bind fun x13 =>
          if ((x13.toNat : Nat) : Int) = 34 then
            if ((s12.length : Nat) : Int) < 3 then
              some ([], [], false)
            else
              (natO (w64 (((s12.length : Nat) : Int) - 1))).bind fun i16 =>
              (s12[i16]?).bind fun x17 =>
              if ((x17.toNat : Nat) : Int) = 34 then
                (cutO s12 (some 1) (some i16)).bind fun s19 =>
                (S_spec_NameOk s19).bind fun r20 =>
                match r20 with
                | true =>
                  some (s3, s6, true)
                | false =>
                  some ([], [], false)
              else
                some ([], [], false)
          else
            if 2 < ((s12.length : Nat) : Int) then
              some ([], [], false)
            else
              if ((s12.length : Nat) : Int) = 2 then
                if ((x13.toNat : Nat) : Int) = 48 then
                  some ([], [], false)
                else
                  (L_spec_l4split_l1 a0 o1 s6 s12 n 0).bind fun o18 =>
                  match o18 with
                  | .inl ⟨o18_0_0, o18_0_1⟩ =>
                    some (o18_0_1, o18_0_1, o18_0_0)
                  | .inr (o18_1) =>
                    some (s3, s6, true)
              else
                (L_spec_l4split_l1 a0 o1 s6 s12 n 0).bind fun o17 =>
                match o17 with
                | .inl ⟨o17_0_0, o17_0_1⟩ =>
                  some (o17_0_1, o17_0_1, o17_0_0)
                | .inr (o17_1) =>
                  some (s3, s6, true)
        else
          some ([], [], false)
  | false =>
    some ([], [], false)
set_option maxRecDepth 100000 in
theorem fd_106 : cfg.funcs 106 = some (bodyOf Tryz.f106, Tryz.f106.ntmps, Tryz.f106.results.toList) := fn_of Tryz.func106 (by kernel_rfl) (by kernel_rfl)
theorem g_spec_l4split (n : Nat) (a0 : (List UInt8)) (r : ((List UInt8) × (List UInt8) × Bool)) (h : T_spec_l4split n a0 = some r) : (mach cfg).call 106 [] [.val false [.seq (eL e_u8 a0)]] = some (.tup [(false, [.seq (eL e_u8 r.1)]), (false, [.seq (eL e_u8 r.2.1)]), (false, [.bool r.2.2])], []) := by
  unfold T_spec_l4split at h
  obtain ⟨o1, ho1, h⟩ := bs h
  obtain ⟨i2, hi2, h⟩ := bs h
  obtain ⟨s3, hs3, h⟩ := bs h
  obtain ⟨r4, hr4, h⟩ := bs h
  cases r4 with
  | true =>
   try dsimp only at h
   obtain ⟨s6, hs6, h⟩ := bs h
   rcases ite_some h with ⟨c7, h⟩ | ⟨c7, h⟩
   ·obtain rfl := Option.some.inj h
    exact call_wQ [.lp (gl_spec_l4split_l0 a0 _ 0 _ ho1), .na hi2, ⟨.cut (eL e_u8 a0) none (some i2), .l (eL e_u8 s3), (A.cut hs3)⟩, ⟨.uni 1 (eL e_u8 a0), .b true, (A.uni E_u8)⟩, .cl (ok_spec_NameOk s3 _ hr4), .nt true, .na hi2, ⟨.cut (eL e_u8 a0) (some i2) none, .l (eL e_u8 s6), (A.cut hs6)⟩, ⟨.uni 1 (eL e_u8 a0), .b true, (A.uni E_u8)⟩, .le e_u8 s6, .eT c7] rfl fd_106 (by kernel_rfl)
   ·let p12 : List (Q cfg) := [.lp (gl_spec_l4split_l0 a0 _ 0 _ ho1), .na hi2, ⟨.cut (eL e_u8 a0) none (some i2), .l (eL e_u8 s3), (A.cut hs3)⟩, ⟨.uni 1 (eL e_u8 a0), .b true, (A.uni E_u8)⟩, .cl (ok_spec_NameOk s3 _ hr4), .nt true, .na hi2]
    rcases ite_some h with ⟨c8, h⟩ | ⟨c8, h⟩
    ·obtain rfl := Option.some.inj h
     exact (call_wQ (r := (.tup [(false, [.seq (viewL (eL e_u8 []))]), (false, [.seq (viewL (eL e_u8 []))]), (false, [.bool false])], [])) (p12 ++ [⟨.cut (eL e_u8 a0) (some i2) none, .l (eL e_u8 s6), (A.cut hs6)⟩, ⟨.uni 1 (eL e_u8 a0), .b true, (A.uni E_u8)⟩, .le e_u8 s6, .eF c7, .le e_u8 s6, .lT c8]) rfl fd_106 (by kernel_rfl)).trans (by simp only [viewL_eL E_u8] <;> rfl)
    ·obtain ⟨i9, hi9, h⟩ := bs h
     obtain ⟨x10, hx10, h⟩ := bs h
     let p13 : List (Q cfg) := p12 ++ [⟨.cut (eL e_u8 a0) (some i2) none, .l (eL e_u8 s6), (A.cut hs6)⟩, ⟨.uni 1 (eL e_u8 a0), .b true, (A.uni E_u8)⟩, .le e_u8 s6, .eF c7, .le e_u8 s6, .lF c8]
     rcases ite_some h with ⟨c11, h⟩ | ⟨c11, h⟩
     ·obtain ⟨s12, hs12, h⟩ := bs h
      obtain ⟨x13, hx13, h⟩ := bs h
      rcases ite_some h with ⟨c14, h⟩ | ⟨c14, h⟩
      ·rcases ite_some h with ⟨c15, h⟩ | ⟨c15, h⟩
       ·obtain rfl := Option.some.inj h
        exact (call_wQ (r := (.tup [(false, [.seq (viewL (eL e_u8 []))]), (false, [.seq (viewL (eL e_u8 []))]), (false, [.bool false])], [])) (p13 ++ [.su ((s6.length : Nat) : Int) 1, .na hi9, .ix0 e_u8 hx10, .eT c11, .nt true, .su ((s6.length : Nat) : Int) 1, ⟨.nat 1, .n 1, rfl⟩, .na hi9, ⟨.cut (eL e_u8 s6) (some 1) (some i9), .l (eL e_u8 s12), (A.cut hs12)⟩, ⟨.uni 1 (eL e_u8 s6), .b true, (A.uni E_u8)⟩, ⟨.nat 0, .n 0, rfl⟩, .ix0 e_u8 hx13, .eT c14, .le e_u8 s12, .lT c15]) rfl fd_106 (by kernel_rfl)).trans (by simp only [viewL_eL E_u8] <;> rfl)
       ·obtain ⟨i16, hi16, h⟩ := bs h
        obtain ⟨x17, hx17, h⟩ := bs h
        rcases ite_some h with ⟨c18, h⟩ | ⟨c18, h⟩
        ·obtain ⟨s19, hs19, h⟩ := bs h
         obtain ⟨r20, hr20, h⟩ := bs h
         let p14 : List (Q cfg) := p13 ++ [.su ((s6.length : Nat) : Int) 1, .na hi9, .ix0 e_u8 hx10, .eT c11, .nt true, .su ((s6.length : Nat) : Int) 1, ⟨.nat 1, .n 1, rfl⟩, .na hi9, ⟨.cut (eL e_u8 s6) (some 1) (some i9), .l (eL e_u8 s12), (A.cut hs12)⟩, ⟨.uni 1 (eL e_u8 s6), .b true, (A.uni E_u8)⟩, ⟨.nat 0, .n 0, rfl⟩, .ix0 e_u8 hx13, .eT c14, .le e_u8 s12, .lF c15, .le e_u8 s12, .su ((s12.length : Nat) : Int) 1, .na hi16, .ix0 e_u8 hx17, .eT c18, .nt true, .le e_u8 s12, .su ((s12.length : Nat) : Int) 1, ⟨.nat 1, .n 1, rfl⟩, .na hi16, ⟨.cut (eL e_u8 s12) (some 1) (some i16), .l (eL e_u8 s19), (A.cut hs19)⟩, ⟨.uni 1 (eL e_u8 s12), .b true, (A.uni E_u8)⟩, .cl (ok_spec_NameOk s19 _ hr20)]
         cases r20 with
         | true =>
          try dsimp only at h
          obtain rfl := Option.some.inj h
          exact call_wQ (p14 ++ [.nt true, .na hi2, ⟨.cut (eL e_u8 a0) none (some i2), .l (eL e_u8 s3), (A.cut hs3)⟩, ⟨.uni 1 (eL e_u8 a0), .b true, (A.uni E_u8)⟩]) rfl fd_106 (by kernel_rfl)
         | false =>
          try dsimp only at h
          obtain rfl := Option.some.inj h
          exact (call_wQ (r := (.tup [(false, [.seq (viewL (eL e_u8 []))]), (false, [.seq (viewL (eL e_u8 []))]), (false, [.bool false])], [])) (p14 ++ [.nt false]) rfl fd_106 (by kernel_rfl)).trans (by simp only [viewL_eL E_u8] <;> rfl)
        ·obtain rfl := Option.some.inj h
         exact (call_wQ (r := (.tup [(false, [.seq (viewL (eL e_u8 []))]), (false, [.seq (viewL (eL e_u8 []))]), (false, [.bool false])], [])) (p13 ++ [.su ((s6.length : Nat) : Int) 1, .na hi9, .ix0 e_u8 hx10, .eT c11, .nt true, .su ((s6.length : Nat) : Int) 1, ⟨.nat 1, .n 1, rfl⟩, .na hi9, ⟨.cut (eL e_u8 s6) (some 1) (some i9), .l (eL e_u8 s12), (A.cut hs12)⟩, ⟨.uni 1 (eL e_u8 s6), .b true, (A.uni E_u8)⟩, ⟨.nat 0, .n 0, rfl⟩, .ix0 e_u8 hx13, .eT c14, .le e_u8 s12, .lF c15, .le e_u8 s12, .su ((s12.length : Nat) : Int) 1, .na hi16, .ix0 e_u8 hx17, .eF c18, .nt false]) rfl fd_106 (by kernel_rfl)).trans (by simp only [viewL_eL E_u8] <;> rfl)
      ·rcases ite_some h with ⟨c15, h⟩ | ⟨c15, h⟩
       ·obtain rfl := Option.some.inj h
        exact (call_wQ (r := (.tup [(false, [.seq (viewL (eL e_u8 []))]), (false, [.seq (viewL (eL e_u8 []))]), (false, [.bool false])], [])) (p13 ++ [.su ((s6.length : Nat) : Int) 1, .na hi9, .ix0 e_u8 hx10, .eT c11, .nt true, .su ((s6.length : Nat) : Int) 1, ⟨.nat 1, .n 1, rfl⟩, .na hi9, ⟨.cut (eL e_u8 s6) (some 1) (some i9), .l (eL e_u8 s12), (A.cut hs12)⟩, ⟨.uni 1 (eL e_u8 s6), .b true, (A.uni E_u8)⟩, ⟨.nat 0, .n 0, rfl⟩, .ix0 e_u8 hx13, .eF c14, .le e_u8 s12, .lT c15]) rfl fd_106 (by kernel_rfl)).trans (by simp only [viewL_eL E_u8] <;> rfl)
       ·rcases ite_some h with ⟨c16, h⟩ | ⟨c16, h⟩
        ·rcases ite_some h with ⟨c17, h⟩ | ⟨c17, h⟩
         ·obtain rfl := Option.some.inj h
          exact (call_wQ (r := (.tup [(false, [.seq (viewL (eL e_u8 []))]), (false, [.seq (viewL (eL e_u8 []))]), (false, [.bool false])], [])) (p13 ++ [.su ((s6.length : Nat) : Int) 1, .na hi9, .ix0 e_u8 hx10, .eT c11, .nt true, .su ((s6.length : Nat) : Int) 1, ⟨.nat 1, .n 1, rfl⟩, .na hi9, ⟨.cut (eL e_u8 s6) (some 1) (some i9), .l (eL e_u8 s12), (A.cut hs12)⟩, ⟨.uni 1 (eL e_u8 s6), .b true, (A.uni E_u8)⟩, ⟨.nat 0, .n 0, rfl⟩, .ix0 e_u8 hx13, .eF c14, .le e_u8 s12, .lF c15, .le e_u8 s12, .eT c16, ⟨.nat 0, .n 0, rfl⟩, .ix0 e_u8 hx13, .eT c17]) rfl fd_106 (by kernel_rfl)).trans (by simp only [viewL_eL E_u8] <;> rfl)
         ·obtain ⟨o18, ho18, h⟩ := bs h
          let p15 : List (Q cfg) := p13 ++ [.su ((s6.length : Nat) : Int) 1, .na hi9, .ix0 e_u8 hx10, .eT c11, .nt true, .su ((s6.length : Nat) : Int) 1, ⟨.nat 1, .n 1, rfl⟩, .na hi9, ⟨.cut (eL e_u8 s6) (some 1) (some i9), .l (eL e_u8 s12), (A.cut hs12)⟩, ⟨.uni 1 (eL e_u8 s6), .b true, (A.uni E_u8)⟩, ⟨.nat 0, .n 0, rfl⟩, .ix0 e_u8 hx13, .eF c14, .le e_u8 s12, .lF c15, .le e_u8 s12, .eT c16, ⟨.nat 0, .n 0, rfl⟩, .ix0 e_u8 hx13, .eF c17, .lp (gl_spec_l4split_l1 a0 o1 s6 s12 _ 0 _ ho18)]
          rcases o18 with ⟨o18_0_0, o18_0_1⟩ | o18_1
          · try dsimp only at h
            obtain rfl := Option.some.inj h
            exact (call_wQ (r := (.tup [(false, [.seq (viewL (eL e_u8 o18_0_1))]), (false, [.seq (viewL (eL e_u8 o18_0_1))]), (false, [.bool o18_0_0])], [])) p15 rfl fd_106 (by kernel_rfl)).trans (by simp only [viewL_eL E_u8] <;> rfl)
          · try dsimp only at h
            obtain rfl := Option.some.inj h
            exact call_wQ (p15 ++ [.na hi2, ⟨.cut (eL e_u8 a0) none (some i2), .l (eL e_u8 s3), (A.cut hs3)⟩, ⟨.uni 1 (eL e_u8 a0), .b true, (A.uni E_u8)⟩]) rfl fd_106 (by kernel_rfl)
        ·obtain ⟨o17, ho17, h⟩ := bs h
         let p16 : List (Q cfg) := p13 ++ [.su ((s6.length : Nat) : Int) 1, .na hi9, .ix0 e_u8 hx10, .eT c11, .nt true, .su ((s6.length : Nat) : Int) 1, ⟨.nat 1, .n 1, rfl⟩, .na hi9, ⟨.cut (eL e_u8 s6) (some 1) (some i9), .l (eL e_u8 s12), (A.cut hs12)⟩, ⟨.uni 1 (eL e_u8 s6), .b true, (A.uni E_u8)⟩, ⟨.nat 0, .n 0, rfl⟩, .ix0 e_u8 hx13, .eF c14, .le e_u8 s12, .lF c15, .le e_u8 s12, .eF c16, .lp (gl_spec_l4split_l1 a0 o1 s6 s12 _ 0 _ ho17)]
         rcases o17 with ⟨o17_0_0, o17_0_1⟩ | o17_1
         · try dsimp only at h
           obtain rfl := Option.some.inj h
           exact (call_wQ (r := (.tup [(false, [.seq (viewL (eL e_u8 o17_0_1))]), (false, [.seq (viewL (eL e_u8 o17_0_1))]), (false, [.bool o17_0_0])], [])) p16 rfl fd_106 (by kernel_rfl)).trans (by simp only [viewL_eL E_u8] <;> rfl)
         · try dsimp only at h
           obtain rfl := Option.some.inj h
           exact call_wQ (p16 ++ [.na hi2, ⟨.cut (eL e_u8 a0) none (some i2), .l (eL e_u8 s3), (A.cut hs3)⟩, ⟨.uni 1 (eL e_u8 a0), .b true, (A.uni E_u8)⟩]) rfl fd_106 (by kernel_rfl)
     ·obtain rfl := Option.some.inj h
      exact (call_wQ (r := (.tup [(false, [.seq (viewL (eL e_u8 []))]), (false, [.seq (viewL (eL e_u8 []))]), (false, [.bool false])], [])) (p13 ++ [.su ((s6.length : Nat) : Int) 1, .na hi9, .ix0 e_u8 hx10, .eF c11, .nt false]) rfl fd_106 (by kernel_rfl)).trans (by simp only [viewL_eL E_u8] <;> rfl)
  | false =>
   try dsimp only at h
   obtain rfl := Option.some.inj h
   exact (call_wQ (r := (.tup [(false, [.seq (viewL (eL e_u8 []))]), (false, [.seq (viewL (eL e_u8 []))]), (false, [.bool false])], [])) [.lp (gl_spec_l4split_l0 a0 _ 0 _ ho1), .na hi2, ⟨.cut (eL e_u8 a0) none (some i2), .l (eL e_u8 s3), (A.cut hs3)⟩, ⟨.uni 1 (eL e_u8 a0), .b true, (A.uni E_u8)⟩, .cl (ok_spec_NameOk s3 _ hr4), .nt false] rfl fd_106 (by kernel_rfl)).trans (by simp only [viewL_eL E_u8] <;> rfl)
theorem l4s_find {a : List UInt8} (ha : a.length <= 2 ^ 20) : ∀ (d i m : Nat), i + d = a.length → d < m → L_spec_l4split_l0 a m (i : Int) = some ((i + (nm91 (a.drop i)).length : Nat) : Int) := by
  intro d
  induction d with
  | zero =>
    intro i m hi hm
    obtain ⟨m, rfl, _⟩ := fuel hm
    rw [L_spec_l4split_l0, if_neg (by omega), List.drop_eq_nil_of_le (by omega)]; rfl
  | succ d ih =>
    intro i m hi hm
    obtain ⟨m, rfl, hm'⟩ := fuel hm
    have hil : i < a.length := by omega
    rw [L_spec_l4split_l0, if_pos (by omega), natO_nat, Option.bind_some, get_some hil, Option.bind_some, drop_cons hil]
    unfold nm91
    rw [List.takeWhile_cons]
    by_cases h : a[i] = 91
    · rw [h, if_pos (by decide), if_neg (by simp)]; rfl
    · have : ¬ ((a[i].toNat : Nat) : Int) = 91 := fun e => h (UInt8.toNat_inj.1 (by show a[i].toNat = 91; omega))
      rw [if_neg this, if_pos (by simpa using h), w64_succ (by omega), ih (i + 1) m (by omega) (by omega)]
      unfold nm91
      rw [List.length_cons]
      congr 2; omega
theorem l4s_dig {a v2 l : List UInt8} {v1 : Int} (hl : l.length <= 2 ^ 20) : ∀ (d i m : Nat), i + d = l.length → d < m → ∃ z, L_spec_l4split_l1 a v1 v2 l m (i : Int) = some (if (l.drop i).all (inB 48 57) = true then .inr z else .inl (false, [])) := by
  intro d
  induction d with
  | zero =>
    intro i m hi hm
    obtain ⟨m, rfl, _⟩ := fuel hm
    exact ⟨_, by rw [L_spec_l4split_l1, if_neg (by omega), List.drop_eq_nil_of_le (by omega)]; rfl⟩
  | succ d ih =>
    intro i m hi hm
    obtain ⟨m, rfl, hm'⟩ := fuel hm
    have hil : i < l.length := by omega
    rw [L_spec_l4split_l1, if_pos (by omega), natO_nat, Option.bind_some, get_some hil, Option.bind_some, w64_succ (by omega), drop_cons hil, List.all_cons]
    by_cases h1 : ((l[i].toNat : Nat) : Int) < 48
    · exact ⟨0, by rw [if_pos h1, if_neg]; simp [inB]; omega⟩
    · rw [if_neg h1]
      by_cases h2 : (57 : Int) < ((l[i].toNat : Nat) : Int)
      · exact ⟨0, by rw [if_pos h2, if_neg]; simp [inB]; omega⟩
      · rw [if_neg h2, show inB 48 57 l[i] = true by simp [inB]; omega, Bool.true_and]
        exact ih (i + 1) m (by omega) (by omega)
def splitR (a : List UInt8) : (List UInt8) × (List UInt8) × Bool := if addrB a = true then (nm91 a, rs91 a, true) else ([], [], false)
theorem u8_eq {x : UInt8} {n : Nat} (hn : n < 256) : ((x.toNat : Nat) : Int) = (n : Int) ↔ x = UInt8.ofNat n := by
  constructor
  · intro h
    refine UInt8.toNat_inj.1 ?_
    rw [UInt8.toNat_ofNat_of_lt' hn]; omega
  · intro h
    subst h
    rw [UInt8.toNat_ofNat_of_lt' hn]
theorem l4split_val {a : List UInt8} (ha : a.length <= 2 ^ 20) : T_spec_l4split (a.length + 5) a = some (splitR a) := by
  have hlen := nm_len a
  have h0 := l4s_find ha a.length 0 (a.length + 5) (by omega) (by omega)
  rw [List.drop_zero, Nat.zero_add, show ((0 : Nat) : Int) = 0 from rfl] at h0
  unfold T_spec_l4split
  rw [h0, Option.bind_some, natO_nat, Option.bind_some, cut_to (by omega), Option.bind_some, nm_take]
  unfold S_spec_NameOk
  rw [if_pos (by omega), Option.bind_some]
  unfold splitR
  have hfalse : ∀ {x : (List UInt8) × (List UInt8) × Bool}, addrB a = false → some (([] : List UInt8), ([] : List UInt8), false) = some (if addrB a = true then x else ([], [], false)) := fun h => by rw [h]; rfl
  cases hn : nameB (nm91 a) with
  | false => exact hfalse (by unfold addrB; rw [hn]; rfl)
  | true =>
    dsimp only
    have hA : addrB a = (if rs91 a = [] then true else if ((rs91 a).drop 1).getLast? = some 93 then insB ((rs91 a).drop 1).dropLast else false) := by unfold addrB; rw [hn, Bool.true_and]
    rw [cut_from (by omega), Option.bind_some, nm_drop]
    by_cases hr : rs91 a = []
    · rw [hr, if_pos (by simp), hA, if_pos hr]
      have := nm_rs a
      rw [hr, List.append_nil] at this
      rw [this]; rfl
    obtain ⟨t, ht⟩ := rs_head hr
    rw [ht] at hlen hA ⊢
    rw [if_neg (by simp)] at hA
    simp only [List.drop_succ_cons, List.drop_zero] at hA
    rw [if_neg (by simp; omega)]
    by_cases h3 : (((91 :: t : List UInt8).length : Nat) : Int) < 3
    · rw [if_pos h3]
      refine hfalse ?_
      rw [hA]
      simp only [List.length_cons] at h3
      match t, h3 with
      | [], _ => rfl
      | [x], _ =>
        split
        · rfl
        · rfl
      | x :: y :: t, h3 => simp at h3; omega
    rw [if_neg h3]
    simp only [List.length_cons] at h3
    have ht0 : 0 < t.length := by omega
    rw [show w64 ((((91 :: t : List UInt8).length : Nat) : Int) - 1) = (((91 :: t : List UInt8).length - 1 : Nat) : Int) from w64_pred (by simp only [List.length_cons] at hlen ⊢; omega) (by simp), natO_nat, Option.bind_some]
    have hlast : (91 :: t : List UInt8)[(91 :: t : List UInt8).length - 1]? = t.getLast? := by
      rw [last_get (by simp), List.getLast?_cons]
      cases t with
      | nil => simp at ht0
      | cons x t => rw [List.getLast?_cons]; rfl
    rw [hlast]
    obtain ⟨x, hx⟩ : ∃ x, t.getLast? = some x := by
      cases t with
      | nil => simp at ht0
      | cons y t => exact ⟨_, List.getLast?_cons⟩
    rw [hx, Option.bind_some]
    rw [hx] at hA
    have htrue : ∀ {x : (List UInt8) × (List UInt8) × Bool}, addrB a = true → some x = some (if addrB a = true then x else ([], [], false)) := fun h => by rw [h]; rfl
    by_cases h93 : ¬ x = 93
    · rw [if_neg (show ¬ ((x.toNat : Nat) : Int) = 93 from fun h => h93 ((u8_eq (n := 93) (by decide)).1 h))]
      refine hfalse ?_
      rw [hA, if_neg (by simpa using h93)]
    have h93 : x = 93 := Classical.not_not.1 h93
    subst h93
    rw [if_pos (by decide)]
    rw [if_pos rfl] at hA
    have hmid := cut_mid (l := 91 :: t) (by simp; omega)
    rw [List.drop_succ_cons, List.drop_zero] at hmid
    rw [hmid, Option.bind_some]
    have hdl : t.dropLast.length = t.length - 1 := List.length_dropLast
    generalize t.dropLast = l at hdl hA ⊢
    cases l with
    | nil => simp at hdl; omega
    | cons c r =>
    rw [show (c :: r : List UInt8)[0]? = some c from rfl, Option.bind_some]
    unfold insB at hA
    rw [show (c :: r : List UInt8)[0]? = some c from rfl, List.drop_succ_cons, List.drop_zero] at hA
    have hcl : (c :: r : List UInt8).length <= 2 ^ 20 := by simp only [List.length_cons] at hdl hlen ⊢; omega
    by_cases h34 : c = 34
    · subst h34
      rw [if_pos (by decide)]
      rw [if_pos rfl] at hA
      by_cases hl3 : (((34 :: r : List UInt8).length : Nat) : Int) < 3
      · rw [if_pos hl3]
        refine hfalse ?_
        rw [hA]
        simp only [List.length_cons] at hl3
        match r, hl3 with
        | [], _ => rfl
        | [y], _ =>
          split
          · rfl
          · rfl
        | x :: y :: r, h => simp at h; omega
      rw [if_neg hl3]
      simp only [List.length_cons] at hl3
      have hr0 : 0 < r.length := by omega
      rw [show w64 ((((34 :: r : List UInt8).length : Nat) : Int) - 1) = (((34 :: r : List UInt8).length - 1 : Nat) : Int) from w64_pred (by omega) (by simp), natO_nat, Option.bind_some]
      have hlast2 : (34 :: r : List UInt8)[(34 :: r : List UInt8).length - 1]? = r.getLast? := by
        rw [last_get (by simp), List.getLast?_cons]
        cases r with
        | nil => simp at hr0
        | cons x r => rw [List.getLast?_cons]; rfl
      obtain ⟨y, hy⟩ : ∃ y, r.getLast? = some y := by
        cases r with
        | nil => simp at hr0
        | cons y r => exact ⟨_, List.getLast?_cons⟩
      rw [hlast2, hy, Option.bind_some]
      rw [hy] at hA
      by_cases hy34 : y = 34
      · subst hy34
        rw [if_pos (by decide)]
        rw [if_pos rfl] at hA
        have hm2 := cut_mid (l := 34 :: r) (by simp; omega)
        rw [List.drop_succ_cons, List.drop_zero] at hm2
        rw [hm2, Option.bind_some, if_pos (by rw [List.length_dropLast]; simp only [List.length_cons] at hcl; omega), Option.bind_some]
        cases hk : nameB r.dropLast with
        | true => exact htrue (by rw [hA, hk])
        | false => exact hfalse (by rw [hA, hk])
      · rw [if_neg (show ¬ ((y.toNat : Nat) : Int) = 34 from fun h => hy34 ((u8_eq (n := 34) (by decide)).1 h))]
        exact hfalse (by rw [hA, if_neg (by simpa using hy34)])
    · rw [if_neg (show ¬ ((c.toNat : Nat) : Int) = 34 from fun h => h34 ((u8_eq (n := 34) (by decide)).1 h))]
      rw [if_neg (by simpa using h34)] at hA
      unfold digB at hA
      rw [show (c :: r : List UInt8)[0]? = some c from rfl] at hA
      obtain ⟨z, hz⟩ := l4s_dig (a := a) (v2 := 91 :: t) (l := c :: r) (v1 := (((nm91 a).length : Nat) : Int)) hcl (c :: r).length 0 (a.length + 5) (by omega) (by simp only [List.length_cons] at hlen hdl ⊢; omega)
      rw [List.drop_zero, show ((0 : Nat) : Int) = 0 from rfl] at hz
      by_cases h2 : (2 : Int) < (((c :: r : List UInt8).length : Nat) : Int)
      · rw [if_pos h2]
        exact hfalse (by rw [hA, decide_eq_false (by omega)]; rfl)
      rw [if_neg h2]
      have h12 : decide (1 <= (c :: r : List UInt8).length ∧ (c :: r : List UInt8).length <= 2) = true := decide_eq_true ⟨by simp, by omega⟩
      rw [h12, Bool.true_and] at hA
      have fin : (decide ((c :: r : List UInt8).length = 2) && decide (some c = some 48)) = false → addrB a = (c :: r : List UInt8).all (inB 48 57) := fun h => by
        rw [h, Bool.not_false, Bool.true_and] at hA
        exact hA
      by_cases he : (((c :: r : List UInt8).length : Nat) : Int) = 2
      · rw [if_pos he]
        by_cases h48 : c = 48
        · subst h48
          rw [if_pos (by decide)]
          exact hfalse (by rw [hA, decide_eq_true (by omega)]; rfl)
        · rw [if_neg (show ¬ ((c.toNat : Nat) : Int) = 48 from fun h => h48 ((u8_eq (n := 48) (by decide)).1 h)), hz, Option.bind_some, fin (by rw [decide_eq_false (p := some c = some 48) (by simpa using h48), Bool.and_false])]
          cases (c :: r : List UInt8).all (inB 48 57) <;> rfl
      · rw [if_neg he, hz, Option.bind_some, fin (by rw [decide_eq_false (by omega), Bool.false_and])]
        cases (c :: r : List UInt8).all (inB 48 57) <;> rfl
def S_spec_l4split (a0 : (List UInt8)) : Option ((List UInt8) × (List UInt8) × Bool) := if a0.length <= 2 ^ 20 then some (splitR a0) else none
theorem spec_spec_l4split (a0 : (List UInt8)) (r : ((List UInt8) × (List UInt8) × Bool)) (h : S_spec_l4split a0 = some r) : ∃ n, T_spec_l4split n a0 = some r := by
  unfold S_spec_l4split at h
  obtain ⟨ha, h⟩ := need_c h
  exact ⟨a0.length + 5, by rw [<- h]; exact l4split_val ha⟩
theorem specA_eq {a : List UInt8} (h : a.length <= 2 ^ 20) : (S_spec_l4split a).bind (fun r => some r.2.2) = some (addrB a) := by
  unfold S_spec_l4split splitR
  rw [if_pos h, Option.bind_some]
  cases addrB a <;> rfl
theorem ok_spec_l4split (a0 : (List UInt8)) (r : ((List UInt8) × (List UInt8) × Bool)) (h : S_spec_l4split a0 = some r) : (mach cfg).call 106 [] [.val false [.seq (eL e_u8 a0)]] = some (.tup [(false, [.seq (eL e_u8 r.1)]), (false, [.seq (eL e_u8 r.2.1)]), (false, [.bool r.2.2])], []) := by
  obtain ⟨n, hn⟩ := spec_spec_l4split a0 r h
  exact g_spec_l4split n a0 r hn
def S_spec_AddrOk (a0 : (List UInt8)) : Option Bool :=
  (S_spec_l4split a0).bind fun ⟨r1_0, r1_1, r1_2⟩ =>
  some r1_2
set_option maxRecDepth 100000 in
theorem fd_61 : cfg.funcs 61 = some (bodyOf Tryz.f61, Tryz.f61.ntmps, Tryz.f61.results.toList) := fn_of Tryz.func61 (by kernel_rfl) (by kernel_rfl)
theorem ok_spec_AddrOk (a0 : (List UInt8)) (r : Bool) (h : S_spec_AddrOk a0 = some r) : (mach cfg).call 61 [] [.val false [.seq (eL e_u8 a0)]] = some (.val false [.bool r], []) := by
  unfold S_spec_AddrOk at h
  obtain ⟨⟨r1_0, r1_1, r1_2⟩, hr1, h⟩ := bs h
  try dsimp only at h
  obtain rfl := Option.some.inj h
  exact call_wQ [.cl (ok_spec_l4split a0 _ hr1)] rfl fd_61 (by kernel_rfl)
def L_spec_l2text_l0 (a0 : (List UInt8)) : Nat → Int → Option (Bool ⊕ Int)
  | 0, _ => none
  | m + 1, v1 =>
    if v1 < ((a0.length : Nat) : Int) then
      (natO v1).bind fun i2 =>
      (a0[i2]?).bind fun x3 =>
      if ((x3.toNat : Nat) : Int) < 32 then
        some (.inl false)
      else
        if 126 < ((x3.toNat : Nat) : Int) then
          some (.inl false)
        else
          L_spec_l2text_l0 a0 m (w64 (v1 + 1))
    else
      some (.inr v1)
theorem gl_spec_l2text_l0 (a0 : (List UInt8)) (m : Nat) : ∀ (v1 : Int) (o : (Bool ⊕ Int)), L_spec_l2text_l0 a0 m v1 = some o → (mach cfg).loop 170 (loopB Tryz.f170 0) ⟨[(0, .val false [.seq (eL e_u8 a0)]), (3, .val false [.int .i64 v1])], [], 0⟩ = some (match o with | .inl o_0 => (.ret, (⟨[(2, .val false [.bool o_0])], [], 0⟩ : S)) | .inr (o_1) => (.exit 0, (⟨[(0, .val false [.seq (eL e_u8 a0)]), (3, .val false [.int .i64 o_1]), (10, .val false [.bool false])], [], 0⟩ : S))) := by
  induction m with
  | zero => intro v1 o h; cases h
  | succ m ih =>
    intro v1 o h
    rw [L_spec_l2text_l0] at h
    rcases ite_some h with ⟨c1, h⟩ | ⟨c1, h⟩
    ·obtain ⟨i2, hi2, h⟩ := bs h
     obtain ⟨x3, hx3, h⟩ := bs h
     let p17 : List (Q cfg) := [.le e_u8 a0, .lT c1, .na hi2, .ix0 e_u8 hx3]
     rcases ite_some h with ⟨c4, h⟩ | ⟨c4, h⟩
     ·obtain rfl := Option.some.inj h
      exact loop_eQ (p17 ++ [.lT c4]) (by kernel_rfl) (by intro h; cases h)
     ·rcases ite_some h with ⟨c5, h⟩ | ⟨c5, h⟩
      ·obtain rfl := Option.some.inj h
       exact loop_eQ (p17 ++ [.lF c4, .na hi2, .ix0 e_u8 hx3, .lT c5]) (by kernel_rfl) (by intro h; cases h)
      ·exact loop_nQ (p17 ++ [.lF c4, .na hi2, .ix0 e_u8 hx3, .lF c5, .ad v1 1]) (by kernel_rfl) (ih (w64 (v1 + 1)) o h)
    ·obtain rfl := Option.some.inj h
     exact loop_eQ [.le e_u8 a0, .lF c1] (by kernel_rfl) (by intro h; cases h)
def T_spec_l2text (n : Nat) (a0 : (List UInt8)) : Option Bool :=
  if 20 < ((a0.length : Nat) : Int) then
    some false
  else
    (L_spec_l2text_l0 a0 n 0).bind fun o2 =>
    match o2 with
    | .inl o2_0 =>
      some o2_0
    | .inr (o2_1) =>
      some true
set_option maxRecDepth 100000 in
theorem fd_170 : cfg.funcs 170 = some (bodyOf Tryz.f170, Tryz.f170.ntmps, Tryz.f170.results.toList) := fn_of Tryz.func170 (by kernel_rfl) (by kernel_rfl)
theorem g_spec_l2text (n : Nat) (a0 : (List UInt8)) (r : Bool) (h : T_spec_l2text n a0 = some r) : (mach cfg).call 170 [] [.val false [.seq (eL e_u8 a0)]] = some (.val false [.bool r], []) := by
  unfold T_spec_l2text at h
  rcases ite_some h with ⟨c1, h⟩ | ⟨c1, h⟩
  ·obtain rfl := Option.some.inj h
   exact call_wQ [.le e_u8 a0, .lT c1] rfl fd_170 (by kernel_rfl)
  ·obtain ⟨o2, ho2, h⟩ := bs h
   rcases o2 with o2_0 | o2_1
   · try dsimp only at h
     obtain rfl := Option.some.inj h
     exact call_wQ [.le e_u8 a0, .lF c1, .lp (gl_spec_l2text_l0 a0 _ 0 _ ho2)] rfl fd_170 (by kernel_rfl)
   · try dsimp only at h
     obtain rfl := Option.some.inj h
     exact call_wQ [.le e_u8 a0, .lF c1, .lp (gl_spec_l2text_l0 a0 _ 0 _ ho2)] rfl fd_170 (by kernel_rfl)
theorem spec_l2text_loop {a : List UInt8} (ha : a.length <= 2 ^ 20) : ∀ (d i m : Nat), i + d = a.length → d < m → ∃ z, L_spec_l2text_l0 a m (i : Int) = some (if (a.drop i).all (inB 32 126) = true then .inr z else .inl false) := by
  intro d
  induction d with
  | zero =>
    intro i m hi hm
    obtain ⟨m, rfl, _⟩ := fuel hm
    exact ⟨_, by rw [L_spec_l2text_l0, if_neg (by omega), List.drop_eq_nil_of_le (by omega)]; rfl⟩
  | succ d ih =>
    intro i m hi hm
    obtain ⟨m, rfl, hm'⟩ := fuel hm
    have hil : i < a.length := by omega
    rw [L_spec_l2text_l0, if_pos (by omega), natO_nat, Option.bind_some, get_some hil, Option.bind_some, w64_succ (by omega), drop_cons hil, List.all_cons]
    by_cases h1 : ((a[i].toNat : Nat) : Int) < 32
    · exact ⟨0, by rw [if_pos h1, if_neg]; simp [inB]; omega⟩
    · rw [if_neg h1]
      by_cases h2 : (126 : Int) < ((a[i].toNat : Nat) : Int)
      · exact ⟨0, by rw [if_pos h2, if_neg]; simp [inB]; omega⟩
      · rw [if_neg h2, show inB 32 126 a[i] = true by simp [inB]; omega, Bool.true_and]
        exact ih (i + 1) m (by omega) (by omega)
def S_spec_l2text (a0 : (List UInt8)) : Option Bool := if a0.length <= 2 ^ 20 then some (textB a0) else none
theorem spec_spec_l2text (a0 : (List UInt8)) (r : Bool) (h : S_spec_l2text a0 = some r) : ∃ n, T_spec_l2text n a0 = some r := by
  unfold S_spec_l2text at h
  obtain ⟨ha, h⟩ := need_c h
  refine ⟨a0.length + 1, ?_⟩
  obtain ⟨z, hz⟩ := spec_l2text_loop ha a0.length 0 (a0.length + 1) (by omega) (by omega)
  rw [show ((0 : Nat) : Int) = 0 from rfl, List.drop_zero] at hz
  unfold T_spec_l2text
  rw [<- h, hz]
  unfold textB
  by_cases hl : a0.length <= 20
  · rw [if_neg (by omega), decide_eq_true hl]
    cases a0.all (inB 32 126) <;> rfl
  · rw [if_pos (by omega), decide_eq_false hl]; rfl
theorem ok_spec_l2text (a0 : (List UInt8)) (r : Bool) (h : S_spec_l2text a0 = some r) : (mach cfg).call 170 [] [.val false [.seq (eL e_u8 a0)]] = some (.val false [.bool r], []) := by
  obtain ⟨n, hn⟩ := spec_spec_l2text a0 r h
  exact g_spec_l2text n a0 r hn
def S_spec_l2int (a0 : Int) : Option Bool :=
  if (-1000000000000) <= a0 then
    some (decide (a0 <= 1000000000000))
  else
    some false
set_option maxRecDepth 100000 in
theorem fd_169 : cfg.funcs 169 = some (bodyOf Tryz.f169, Tryz.f169.ntmps, Tryz.f169.results.toList) := fn_of Tryz.func169 (by kernel_rfl) (by kernel_rfl)
theorem ok_spec_l2int (a0 : Int) (r : Bool) (h : S_spec_l2int a0 = some r) : (mach cfg).call 169 [] [.val false [.int .i64 a0]] = some (.val false [.bool r], []) := by
  unfold S_spec_l2int at h
  rcases ite_some h with ⟨c1, h⟩ | ⟨c1, h⟩
  ·obtain rfl := Option.some.inj h
   exact call_wQ [.gT c1, .gD a0 1000000000000] rfl fd_169 (by kernel_rfl)
  ·obtain rfl := Option.some.inj h
   exact call_wQ [.gF c1] rfl fd_169 (by kernel_rfl)
end
end Go.Am.Try
