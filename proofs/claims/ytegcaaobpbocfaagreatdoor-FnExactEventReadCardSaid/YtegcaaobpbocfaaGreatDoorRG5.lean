/- The functions of the program in plain Lean, and that the machine answers as they do; conditions at each theorem. -/
import Derived.Test.YtegcaaobpbocfaaGreatDoorRG4
set_option linter.unusedVariables false
set_option linter.unusedSimpArgs false
namespace Go.Am.Try
open Go.Am Go.Proofs
set_option linter.unusedVariables false
set_option maxRecDepth 20000
set_option maxHeartbeats 2000000
noncomputable section
def S_laws_eqEvent (a0 : GEvent) (a1 : GEvent) : Option Bool :=
  if a0.Kind = a1.Kind then
    (S_laws_eqByteS a0.Addr a1.Addr).bind fun r2 =>
    match r2 with
    | true =>
      if a0.Act = a1.Act then
        (S_laws_eqValue a0.Val a1.Val).bind fun r5 =>
        match r5 with
        | true =>
          (S_laws_eqByteSS a0.Deps a1.Deps).bind fun r7 =>
          match r7 with
          | true =>
            some true
          | false =>
            some false
        | false =>
          some false
      else
        some false
    | false =>
      some false
  else
    some false
set_option maxRecDepth 100000 in
theorem fd_7 : cfg.funcs 7 = some (bodyOf Tryz.f7, Tryz.f7.ntmps, Tryz.f7.results.toList) := fn_of Tryz.func7 (by kernel_rfl) (by kernel_rfl)
theorem ok_laws_eqEvent (a0 : GEvent) (a1 : GEvent) (r : Bool) (h : S_laws_eqEvent a0 a1 = some r) : (mach cfg).call 7 [] [.val true [.int .i64 a0.Kind, .seq (eL e_u8 a0.Addr), .int .i64 a0.Act, .int .i64 a0.Val.Kind, .int .i64 a0.Val.N, .seq (eL e_u8 a0.Val.S), .seq (eL (e_sl e_u8) a0.Val.K), .seq (eL e_GValue a0.Val.L), .seq (eL (e_sl e_u8) a0.Deps)], .val true [.int .i64 a1.Kind, .seq (eL e_u8 a1.Addr), .int .i64 a1.Act, .int .i64 a1.Val.Kind, .int .i64 a1.Val.N, .seq (eL e_u8 a1.Val.S), .seq (eL (e_sl e_u8) a1.Val.K), .seq (eL e_GValue a1.Val.L), .seq (eL (e_sl e_u8) a1.Deps)]] = some (.val false [.bool r], []) := by
  unfold S_laws_eqEvent at h
  rcases ite_some h with ⟨c1, h⟩ | ⟨c1, h⟩
  ·obtain ⟨r2, hr2, h⟩ := bs h
   cases r2 with
   | true =>
    try dsimp only at h
    rcases ite_some h with ⟨c4, h⟩ | ⟨c4, h⟩
    ·obtain ⟨r5, hr5, h⟩ := bs h
     let p95 : List (Q cfg) := [.eT c1, .nt true, .cl (ok_laws_eqByteS a0.Addr a1.Addr _ hr2), .nt true, .eT c4, .nt true, .cl (ok_laws_eqValue a0.Val a1.Val _ hr5)]
     cases r5 with
     | true =>
      try dsimp only at h
      obtain ⟨r7, hr7, h⟩ := bs h
      cases r7 with
      | true =>
       try dsimp only at h
       obtain rfl := Option.some.inj h
       exact call_wQ (p95 ++ [.nt true, .cl (ok_laws_eqByteSS a0.Deps a1.Deps _ hr7), .nt true]) rfl fd_7 (by kernel_rfl)
      | false =>
       try dsimp only at h
       obtain rfl := Option.some.inj h
       exact call_wQ (p95 ++ [.nt true, .cl (ok_laws_eqByteSS a0.Deps a1.Deps _ hr7), .nt false]) rfl fd_7 (by kernel_rfl)
     | false =>
      try dsimp only at h
      obtain rfl := Option.some.inj h
      exact call_wQ (p95 ++ [.nt false]) rfl fd_7 (by kernel_rfl)
    ·obtain rfl := Option.some.inj h
     exact call_wQ [.eT c1, .nt true, .cl (ok_laws_eqByteS a0.Addr a1.Addr _ hr2), .nt true, .eF c4, .nt false] rfl fd_7 (by kernel_rfl)
   | false =>
    try dsimp only at h
    obtain rfl := Option.some.inj h
    exact call_wQ [.eT c1, .nt true, .cl (ok_laws_eqByteS a0.Addr a1.Addr _ hr2), .nt false] rfl fd_7 (by kernel_rfl)
  ·obtain rfl := Option.some.inj h
   exact call_wQ [.eF c1, .nt false] rfl fd_7 (by kernel_rfl)
def L_laws_markByteS_l0 : Nat → Int → Int → (List UInt8) → Option (Int × Int × (List UInt8))
  | 0, _, _, _ => none
  | m + 1, a0, v1, e0 =>
    if v1 < ((e0.length : Nat) : Int) then
      (natO v1).bind fun i2 =>
      (e0[i2]?).bind fun x3 =>
      L_laws_markByteS_l0 m (w64 (a0 + 1)) (w64 (v1 + 1)) (e0.set i2 (b8 a0))
    else
      some (a0, v1, e0)
theorem gl_laws_markByteS_l0 (m : Nat) : ∀ (a0 : Int) (v1 : Int) (e0 : (List UInt8)) (o : (Int × Int × (List UInt8))), L_laws_markByteS_l0 m a0 v1 e0 = some o → (mach cfg).loop 9 (loopB Tryz.f9 0) ⟨[(0, .val false [.ref 0]), (1, .val false [.int .i64 a0]), (5, .val false [.int .i64 v1])], [.obj 1 (eL e_u8 e0)], 1⟩ = some (match o with | ⟨o_0, o_1, o_2⟩ => (.exit 0, (⟨[(0, .val false [.ref 0]), (1, .val false [.int .i64 o_0]), (5, .val false [.int .i64 o_1]), (9, .val false [.bool false])], [.obj 1 (eL e_u8 o_2)], 1⟩ : S))) := by
  induction m with
  | zero => intro a0 v1 e0 o h; cases h
  | succ m ih =>
    intro a0 v1 e0 o h
    rw [L_laws_markByteS_l0] at h
    rcases ite_some h with ⟨c1, h⟩ | ⟨c1, h⟩
    ·obtain ⟨i2, hi2, h⟩ := bs h
     obtain ⟨x3, hx3, h⟩ := bs h
     exact loop_nQ [.le e_u8 e0, .lT c1, ⟨.conv .u8 a0, .i (((b8 a0).toNat : Nat) : Int), A.conv8⟩, .na hi2, .ix0 e_u8 hx3, .ix0 e_u8 hx3, ⟨.setL (eL e_u8 e0) i2 [.int .u8 (((b8 a0).toNat : Nat) : Int)], .l (eL e_u8 (e0.set i2 (b8 a0))), (A.setL rfl)⟩, .ad a0 1, .ad v1 1] (by kernel_rfl) (ih (w64 (a0 + 1)) (w64 (v1 + 1)) (e0.set i2 (b8 a0)) o h)
    ·obtain rfl := Option.some.inj h
     exact loop_eQ [.le e_u8 e0, .lF c1] (by kernel_rfl) (by intro h; cases h)
def T_laws_markByteS (n : Nat) (a0 : Int) (e0 : (List UInt8)) : Option (Int × (List UInt8)) :=
  (L_laws_markByteS_l0 n a0 0 e0).bind fun ⟨o1_0, o1_1, o1_2⟩ =>
  some (o1_0, o1_2)
set_option maxRecDepth 100000 in
theorem fd_9 : cfg.funcs 9 = some (bodyOf Tryz.f9, Tryz.f9.ntmps, Tryz.f9.results.toList) := fn_of Tryz.func9 (by kernel_rfl) (by kernel_rfl)
theorem g_laws_markByteS (n : Nat) (a0 : Int) (e0 : (List UInt8)) (r : (Int × (List UInt8))) (h : T_laws_markByteS n a0 e0 = some r) : (mach cfg).call 9 [.obj 1 (eL e_u8 e0)] [.val false [.ref 0], .val false [.int .i64 a0]] = some (.val false [.int .i64 r.1], [.obj 1 (eL e_u8 r.2)]) := by
  unfold T_laws_markByteS at h
  obtain ⟨⟨o1_0, o1_1, o1_2⟩, ho1, h⟩ := bs h
  try dsimp only at h
  obtain rfl := Option.some.inj h
  exact call_wQ [.lp (gl_laws_markByteS_l0 _ a0 0 e0 _ ho1)] rfl fd_9 (by kernel_rfl)
theorem markByteS_loop : ∀ (l p : List UInt8) (k : Int) (m : Nat), 0 <= k → k + 2 * l.length <= 2 ^ 41 → p.length + l.length <= 2 ^ 41 → l.length < m → ∃ z, L_laws_markByteS_l0 m k ((p.length : Nat) : Int) (p ++ l) = some (k + l.length, z, p ++ mB k l) := by
  intro l
  induction l with
  | nil =>
    intro p k m _ _ _ hm
    obtain ⟨m, rfl, _⟩ := fuel hm
    exact ⟨_, by rw [L_laws_markByteS_l0, if_neg (nlt_end p)]; simp [mB]; rfl⟩
  | cons x l ih =>
    intro p k m h0 h1 h2 hm
    obtain ⟨m, rfl, hm'⟩ := fuel hm
    simp only [List.length_cons] at h1 h2 hm'
    obtain ⟨z, hz⟩ := ih (p ++ [b8 k]) (k + 1) m (by omega) (by omega) (by simp; omega) (by omega)
    rw [L_laws_markByteS_l0, if_pos (lt_mid p x l), natO_nat, Option.bind_some, get_mid, Option.bind_some, set_mid, w64_len p (b8 k) (by omega), w64_id (x := k + 1) (by omega) (by omega), snoc_app p (b8 k) l, hz]
    refine ⟨z, ?_⟩
    rw [mB, snoc_app p (b8 k) (mB (k + 1) l)]
    simp only [List.length_cons]
    rw [show k + 1 + (l.length : Int) = k + ((l.length + 1 : Nat) : Int) by omega]
def S_laws_markByteS (a0 : Int) (e0 : (List UInt8)) : Option (Int × (List UInt8)) := if 0 <= a0 ∧ a0 + 2 * e0.length <= 2 ^ 41 then some (a0 + e0.length, mB a0 e0) else none
theorem markByteS_eq {a : Int} {s : List UInt8} (h0 : 0 <= a) (h1 : a + 2 * s.length <= 2 ^ 41) : S_laws_markByteS a s = some (a + s.length, mB a s) := if_pos ⟨h0, h1⟩
theorem spec_laws_markByteS (a0 : Int) (e0 : (List UInt8)) (r : (Int × (List UInt8))) (h : S_laws_markByteS a0 e0 = some r) : ∃ n, T_laws_markByteS n a0 e0 = some r := by
  unfold S_laws_markByteS at h
  obtain ⟨⟨h0, h1⟩, h⟩ := need_c h
  obtain ⟨z, hz⟩ := markByteS_loop e0 [] a0 (e0.length + 1) h0 h1 (by simp; omega) (by omega)
  refine ⟨e0.length + 1, ?_⟩
  unfold T_laws_markByteS
  simp only [List.nil_append, List.length_nil, Int.natCast_zero] at hz
  rw [hz]
  exact h
theorem ok_laws_markByteS (a0 : Int) (e0 : (List UInt8)) (r : (Int × (List UInt8))) (h : S_laws_markByteS a0 e0 = some r) : (mach cfg).call 9 [.obj 1 (eL e_u8 e0)] [.val false [.ref 0], .val false [.int .i64 a0]] = some (.val false [.int .i64 r.1], [.obj 1 (eL e_u8 r.2)]) := by
  obtain ⟨n, hn⟩ := spec_laws_markByteS a0 e0 r h
  exact g_laws_markByteS n a0 e0 r hn
def L_laws_markByteSS_l0 : Nat → Int → Int → (List (List UInt8)) → Option (Int × Int × (List (List UInt8)))
  | 0, _, _, _ => none
  | m + 1, a0, v1, e0 =>
    if v1 < ((e0.length : Nat) : Int) then
      (natO v1).bind fun i2 =>
      (e0[i2]?).bind fun x3 =>
      (S_laws_markByteS a0 x3).bind fun ⟨r4_0, r4_1⟩ =>
      L_laws_markByteSS_l0 m r4_0 (w64 (v1 + 1)) (e0.set i2 r4_1)
    else
      some (a0, v1, e0)
theorem gl_laws_markByteSS_l0 (m : Nat) : ∀ (a0 : Int) (v1 : Int) (e0 : (List (List UInt8))) (o : (Int × Int × (List (List UInt8)))), L_laws_markByteSS_l0 m a0 v1 e0 = some o → (mach cfg).loop 21 (loopB Tryz.f21 0) ⟨[(0, .val false [.ref 0]), (1, .val false [.int .i64 a0]), (5, .val false [.int .i64 v1])], [.obj 1 (eL (o_sl 1 e_u8) e0)], 1⟩ = some (match o with | ⟨o_0, o_1, o_2⟩ => (.exit 0, (⟨[(0, .val false [.ref 0]), (1, .val false [.int .i64 o_0]), (5, .val false [.int .i64 o_1]), (9, .val false [.bool false])], [.obj 1 (eL (o_sl 1 e_u8) o_2)], 1⟩ : S))) := by
  induction m with
  | zero => intro a0 v1 e0 o h; cases h
  | succ m ih =>
    intro a0 v1 e0 o h
    rw [L_laws_markByteSS_l0] at h
    rcases ite_some h with ⟨c1, h⟩ | ⟨c1, h⟩
    ·obtain ⟨i2, hi2, h⟩ := bs h
     obtain ⟨x3, hx3, h⟩ := bs h
     obtain ⟨⟨r4_0, r4_1⟩, hr4, h⟩ := bs h
     try dsimp only at h
     exact loop_nQ [.le (o_sl 1 e_u8) e0, .lT c1, .na hi2, .ix0 (o_sl 1 e_u8) hx3, .ix0 (o_sl 1 e_u8) hx3, .cl (ok_laws_markByteS a0 x3 _ hr4), .ix0 (o_sl 1 e_u8) hx3, ⟨.setL (eL (o_sl 1 e_u8) e0) i2 [.own 1 (eL e_u8 r4_1)], .l (eL (o_sl 1 e_u8) (e0.set i2 r4_1)), (A.setL rfl)⟩, .ad v1 1] (by kernel_rfl) (ih r4_0 (w64 (v1 + 1)) (e0.set i2 r4_1) o h)
    ·obtain rfl := Option.some.inj h
     exact loop_eQ [.le (o_sl 1 e_u8) e0, .lF c1] (by kernel_rfl) (by intro h; cases h)
def T_laws_markByteSS (n : Nat) (a0 : Int) (e0 : (List (List UInt8))) : Option (Int × (List (List UInt8))) :=
  (L_laws_markByteSS_l0 n a0 0 e0).bind fun ⟨o1_0, o1_1, o1_2⟩ =>
  some (o1_0, o1_2)
set_option maxRecDepth 100000 in
theorem fd_21 : cfg.funcs 21 = some (bodyOf Tryz.f21, Tryz.f21.ntmps, Tryz.f21.results.toList) := fn_of Tryz.func21 (by kernel_rfl) (by kernel_rfl)
theorem g_laws_markByteSS (n : Nat) (a0 : Int) (e0 : (List (List UInt8))) (r : (Int × (List (List UInt8)))) (h : T_laws_markByteSS n a0 e0 = some r) : (mach cfg).call 21 [.obj 1 (eL (o_sl 1 e_u8) e0)] [.val false [.ref 0], .val false [.int .i64 a0]] = some (.val false [.int .i64 r.1], [.obj 1 (eL (o_sl 1 e_u8) r.2)]) := by
  unfold T_laws_markByteSS at h
  obtain ⟨⟨o1_0, o1_1, o1_2⟩, ho1, h⟩ := bs h
  try dsimp only at h
  obtain rfl := Option.some.inj h
  exact call_wQ [.lp (gl_laws_markByteSS_l0 _ a0 0 e0 _ ho1)] rfl fd_21 (by kernel_rfl)
theorem markByteSS_loop : ∀ (l p : List (List UInt8)) (k : Int) (m : Nat), 0 <= k → k + 2 * bsz l <= 2 ^ 41 → p.length + l.length <= 2 ^ 41 → l.length < m → ∃ z, L_laws_markByteSS_l0 m k ((p.length : Nat) : Int) (p ++ l) = some (k + cB l, z, p ++ mBB k l) := by
  intro l
  induction l with
  | nil =>
    intro p k m _ _ _ hm
    obtain ⟨m, rfl, _⟩ := fuel hm
    exact ⟨_, by rw [L_laws_markByteSS_l0, if_neg (nlt_end p)]; simp [mBB, cB]; rfl⟩
  | cons x l ih =>
    intro p k m h0 h1 h2 hm
    obtain ⟨m, rfl, hm'⟩ := fuel hm
    rw [bsz_cons] at h1
    simp only [List.length_cons] at h2 hm'
    obtain ⟨z, hz⟩ := ih (p ++ [mB k x]) (k + x.length) m (by omega) (by omega) (by simp; omega) (by omega)
    rw [L_laws_markByteSS_l0, if_pos (lt_mid p x l), natO_nat, Option.bind_some, get_mid, Option.bind_some, markByteS_eq (by omega) (by omega), Option.bind_some]
    dsimp only
    rw [set_mid, w64_len p (mB k x) (by omega), snoc_app p (mB k x) l, hz]
    refine ⟨z, ?_⟩
    rw [mBB, snoc_app p (mB k x) (mBB (k + x.length) l), cB_cons]
    rw [show k + (x.length : Int) + (cB l : Int) = k + ((x.length + cB l : Nat) : Int) by omega]
def S_laws_markByteSS (a0 : Int) (e0 : (List (List UInt8))) : Option (Int × (List (List UInt8))) := if 0 <= a0 ∧ a0 + 2 * bsz e0 <= 2 ^ 41 then some (a0 + cB e0, mBB a0 e0) else none
theorem markByteSS_eq {a : Int} {s : List (List UInt8)} (h0 : 0 <= a) (h1 : a + 2 * bsz s <= 2 ^ 41) : S_laws_markByteSS a s = some (a + cB s, mBB a s) := if_pos ⟨h0, h1⟩
theorem spec_laws_markByteSS (a0 : Int) (e0 : (List (List UInt8))) (r : (Int × (List (List UInt8)))) (h : S_laws_markByteSS a0 e0 = some r) : ∃ n, T_laws_markByteSS n a0 e0 = some r := by
  unfold S_laws_markByteSS at h
  obtain ⟨⟨h0, h1⟩, h⟩ := need_c h
  have := bsz_len e0
  obtain ⟨z, hz⟩ := markByteSS_loop e0 [] a0 (e0.length + 1) h0 h1 (by simp; omega) (by omega)
  refine ⟨e0.length + 1, ?_⟩
  unfold T_laws_markByteSS
  simp only [List.nil_append, List.length_nil, Int.natCast_zero] at hz
  rw [hz]
  exact h
theorem ok_laws_markByteSS (a0 : Int) (e0 : (List (List UInt8))) (r : (Int × (List (List UInt8)))) (h : S_laws_markByteSS a0 e0 = some r) : (mach cfg).call 21 [.obj 1 (eL (o_sl 1 e_u8) e0)] [.val false [.ref 0], .val false [.int .i64 a0]] = some (.val false [.int .i64 r.1], [.obj 1 (eL (o_sl 1 e_u8) r.2)]) := by
  obtain ⟨n, hn⟩ := spec_laws_markByteSS a0 e0 r h
  exact g_laws_markByteSS n a0 e0 r hn
def L_laws_markValueS_l0 (G_laws_markValueS : Int → (List GValue) → Option (Int × (List GValue))) : Nat → Int → Int → (List GValue) → Option (Int × Int × (List GValue))
  | 0, _, _, _ => none
  | m + 1, a0, v1, e0 =>
    if v1 < ((e0.length : Nat) : Int) then
      (natO v1).bind fun i2 =>
      (e0[i2]?).bind fun x3 =>
      ((e0.set i2 (GValue.mk a0 x3.N x3.S x3.K x3.L))[i2]?).bind fun x4 =>
      (((e0.set i2 (GValue.mk a0 x3.N x3.S x3.K x3.L)).set i2 (GValue.mk x4.Kind (w64 (a0 + 1)) x4.S x4.K x4.L))[i2]?).bind fun x5 =>
      (S_laws_markByteS (w64 ((w64 (a0 + 1)) + 1)) x5.S).bind fun ⟨r6_0, r6_1⟩ =>
      ((((e0.set i2 (GValue.mk a0 x3.N x3.S x3.K x3.L)).set i2 (GValue.mk x4.Kind (w64 (a0 + 1)) x4.S x4.K x4.L)).set i2 (GValue.mk x5.Kind x5.N r6_1 x5.K x5.L))[i2]?).bind fun x7 =>
      (S_laws_markByteSS r6_0 x7.K).bind fun ⟨r8_0, r8_1⟩ =>
      (((((e0.set i2 (GValue.mk a0 x3.N x3.S x3.K x3.L)).set i2 (GValue.mk x4.Kind (w64 (a0 + 1)) x4.S x4.K x4.L)).set i2 (GValue.mk x5.Kind x5.N r6_1 x5.K x5.L)).set i2 (GValue.mk x7.Kind x7.N x7.S r8_1 x7.L))[i2]?).bind fun x9 =>
      (G_laws_markValueS r8_0 x9.L).bind fun ⟨r10_0, r10_1⟩ =>
      L_laws_markValueS_l0 G_laws_markValueS m r10_0 (w64 (v1 + 1)) (((((e0.set i2 (GValue.mk a0 x3.N x3.S x3.K x3.L)).set i2 (GValue.mk x4.Kind (w64 (a0 + 1)) x4.S x4.K x4.L)).set i2 (GValue.mk x5.Kind x5.N r6_1 x5.K x5.L)).set i2 (GValue.mk x7.Kind x7.N x7.S r8_1 x7.L)).set i2 (GValue.mk x9.Kind x9.N x9.S x9.K r10_1))
    else
      some (a0, v1, e0)
theorem gl_laws_markValueS_l0 (G_laws_markValueS : Int → (List GValue) → Option (Int × (List GValue))) (H_laws_markValueS : ∀ (a0 : Int) (e0 : (List GValue)) (r : (Int × (List GValue))), G_laws_markValueS a0 e0 = some r → (mach cfg).call 42 [.obj 5 (eL o_GValue e0)] [.val false [.ref 0], .val false [.int .i64 a0]] = some (.val false [.int .i64 r.1], [.obj 5 (eL o_GValue r.2)])) (m : Nat) : ∀ (a0 : Int) (v1 : Int) (e0 : (List GValue)) (o : (Int × Int × (List GValue))), L_laws_markValueS_l0 G_laws_markValueS m a0 v1 e0 = some o → (mach cfg).loop 42 (loopB Tryz.f42 0) ⟨[(0, .val false [.ref 0]), (1, .val false [.int .i64 a0]), (5, .val false [.int .i64 v1])], [.obj 5 (eL o_GValue e0)], 1⟩ = some (match o with | ⟨o_0, o_1, o_2⟩ => (.exit 0, (⟨[(0, .val false [.ref 0]), (1, .val false [.int .i64 o_0]), (5, .val false [.int .i64 o_1]), (9, .val false [.bool false])], [.obj 5 (eL o_GValue o_2)], 1⟩ : S))) := by
  induction m with
  | zero => intro a0 v1 e0 o h; cases h
  | succ m ih =>
    intro a0 v1 e0 o h
    rw [L_laws_markValueS_l0] at h
    rcases ite_some h with ⟨c1, h⟩ | ⟨c1, h⟩
    ·obtain ⟨i2, hi2, h⟩ := bs h
     obtain ⟨x3, hx3, h⟩ := bs h
     obtain ⟨x4, hx4, h⟩ := bs h
     obtain ⟨x5, hx5, h⟩ := bs h
     obtain ⟨⟨r6_0, r6_1⟩, hr6, h⟩ := bs h
     try dsimp only at h
     obtain ⟨x7, hx7, h⟩ := bs h
     obtain ⟨⟨r8_0, r8_1⟩, hr8, h⟩ := bs h
     try dsimp only at h
     obtain ⟨x9, hx9, h⟩ := bs h
     obtain ⟨⟨r10_0, r10_1⟩, hr10, h⟩ := bs h
     try dsimp only at h
     exact loop_nQ [.le o_GValue e0, .lT c1, .na hi2, .ix hx3 (oeq_GValue x3), .ix hx3 (oeq_GValue x3), ⟨.setL (eL o_GValue e0) i2 [.int .i64 a0, .int .i64 x3.N, .own 1 (eL e_u8 x3.S), .own 1 (eL (o_sl 1 e_u8) x3.K), .own 5 (eL o_GValue x3.L)], .l (eL o_GValue (e0.set i2 (GValue.mk a0 x3.N x3.S x3.K x3.L))), (A.setL (oeq_GValue (GValue.mk a0 x3.N x3.S x3.K x3.L)))⟩, .ad a0 1, .na hi2, .ix hx4 (oeq_GValue x4), .ix hx4 (oeq_GValue x4), ⟨.setL (eL o_GValue (e0.set i2 (GValue.mk a0 x3.N x3.S x3.K x3.L))) i2 [.int .i64 x4.Kind, .int .i64 (w64 (a0 + 1)), .own 1 (eL e_u8 x4.S), .own 1 (eL (o_sl 1 e_u8) x4.K), .own 5 (eL o_GValue x4.L)], .l (eL o_GValue ((e0.set i2 (GValue.mk a0 x3.N x3.S x3.K x3.L)).set i2 (GValue.mk x4.Kind (w64 (a0 + 1)) x4.S x4.K x4.L))), (A.setL (oeq_GValue (GValue.mk x4.Kind (w64 (a0 + 1)) x4.S x4.K x4.L)))⟩, .ad (w64 (a0 + 1)) 1, .na hi2, .ix hx5 (oeq_GValue x5), .ix hx5 (oeq_GValue x5), .cl (ok_laws_markByteS (w64 ((w64 (a0 + 1)) + 1)) x5.S _ hr6), .ix hx5 (oeq_GValue x5), ⟨.setL (eL o_GValue ((e0.set i2 (GValue.mk a0 x3.N x3.S x3.K x3.L)).set i2 (GValue.mk x4.Kind (w64 (a0 + 1)) x4.S x4.K x4.L))) i2 [.int .i64 x5.Kind, .int .i64 x5.N, .own 1 (eL e_u8 r6_1), .own 1 (eL (o_sl 1 e_u8) x5.K), .own 5 (eL o_GValue x5.L)], .l (eL o_GValue (((e0.set i2 (GValue.mk a0 x3.N x3.S x3.K x3.L)).set i2 (GValue.mk x4.Kind (w64 (a0 + 1)) x4.S x4.K x4.L)).set i2 (GValue.mk x5.Kind x5.N r6_1 x5.K x5.L))), (A.setL (oeq_GValue (GValue.mk x5.Kind x5.N r6_1 x5.K x5.L)))⟩, .na hi2, .ix hx7 (oeq_GValue x7), .ix hx7 (oeq_GValue x7), .cl (ok_laws_markByteSS r6_0 x7.K _ hr8), .ix hx7 (oeq_GValue x7), ⟨.setL (eL o_GValue (((e0.set i2 (GValue.mk a0 x3.N x3.S x3.K x3.L)).set i2 (GValue.mk x4.Kind (w64 (a0 + 1)) x4.S x4.K x4.L)).set i2 (GValue.mk x5.Kind x5.N r6_1 x5.K x5.L))) i2 [.int .i64 x7.Kind, .int .i64 x7.N, .own 1 (eL e_u8 x7.S), .own 1 (eL (o_sl 1 e_u8) r8_1), .own 5 (eL o_GValue x7.L)], .l (eL o_GValue ((((e0.set i2 (GValue.mk a0 x3.N x3.S x3.K x3.L)).set i2 (GValue.mk x4.Kind (w64 (a0 + 1)) x4.S x4.K x4.L)).set i2 (GValue.mk x5.Kind x5.N r6_1 x5.K x5.L)).set i2 (GValue.mk x7.Kind x7.N x7.S r8_1 x7.L))), (A.setL (oeq_GValue (GValue.mk x7.Kind x7.N x7.S r8_1 x7.L)))⟩, .na hi2, .ix hx9 (oeq_GValue x9), .ix hx9 (oeq_GValue x9), .cl (H_laws_markValueS r8_0 x9.L _ hr10), .ix hx9 (oeq_GValue x9), ⟨.setL (eL o_GValue ((((e0.set i2 (GValue.mk a0 x3.N x3.S x3.K x3.L)).set i2 (GValue.mk x4.Kind (w64 (a0 + 1)) x4.S x4.K x4.L)).set i2 (GValue.mk x5.Kind x5.N r6_1 x5.K x5.L)).set i2 (GValue.mk x7.Kind x7.N x7.S r8_1 x7.L))) i2 [.int .i64 x9.Kind, .int .i64 x9.N, .own 1 (eL e_u8 x9.S), .own 1 (eL (o_sl 1 e_u8) x9.K), .own 5 (eL o_GValue r10_1)], .l (eL o_GValue (((((e0.set i2 (GValue.mk a0 x3.N x3.S x3.K x3.L)).set i2 (GValue.mk x4.Kind (w64 (a0 + 1)) x4.S x4.K x4.L)).set i2 (GValue.mk x5.Kind x5.N r6_1 x5.K x5.L)).set i2 (GValue.mk x7.Kind x7.N x7.S r8_1 x7.L)).set i2 (GValue.mk x9.Kind x9.N x9.S x9.K r10_1))), (A.setL (oeq_GValue (GValue.mk x9.Kind x9.N x9.S x9.K r10_1)))⟩, .ad v1 1] (by kernel_rfl) (ih r10_0 (w64 (v1 + 1)) (((((e0.set i2 (GValue.mk a0 x3.N x3.S x3.K x3.L)).set i2 (GValue.mk x4.Kind (w64 (a0 + 1)) x4.S x4.K x4.L)).set i2 (GValue.mk x5.Kind x5.N r6_1 x5.K x5.L)).set i2 (GValue.mk x7.Kind x7.N x7.S r8_1 x7.L)).set i2 (GValue.mk x9.Kind x9.N x9.S x9.K r10_1)) o h)
    ·obtain rfl := Option.some.inj h
     exact loop_eQ [.le o_GValue e0, .lF c1] (by kernel_rfl) (by intro h; cases h)
def T_laws_markValueS (G_laws_markValueS : Int → (List GValue) → Option (Int × (List GValue))) (n : Nat) (a0 : Int) (e0 : (List GValue)) : Option (Int × (List GValue)) :=
  (L_laws_markValueS_l0 G_laws_markValueS n a0 0 e0).bind fun ⟨o1_0, o1_1, o1_2⟩ =>
  some (o1_0, o1_2)
set_option maxRecDepth 100000 in
theorem fd_42 : cfg.funcs 42 = some (bodyOf Tryz.f42, Tryz.f42.ntmps, Tryz.f42.results.toList) := fn_of Tryz.func42 (by kernel_rfl) (by kernel_rfl)
theorem g_laws_markValueS (G_laws_markValueS : Int → (List GValue) → Option (Int × (List GValue))) (H_laws_markValueS : ∀ (a0 : Int) (e0 : (List GValue)) (r : (Int × (List GValue))), G_laws_markValueS a0 e0 = some r → (mach cfg).call 42 [.obj 5 (eL o_GValue e0)] [.val false [.ref 0], .val false [.int .i64 a0]] = some (.val false [.int .i64 r.1], [.obj 5 (eL o_GValue r.2)])) (n : Nat) (a0 : Int) (e0 : (List GValue)) (r : (Int × (List GValue))) (h : T_laws_markValueS G_laws_markValueS n a0 e0 = some r) : (mach cfg).call 42 [.obj 5 (eL o_GValue e0)] [.val false [.ref 0], .val false [.int .i64 a0]] = some (.val false [.int .i64 r.1], [.obj 5 (eL o_GValue r.2)]) := by
  unfold T_laws_markValueS at h
  obtain ⟨⟨o1_0, o1_1, o1_2⟩, ho1, h⟩ := bs h
  try dsimp only at h
  obtain rfl := Option.some.inj h
  exact call_wQ [.lp (gl_laws_markValueS_l0 G_laws_markValueS H_laws_markValueS _ a0 0 e0 _ ho1)] rfl fd_42 (by kernel_rfl)
def U_laws_markValueS : Nat → Int → (List GValue) → Option (Int × (List GValue))
  | 0, _, _ => none
  | n + 1, a0, e0 => T_laws_markValueS (U_laws_markValueS n) n a0 e0
theorem rec_laws_markValueS (n : Nat) : (∀ (a0 : Int) (e0 : (List GValue)) (r : (Int × (List GValue))), U_laws_markValueS n a0 e0 = some r → (mach cfg).call 42 [.obj 5 (eL o_GValue e0)] [.val false [.ref 0], .val false [.int .i64 a0]] = some (.val false [.int .i64 r.1], [.obj 5 (eL o_GValue r.2)])) := by
  induction n with
  | zero => exact fun _ _ _ h => (by rw [U_laws_markValueS] at h; cases h)
  | succ n ih =>
    have ih_laws_markValueS := ih
    exact fun a0 e0 r h => g_laws_markValueS (U_laws_markValueS n) ih_laws_markValueS n a0 e0 r (by rw [U_laws_markValueS] at h; exact h)
theorem markValueS_loop {G : Int → List GValue → Option (Int × List GValue)} : ∀ (l p : List GValue) (k : Int) (m : Nat), (∀ v ∈ l, ∀ i : Int, 0 <= i → i + 2 * vszs v.L <= 2 ^ 41 → G i v.L = some (i + cVs v.L, mVs i v.L)) → 0 <= k → k + 2 * vszs l <= 2 ^ 41 → p.length + l.length <= 2 ^ 41 → l.length < m → ∃ z, L_laws_markValueS_l0 G m k ((p.length : Nat) : Int) (p ++ l) = some (k + cVs l, z, p ++ mVs k l) := by
  intro l
  induction l with
  | nil =>
    intro p k m _ _ _ _ hm
    obtain ⟨m, rfl, _⟩ := fuel hm
    exact ⟨_, by rw [L_laws_markValueS_l0, if_neg (nlt_end p)]; simp [mVs, cVs]; rfl⟩
  | cons x l ih =>
    intro p k m hG h0 h1 h2 hm
    obtain ⟨m, rfl, hm'⟩ := fuel hm
    simp only [List.length_cons] at h2 hm'
    have hx := hG x List.mem_cons_self
    have hc := cV_le x
    obtain ⟨kd, n, s, kk, ks⟩ := x
    have hb := bsz_cB kk
    have hd := cVs_le ks
    simp only [vszs, vsz] at h1
    simp only [cV, vsz] at hc
    simp only [GValue.L] at hx
    obtain ⟨z, hz⟩ := ih (p ++ [mV k (.mk kd n s kk ks)]) (k + cV (.mk kd n s kk ks)) m (fun v hv => hG v (List.mem_cons_of_mem _ hv)) (by omega) (by simp only [cV]; omega) (by simp; omega) (by omega)
    rw [L_laws_markValueS_l0, if_pos (lt_mid p _ l), natO_nat, Option.bind_some, get_mid, Option.bind_some]
    simp only [set_mid, get_mid, Option.bind_some, GValue.Kind, GValue.N, GValue.S, GValue.K, GValue.L]
    rw [w64_id (x := k + 1) (by omega) (by omega), w64_id (x := k + 1 + 1) (by omega) (by omega), markByteS_eq (by omega) (by omega)]
    simp only [Option.bind_some, set_mid, get_mid, GValue.Kind, GValue.N, GValue.S, GValue.K, GValue.L]
    rw [markByteSS_eq (by omega) (by omega)]
    simp only [Option.bind_some, set_mid, get_mid, GValue.Kind, GValue.N, GValue.S, GValue.K, GValue.L]
    rw [hx _ (by omega) (by omega)]
    simp only [Option.bind_some, set_mid, get_mid, GValue.Kind, GValue.N, GValue.S, GValue.K, GValue.L]
    refine ⟨z, ?_⟩
    rw [w64_len p (mV k (.mk kd n s kk ks)) (by omega), show GValue.mk k (k + 1) (mB (k + 1 + 1) s) (mBB (k + 1 + 1 + s.length) kk) (mVs (k + 1 + 1 + s.length + cB kk) ks) = mV k (.mk kd n s kk ks) by simp only [mV], snoc_app p _ l,
      show k + 1 + 1 + (s.length : Int) + (cB kk : Int) + (cVs ks : Int) = k + ((cV (.mk kd n s kk ks) : Nat) : Int) by simp only [cV]; omega, hz]
    simp only [mVs, cVs, List.append_assoc, List.singleton_append]
    rw [show k + ((cV (.mk kd n s kk ks) : Nat) : Int) + (cVs l : Int) = k + ((cV (.mk kd n s kk ks) + cVs l : Nat) : Int) by omega]
theorem markValueS_U : ∀ (N : Nat) (l : List GValue), vszs l < N → ∀ (k : Int) (f : Nat), 0 <= k → k + 2 * vszs l <= 2 ^ 41 → vszs l + 2 <= f → U_laws_markValueS f k l = some (k + cVs l, mVs k l) := by
  intro N
  induction N with
  | zero => intro l hl; omega
  | succ N ih =>
    intro l hl k f h0 h1 hf
    obtain ⟨f, rfl, _⟩ := fuel (show 0 < f by omega)
    have hlen := vszs_len l
    rw [U_laws_markValueS]
    unfold T_laws_markValueS
    obtain ⟨z, hz⟩ := markValueS_loop (G := U_laws_markValueS f) l [] k f (fun v hv i g0 g1 => by
      have := vszs_mem hv
      have := vsz_eq v
      exact ih v.L (by omega) i f g0 g1 (by omega)) h0 h1 (by simp; omega) (by omega)
    simp only [List.nil_append, List.length_nil, Int.natCast_zero] at hz
    rw [hz]; rfl
def S_laws_markValueS (a0 : Int) (e0 : (List GValue)) : Option (Int × (List GValue)) := if 0 <= a0 ∧ a0 + 2 * vszs e0 <= 2 ^ 41 then some (a0 + cVs e0, mVs a0 e0) else none
theorem markValueS_eq {a : Int} {s : List GValue} (h0 : 0 <= a) (h1 : a + 2 * vszs s <= 2 ^ 41) : S_laws_markValueS a s = some (a + cVs s, mVs a s) := if_pos ⟨h0, h1⟩
theorem spec_laws_markValueS (a0 : Int) (e0 : (List GValue)) (r : (Int × (List GValue))) (h : S_laws_markValueS a0 e0 = some r) : ∃ n, U_laws_markValueS n a0 e0 = some r := by
  unfold S_laws_markValueS at h
  obtain ⟨⟨h0, h1⟩, h⟩ := need_c h
  exact ⟨vszs e0 + 2, by rw [markValueS_U _ e0 (Nat.lt_succ_self _) a0 _ h0 h1 (Nat.le_refl _), h]⟩
theorem ok_laws_markValueS (a0 : Int) (e0 : (List GValue)) (r : (Int × (List GValue))) (h : S_laws_markValueS a0 e0 = some r) : (mach cfg).call 42 [.obj 5 (eL o_GValue e0)] [.val false [.ref 0], .val false [.int .i64 a0]] = some (.val false [.int .i64 r.1], [.obj 5 (eL o_GValue r.2)]) := by
  obtain ⟨n, hn⟩ := spec_laws_markValueS a0 e0 r h
  exact (rec_laws_markValueS n) a0 e0 r hn
def S_laws_markValue (a0_0 : Int) (a0_1 : Int) (a1 : Int) (e0 : (List UInt8)) (e1 : (List (List UInt8))) (e2 : (List GValue)) : Option (Int × (List UInt8) × (List (List UInt8)) × (List GValue)) :=
  (S_laws_markByteS a1 e0).bind fun ⟨r1_0, r1_1⟩ =>
  (S_laws_markByteSS r1_0 e1).bind fun ⟨r2_0, r2_1⟩ =>
  (S_laws_markValueS r2_0 e2).bind fun ⟨r3_0, r3_1⟩ =>
  some (r3_0, r1_1, r2_1, r3_1)
set_option maxRecDepth 100000 in
theorem fd_20 : cfg.funcs 20 = some (bodyOf Tryz.f20, Tryz.f20.ntmps, Tryz.f20.results.toList) := fn_of Tryz.func20 (by kernel_rfl) (by kernel_rfl)
theorem ok_laws_markValue (a0_0 : Int) (a0_1 : Int) (a1 : Int) (e0 : (List UInt8)) (e1 : (List (List UInt8))) (e2 : (List GValue)) (r : (Int × (List UInt8) × (List (List UInt8)) × (List GValue))) (h : S_laws_markValue a0_0 a0_1 a1 e0 e1 e2 = some r) : (mach cfg).call 20 [.obj 1 (eL e_u8 e0), .obj 1 (eL (o_sl 1 e_u8) e1), .obj 5 (eL o_GValue e2)] [.val true [.int .i64 a0_0, .int .i64 a0_1, .ref 0, .ref 1, .ref 2], .val false [.int .i64 a1]] = some (.val false [.int .i64 r.1], [.obj 1 (eL e_u8 r.2.1), .obj 1 (eL (o_sl 1 e_u8) r.2.2.1), .obj 5 (eL o_GValue r.2.2.2)]) := by
  unfold S_laws_markValue at h
  obtain ⟨⟨r1_0, r1_1⟩, hr1, h⟩ := bs h
  try dsimp only at h
  obtain ⟨⟨r2_0, r2_1⟩, hr2, h⟩ := bs h
  try dsimp only at h
  obtain ⟨⟨r3_0, r3_1⟩, hr3, h⟩ := bs h
  try dsimp only at h
  obtain rfl := Option.some.inj h
  exact call_wQ [.cl (ok_laws_markByteS a1 e0 _ hr1), .cl (ok_laws_markByteSS r1_0 e1 _ hr2), .cl (ok_laws_markValueS r2_0 e2 _ hr3)] rfl fd_20 (by kernel_rfl)
def S_laws_markEvent (a0_0 : Int) (a0_2 : Int) (a0_3 : Int) (a0_4 : Int) (a1 : Int) (e0 : (List UInt8)) (e1 : (List UInt8)) (e2 : (List (List UInt8))) (e3 : (List GValue)) (e4 : (List (List UInt8))) : Option (Int × (List UInt8) × (List UInt8) × (List (List UInt8)) × (List GValue) × (List (List UInt8))) :=
  (S_laws_markByteS a1 e0).bind fun ⟨r1_0, r1_1⟩ =>
  (S_laws_markValue a0_3 a0_4 r1_0 e1 e2 e3).bind fun ⟨r2_0, r2_1, r2_2, r2_3⟩ =>
  (S_laws_markByteSS r2_0 e4).bind fun ⟨r3_0, r3_1⟩ =>
  some (r3_0, r1_1, r2_1, r2_2, r2_3, r3_1)
set_option maxRecDepth 100000 in
theorem fd_10 : cfg.funcs 10 = some (bodyOf Tryz.f10, Tryz.f10.ntmps, Tryz.f10.results.toList) := fn_of Tryz.func10 (by kernel_rfl) (by kernel_rfl)
theorem ok_laws_markEvent (a0_0 : Int) (a0_2 : Int) (a0_3 : Int) (a0_4 : Int) (a1 : Int) (e0 : (List UInt8)) (e1 : (List UInt8)) (e2 : (List (List UInt8))) (e3 : (List GValue)) (e4 : (List (List UInt8))) (r : (Int × (List UInt8) × (List UInt8) × (List (List UInt8)) × (List GValue) × (List (List UInt8)))) (h : S_laws_markEvent a0_0 a0_2 a0_3 a0_4 a1 e0 e1 e2 e3 e4 = some r) : (mach cfg).call 10 [.obj 1 (eL e_u8 e0), .obj 1 (eL e_u8 e1), .obj 1 (eL (o_sl 1 e_u8) e2), .obj 5 (eL o_GValue e3), .obj 1 (eL (o_sl 1 e_u8) e4)] [.val true [.int .i64 a0_0, .ref 0, .int .i64 a0_2, .int .i64 a0_3, .int .i64 a0_4, .ref 1, .ref 2, .ref 3, .ref 4], .val false [.int .i64 a1]] = some (.val false [.int .i64 r.1], [.obj 1 (eL e_u8 r.2.1), .obj 1 (eL e_u8 r.2.2.1), .obj 1 (eL (o_sl 1 e_u8) r.2.2.2.1), .obj 5 (eL o_GValue r.2.2.2.2.1), .obj 1 (eL (o_sl 1 e_u8) r.2.2.2.2.2)]) := by
  unfold S_laws_markEvent at h
  obtain ⟨⟨r1_0, r1_1⟩, hr1, h⟩ := bs h
  try dsimp only at h
  obtain ⟨⟨r2_0, r2_1, r2_2, r2_3⟩, hr2, h⟩ := bs h
  try dsimp only at h
  obtain ⟨⟨r3_0, r3_1⟩, hr3, h⟩ := bs h
  try dsimp only at h
  obtain rfl := Option.some.inj h
  exact call_wQ [.cl (ok_laws_markByteS a1 e0 _ hr1), .cl (ok_laws_markValue a0_3 a0_4 r1_0 e1 e2 e3 _ hr2), .cl (ok_laws_markByteSS r2_0 e4 _ hr3)] rfl fd_10 (by kernel_rfl)
def L_laws_heldByteS_l0 (a0 : (List UInt8)) : Nat → Int → Int → Option (Int ⊕ (Int × Int))
  | 0, _, _ => none
  | m + 1, a1, v2 =>
    if v2 < ((a0.length : Nat) : Int) then
      (natO v2).bind fun i2 =>
      (a0[i2]?).bind fun x3 =>
      if ((x3.toNat : Nat) : Int) = (((b8 a1).toNat : Nat) : Int) then
        L_laws_heldByteS_l0 a0 m (w64 (a1 + 1)) (w64 (v2 + 1))
      else
        some (.inl (-1))
    else
      some (.inr (a1, v2))
theorem gl_laws_heldByteS_l0 (a0 : (List UInt8)) (m : Nat) : ∀ (a1 : Int) (v2 : Int) (o : (Int ⊕ (Int × Int))), L_laws_heldByteS_l0 a0 m a1 v2 = some o → (mach cfg).loop 22 (loopB Tryz.f22 0) ⟨[(0, .val false [.seq (eL e_u8 a0)]), (1, .val false [.int .i64 a1]), (5, .val false [.int .i64 v2])], [], 0⟩ = some (match o with | .inl o_0 => (.ret, (⟨[(4, .val false [.int .i64 o_0])], [], 0⟩ : S)) | .inr (⟨o_1_0, o_1_1⟩) => (.exit 0, (⟨[(0, .val false [.seq (eL e_u8 a0)]), (1, .val false [.int .i64 o_1_0]), (5, .val false [.int .i64 o_1_1]), (9, .val false [.bool false])], [], 0⟩ : S))) := by
  induction m with
  | zero => intro a1 v2 o h; cases h
  | succ m ih =>
    intro a1 v2 o h
    rw [L_laws_heldByteS_l0] at h
    rcases ite_some h with ⟨c1, h⟩ | ⟨c1, h⟩
    ·obtain ⟨i2, hi2, h⟩ := bs h
     obtain ⟨x3, hx3, h⟩ := bs h
     rcases ite_some h with ⟨c4, h⟩ | ⟨c4, h⟩
     ·exact loop_nQ [.le e_u8 a0, .lT c1, .na hi2, .ix0 e_u8 hx3, ⟨.conv .u8 a1, .i (((b8 a1).toNat : Nat) : Int), A.conv8⟩, .eT c4, .nt true, .ad a1 1, .ad v2 1] (by kernel_rfl) (ih (w64 (a1 + 1)) (w64 (v2 + 1)) o h)
     ·obtain rfl := Option.some.inj h
      exact loop_eQ [.le e_u8 a0, .lT c1, .na hi2, .ix0 e_u8 hx3, ⟨.conv .u8 a1, .i (((b8 a1).toNat : Nat) : Int), A.conv8⟩, .eF c4, .nt false] (by kernel_rfl) (by intro h; cases h)
    ·obtain rfl := Option.some.inj h
     exact loop_eQ [.le e_u8 a0, .lF c1] (by kernel_rfl) (by intro h; cases h)
def T_laws_heldByteS (n : Nat) (a0 : (List UInt8)) (a1 : Int) : Option Int :=
  (L_laws_heldByteS_l0 a0 n a1 0).bind fun o1 =>
  match o1 with
  | .inl o1_0 =>
    some o1_0
  | .inr (⟨o1_1_0, o1_1_1⟩) =>
    some o1_1_0
set_option maxRecDepth 100000 in
theorem fd_22 : cfg.funcs 22 = some (bodyOf Tryz.f22, Tryz.f22.ntmps, Tryz.f22.results.toList) := fn_of Tryz.func22 (by kernel_rfl) (by kernel_rfl)
theorem g_laws_heldByteS (n : Nat) (a0 : (List UInt8)) (a1 : Int) (r : Int) (h : T_laws_heldByteS n a0 a1 = some r) : (mach cfg).call 22 [] [.val false [.seq (eL e_u8 a0)], .val false [.int .i64 a1]] = some (.val false [.int .i64 r], []) := by
  unfold T_laws_heldByteS at h
  obtain ⟨o1, ho1, h⟩ := bs h
  rcases o1 with o1_0 | ⟨o1_1_0, o1_1_1⟩
  · try dsimp only at h
    obtain rfl := Option.some.inj h
    exact call_wQ [.lp (gl_laws_heldByteS_l0 a0 _ a1 0 _ ho1)] rfl fd_22 (by kernel_rfl)
  · try dsimp only at h
    obtain rfl := Option.some.inj h
    exact call_wQ [.lp (gl_laws_heldByteS_l0 a0 _ a1 0 _ ho1)] rfl fd_22 (by kernel_rfl)
theorem heldByteS_loop {a : List UInt8} : ∀ (l p : List UInt8) (k : Int) (m : Nat), a = p ++ l → mB k l = l → 0 <= k → k + 2 * l.length <= 2 ^ 41 → p.length + l.length <= 2 ^ 41 → l.length < m → ∃ z, L_laws_heldByteS_l0 a m k ((p.length : Nat) : Int) = some (.inr (k + l.length, z)) := by
  intro l
  induction l with
  | nil =>
    intro p k m ha _ _ _ _ hm
    subst ha
    obtain ⟨m, rfl, _⟩ := fuel hm
    exact ⟨_, by rw [L_laws_heldByteS_l0, if_neg (nlt_end p)]; simp; rfl⟩
  | cons x l ih =>
    intro p k m ha hm0 h0 h1 h2 hm
    obtain ⟨m, rfl, hm'⟩ := fuel hm
    simp only [List.length_cons] at h1 h2 hm'
    rw [mB] at hm0
    obtain ⟨e1, e2⟩ := List.cons.inj hm0
    obtain ⟨z, hz⟩ := ih (p ++ [x]) (k + 1) m (by rw [ha]; simp) e2 (by omega) (by omega) (by simp; omega) (by omega)
    refine ⟨z, ?_⟩
    rw [L_laws_heldByteS_l0, if_pos (by rw [ha]; exact lt_mid p x l), natO_nat, Option.bind_some, show a[p.length]? = some x by rw [ha]; exact get_mid p x l, Option.bind_some, if_pos (by rw [e1]), w64_len p x (by omega), w64_id (x := k + 1) (by omega) (by omega), hz]
    simp only [List.length_cons]
    rw [show k + 1 + (l.length : Int) = k + ((l.length + 1 : Nat) : Int) by omega]
def S_laws_heldByteS (a0 : (List UInt8)) (a1 : Int) : Option Int := if mB a1 a0 = a0 ∧ 0 <= a1 ∧ a1 + 2 * a0.length <= 2 ^ 41 then some (a1 + a0.length) else none
theorem heldByteS_eq {a : Int} {s : List UInt8} (h : mB a s = s) (h0 : 0 <= a) (h1 : a + 2 * s.length <= 2 ^ 41) : S_laws_heldByteS s a = some (a + s.length) := if_pos ⟨h, h0, h1⟩
theorem spec_laws_heldByteS (a0 : (List UInt8)) (a1 : Int) (r : Int) (h : S_laws_heldByteS a0 a1 = some r) : ∃ n, T_laws_heldByteS n a0 a1 = some r := by
  unfold S_laws_heldByteS at h
  obtain ⟨⟨he, h0, h1⟩, h⟩ := need_c h
  obtain ⟨z, hz⟩ := heldByteS_loop (a := a0) a0 [] a1 (a0.length + 1) rfl he h0 h1 (by simp; omega) (by omega)
  refine ⟨a0.length + 1, ?_⟩
  unfold T_laws_heldByteS
  simp only [List.length_nil, Int.natCast_zero] at hz
  rw [hz]
  exact h
theorem ok_laws_heldByteS (a0 : (List UInt8)) (a1 : Int) (r : Int) (h : S_laws_heldByteS a0 a1 = some r) : (mach cfg).call 22 [] [.val false [.seq (eL e_u8 a0)], .val false [.int .i64 a1]] = some (.val false [.int .i64 r], []) := by
  obtain ⟨n, hn⟩ := spec_laws_heldByteS a0 a1 r h
  exact g_laws_heldByteS n a0 a1 r hn
def L_laws_heldByteSS_l0 (a0 : (List (List UInt8))) : Nat → Int → Int → Option (Int ⊕ (Int × Int))
  | 0, _, _ => none
  | m + 1, a1, v2 =>
    if v2 < ((a0.length : Nat) : Int) then
      (natO v2).bind fun i2 =>
      (a0[i2]?).bind fun x3 =>
      (S_laws_heldByteS x3 a1).bind fun r4 =>
      if r4 < 0 then
        some (.inl (-1))
      else
        L_laws_heldByteSS_l0 a0 m r4 (w64 (v2 + 1))
    else
      some (.inr (a1, v2))
theorem gl_laws_heldByteSS_l0 (a0 : (List (List UInt8))) (m : Nat) : ∀ (a1 : Int) (v2 : Int) (o : (Int ⊕ (Int × Int))), L_laws_heldByteSS_l0 a0 m a1 v2 = some o → (mach cfg).loop 24 (loopB Tryz.f24 0) ⟨[(0, .val false [.seq (eL (e_sl e_u8) a0)]), (1, .val false [.int .i64 a1]), (5, .val false [.int .i64 v2])], [], 0⟩ = some (match o with | .inl o_0 => (.ret, (⟨[(4, .val false [.int .i64 o_0])], [], 0⟩ : S)) | .inr (⟨o_1_0, o_1_1⟩) => (.exit 0, (⟨[(0, .val false [.seq (eL (e_sl e_u8) a0)]), (1, .val false [.int .i64 o_1_0]), (5, .val false [.int .i64 o_1_1]), (9, .val false [.bool false])], [], 0⟩ : S))) := by
  induction m with
  | zero => intro a1 v2 o h; cases h
  | succ m ih =>
    intro a1 v2 o h
    rw [L_laws_heldByteSS_l0] at h
    rcases ite_some h with ⟨c1, h⟩ | ⟨c1, h⟩
    ·obtain ⟨i2, hi2, h⟩ := bs h
     obtain ⟨x3, hx3, h⟩ := bs h
     obtain ⟨r4, hr4, h⟩ := bs h
     let p96 : List (Q cfg) := [.le (e_sl e_u8) a0, .lT c1, .na hi2, .ix0 (e_sl e_u8) hx3, .cl (ok_laws_heldByteS x3 a1 _ hr4)]
     rcases ite_some h with ⟨c5, h⟩ | ⟨c5, h⟩
     ·obtain rfl := Option.some.inj h
      exact loop_eQ (p96 ++ [.lT c5]) (by kernel_rfl) (by intro h; cases h)
     ·exact loop_nQ (p96 ++ [.lF c5, .ad v2 1]) (by kernel_rfl) (ih r4 (w64 (v2 + 1)) o h)
    ·obtain rfl := Option.some.inj h
     exact loop_eQ [.le (e_sl e_u8) a0, .lF c1] (by kernel_rfl) (by intro h; cases h)
def T_laws_heldByteSS (n : Nat) (a0 : (List (List UInt8))) (a1 : Int) : Option Int :=
  (L_laws_heldByteSS_l0 a0 n a1 0).bind fun o1 =>
  match o1 with
  | .inl o1_0 =>
    some o1_0
  | .inr (⟨o1_1_0, o1_1_1⟩) =>
    some o1_1_0
set_option maxRecDepth 100000 in
theorem fd_24 : cfg.funcs 24 = some (bodyOf Tryz.f24, Tryz.f24.ntmps, Tryz.f24.results.toList) := fn_of Tryz.func24 (by kernel_rfl) (by kernel_rfl)
theorem g_laws_heldByteSS (n : Nat) (a0 : (List (List UInt8))) (a1 : Int) (r : Int) (h : T_laws_heldByteSS n a0 a1 = some r) : (mach cfg).call 24 [] [.val false [.seq (eL (e_sl e_u8) a0)], .val false [.int .i64 a1]] = some (.val false [.int .i64 r], []) := by
  unfold T_laws_heldByteSS at h
  obtain ⟨o1, ho1, h⟩ := bs h
  rcases o1 with o1_0 | ⟨o1_1_0, o1_1_1⟩
  · try dsimp only at h
    obtain rfl := Option.some.inj h
    exact call_wQ [.lp (gl_laws_heldByteSS_l0 a0 _ a1 0 _ ho1)] rfl fd_24 (by kernel_rfl)
  · try dsimp only at h
    obtain rfl := Option.some.inj h
    exact call_wQ [.lp (gl_laws_heldByteSS_l0 a0 _ a1 0 _ ho1)] rfl fd_24 (by kernel_rfl)
theorem heldByteSS_loop {a : List (List UInt8)} : ∀ (l p : List (List UInt8)) (k : Int) (m : Nat), a = p ++ l → mBB k l = l → 0 <= k → k + 2 * bsz l <= 2 ^ 41 → p.length + l.length <= 2 ^ 41 → l.length < m → ∃ z, L_laws_heldByteSS_l0 a m k ((p.length : Nat) : Int) = some (.inr (k + cB l, z)) := by
  intro l
  induction l with
  | nil =>
    intro p k m ha _ _ _ _ hm
    subst ha
    obtain ⟨m, rfl, _⟩ := fuel hm
    exact ⟨_, by rw [L_laws_heldByteSS_l0, if_neg (nlt_end p)]; simp [cB]; rfl⟩
  | cons x l ih =>
    intro p k m ha hm0 h0 h1 h2 hm
    obtain ⟨m, rfl, hm'⟩ := fuel hm
    rw [bsz_cons] at h1
    simp only [List.length_cons] at h2 hm'
    rw [mBB] at hm0
    obtain ⟨e1, e2⟩ := List.cons.inj hm0
    obtain ⟨z, hz⟩ := ih (p ++ [x]) (k + x.length) m (by rw [ha]; simp) e2 (by omega) (by omega) (by simp; omega) (by omega)
    refine ⟨z, ?_⟩
    rw [L_laws_heldByteSS_l0, if_pos (by rw [ha]; exact lt_mid p x l), natO_nat, Option.bind_some, show a[p.length]? = some x by rw [ha]; exact get_mid p x l, Option.bind_some, heldByteS_eq e1 (by omega) (by omega), Option.bind_some, if_neg (by omega), w64_len p x (by omega), hz, cB_cons]
    rw [show k + (x.length : Int) + (cB l : Int) = k + ((x.length + cB l : Nat) : Int) by omega]
def S_laws_heldByteSS (a0 : (List (List UInt8))) (a1 : Int) : Option Int := if mBB a1 a0 = a0 ∧ 0 <= a1 ∧ a1 + 2 * bsz a0 <= 2 ^ 41 then some (a1 + cB a0) else none
theorem heldByteSS_eq {a : Int} {s : List (List UInt8)} (h : mBB a s = s) (h0 : 0 <= a) (h1 : a + 2 * bsz s <= 2 ^ 41) : S_laws_heldByteSS s a = some (a + cB s) := if_pos ⟨h, h0, h1⟩
theorem spec_laws_heldByteSS (a0 : (List (List UInt8))) (a1 : Int) (r : Int) (h : S_laws_heldByteSS a0 a1 = some r) : ∃ n, T_laws_heldByteSS n a0 a1 = some r := by
  unfold S_laws_heldByteSS at h
  obtain ⟨⟨he, h0, h1⟩, h⟩ := need_c h
  have := bsz_len a0
  obtain ⟨z, hz⟩ := heldByteSS_loop (a := a0) a0 [] a1 (a0.length + 1) rfl he h0 h1 (by simp; omega) (by omega)
  refine ⟨a0.length + 1, ?_⟩
  unfold T_laws_heldByteSS
  simp only [List.length_nil, Int.natCast_zero] at hz
  rw [hz]
  exact h
theorem ok_laws_heldByteSS (a0 : (List (List UInt8))) (a1 : Int) (r : Int) (h : S_laws_heldByteSS a0 a1 = some r) : (mach cfg).call 24 [] [.val false [.seq (eL (e_sl e_u8) a0)], .val false [.int .i64 a1]] = some (.val false [.int .i64 r], []) := by
  obtain ⟨n, hn⟩ := spec_laws_heldByteSS a0 a1 r h
  exact g_laws_heldByteSS n a0 a1 r hn
def L_laws_heldValueS_l0 (G_laws_heldValueS : (List GValue) → Int → Option Int) (a0 : (List GValue)) : Nat → Int → Int → Option (Int ⊕ (Int × Int))
  | 0, _, _ => none
  | m + 1, a1, v2 =>
    if v2 < ((a0.length : Nat) : Int) then
      (natO v2).bind fun i2 =>
      (a0[i2]?).bind fun x3 =>
      if x3.Kind = a1 then
        if x3.N = (w64 (a1 + 1)) then
          (S_laws_heldByteS x3.S (w64 ((w64 (a1 + 1)) + 1))).bind fun r6 =>
          if r6 < 0 then
            some (.inl (-1))
          else
            (S_laws_heldByteSS x3.K r6).bind fun r8 =>
            if r8 < 0 then
              some (.inl (-1))
            else
              (G_laws_heldValueS x3.L r8).bind fun r10 =>
              if r10 < 0 then
                some (.inl (-1))
              else
                L_laws_heldValueS_l0 G_laws_heldValueS a0 m r10 (w64 (v2 + 1))
        else
          some (.inl (-1))
      else
        some (.inl (-1))
    else
      some (.inr (a1, v2))
theorem gl_laws_heldValueS_l0 (G_laws_heldValueS : (List GValue) → Int → Option Int) (H_laws_heldValueS : ∀ (a0 : (List GValue)) (a1 : Int) (r : Int), G_laws_heldValueS a0 a1 = some r → (mach cfg).call 43 [] [.val false [.seq (eL e_GValue a0)], .val false [.int .i64 a1]] = some (.val false [.int .i64 r], [])) (a0 : (List GValue)) (m : Nat) : ∀ (a1 : Int) (v2 : Int) (o : (Int ⊕ (Int × Int))), L_laws_heldValueS_l0 G_laws_heldValueS a0 m a1 v2 = some o → (mach cfg).loop 43 (loopB Tryz.f43 0) ⟨[(0, .val false [.seq (eL e_GValue a0)]), (1, .val false [.int .i64 a1]), (5, .val false [.int .i64 v2])], [], 0⟩ = some (match o with | .inl o_0 => (.ret, (⟨[(4, .val false [.int .i64 o_0])], [], 0⟩ : S)) | .inr (⟨o_1_0, o_1_1⟩) => (.exit 0, (⟨[(0, .val false [.seq (eL e_GValue a0)]), (1, .val false [.int .i64 o_1_0]), (5, .val false [.int .i64 o_1_1]), (9, .val false [.bool false])], [], 0⟩ : S))) := by
  induction m with
  | zero => intro a1 v2 o h; cases h
  | succ m ih =>
    intro a1 v2 o h
    rw [L_laws_heldValueS_l0] at h
    rcases ite_some h with ⟨c1, h⟩ | ⟨c1, h⟩
    ·obtain ⟨i2, hi2, h⟩ := bs h
     obtain ⟨x3, hx3, h⟩ := bs h
     let p97 : List (Q cfg) := [.le e_GValue a0, .lT c1, .na hi2]
     rcases ite_some h with ⟨c4, h⟩ | ⟨c4, h⟩
     ·rcases ite_some h with ⟨c5, h⟩ | ⟨c5, h⟩
      ·obtain ⟨r6, hr6, h⟩ := bs h
       let p98 : List (Q cfg) := p97 ++ [.ix hx3 (eq_GValue x3), .eT c4, .nt true, .ad a1 1, .na hi2, .ix hx3 (eq_GValue x3), .eT c5, .nt true, .ad (w64 (a1 + 1)) 1, .na hi2, .ix hx3 (eq_GValue x3), .cl (ok_laws_heldByteS x3.S (w64 ((w64 (a1 + 1)) + 1)) _ hr6)]
       rcases ite_some h with ⟨c7, h⟩ | ⟨c7, h⟩
       ·obtain rfl := Option.some.inj h
        exact loop_eQ (p98 ++ [.lT c7]) (by kernel_rfl) (by intro h; cases h)
       ·obtain ⟨r8, hr8, h⟩ := bs h
        let p99 : List (Q cfg) := p98 ++ [.lF c7, .na hi2, .ix hx3 (eq_GValue x3), .cl (ok_laws_heldByteSS x3.K r6 _ hr8)]
        rcases ite_some h with ⟨c9, h⟩ | ⟨c9, h⟩
        ·obtain rfl := Option.some.inj h
         exact loop_eQ (p99 ++ [.lT c9]) (by kernel_rfl) (by intro h; cases h)
        ·obtain ⟨r10, hr10, h⟩ := bs h
         let p100 : List (Q cfg) := p99 ++ [.lF c9, .na hi2, .ix hx3 (eq_GValue x3), .cl (H_laws_heldValueS x3.L r8 _ hr10)]
         rcases ite_some h with ⟨c11, h⟩ | ⟨c11, h⟩
         ·obtain rfl := Option.some.inj h
          exact loop_eQ (p100 ++ [.lT c11]) (by kernel_rfl) (by intro h; cases h)
         ·exact loop_nQ (p100 ++ [.lF c11, .ad v2 1]) (by kernel_rfl) (ih r10 (w64 (v2 + 1)) o h)
      ·obtain rfl := Option.some.inj h
       exact loop_eQ (p97 ++ [.ix hx3 (eq_GValue x3), .eT c4, .nt true, .ad a1 1, .na hi2, .ix hx3 (eq_GValue x3), .eF c5, .nt false]) (by kernel_rfl) (by intro h; cases h)
     ·obtain rfl := Option.some.inj h
      exact loop_eQ (p97 ++ [.ix hx3 (eq_GValue x3), .eF c4, .nt false]) (by kernel_rfl) (by intro h; cases h)
    ·obtain rfl := Option.some.inj h
     exact loop_eQ [.le e_GValue a0, .lF c1] (by kernel_rfl) (by intro h; cases h)
def T_laws_heldValueS (G_laws_heldValueS : (List GValue) → Int → Option Int) (n : Nat) (a0 : (List GValue)) (a1 : Int) : Option Int :=
  (L_laws_heldValueS_l0 G_laws_heldValueS a0 n a1 0).bind fun o1 =>
  match o1 with
  | .inl o1_0 =>
    some o1_0
  | .inr (⟨o1_1_0, o1_1_1⟩) =>
    some o1_1_0
set_option maxRecDepth 100000 in
theorem fd_43 : cfg.funcs 43 = some (bodyOf Tryz.f43, Tryz.f43.ntmps, Tryz.f43.results.toList) := fn_of Tryz.func43 (by kernel_rfl) (by kernel_rfl)
theorem g_laws_heldValueS (G_laws_heldValueS : (List GValue) → Int → Option Int) (H_laws_heldValueS : ∀ (a0 : (List GValue)) (a1 : Int) (r : Int), G_laws_heldValueS a0 a1 = some r → (mach cfg).call 43 [] [.val false [.seq (eL e_GValue a0)], .val false [.int .i64 a1]] = some (.val false [.int .i64 r], [])) (n : Nat) (a0 : (List GValue)) (a1 : Int) (r : Int) (h : T_laws_heldValueS G_laws_heldValueS n a0 a1 = some r) : (mach cfg).call 43 [] [.val false [.seq (eL e_GValue a0)], .val false [.int .i64 a1]] = some (.val false [.int .i64 r], []) := by
  unfold T_laws_heldValueS at h
  obtain ⟨o1, ho1, h⟩ := bs h
  rcases o1 with o1_0 | ⟨o1_1_0, o1_1_1⟩
  · try dsimp only at h
    obtain rfl := Option.some.inj h
    exact call_wQ [.lp (gl_laws_heldValueS_l0 G_laws_heldValueS H_laws_heldValueS a0 _ a1 0 _ ho1)] rfl fd_43 (by kernel_rfl)
  · try dsimp only at h
    obtain rfl := Option.some.inj h
    exact call_wQ [.lp (gl_laws_heldValueS_l0 G_laws_heldValueS H_laws_heldValueS a0 _ a1 0 _ ho1)] rfl fd_43 (by kernel_rfl)
def U_laws_heldValueS : Nat → (List GValue) → Int → Option Int
  | 0, _, _ => none
  | n + 1, a0, a1 => T_laws_heldValueS (U_laws_heldValueS n) n a0 a1
theorem rec_laws_heldValueS (n : Nat) : (∀ (a0 : (List GValue)) (a1 : Int) (r : Int), U_laws_heldValueS n a0 a1 = some r → (mach cfg).call 43 [] [.val false [.seq (eL e_GValue a0)], .val false [.int .i64 a1]] = some (.val false [.int .i64 r], [])) := by
  induction n with
  | zero => exact fun _ _ _ h => (by rw [U_laws_heldValueS] at h; cases h)
  | succ n ih =>
    have ih_laws_heldValueS := ih
    exact fun a0 a1 r h => g_laws_heldValueS (U_laws_heldValueS n) ih_laws_heldValueS n a0 a1 r (by rw [U_laws_heldValueS] at h; exact h)
theorem heldValueS_loop {G : List GValue → Int → Option Int} {a : List GValue} : ∀ (l p : List GValue) (k : Int) (m : Nat), a = p ++ l → mVs k l = l → (∀ v ∈ l, ∀ i : Int, mVs i v.L = v.L → 0 <= i → i + 2 * vszs v.L <= 2 ^ 41 → G v.L i = some (i + cVs v.L)) → 0 <= k → k + 2 * vszs l <= 2 ^ 41 → p.length + l.length <= 2 ^ 41 → l.length < m → ∃ z, L_laws_heldValueS_l0 G a m k ((p.length : Nat) : Int) = some (.inr (k + cVs l, z)) := by
  intro l
  induction l with
  | nil =>
    intro p k m ha _ _ _ _ _ hm
    subst ha
    obtain ⟨m, rfl, _⟩ := fuel hm
    exact ⟨_, by rw [L_laws_heldValueS_l0, if_neg (nlt_end p)]; simp [cVs]; rfl⟩
  | cons x l ih =>
    intro p k m ha hm0 hG h0 h1 h2 hm
    obtain ⟨m, rfl, hm'⟩ := fuel hm
    simp only [List.length_cons] at h2 hm'
    have hx := hG x List.mem_cons_self
    have hc := cV_le x
    rw [mVs] at hm0
    obtain ⟨e1, e2⟩ := List.cons.inj hm0
    simp only [vszs] at h1
    obtain ⟨z, hz⟩ := ih (p ++ [x]) (k + cV x) m (by rw [ha]; simp) e2 (fun v hv => hG v (List.mem_cons_of_mem _ hv)) (by omega) (by omega) (by simp; omega) (by omega)
    refine ⟨z, ?_⟩
    rw [L_laws_heldValueS_l0, if_pos (by rw [ha]; exact lt_mid p x l), natO_nat, Option.bind_some, show a[p.length]? = some x by rw [ha]; exact get_mid p x l, Option.bind_some, w64_len p x (by omega)]
    have hb := bsz_cB x.K
    have hd := cVs_le x.L
    have hq := vsz_eq x
    have hr := cV_eq x
    rw [mV_eq] at e1
    have f1 : x.Kind = k := (congrArg GValue.Kind e1).symm
    have f2 : x.N = k + 1 := (congrArg GValue.N e1).symm
    have f3 : mB (k + 1 + 1) x.S = x.S := congrArg GValue.S e1
    have f4 : mBB (k + 1 + 1 + x.S.length) x.K = x.K := congrArg GValue.K e1
    have f5 : mVs (k + 1 + 1 + x.S.length + cB x.K) x.L = x.L := congrArg GValue.L e1
    rw [w64_id (x := k + 1) (by omega) (by omega), w64_id (x := k + 1 + 1) (by omega) (by omega), if_pos f1, if_pos f2, heldByteS_eq f3 (by omega) (by omega), Option.bind_some, if_neg (by omega), heldByteSS_eq f4 (by omega) (by omega), Option.bind_some, if_neg (by omega), hx _ f5 (by omega) (by omega), Option.bind_some, if_neg (by omega),
      show k + 1 + 1 + (x.S.length : Int) + (cB x.K : Int) + (cVs x.L : Int) = k + ((cV x : Nat) : Int) by omega, hz]
    simp only [cVs]
    rw [show k + ((cV x : Nat) : Int) + (cVs l : Int) = k + ((cV x + cVs l : Nat) : Int) by omega]
theorem heldValueS_U : ∀ (N : Nat) (l : List GValue), vszs l < N → ∀ (k : Int) (f : Nat), mVs k l = l → 0 <= k → k + 2 * vszs l <= 2 ^ 41 → vszs l + 2 <= f → U_laws_heldValueS f l k = some (k + cVs l) := by
  intro N
  induction N with
  | zero => intro l hl; omega
  | succ N ih =>
    intro l hl k f he h0 h1 hf
    obtain ⟨f, rfl, _⟩ := fuel (show 0 < f by omega)
    have hlen := vszs_len l
    rw [U_laws_heldValueS]
    unfold T_laws_heldValueS
    obtain ⟨z, hz⟩ := heldValueS_loop (G := U_laws_heldValueS f) (a := l) l [] k f rfl he (fun v hv i ge g0 g1 => by
      have := vszs_mem hv
      have := vsz_eq v
      exact ih v.L (by omega) i f ge g0 g1 (by omega)) h0 h1 (by simp; omega) (by omega)
    simp only [List.length_nil, Int.natCast_zero] at hz
    rw [hz]; rfl
open Classical in
noncomputable def S_laws_heldValueS (a0 : (List GValue)) (a1 : Int) : Option Int := if mVs a1 a0 = a0 ∧ 0 <= a1 ∧ a1 + 2 * vszs a0 <= 2 ^ 41 then some (a1 + cVs a0) else none
theorem heldValueS_eq {a : Int} {s : List GValue} (h : mVs a s = s) (h0 : 0 <= a) (h1 : a + 2 * vszs s <= 2 ^ 41) : S_laws_heldValueS s a = some (a + cVs s) := if_pos ⟨h, h0, h1⟩
theorem spec_laws_heldValueS (a0 : (List GValue)) (a1 : Int) (r : Int) (h : S_laws_heldValueS a0 a1 = some r) : ∃ n, U_laws_heldValueS n a0 a1 = some r := by
  unfold S_laws_heldValueS at h
  obtain ⟨⟨he, h0, h1⟩, h⟩ := need_c h
  exact ⟨vszs a0 + 2, by rw [heldValueS_U _ a0 (Nat.lt_succ_self _) a1 _ he h0 h1 (Nat.le_refl _), h]⟩
theorem ok_laws_heldValueS (a0 : (List GValue)) (a1 : Int) (r : Int) (h : S_laws_heldValueS a0 a1 = some r) : (mach cfg).call 43 [] [.val false [.seq (eL e_GValue a0)], .val false [.int .i64 a1]] = some (.val false [.int .i64 r], []) := by
  obtain ⟨n, hn⟩ := spec_laws_heldValueS a0 a1 r h
  exact (rec_laws_heldValueS n) a0 a1 r hn
def S_laws_heldValue (a0 : GValue) (a1 : Int) : Option Int :=
  (S_laws_heldByteS a0.S a1).bind fun r1 =>
  if r1 < 0 then
    some (-1)
  else
    (S_laws_heldByteSS a0.K r1).bind fun r3 =>
    if r3 < 0 then
      some (-1)
    else
      (S_laws_heldValueS a0.L r3).bind fun r5 =>
      if r5 < 0 then
        some (-1)
      else
        some r5
set_option maxRecDepth 100000 in
theorem fd_23 : cfg.funcs 23 = some (bodyOf Tryz.f23, Tryz.f23.ntmps, Tryz.f23.results.toList) := fn_of Tryz.func23 (by kernel_rfl) (by kernel_rfl)
theorem ok_laws_heldValue (a0 : GValue) (a1 : Int) (r : Int) (h : S_laws_heldValue a0 a1 = some r) : (mach cfg).call 23 [] [.val true [.int .i64 a0.Kind, .int .i64 a0.N, .seq (eL e_u8 a0.S), .seq (eL (e_sl e_u8) a0.K), .seq (eL e_GValue a0.L)], .val false [.int .i64 a1]] = some (.val false [.int .i64 r], []) := by
  unfold S_laws_heldValue at h
  obtain ⟨r1, hr1, h⟩ := bs h
  let p101 : List (Q cfg) := [.cl (ok_laws_heldByteS a0.S a1 _ hr1)]
  rcases ite_some h with ⟨c2, h⟩ | ⟨c2, h⟩
  ·obtain rfl := Option.some.inj h
   exact call_wQ (p101 ++ [.lT c2]) rfl fd_23 (by kernel_rfl)
  ·obtain ⟨r3, hr3, h⟩ := bs h
   let p102 : List (Q cfg) := p101 ++ [.lF c2, .cl (ok_laws_heldByteSS a0.K r1 _ hr3)]
   rcases ite_some h with ⟨c4, h⟩ | ⟨c4, h⟩
   ·obtain rfl := Option.some.inj h
    exact call_wQ (p102 ++ [.lT c4]) rfl fd_23 (by kernel_rfl)
   ·obtain ⟨r5, hr5, h⟩ := bs h
    rcases ite_some h with ⟨c6, h⟩ | ⟨c6, h⟩
    ·obtain rfl := Option.some.inj h
     exact call_wQ (p102 ++ [.lF c4, .cl (ok_laws_heldValueS a0.L r3 _ hr5), .lT c6]) rfl fd_23 (by kernel_rfl)
    ·obtain rfl := Option.some.inj h
     exact call_wQ (p102 ++ [.lF c4, .cl (ok_laws_heldValueS a0.L r3 _ hr5), .lF c6]) rfl fd_23 (by kernel_rfl)
def S_laws_heldEvent (a0 : GEvent) (a1 : Int) : Option Int :=
  (S_laws_heldByteS a0.Addr a1).bind fun r1 =>
  if r1 < 0 then
    some (-1)
  else
    (S_laws_heldValue a0.Val r1).bind fun r3 =>
    if r3 < 0 then
      some (-1)
    else
      (S_laws_heldByteSS a0.Deps r3).bind fun r5 =>
      if r5 < 0 then
        some (-1)
      else
        some r5
set_option maxRecDepth 100000 in
theorem fd_11 : cfg.funcs 11 = some (bodyOf Tryz.f11, Tryz.f11.ntmps, Tryz.f11.results.toList) := fn_of Tryz.func11 (by kernel_rfl) (by kernel_rfl)
theorem ok_laws_heldEvent (a0 : GEvent) (a1 : Int) (r : Int) (h : S_laws_heldEvent a0 a1 = some r) : (mach cfg).call 11 [] [.val true [.int .i64 a0.Kind, .seq (eL e_u8 a0.Addr), .int .i64 a0.Act, .int .i64 a0.Val.Kind, .int .i64 a0.Val.N, .seq (eL e_u8 a0.Val.S), .seq (eL (e_sl e_u8) a0.Val.K), .seq (eL e_GValue a0.Val.L), .seq (eL (e_sl e_u8) a0.Deps)], .val false [.int .i64 a1]] = some (.val false [.int .i64 r], []) := by
  unfold S_laws_heldEvent at h
  obtain ⟨r1, hr1, h⟩ := bs h
  let p103 : List (Q cfg) := [.cl (ok_laws_heldByteS a0.Addr a1 _ hr1)]
  rcases ite_some h with ⟨c2, h⟩ | ⟨c2, h⟩
  ·obtain rfl := Option.some.inj h
   exact call_wQ (p103 ++ [.lT c2]) rfl fd_11 (by kernel_rfl)
  ·obtain ⟨r3, hr3, h⟩ := bs h
   let p104 : List (Q cfg) := p103 ++ [.lF c2, .cl (ok_laws_heldValue a0.Val r1 _ hr3)]
   rcases ite_some h with ⟨c4, h⟩ | ⟨c4, h⟩
   ·obtain rfl := Option.some.inj h
    exact call_wQ (p104 ++ [.lT c4]) rfl fd_11 (by kernel_rfl)
   ·obtain ⟨r5, hr5, h⟩ := bs h
    rcases ite_some h with ⟨c6, h⟩ | ⟨c6, h⟩
    ·obtain rfl := Option.some.inj h
     exact call_wQ (p104 ++ [.lF c4, .cl (ok_laws_heldByteSS a0.Deps r3 _ hr5), .lT c6]) rfl fd_11 (by kernel_rfl)
    ·obtain rfl := Option.some.inj h
     exact call_wQ (p104 ++ [.lF c4, .cl (ok_laws_heldByteSS a0.Deps r3 _ hr5), .lF c6]) rfl fd_11 (by kernel_rfl)
def S_laws_FnExactEventRead (a0 : (List UInt8)) : Option Bool :=
  if 1048576 < ((a0.length : Nat) : Int) then
    some true
  else
    (S_laws_toByteS a0).bind fun r2 =>
    (S_spec_EventRead r2).bind fun ⟨r3_0, r3_1⟩ =>
    (S_impl_EventRead r2).bind fun ⟨r4_0, r4_1⟩ =>
    (S_laws_eqEvent r4_0 r3_0).bind fun r5 =>
    match r5 with
    | true =>
      match r4_1 with
      | true =>
        match r3_1 with
        | true =>
          (S_laws_eqByteS r2 r2).bind fun r9 =>
          match r9 with
          | true =>
            (S_laws_markByteS 1 r2).bind fun ⟨r11_0, r11_1⟩ =>
            if r11_0 < 0 then
              none
            else
              (S_laws_markEvent r4_0.Kind r4_0.Act r4_0.Val.Kind r4_0.Val.N 1 r4_0.Addr r4_0.Val.S r4_0.Val.K r4_0.Val.L r4_0.Deps).bind fun ⟨r13_0, r13_1, r13_2, r13_3, r13_4, r13_5⟩ =>
              (S_laws_heldEvent (GEvent.mk r4_0.Kind r13_1 r4_0.Act (GValue.mk r4_0.Val.Kind r4_0.Val.N r13_2 r13_3 r13_4) r13_5) 1).bind fun r14 =>
              if r14 < 0 then
                none
              else
                if r14 = r13_0 then
                  some true
                else
                  none
          | false =>
            none
        | false =>
          none
      | false =>
        match r3_1 with
        | true =>
          none
        | false =>
          (S_laws_eqByteS r2 r2).bind fun r9 =>
          match r9 with
          | true =>
            (S_laws_markByteS 1 r2).bind fun ⟨r11_0, r11_1⟩ =>
            if r11_0 < 0 then
              none
            else
              (S_laws_markEvent r4_0.Kind r4_0.Act r4_0.Val.Kind r4_0.Val.N 1 r4_0.Addr r4_0.Val.S r4_0.Val.K r4_0.Val.L r4_0.Deps).bind fun ⟨r13_0, r13_1, r13_2, r13_3, r13_4, r13_5⟩ =>
              (S_laws_heldEvent (GEvent.mk r4_0.Kind r13_1 r4_0.Act (GValue.mk r4_0.Val.Kind r4_0.Val.N r13_2 r13_3 r13_4) r13_5) 1).bind fun r14 =>
              if r14 < 0 then
                none
              else
                if r14 = r13_0 then
                  some true
                else
                  none
          | false =>
            none
    | false =>
      none
set_option maxRecDepth 100000 in
theorem fd_3 : cfg.funcs 3 = some (bodyOf Tryz.f3, Tryz.f3.ntmps, Tryz.f3.results.toList) := fn_of Tryz.func3 (by kernel_rfl) (by kernel_rfl)
theorem ok_laws_FnExactEventRead (a0 : (List UInt8)) (r : Bool) (h : S_laws_FnExactEventRead a0 = some r) : (mach cfg).call 3 [] [.val false [.seq (eL e_u8 a0)]] = some (.val false [.bool r], []) := by
  unfold S_laws_FnExactEventRead at h
  rcases ite_some h with ⟨c1, h⟩ | ⟨c1, h⟩
  ·obtain rfl := Option.some.inj h
   exact call_wQ [.le e_u8 a0, .lT c1] rfl fd_3 (by kernel_rfl)
  ·obtain ⟨r2, hr2, h⟩ := bs h
   obtain ⟨⟨r3_0, r3_1⟩, hr3, h⟩ := bs h
   try dsimp only at h
   obtain ⟨⟨r4_0, r4_1⟩, hr4, h⟩ := bs h
   try dsimp only at h
   obtain ⟨r5, hr5, h⟩ := bs h
   let p105 : List (Q cfg) := [.le e_u8 a0, .lF c1, .cl (ok_laws_toByteS a0 _ hr2), ⟨.view (eL e_u8 r2), .l (eL e_u8 r2), (A.view E_u8)⟩, .cl (ok_spec_EventRead r2 _ hr3), ⟨.cln (eL e_u8 r3_0.Addr), .b true, (A.cln O_u8)⟩, ⟨.cln (eL e_u8 r3_0.Val.S), .b true, (A.cln O_u8)⟩, ⟨.cln (eL (o_sl 1 e_u8) r3_0.Val.K), .b true, (A.cln (O_sl 1 O_u8))⟩, ⟨.cln (eL o_GValue r3_0.Val.L), .b true, (A.cln O_GValue)⟩, ⟨.cln (eL (o_sl 1 e_u8) r3_0.Deps), .b true, (A.cln (O_sl 1 O_u8))⟩, .cl (ok_laws_toByteS a0 _ hr2), ⟨.view (eL e_u8 r2), .l (eL e_u8 r2), (A.view E_u8)⟩, .cl (ok_impl_EventRead r2 _ hr4), ⟨.cln (eL e_u8 r4_0.Addr), .b true, (A.cln O_u8)⟩, ⟨.cln (eL e_u8 r4_0.Val.S), .b true, (A.cln O_u8)⟩, ⟨.cln (eL (o_sl 1 e_u8) r4_0.Val.K), .b true, (A.cln (O_sl 1 O_u8))⟩, ⟨.cln (eL o_GValue r4_0.Val.L), .b true, (A.cln O_GValue)⟩, ⟨.cln (eL (o_sl 1 e_u8) r4_0.Deps), .b true, (A.cln (O_sl 1 O_u8))⟩, ⟨.view (eL e_u8 r4_0.Addr), .l (eL e_u8 r4_0.Addr), (A.view E_u8)⟩, ⟨.view (eL e_u8 r4_0.Val.S), .l (eL e_u8 r4_0.Val.S), (A.view E_u8)⟩, ⟨.view (eL (o_sl 1 e_u8) r4_0.Val.K), .l (eL (e_sl e_u8) r4_0.Val.K), (A.viewO (O_sl 1 O_u8))⟩, ⟨.view (eL o_GValue r4_0.Val.L), .l (eL e_GValue r4_0.Val.L), (A.viewO O_GValue)⟩, ⟨.view (eL (o_sl 1 e_u8) r4_0.Deps), .l (eL (e_sl e_u8) r4_0.Deps), (A.viewO (O_sl 1 O_u8))⟩, ⟨.view (eL e_u8 r3_0.Addr), .l (eL e_u8 r3_0.Addr), (A.view E_u8)⟩, ⟨.view (eL e_u8 r3_0.Val.S), .l (eL e_u8 r3_0.Val.S), (A.view E_u8)⟩, ⟨.view (eL (o_sl 1 e_u8) r3_0.Val.K), .l (eL (e_sl e_u8) r3_0.Val.K), (A.viewO (O_sl 1 O_u8))⟩, ⟨.view (eL o_GValue r3_0.Val.L), .l (eL e_GValue r3_0.Val.L), (A.viewO O_GValue)⟩, ⟨.view (eL (o_sl 1 e_u8) r3_0.Deps), .l (eL (e_sl e_u8) r3_0.Deps), (A.viewO (O_sl 1 O_u8))⟩, .cl (ok_laws_eqEvent r4_0 r3_0 _ hr5), .nt true]
   cases r5 with
   | true =>
    try dsimp only at h
    cases r4_1 with
    | true =>
     try dsimp only at h
     cases r3_1 with
     | true =>
      try dsimp only at h
      obtain ⟨r9, hr9, h⟩ := bs h
      cases r9 with
      | true =>
       try dsimp only at h
       obtain ⟨⟨r11_0, r11_1⟩, hr11, h⟩ := bs h
       try dsimp only at h
       rcases ite_some h with ⟨c12, h⟩ | ⟨c12, h⟩
       ·cases h
       ·obtain ⟨⟨r13_0, r13_1, r13_2, r13_3, r13_4, r13_5⟩, hr13, h⟩ := bs h
        try dsimp only at h
        obtain ⟨r14, hr14, h⟩ := bs h
        rcases ite_some h with ⟨c15, h⟩ | ⟨c15, h⟩
        ·cases h
        ·rcases ite_some h with ⟨c16, h⟩ | ⟨c16, h⟩
         ·obtain rfl := Option.some.inj h
          exact call_wQ (p105 ++ [⟨.eqB true true, .b true, rfl⟩, .nt true, .cl (ok_laws_toByteS a0 _ hr2), ⟨.view (eL e_u8 r2), .l (eL e_u8 r2), (A.view E_u8)⟩, ⟨.view (eL e_u8 r2), .l (eL e_u8 r2), (A.view E_u8)⟩, .cl (ok_laws_eqByteS r2 r2 _ hr9), .nt true, .cl (ok_laws_markByteS 1 r2 _ hr11), .lF c12, ⟨.view (eL e_u8 r4_0.Addr), .l (eL e_u8 r4_0.Addr), (A.view E_u8)⟩, ⟨.view (eL e_u8 r4_0.Val.S), .l (eL e_u8 r4_0.Val.S), (A.view E_u8)⟩, ⟨.view (eL (o_sl 1 e_u8) r4_0.Val.K), .l (eL (e_sl e_u8) r4_0.Val.K), (A.viewO (O_sl 1 O_u8))⟩, ⟨.view (eL o_GValue r4_0.Val.L), .l (eL e_GValue r4_0.Val.L), (A.viewO O_GValue)⟩, ⟨.view (eL (o_sl 1 e_u8) r4_0.Deps), .l (eL (e_sl e_u8) r4_0.Deps), (A.viewO (O_sl 1 O_u8))⟩, ⟨.view (eL e_u8 r3_0.Addr), .l (eL e_u8 r3_0.Addr), (A.view E_u8)⟩, ⟨.view (eL e_u8 r3_0.Val.S), .l (eL e_u8 r3_0.Val.S), (A.view E_u8)⟩, ⟨.view (eL (o_sl 1 e_u8) r3_0.Val.K), .l (eL (e_sl e_u8) r3_0.Val.K), (A.viewO (O_sl 1 O_u8))⟩, ⟨.view (eL o_GValue r3_0.Val.L), .l (eL e_GValue r3_0.Val.L), (A.viewO O_GValue)⟩, ⟨.view (eL (o_sl 1 e_u8) r3_0.Deps), .l (eL (e_sl e_u8) r3_0.Deps), (A.viewO (O_sl 1 O_u8))⟩, .cl (ok_laws_eqEvent r4_0 r3_0 _ hr5), .nt true, ⟨.eqB true true, .b true, rfl⟩, .nt true, .cl (ok_laws_markEvent r4_0.Kind r4_0.Act r4_0.Val.Kind r4_0.Val.N 1 r4_0.Addr r4_0.Val.S r4_0.Val.K r4_0.Val.L r4_0.Deps _ hr13), ⟨.view (eL e_u8 r13_1), .l (eL e_u8 r13_1), (A.view E_u8)⟩, ⟨.view (eL e_u8 r13_2), .l (eL e_u8 r13_2), (A.view E_u8)⟩, ⟨.view (eL (o_sl 1 e_u8) r13_3), .l (eL (e_sl e_u8) r13_3), (A.viewO (O_sl 1 O_u8))⟩, ⟨.view (eL o_GValue r13_4), .l (eL e_GValue r13_4), (A.viewO O_GValue)⟩, ⟨.view (eL (o_sl 1 e_u8) r13_5), .l (eL (e_sl e_u8) r13_5), (A.viewO (O_sl 1 O_u8))⟩, .cl (ok_laws_heldEvent (GEvent.mk r4_0.Kind r13_1 r4_0.Act (GValue.mk r4_0.Val.Kind r4_0.Val.N r13_2 r13_3 r13_4) r13_5) 1 _ hr14), .lF c15, .eT c16, .nt true, .cl (ok_laws_toByteS a0 _ hr2), ⟨.view (eL e_u8 r2), .l (eL e_u8 r2), (A.view E_u8)⟩, .cl (ok_impl_EventRead r2 _ hr4), ⟨.cln (eL e_u8 r4_0.Addr), .b true, (A.cln O_u8)⟩, ⟨.cln (eL e_u8 r4_0.Val.S), .b true, (A.cln O_u8)⟩, ⟨.cln (eL (o_sl 1 e_u8) r4_0.Val.K), .b true, (A.cln (O_sl 1 O_u8))⟩, ⟨.cln (eL o_GValue r4_0.Val.L), .b true, (A.cln O_GValue)⟩, ⟨.cln (eL (o_sl 1 e_u8) r4_0.Deps), .b true, (A.cln (O_sl 1 O_u8))⟩, ⟨.view (eL e_u8 r4_0.Addr), .l (eL e_u8 r4_0.Addr), (A.view E_u8)⟩, ⟨.view (eL e_u8 r4_0.Val.S), .l (eL e_u8 r4_0.Val.S), (A.view E_u8)⟩, ⟨.view (eL (o_sl 1 e_u8) r4_0.Val.K), .l (eL (e_sl e_u8) r4_0.Val.K), (A.viewO (O_sl 1 O_u8))⟩, ⟨.view (eL o_GValue r4_0.Val.L), .l (eL e_GValue r4_0.Val.L), (A.viewO O_GValue)⟩, ⟨.view (eL (o_sl 1 e_u8) r4_0.Deps), .l (eL (e_sl e_u8) r4_0.Deps), (A.viewO (O_sl 1 O_u8))⟩, ⟨.view (eL e_u8 r3_0.Addr), .l (eL e_u8 r3_0.Addr), (A.view E_u8)⟩, ⟨.view (eL e_u8 r3_0.Val.S), .l (eL e_u8 r3_0.Val.S), (A.view E_u8)⟩, ⟨.view (eL (o_sl 1 e_u8) r3_0.Val.K), .l (eL (e_sl e_u8) r3_0.Val.K), (A.viewO (O_sl 1 O_u8))⟩, ⟨.view (eL o_GValue r3_0.Val.L), .l (eL e_GValue r3_0.Val.L), (A.viewO O_GValue)⟩, ⟨.view (eL (o_sl 1 e_u8) r3_0.Deps), .l (eL (e_sl e_u8) r3_0.Deps), (A.viewO (O_sl 1 O_u8))⟩, .cl (ok_laws_eqEvent r4_0 r3_0 _ hr5), .nt true, ⟨.eqB true true, .b true, rfl⟩, .nt true, ⟨.view (eL e_u8 r13_1), .l (eL e_u8 r13_1), (A.view E_u8)⟩, ⟨.view (eL e_u8 r13_2), .l (eL e_u8 r13_2), (A.view E_u8)⟩, ⟨.view (eL (o_sl 1 e_u8) r13_3), .l (eL (e_sl e_u8) r13_3), (A.viewO (O_sl 1 O_u8))⟩, ⟨.view (eL o_GValue r13_4), .l (eL e_GValue r13_4), (A.viewO O_GValue)⟩, ⟨.view (eL (o_sl 1 e_u8) r13_5), .l (eL (e_sl e_u8) r13_5), (A.viewO (O_sl 1 O_u8))⟩, .cl (ok_laws_heldEvent (GEvent.mk r4_0.Kind r13_1 r4_0.Act (GValue.mk r4_0.Val.Kind r4_0.Val.N r13_2 r13_3 r13_4) r13_5) 1 _ hr14), .lF c15, .eT c16, .nt true]) rfl fd_3 (by kernel_rfl)
         ·cases h
      | false =>
       try dsimp only at h
       cases h
     | false =>
      try dsimp only at h
      cases h
    | false =>
     try dsimp only at h
     cases r3_1 with
     | true =>
      try dsimp only at h
      cases h
     | false =>
      try dsimp only at h
      obtain ⟨r9, hr9, h⟩ := bs h
      cases r9 with
      | true =>
       try dsimp only at h
       obtain ⟨⟨r11_0, r11_1⟩, hr11, h⟩ := bs h
       try dsimp only at h
       rcases ite_some h with ⟨c12, h⟩ | ⟨c12, h⟩
       ·cases h
       ·obtain ⟨⟨r13_0, r13_1, r13_2, r13_3, r13_4, r13_5⟩, hr13, h⟩ := bs h
        try dsimp only at h
        obtain ⟨r14, hr14, h⟩ := bs h
        rcases ite_some h with ⟨c15, h⟩ | ⟨c15, h⟩
        ·cases h
        ·rcases ite_some h with ⟨c16, h⟩ | ⟨c16, h⟩
         ·obtain rfl := Option.some.inj h
          exact call_wQ (p105 ++ [⟨.eqB false false, .b true, rfl⟩, .nt true, .cl (ok_laws_toByteS a0 _ hr2), ⟨.view (eL e_u8 r2), .l (eL e_u8 r2), (A.view E_u8)⟩, ⟨.view (eL e_u8 r2), .l (eL e_u8 r2), (A.view E_u8)⟩, .cl (ok_laws_eqByteS r2 r2 _ hr9), .nt true, .cl (ok_laws_markByteS 1 r2 _ hr11), .lF c12, ⟨.view (eL e_u8 r4_0.Addr), .l (eL e_u8 r4_0.Addr), (A.view E_u8)⟩, ⟨.view (eL e_u8 r4_0.Val.S), .l (eL e_u8 r4_0.Val.S), (A.view E_u8)⟩, ⟨.view (eL (o_sl 1 e_u8) r4_0.Val.K), .l (eL (e_sl e_u8) r4_0.Val.K), (A.viewO (O_sl 1 O_u8))⟩, ⟨.view (eL o_GValue r4_0.Val.L), .l (eL e_GValue r4_0.Val.L), (A.viewO O_GValue)⟩, ⟨.view (eL (o_sl 1 e_u8) r4_0.Deps), .l (eL (e_sl e_u8) r4_0.Deps), (A.viewO (O_sl 1 O_u8))⟩, ⟨.view (eL e_u8 r3_0.Addr), .l (eL e_u8 r3_0.Addr), (A.view E_u8)⟩, ⟨.view (eL e_u8 r3_0.Val.S), .l (eL e_u8 r3_0.Val.S), (A.view E_u8)⟩, ⟨.view (eL (o_sl 1 e_u8) r3_0.Val.K), .l (eL (e_sl e_u8) r3_0.Val.K), (A.viewO (O_sl 1 O_u8))⟩, ⟨.view (eL o_GValue r3_0.Val.L), .l (eL e_GValue r3_0.Val.L), (A.viewO O_GValue)⟩, ⟨.view (eL (o_sl 1 e_u8) r3_0.Deps), .l (eL (e_sl e_u8) r3_0.Deps), (A.viewO (O_sl 1 O_u8))⟩, .cl (ok_laws_eqEvent r4_0 r3_0 _ hr5), .nt true, ⟨.eqB false false, .b true, rfl⟩, .nt true, .cl (ok_laws_markEvent r4_0.Kind r4_0.Act r4_0.Val.Kind r4_0.Val.N 1 r4_0.Addr r4_0.Val.S r4_0.Val.K r4_0.Val.L r4_0.Deps _ hr13), ⟨.view (eL e_u8 r13_1), .l (eL e_u8 r13_1), (A.view E_u8)⟩, ⟨.view (eL e_u8 r13_2), .l (eL e_u8 r13_2), (A.view E_u8)⟩, ⟨.view (eL (o_sl 1 e_u8) r13_3), .l (eL (e_sl e_u8) r13_3), (A.viewO (O_sl 1 O_u8))⟩, ⟨.view (eL o_GValue r13_4), .l (eL e_GValue r13_4), (A.viewO O_GValue)⟩, ⟨.view (eL (o_sl 1 e_u8) r13_5), .l (eL (e_sl e_u8) r13_5), (A.viewO (O_sl 1 O_u8))⟩, .cl (ok_laws_heldEvent (GEvent.mk r4_0.Kind r13_1 r4_0.Act (GValue.mk r4_0.Val.Kind r4_0.Val.N r13_2 r13_3 r13_4) r13_5) 1 _ hr14), .lF c15, .eT c16, .nt true, .cl (ok_laws_toByteS a0 _ hr2), ⟨.view (eL e_u8 r2), .l (eL e_u8 r2), (A.view E_u8)⟩, .cl (ok_impl_EventRead r2 _ hr4), ⟨.cln (eL e_u8 r4_0.Addr), .b true, (A.cln O_u8)⟩, ⟨.cln (eL e_u8 r4_0.Val.S), .b true, (A.cln O_u8)⟩, ⟨.cln (eL (o_sl 1 e_u8) r4_0.Val.K), .b true, (A.cln (O_sl 1 O_u8))⟩, ⟨.cln (eL o_GValue r4_0.Val.L), .b true, (A.cln O_GValue)⟩, ⟨.cln (eL (o_sl 1 e_u8) r4_0.Deps), .b true, (A.cln (O_sl 1 O_u8))⟩, ⟨.view (eL e_u8 r4_0.Addr), .l (eL e_u8 r4_0.Addr), (A.view E_u8)⟩, ⟨.view (eL e_u8 r4_0.Val.S), .l (eL e_u8 r4_0.Val.S), (A.view E_u8)⟩, ⟨.view (eL (o_sl 1 e_u8) r4_0.Val.K), .l (eL (e_sl e_u8) r4_0.Val.K), (A.viewO (O_sl 1 O_u8))⟩, ⟨.view (eL o_GValue r4_0.Val.L), .l (eL e_GValue r4_0.Val.L), (A.viewO O_GValue)⟩, ⟨.view (eL (o_sl 1 e_u8) r4_0.Deps), .l (eL (e_sl e_u8) r4_0.Deps), (A.viewO (O_sl 1 O_u8))⟩, ⟨.view (eL e_u8 r3_0.Addr), .l (eL e_u8 r3_0.Addr), (A.view E_u8)⟩, ⟨.view (eL e_u8 r3_0.Val.S), .l (eL e_u8 r3_0.Val.S), (A.view E_u8)⟩, ⟨.view (eL (o_sl 1 e_u8) r3_0.Val.K), .l (eL (e_sl e_u8) r3_0.Val.K), (A.viewO (O_sl 1 O_u8))⟩, ⟨.view (eL o_GValue r3_0.Val.L), .l (eL e_GValue r3_0.Val.L), (A.viewO O_GValue)⟩, ⟨.view (eL (o_sl 1 e_u8) r3_0.Deps), .l (eL (e_sl e_u8) r3_0.Deps), (A.viewO (O_sl 1 O_u8))⟩, .cl (ok_laws_eqEvent r4_0 r3_0 _ hr5), .nt true, ⟨.eqB false false, .b true, rfl⟩, .nt true, ⟨.view (eL e_u8 r13_1), .l (eL e_u8 r13_1), (A.view E_u8)⟩, ⟨.view (eL e_u8 r13_2), .l (eL e_u8 r13_2), (A.view E_u8)⟩, ⟨.view (eL (o_sl 1 e_u8) r13_3), .l (eL (e_sl e_u8) r13_3), (A.viewO (O_sl 1 O_u8))⟩, ⟨.view (eL o_GValue r13_4), .l (eL e_GValue r13_4), (A.viewO O_GValue)⟩, ⟨.view (eL (o_sl 1 e_u8) r13_5), .l (eL (e_sl e_u8) r13_5), (A.viewO (O_sl 1 O_u8))⟩, .cl (ok_laws_heldEvent (GEvent.mk r4_0.Kind r13_1 r4_0.Act (GValue.mk r4_0.Val.Kind r4_0.Val.N r13_2 r13_3 r13_4) r13_5) 1 _ hr14), .lF c15, .eT c16, .nt true]) rfl fd_3 (by kernel_rfl)
         ·cases h
      | false =>
       try dsimp only at h
       cases h
   | false =>
    try dsimp only at h
    cases h
end
end Go.Am.Try
