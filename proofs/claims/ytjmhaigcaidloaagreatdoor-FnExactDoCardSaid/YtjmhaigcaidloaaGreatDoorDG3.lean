
/- The functions of the program in plain Lean, and that the machine answers as they do; conditions at each theorem. -/
import Derived.Test.YtjmhaigcaidloaaGreatDoorDG2
set_option linter.unusedVariables false
set_option linter.unusedSimpArgs false
namespace Go.Am.Try
open Go.Am Go.Proofs
set_option linter.unusedVariables false
set_option maxRecDepth 20000
set_option maxHeartbeats 2000000
noncomputable section
def K_qw (F : GValue → Int → Option Bool) : Prop := ∀ (a0 : GValue) (e0 : Int), Oc (F a0 e0) 237 [.var [ci e0]] [.val true (x_GValue a0), vp 0 0] fun r => (vb r, [.var [ci e0]])
def K_q2 (F : (List GValue) → Int → Option Int) : Prop := ∀ (a0 : (List GValue)) (e0 : Int), Oc (F a0 e0) 224 [.var [ci e0]] [vq e_GValue a0, .val false [.fn 237 [.ptr 0 0]]] fun r => (vi r, [.var [ci e0]])
def K_q4 (F : (List GValue) → Int → Option Bool) : Prop := ∀ (a0 : (List GValue)) (e0 : Int), Oc (F a0 e0) 203 [.var [ci e0]] [vq e_GValue a0, .val false [.fn 237 [.ptr 0 0]]] fun r => (vb r, [.var [ci e0]])
def K_q9 (F : GValue → Int → Option Bool) : Prop := ∀ (a0 : GValue) (a1 : Int), Oc (F a0 a1) 222 [] [.val true (x_GValue a0), vi a1] fun r => (vb r, [])
def T_qw (G_impl_isShaped : GValue → Int → Option Bool) (a0 : GValue) (e0 : Int) : Option Bool :=
 (G_impl_isShaped a0 (w64 (e0 - 1))).bind fun r1 =>
 some (!r1)
theorem g_impl_isShaped_1 (G_impl_isShaped : GValue → Int → Option Bool) (H_impl_isShaped : K_q9 G_impl_isShaped) : K_qw (T_qw G_impl_isShaped) := fun a0 e0 => tc (
 .cl (H_impl_isShaped a0 (w64 (e0 - 1))) fun r1 =>
 .ret (!r1)) (fn_of Tryz.func237)
def L_q2_l0 (G_impl_isShaped_1 : GValue → Int → Option Bool) (a0 : (List GValue)) (v1 : Int) (e0 : Int) : Nat → Int → Option (Int ⊕ Int)
  | 0, _ => none
  | m + 1, v2 =>
  if v2 < v1 then
   (natO v2).bind fun i2 =>
   (a0[i2]?).bind fun x3 =>
   (G_impl_isShaped_1 x3 e0).bind fun r4 =>
   match r4 with
   | true =>
    some (.inl v2)
   | false =>
    L_q2_l0 G_impl_isShaped_1 a0 v1 e0 m (w64 (v2 + 1))
  else
  some (.inr v2)
theorem gl_slices_IndexFunc_Value_isShaped_1_l0 (G_impl_isShaped_1 : GValue → Int → Option Bool) (H_impl_isShaped_1 : K_qw G_impl_isShaped_1) (a0 : (List GValue)) (v1 : Int) (e0 : Int) (m : Nat) : ∀ (v2 : Int), Ol (L_q2_l0 G_impl_isShaped_1 a0 v1 e0 m v2) 224 (loopB Tryz.f224 0) ⟨[(0, vq e_GValue a0), (1, .val false [.fn 237 [.ptr 0 0]]), (7, vi v1), (8, vi v2)], [.var [ci e0]], 1⟩ fun o => match o with | .inl o_0 => (.ret, ⟨[(4, vi o_0)], [.var [ci e0]], 1⟩) | .inr (o_1) => (.exit 0, ⟨[(0, vq e_GValue a0), (1, .val false [.fn 237 [.ptr 0 0]]), (7, vi v1), (8, vi o_1), (9, vb false)], [.var [ci e0]], 1⟩) := by
  induction m with
  | zero => intro v2 o h; cases h
  | succ m ih => exact fun v2 => tlp (
   .lI v2 v1 (fun c1 =>
    .na v2 fun i2 =>
    .ix eq_GValue a0 i2 fun x3 =>
    .cl (H_impl_isShaped_1 x3 e0) fun r4 =>
    .vM 0 r4 (
     .ret (.inl v2)) <|
    .go (ih (w64 (v2 + 1)))) fun c1 =>
   .ret (.inr v2))
def T_q2 (G_impl_isShaped_1 : GValue → Int → Option Bool) (n : Nat) (a0 : (List GValue)) (e0 : Int) : Option Int :=
 (L_q2_l0 G_impl_isShaped_1 a0 ((a0.length : Nat) : Int) e0 n 0).bind fun o1 =>
 match o1 with
 | .inl o1_0 =>
  some o1_0
 | .inr (o1_1) =>
  some (-1)
theorem g_slices_IndexFunc_Value_isShaped_1 (G_impl_isShaped_1 : GValue → Int → Option Bool) (H_impl_isShaped_1 : K_qw G_impl_isShaped_1) (n : Nat) : K_q2 (T_q2 G_impl_isShaped_1 n) := fun a0 e0 => tc (
 .le e_GValue a0 <|
 .l2 (gl_slices_IndexFunc_Value_isShaped_1_l0 G_impl_isShaped_1 H_impl_isShaped_1 a0 ((a0.length : Nat) : Int) e0 n 0) (fun o1_0 =>
  .ret o1_0) fun o1_1 =>
 .ret (-1)) (fn_of Tryz.func224)
def T_q4 (G_slices_IndexFunc_Value_isShaped_1 : (List GValue) → Int → Option Int) (a0 : (List GValue)) (e0 : Int) : Option Bool :=
 (G_slices_IndexFunc_Value_isShaped_1 a0 e0).bind fun r1 =>
 some (decide (0 <= r1))
theorem g_slices_ContainsFunc_Value_isShaped_1 (G_slices_IndexFunc_Value_isShaped_1 : (List GValue) → Int → Option Int) (H_slices_IndexFunc_Value_isShaped_1 : K_q2 G_slices_IndexFunc_Value_isShaped_1) : K_q4 (T_q4 G_slices_IndexFunc_Value_isShaped_1) := fun a0 e0 => tc (
 .cl (H_slices_IndexFunc_Value_isShaped_1 a0 e0) fun r1 =>
 .gD 0 r1 <|
 .ret (decide (0 <= r1))) (fn_of Tryz.func203)
def L_q9_l0 (G_slices_ContainsFunc_Value_isShaped_1 : (List GValue) → Int → Option Bool) (v0 : Bool) (v1 : Bool) (v2 : (List (List UInt8))) (v3 : Int) (a0 : GValue) (a1 : Int) : Nat → Int → Option (Bool ⊕ Int)
  | 0, _ => none
  | m + 1, v4 =>
  if v4 < v3 then
   (natO v4).bind fun i2 =>
   (v2[i2]?).bind fun x3 =>
   (S_q19 x3).bind fun r4 =>
   match r4 with
   | true =>
    if 0 < v4 then
     (natO (w64 (v4 - 1))).bind fun i6 =>
     (a0.K[i6]?).bind fun x7 =>
     (S_q1m x7 x3).bind fun r8 =>
     if 0 <= r8 then
      some (.inl false)
     else
     L_q9_l0 G_slices_ContainsFunc_Value_isShaped_1 v0 v1 v2 v3 a0 a1 m (w64 (v4 + 1))
    else
    L_q9_l0 G_slices_ContainsFunc_Value_isShaped_1 v0 v1 v2 v3 a0 a1 m (w64 (v4 + 1))
   | false =>
    some (.inl false)
  else
  some (.inr v4)
theorem gl_impl_isShaped_l0 (G_slices_ContainsFunc_Value_isShaped_1 : (List GValue) → Int → Option Bool) (H_slices_ContainsFunc_Value_isShaped_1 : K_q4 G_slices_ContainsFunc_Value_isShaped_1) (v0 : Bool) (v1 : Bool) (v2 : (List (List UInt8))) (v3 : Int) (a0 : GValue) (a1 : Int) (m : Nat) : ∀ (v4 : Int), Ol (L_q9_l0 G_slices_ContainsFunc_Value_isShaped_1 v0 v1 v2 v3 a0 a1 m v4) 222 (loopB Tryz.f222 0) ⟨[(2, vp 0 0), (3, vp 1 0), (5, vb v0), (6, vb v1), (99, vq (e_sl e_u8) v2), (100, vi v3), (101, vi v4)], [.var (x_GValue a0), .var [ci a1]], 0⟩ fun o => match o with | .inl o_0 => (.ret, ⟨[(4, vb o_0)], [], 0⟩) | .inr (o_1) => (.exit 1, ⟨[(2, vp 0 0), (3, vp 1 0), (5, vb v0), (6, vb v1), (99, vq (e_sl e_u8) v2), (100, vi v3), (101, vi o_1), (102, vb false)], [.var (x_GValue a0), .var [ci a1]], 0⟩) := by
  induction m with
  | zero => intro v4 o h; cases h
  | succ m ih => exact fun v4 => tlp (
   .lI v4 v3 (fun c1 =>
    .na v4 fun i2 =>
    .ix0 (e_sl e_u8) v2 i2 fun x3 =>
    .cl (ok_q19 x3) fun r4 =>
    .vN 0 r4 (
     .an 0 0 <|
     .lI 0 v4 (fun c5 =>
      .an 0 0 <|
      .na (w64 (v4 - 1)) fun i6 =>
      .ix0 (e_sl e_u8) a0.K i6 fun x7 =>
      .cl (ok_q1m x7 x3) fun r8 =>
      .gI 0 r8 (fun c9 =>
       .an 0 3 <|
       .an 1 3 <|
       .ret (.inl false)) fun c9 =>
      .an 0 3 <|
      .an 1 3 <|
      .go (ih (w64 (v4 + 1)))) fun c5 =>
     .an 0 0 <|
     .an 9 0 <|
     .an 1 0 <|
     .go (ih (w64 (v4 + 1)))) <|
    .an 0 0 <|
    .an 0 0 <|
    .an 0 0 <|
    .an 0 0 <|
    .ret (.inl false)) fun c1 =>
   .ret (.inr v4))
def T_q9 (G_slices_ContainsFunc_Value_isShaped_1 : (List GValue) → Int → Option Bool) (n : Nat) (a0 : GValue) (a1 : Int) : Option Bool :=
 if a1 = 0 then
  some false
 else
 if a0.Kind = 0 then
  if a0.N = 0 then
   if ((a0.S.length : Nat) : Int) = 0 then
    if ((a0.K.length : Nat) : Int) = 0 then
     some (decide (((a0.L.length : Nat) : Int) = 0))
    else
    some false
   else
   some false
  else
  some false
 else
 if a0.Kind = 6 then
  if a0.N = 0 then
   if ((a0.S.length : Nat) : Int) = 0 then
    if ((a0.K.length : Nat) : Int) = 0 then
     some (decide (((a0.L.length : Nat) : Int) = 0))
    else
    some false
   else
   some false
  else
  some false
 else
 if a0.Kind = 1 then
  (S_impl_in a0.N 0 1).bind fun r5 =>
  match r5 with
  | true =>
   if ((a0.S.length : Nat) : Int) = 0 then
    if ((a0.K.length : Nat) : Int) = 0 then
     some (decide (((a0.L.length : Nat) : Int) = 0))
    else
    some false
   else
   some false
  | false =>
   some false
 else
 if a0.Kind = 2 then
  (S_impl_in a0.N (-1000000000000) 1000000000000).bind fun r6 =>
  match r6 with
  | true =>
   if ((a0.S.length : Nat) : Int) = 0 then
    if ((a0.K.length : Nat) : Int) = 0 then
     some (decide (((a0.L.length : Nat) : Int) = 0))
    else
    some false
   else
   some false
  | false =>
   some false
 else
 if a0.Kind = 3 then
  (S_q1g a0.S).bind fun r7 =>
  match r7 with
  | true =>
   if a0.N = 0 then
    if ((a0.K.length : Nat) : Int) = 0 then
     some (decide (((a0.L.length : Nat) : Int) = 0))
    else
    some false
   else
   some false
  | false =>
   some false
 else
 if a0.Kind = 4 then
  if ((a0.K.length : Nat) : Int) = 0 then
   if a0.N = 0 then
    if ((a0.S.length : Nat) : Int) = 0 then
     if ((a0.L.length : Nat) : Int) <= 40 then
      (G_slices_ContainsFunc_Value_isShaped_1 a0.L a1).bind fun r12 =>
      some (!r12)
     else
     some false
    else
    some false
   else
   some false
  else
  some false
 else
 if a0.Kind = 5 then
  if ((a0.K.length : Nat) : Int) = ((a0.L.length : Nat) : Int) then
   (L_q9_l0 G_slices_ContainsFunc_Value_isShaped_1 (decide (a0.N = 0)) (decide (((a0.S.length : Nat) : Int) = 0)) a0.K ((a0.K.length : Nat) : Int) a0 a1 n 0).bind fun o10 =>
   match o10 with
   | .inl o10_0 =>
    some o10_0
   | .inr (o10_1) =>
    if a0.N = 0 then
     if ((a0.S.length : Nat) : Int) = 0 then
      if ((a0.L.length : Nat) : Int) <= 40 then
       (G_slices_ContainsFunc_Value_isShaped_1 a0.L a1).bind fun r14 =>
       some (!r14)
      else
      some false
     else
     some false
    else
    some false
  else
  some false
 else
 some false
theorem g_impl_isShaped (G_slices_ContainsFunc_Value_isShaped_1 : (List GValue) → Int → Option Bool) (H_slices_ContainsFunc_Value_isShaped_1 : K_q4 G_slices_ContainsFunc_Value_isShaped_1) (n : Nat) : K_q9 (T_q9 G_slices_ContainsFunc_Value_isShaped_1 n) := fun a0 a1 => tc (
 .eI a1 0 (fun c1 =>
  .ret false) fun c1 =>
 .eD a0.N 0 <|
 .le e_u8 a0.S <|
 .eD ((a0.S.length : Nat) : Int) 0 <|
 .le (e_sl e_u8) a0.K <|
 .eD ((a0.K.length : Nat) : Int) 0 <|
 .le e_GValue a0.L <|
 .eD ((a0.L.length : Nat) : Int) 0 <|
 .eI a0.Kind 0 (fun c2 =>
  .cI 2 (a0.N = 0) (fun c3 =>
   .kT 0 (dT c3) <|
   .cI 0 (((a0.S.length : Nat) : Int) = 0) (fun c4 =>
    .kT 0 (dT c4) <|
    .cI 0 (((a0.K.length : Nat) : Int) = 0) (fun c5 =>
     .kT 0 (dT c5) <|
     .ret (decide (((a0.L.length : Nat) : Int) = 0))) fun c5 =>
    .kF 0 (dF c5) <|
    .ret false) fun c4 =>
   .kF 0 (dF c4) <|
   .ret false) fun c3 =>
  .kF 0 (dF c3) <|
  .ret false) fun c2 =>
 .eI a0.Kind 6 (fun c3 =>
  .cI 1 (a0.N = 0) (fun c4 =>
   .kT 0 (dT c4) <|
   .cI 0 (((a0.S.length : Nat) : Int) = 0) (fun c5 =>
    .kT 0 (dT c5) <|
    .cI 0 (((a0.K.length : Nat) : Int) = 0) (fun c6 =>
     .kT 0 (dT c6) <|
     .ret (decide (((a0.L.length : Nat) : Int) = 0))) fun c6 =>
    .kF 0 (dF c6) <|
    .ret false) fun c5 =>
   .kF 0 (dF c5) <|
   .ret false) fun c4 =>
  .kF 0 (dF c4) <|
  .ret false) fun c3 =>
 .eI a0.Kind 1 (fun c4 =>
  .cl (ok_impl_in a0.N 0 1) fun r5 =>
  .vM 0 r5 (
   .az 0 0 <|
   .cI 0 (((a0.S.length : Nat) : Int) = 0) (fun c6 =>
    .kT 0 (dT c6) <|
    .cI 0 (((a0.K.length : Nat) : Int) = 0) (fun c7 =>
     .kT 0 (dT c7) <|
     .ret (decide (((a0.L.length : Nat) : Int) = 0))) fun c7 =>
    .kF 0 (dF c7) <|
    .ret false) fun c6 =>
   .kF 0 (dF c6) <|
   .ret false) <|
  .az 0 0 <|
  .ret false) fun c4 =>
 .eI a0.Kind 2 (fun c5 =>
  .cl (ok_impl_in a0.N (-1000000000000) 1000000000000) fun r6 =>
  .vM 0 r6 (
   .az 0 0 <|
   .cI 0 (((a0.S.length : Nat) : Int) = 0) (fun c7 =>
    .kT 0 (dT c7) <|
    .cI 0 (((a0.K.length : Nat) : Int) = 0) (fun c8 =>
     .kT 0 (dT c8) <|
     .ret (decide (((a0.L.length : Nat) : Int) = 0))) fun c8 =>
    .kF 0 (dF c8) <|
    .ret false) fun c7 =>
   .kF 0 (dF c7) <|
   .ret false) <|
  .az 0 0 <|
  .ret false) fun c5 =>
 .eI a0.Kind 3 (fun c6 =>
  .cl (ok_q1g a0.S) fun r7 =>
  .vM 0 r7 (
   .az 0 0 <|
   .cI 0 (a0.N = 0) (fun c8 =>
    .kT 0 (dT c8) <|
    .cI 0 (((a0.K.length : Nat) : Int) = 0) (fun c9 =>
     .kT 0 (dT c9) <|
     .ret (decide (((a0.L.length : Nat) : Int) = 0))) fun c9 =>
    .kF 0 (dF c9) <|
    .ret false) fun c8 =>
   .kF 0 (dF c8) <|
   .ret false) <|
  .az 0 0 <|
  .ret false) fun c6 =>
 .eI a0.Kind 4 (fun c7 =>
  .cN 1 (((a0.K.length : Nat) : Int) = 0) (fun c8 =>
   .cI 0 (a0.N = 0) (fun c9 =>
    .kT 0 (dT c9) <|
    .cI 0 (((a0.S.length : Nat) : Int) = 0) (fun c10 =>
     .kT 0 (dT c10) <|
     .kT 0 (dT c10) <|
     .le e_GValue a0.L <|
     .kT 0 (dT c10) <|
     .gI ((a0.L.length : Nat) : Int) 40 (fun c11 =>
      .kT 0 (dT c10) <|
      .cl (H_slices_ContainsFunc_Value_isShaped_1 a0.L a1) fun r12 =>
      .ret (!r12)) fun c11 =>
     .kT 0 (dT c10) <|
     .ret false) fun c10 =>
    .kF 0 (dF c10) <|
    .kF 0 (dF c10) <|
    .kF 0 (dF c10) <|
    .kF 0 (dF c10) <|
    .ret false) fun c9 =>
   .kF 0 (dF c9) <|
   .ret false) fun c8 =>
  .ret false) fun c7 =>
 .eI a0.Kind 5 (fun c8 =>
  .le (e_sl e_u8) a0.K <|
  .le e_GValue a0.L <|
  .eI ((a0.K.length : Nat) : Int) ((a0.L.length : Nat) : Int) (fun c9 =>
   .le (e_sl e_u8) a0.K <|
   .l2 (gl_impl_isShaped_l0 G_slices_ContainsFunc_Value_isShaped_1 H_slices_ContainsFunc_Value_isShaped_1 (decide (a0.N = 0)) (decide (((a0.S.length : Nat) : Int) = 0)) a0.K ((a0.K.length : Nat) : Int) a0 a1 n 0) (fun o10_0 =>
    .ret o10_0) fun o10_1 =>
   .cI 0 (a0.N = 0) (fun c11 =>
    .kT 0 (dT c11) <|
    .cI 0 (((a0.S.length : Nat) : Int) = 0) (fun c12 =>
     .kT 0 (dT c12) <|
     .kT 0 (dT c12) <|
     .le e_GValue a0.L <|
     .kT 0 (dT c12) <|
     .gI ((a0.L.length : Nat) : Int) 40 (fun c13 =>
      .kT 0 (dT c12) <|
      .cl (H_slices_ContainsFunc_Value_isShaped_1 a0.L a1) fun r14 =>
      .ret (!r14)) fun c13 =>
     .kT 0 (dT c12) <|
     .ret false) fun c12 =>
    .kF 0 (dF c12) <|
    .kF 0 (dF c12) <|
    .kF 0 (dF c12) <|
    .kF 0 (dF c12) <|
    .ret false) fun c11 =>
   .kF 0 (dF c11) <|
   .ret false) fun c9 =>
  .ret false) fun c8 =>
 .ret false) (fn_of Tryz.func222)
mutual
def U_qw : Nat → GValue → Int → Option Bool
  | 0, _, _ => none
  | n + 1, a0, e0 => T_qw (U_q9 n) a0 e0
def U_q2 : Nat → (List GValue) → Int → Option Int
  | 0, _, _ => none
  | n + 1, a0, e0 => T_q2 (U_qw n) n a0 e0
def U_q4 : Nat → (List GValue) → Int → Option Bool
  | 0, _, _ => none
  | n + 1, a0, e0 => T_q4 (U_q2 n) a0 e0
def U_q9 : Nat → GValue → Int → Option Bool
  | 0, _, _ => none
  | n + 1, a0, a1 => T_q9 (U_q4 n) n a0 a1
end
theorem rec_impl_isShaped_1 (n : Nat) : K_qw (U_qw n) ∧ K_q2 (U_q2 n) ∧ K_q4 (U_q4 n) ∧ K_q9 (U_q9 n) := by
  induction n with
  | zero => exact ⟨fun _ _ _ h => (by rw [U_qw] at h; cases h), fun _ _ _ h => (by rw [U_q2] at h; cases h), fun _ _ _ h => (by rw [U_q4] at h; cases h), fun _ _ _ h => (by rw [U_q9] at h; cases h)⟩
  | succ n ih =>
    obtain ⟨ih_impl_isShaped_1, ih_slices_IndexFunc_Value_isShaped_1, ih_slices_ContainsFunc_Value_isShaped_1, ih_impl_isShaped⟩ := ih
    exact ⟨fun a0 e0 r h => g_impl_isShaped_1 (U_q9 n) ih_impl_isShaped a0 e0 r (by rw [U_qw] at h; exact h),
      fun a0 e0 r h => g_slices_IndexFunc_Value_isShaped_1 (U_qw n) ih_impl_isShaped_1 n a0 e0 r (by rw [U_q2] at h; exact h),
      fun a0 e0 r h => g_slices_ContainsFunc_Value_isShaped_1 (U_q2 n) ih_slices_IndexFunc_Value_isShaped_1 a0 e0 r (by rw [U_q4] at h; exact h),
      fun a0 a1 r h => g_impl_isShaped (U_q4 n) ih_slices_ContainsFunc_Value_isShaped_1 n a0 a1 r (by rw [U_q9] at h; exact h)⟩
theorem cmpS_eq (a b : List UInt8) : S_q1m a b = some (Lib.compareBytes a b) := rfl
theorem isName_eq {a : List UInt8} (h : a.length <= 2 ^ 20) : S_q19 a = some (nameB a) := if_pos h
theorem isText_eq {a : List UInt8} (h : a.length <= 2 ^ 20) : S_q1g a = some (textB a) := if_pos h
theorem slices_ContainsFunc_Value_isShaped_1_T {G : GValue → Int → Option Bool} {a : List GValue} {f : Nat} {e : Int} {p : GValue → Bool} (ha : a.length <= 2 ^ 20) (hf : a.length < f) (hG : ∀ x ∈ a, G x e = some (!p x)) : ∃ r : Int, T_q2 G f a e = some r ∧ decide (0 <= r) = !(a.all p) := by
  have loop : ∀ (d i m : Nat), i + d = a.length → d < m → ∃ (q : Nat) (z : Int), L_q2_l0 G a ((a.length : Nat) : Int) e m (i : Int) = some (if (a.drop i).all p = true then .inr z else .inl (q : Int)) := by
    intro d
    induction d with
    | zero =>
      intro i m hi hm
      obtain ⟨m, rfl, _⟩ := fuel hm
      exact ⟨0, _, by rw [L_q2_l0, if_neg (by omega), List.drop_eq_nil_of_le (by omega)]; rfl⟩
    | succ d ih =>
      intro i m hi hm
      obtain ⟨m, rfl, hm'⟩ := fuel hm
      have hil : i < a.length := by omega
      rw [L_q2_l0, if_pos (by omega), natO_nat, Option.bind_some, get_some hil, Option.bind_some, hG _ (List.getElem_mem hil), Option.bind_some, w64_succ (by omega), drop_cons hil, List.all_cons]
      cases hp : p a[i] with
      | false => exact ⟨i, 0, rfl⟩
      | true =>
        obtain ⟨q, z, hz⟩ := ih (i + 1) m (by omega) (by omega)
        exact ⟨q, z, by rw [Bool.true_and]; exact hz⟩
  obtain ⟨q, z, hz⟩ := loop a.length 0 f (by omega) (by omega)
  rw [show ((0 : Nat) : Int) = 0 from rfl, List.drop_zero] at hz
  unfold T_q2
  rw [hz, Option.bind_some]
  cases hp : a.all p with
  | true => exact ⟨-1, rfl, rfl⟩
  | false => exact ⟨(q : Int), rfl, by simp⟩
theorem isShaped_keys {G : List GValue → Int → Option Bool} {v : GValue} {v0 v1 : Bool} {a1 : Int} (hs : vsz v <= 2 ^ 20) : ∀ (d i m : Nat), i + d = v.K.length → d < m → ∃ z, L_q9_l0 G v0 v1 v.K ((v.K.length : Nat) : Int) v a1 m (i : Int) = some (if kAll v.K i d = true then .inr z else .inl false) := by
  have he := vsz_eq v
  have hl := bsz_len v.K
  intro d
  induction d with
  | zero =>
    intro i m hi hm
    obtain ⟨m, rfl, _⟩ := fuel hm
    exact ⟨_, by rw [L_q9_l0, if_neg (by omega)]; rfl⟩
  | succ d ih =>
    intro i m hi hm
    obtain ⟨m, rfl, hm'⟩ := fuel hm
    have hil : i < v.K.length := by omega
    have hx := bsz_mem (List.getElem_mem hil)
    rw [L_q9_l0, if_pos (by omega), natO_nat, Option.bind_some, get_some hil, Option.bind_some, isName_eq (by omega), Option.bind_some, w64_succ (by omega), kAll_succ]
    obtain ⟨z, hz⟩ := ih (i + 1) m (by omega) (by omega)
    cases hnm : nameB v.K[i] with
    | false =>
      refine ⟨0, ?_⟩
      have : kOk v.K i = false := by
        by_cases h0 : i = 0
        · subst h0; rw [kOk_zero hil, hnm]
        · rw [kOk_eq hil (by omega), hnm]; rfl
      rw [this]; rfl
    | true =>
      dsimp only
      by_cases h0 : 0 < i
      · rw [if_pos (by omega), w64_pred (by omega) h0, natO_nat, Option.bind_some, get_some (show i - 1 < v.K.length by omega), Option.bind_some, cmpS_eq, Option.bind_some]
        by_cases hb : Op.bytesLess (v.K[i - 1]'(by omega)) v.K[i] = true
        · rw [if_neg (by rw [less_cmp]; exact fun h => h hb), kOk_eq hil h0, hnm, hb]
          exact ⟨z, hz⟩
        · rw [if_pos (by rw [less_cmp]; exact hb), kOk_eq hil h0, hnm, show Op.bytesLess (v.K[i - 1]'(by omega)) v.K[i] = false by simpa using hb]
          exact ⟨0, rfl⟩
      · have : i = 0 := by omega
        subst this
        rw [if_neg (by omega), kOk_zero hil, hnm]
        exact ⟨z, hz⟩
theorem isShaped_T {G : List GValue → Int → Option Bool} {v : GValue} {f d : Nat} (hs : vsz v <= 2 ^ 20) (hf : v.K.length < f) (hd : 0 < d) (hG : G v.L (d : Int) = some (!(v.L.all (shV (d - 1))))) : T_q9 G f v (d : Int) = some (shV d v) := by
  obtain ⟨e, rfl⟩ : ∃ e, d = e + 1 := ⟨d - 1, by omega⟩
  have he := vsz_eq v
  have hl := vszs_len v.L
  have hb := bsz_len v.K
  rw [show e + 1 - 1 = e by omega] at hG
  unfold T_q9
  rw [if_neg (by omega)]
  simp only [shV]
  have nil : v.L.length = 0 → v.L.all (shV e) = true := fun h => by rw [List.eq_nil_of_length_eq_zero h]; rfl
  have c0 : ∀ n : Nat, (((n : Nat) : Int) = 0) = (n = 0) := fun n => by simp
  simp only [c0]
  have leaf : ∀ {b : Bool}, locV v = (b && decide (v.L.length = 0)) → b = true → some (decide (v.L.length = 0)) = some (locV v && v.L.all (shV e)) := fun h hb' => by
    rw [h, hb', Bool.true_and]
    by_cases hz : v.L.length = 0
    · rw [decide_eq_true hz, nil hz]; rfl
    · rw [decide_eq_false hz]; rfl
  have no : locV v = false → some false = some (locV v && v.L.all (shV e)) := fun h => by rw [h]; rfl
  have four : ∀ {p : Prop} [Decidable p], locV v = decide (p ∧ v.S.length = 0 ∧ v.K.length = 0 ∧ v.L.length = 0) → p → (if v.S.length = 0 then if v.K.length = 0 then some (decide (v.L.length = 0)) else some false else some false) = some (locV v && v.L.all (shV e)) := fun h hp => by
    by_cases h1 : v.S.length = 0
    · rw [if_pos h1]
      by_cases h2 : v.K.length = 0
      · rw [if_pos h2]
        exact leaf (b := true) (by rw [h]; simp [hp, h1, h2]) rfl
      · rw [if_neg h2]; exact no (by rw [h, decide_eq_false (fun h => h2 h.2.2.1)])
    · rw [if_neg h1]; exact no (by rw [h, decide_eq_false (fun h => h1 h.2.1)])
  by_cases k0 : v.Kind = 0
  · rw [if_pos k0]
    have hv : locV v = decide (v.N = 0 ∧ v.S.length = 0 ∧ v.K.length = 0 ∧ v.L.length = 0) := by unfold locV; rw [if_pos (.inl k0)]
    by_cases a1 : v.N = 0
    · rw [if_pos a1]; exact four hv a1
    · rw [if_neg a1]; exact no (by rw [hv, decide_eq_false (fun h => a1 h.1)])
  rw [if_neg k0]
  by_cases k6 : v.Kind = 6
  · rw [if_pos k6]
    have hv : locV v = decide (v.N = 0 ∧ v.S.length = 0 ∧ v.K.length = 0 ∧ v.L.length = 0) := by unfold locV; rw [if_pos (.inr k6)]
    by_cases a1 : v.N = 0
    · rw [if_pos a1]; exact four hv a1
    · rw [if_neg a1]; exact no (by rw [hv, decide_eq_false (fun h => a1 h.1)])
  rw [if_neg k6]
  have n06 : ¬ (v.Kind = 0 ∨ v.Kind = 6) := by omega
  by_cases k1 : v.Kind = 1
  · rw [if_pos k1, in_eq, Option.bind_some]
    have hv : locV v = decide ((0 <= v.N ∧ v.N <= 1) ∧ v.S.length = 0 ∧ v.K.length = 0 ∧ v.L.length = 0) := by unfold locV; rw [if_neg n06, if_pos k1]
    by_cases a1 : 0 <= v.N ∧ v.N <= 1
    · rw [decide_eq_true a1]; exact four hv a1
    · rw [decide_eq_false a1]; exact no (by rw [hv, decide_eq_false (fun h => a1 h.1)])
  rw [if_neg k1]
  by_cases k2 : v.Kind = 2
  · rw [if_pos k2, in_eq, Option.bind_some]
    have hv : locV v = decide ((-1000000000000 <= v.N ∧ v.N <= 1000000000000) ∧ v.S.length = 0 ∧ v.K.length = 0 ∧ v.L.length = 0) := by unfold locV; rw [if_neg n06, if_neg k1, if_pos k2]
    by_cases a1 : -1000000000000 <= v.N ∧ v.N <= 1000000000000
    · rw [decide_eq_true a1]; exact four hv a1
    · rw [decide_eq_false a1]; exact no (by rw [hv, decide_eq_false (fun h => a1 h.1)])
  rw [if_neg k2]
  by_cases k3 : v.Kind = 3
  · rw [if_pos k3, isText_eq (by omega), Option.bind_some]
    have hv : locV v = (textB v.S && decide (v.N = 0 ∧ v.K.length = 0 ∧ v.L.length = 0)) := by unfold locV; rw [if_neg n06, if_neg k1, if_neg k2, if_pos k3]
    cases ht : textB v.S with
    | false => exact no (by rw [hv, ht]; rfl)
    | true =>
      rw [ht, Bool.true_and] at hv
      dsimp only
      by_cases a1 : v.N = 0
      · rw [if_pos a1]
        by_cases a2 : v.K.length = 0
        · rw [if_pos a2]; exact leaf (b := true) (by rw [hv]; simp [a1, a2]) rfl
        · rw [if_neg a2]; exact no (by rw [hv, decide_eq_false (fun h => a2 h.2.1)])
      · rw [if_neg a1]; exact no (by rw [hv, decide_eq_false (fun h => a1 h.1)])
  rw [if_neg k3]
  have ends : ∀ {b : Bool}, locV v = (b && decide (v.L.length <= 40)) → b = true → (if ((v.L.length : Nat) : Int) <= 40 then (G v.L ((e + 1 : Nat) : Int)).bind fun r12 => some (!r12) else some false) = some (locV v && v.L.all (shV e)) := fun h hb' => by
    by_cases h4 : v.L.length <= 40
    · rw [if_pos (by omega), hG, Option.bind_some, h, hb', decide_eq_true h4, Bool.not_not]; rfl
    · rw [if_neg (by omega)]; exact no (by rw [h, decide_eq_false h4, Bool.and_false])
  by_cases k4 : v.Kind = 4
  · rw [if_pos k4]
    have hv : locV v = decide (v.N = 0 ∧ v.S.length = 0 ∧ v.K.length = 0 ∧ v.L.length <= 40) := by unfold locV; rw [if_neg n06, if_neg k1, if_neg k2, if_neg k3, if_pos k4]
    by_cases a1 : v.K.length = 0
    · rw [if_pos a1]
      by_cases a2 : v.N = 0
      · rw [if_pos a2]
        by_cases a3 : v.S.length = 0
        · rw [if_pos a3]; exact ends (b := true) (by rw [hv]; simp [a1, a2, a3]) rfl
        · rw [if_neg a3]; exact no (by rw [hv, decide_eq_false (fun h => a3 h.2.1)])
      · rw [if_neg a2]; exact no (by rw [hv, decide_eq_false (fun h => a2 h.1)])
    · rw [if_neg a1]; exact no (by rw [hv, decide_eq_false (fun h => a1 h.2.2.1)])
  rw [if_neg k4]
  by_cases k5 : v.Kind = 5
  · rw [if_pos k5]
    have hv : locV v = (decide (v.K.length = v.L.length ∧ v.N = 0 ∧ v.S.length = 0 ∧ v.L.length <= 40) && kAll v.K 0 v.K.length) := by unfold locV; rw [if_neg n06, if_neg k1, if_neg k2, if_neg k3, if_neg k4, if_pos k5]
    by_cases a1 : ((v.K.length : Nat) : Int) = ((v.L.length : Nat) : Int)
    · rw [if_pos a1]
      have keys := fun (v0 v1 : Bool) => isShaped_keys (G := G) (v0 := v0) (v1 := v1) (a1 := ((e + 1 : Nat) : Int)) hs v.K.length 0 f (by omega) (by omega)
      simp only [show ((0 : Nat) : Int) = 0 from rfl] at keys
      obtain ⟨z, hz⟩ := keys (decide (v.N = 0)) (decide (v.S.length = 0))
      rw [hz, Option.bind_some]
      cases hk : kAll v.K 0 v.K.length with
      | false => exact no (by rw [hv, hk, Bool.and_false])
      | true =>
        rw [if_pos rfl]
        dsimp only
        by_cases a2 : v.N = 0
        · rw [if_pos a2]
          by_cases a3 : v.S.length = 0
          · rw [if_pos a3]
            exact ends (b := true) (by rw [hv, hk]; simp [a2, a3, show v.K.length = v.L.length by omega]) rfl
          · rw [if_neg a3]
            exact no (by rw [hv, decide_eq_false (fun h => a3 h.2.2.1)]; rfl)
        · rw [if_neg a2]
          exact no (by rw [hv, decide_eq_false (fun h => a2 h.2.1)]; rfl)
    · rw [if_neg a1]; exact no (by rw [hv, decide_eq_false (fun h => a1 (by omega))]; rfl)
  rw [if_neg k5]
  exact no (by unfold locV; simp only [k0, k1, k2, k3, k4, k5, k6, or_self, if_false])
theorem isShaped_U : ∀ (N : Nat) (v : GValue), vsz v < N → vsz v <= 2 ^ 20 → ∀ (f d : Nat), 4 * vsz v + 6 <= f → d <= 2 ^ 20 → U_q9 f v (d : Int) = some (shV d v) := by
  intro N
  induction N with
  | zero => intro v hv; omega
  | succ N ih =>
    intro v hv hs f d hf hd
    have he := vsz_eq v
    have hl := vszs_len v.L
    have hb := bsz_len v.K
    obtain ⟨f, rfl, _⟩ := fuel (show 0 < f by omega)
    rw [U_q9]
    by_cases h0 : d = 0
    · subst h0; unfold T_q9; rw [if_pos (show ((0 : Nat) : Int) = 0 from rfl)]; rfl
    refine isShaped_T hs (by omega) (by omega) ?_
    obtain ⟨f, rfl, _⟩ := fuel (show 0 < f by omega)
    obtain ⟨f, rfl, _⟩ := fuel (show 0 < f by omega)
    obtain ⟨f, rfl, _⟩ := fuel (show 0 < f by omega)
    rw [U_q4]
    unfold T_q4
    rw [U_q2]
    obtain ⟨r, hr, hr2⟩ := slices_ContainsFunc_Value_isShaped_1_T (G := U_qw (f + 1)) (a := v.L) (f := f + 1) (e := (d : Int)) (p := shV (d - 1)) (by omega) (by omega) fun x hx => by
      have := vszs_mem hx
      rw [U_qw]
      unfold T_qw
      rw [w64_pred (by omega) (by omega), ih x (by omega) (by omega) f (d - 1) (by omega) (by omega)]
      rfl
    rw [hr, Option.bind_some, hr2]
def S_qw (a0 : GValue) (e0 : Int) : Option Bool := none
theorem spec_qw (a0 : GValue) (e0 : Int) (r : Bool) (h : S_qw a0 e0 = some r) : ∃ n, U_qw n a0 e0 = some r := by cases h
def S_q2 (a0 : (List GValue)) (e0 : Int) : Option Int := none
theorem spec_q2 (a0 : (List GValue)) (e0 : Int) (r : Int) (h : S_q2 a0 e0 = some r) : ∃ n, U_q2 n a0 e0 = some r := by cases h
def S_q4 (a0 : (List GValue)) (e0 : Int) : Option Bool := none
theorem spec_q4 (a0 : (List GValue)) (e0 : Int) (r : Bool) (h : S_q4 a0 e0 = some r) : ∃ n, U_q4 n a0 e0 = some r := by cases h
def S_q9 (a0 : GValue) (a1 : Int) : Option Bool := if vsz a0 <= 2 ^ 20 ∧ 0 <= a1 ∧ a1 <= 2 ^ 20 then some (shV a1.toNat a0) else none
theorem spec_q9 (a0 : GValue) (a1 : Int) (r : Bool) (h : S_q9 a0 a1 = some r) : ∃ n, U_q9 n a0 a1 = some r := by
  unfold S_q9 at h
  obtain ⟨⟨hs, h0, h1⟩, h⟩ := need_c h
  refine ⟨4 * vsz a0 + 6, ?_⟩
  have := isShaped_U _ a0 (Nat.lt_succ_self _) hs _ a1.toNat (Nat.le_refl _) (by omega)
  rw [show ((a1.toNat : Nat) : Int) = a1 by omega] at this
  rw [this]; exact h
theorem ok_qw : K_qw S_qw := by
  intro a0 e0 r h
  obtain ⟨n, hn⟩ := spec_qw a0 e0 r h
  exact (rec_impl_isShaped_1 n).1 a0 e0 r hn
theorem ok_q2 : K_q2 S_q2 := by
  intro a0 e0 r h
  obtain ⟨n, hn⟩ := spec_q2 a0 e0 r h
  exact (rec_impl_isShaped_1 n).2.1 a0 e0 r hn
theorem ok_q4 : K_q4 S_q4 := by
  intro a0 e0 r h
  obtain ⟨n, hn⟩ := spec_q4 a0 e0 r h
  exact (rec_impl_isShaped_1 n).2.2.1 a0 e0 r hn
theorem ok_q9 : K_q9 S_q9 := by
  intro a0 a1 r h
  obtain ⟨n, hn⟩ := spec_q9 a0 a1 r h
  exact (rec_impl_isShaped_1 n).2.2.2 a0 a1 r hn
def K_q5 (F : GValue → Option Int) : Prop := ∀ (a0 : GValue), Oc (F a0) 223 [] [.val true (x_GValue a0)] fun r => (vi r, [])
def L_q5_l0 (G_impl_Value_parts : GValue → Option Int) (v1 : (List GValue)) (v2 : Int) : Nat → Int → Int → Option (Int × Int)
  | 0, _, _ => none
  | m + 1, v0, v3 =>
  if v3 < v2 then
   (natO v3).bind fun i2 =>
   (v1[i2]?).bind fun x3 =>
   (G_impl_Value_parts x3).bind fun r4 =>
   L_q5_l0 G_impl_Value_parts v1 v2 m (w64 (v0 + r4)) (w64 (v3 + 1))
  else
  some (v0, v3)
theorem gl_impl_Value_parts_l0 (G_impl_Value_parts : GValue → Option Int) (H_impl_Value_parts : K_q5 G_impl_Value_parts) (v1 : (List GValue)) (v2 : Int) (m : Nat) : ∀ (v0 : Int) (v3 : Int), Ol (L_q5_l0 G_impl_Value_parts v1 v2 m v0 v3) 223 (loopB Tryz.f223 0) ⟨[(3, vi v0), (7, vq e_GValue v1), (8, vi v2), (9, vi v3)], [], 0⟩ fun o => match o with | ⟨o_0, o_1⟩ => (.exit 0, ⟨[(3, vi o_0), (7, vq e_GValue v1), (8, vi v2), (9, vi o_1), (10, vb false)], [], 0⟩) := by
  induction m with
  | zero => intro v0 v3 o h; cases h
  | succ m ih => exact fun v0 v3 => tlp (
   .lI v3 v2 (fun c1 =>
    .na v3 fun i2 =>
    .ix eq_GValue v1 i2 fun x3 =>
    .cl (H_impl_Value_parts x3) fun r4 =>
    .go (ih (w64 (v0 + r4)) (w64 (v3 + 1)))) fun c1 =>
   .ret (v0, v3))
def T_q5 (G_impl_Value_parts : GValue → Option Int) (n : Nat) (a0 : GValue) : Option Int :=
 (L_q5_l0 G_impl_Value_parts a0.L ((a0.L.length : Nat) : Int) n 1 0).bind fun ⟨o1_0, o1_1⟩ =>
 some o1_0
theorem g_impl_Value_parts (G_impl_Value_parts : GValue → Option Int) (H_impl_Value_parts : K_q5 G_impl_Value_parts) (n : Nat) : K_q5 (T_q5 G_impl_Value_parts n) := fun a0 => tc (
 .le e_GValue a0.L <|
 .lp (gl_impl_Value_parts_l0 G_impl_Value_parts H_impl_Value_parts a0.L ((a0.L.length : Nat) : Int) n 1 0) fun ⟨o1_0, o1_1⟩ =>
 .ret o1_0) (fn_of Tryz.func223)
def U_q5 : Nat → GValue → Option Int
  | 0, _ => none
  | n + 1, a0 => T_q5 (U_q5 n) n a0
theorem rec_impl_Value_parts (n : Nat) : K_q5 (U_q5 n) := by
  induction n with
  | zero => exact fun _ _ h => (by rw [U_q5] at h; cases h)
  | succ n ih =>
    have ih_impl_Value_parts := ih
    exact fun a0 r h => g_impl_Value_parts (U_q5 n) ih_impl_Value_parts n a0 r (by rw [U_q5] at h; exact h)
theorem impl_Value_parts_T {G : GValue → Option Int} {v : GValue} {f : Nat} (hs : vsz v <= 2 ^ 20) (hf : v.L.length < f) (hG : ∀ x ∈ v.L, G x = some (((ptV x) : Nat) : Int)) : T_q5 G f v = some (((ptV v) : Nat) : Int) := by
  have he := vsz_eq v
  have hl := vszs_len v.L
  have loop : ∀ (d i m : Nat) (r : Int), i + d = v.L.length → d < m → 0 <= r → r <= 2 ^ 21 - ptVs (v.L.drop i) → ∃ z, L_q5_l0 G v.L ((v.L.length : Nat) : Int) m r (i : Int) = some (r + ptVs (v.L.drop i), z) := by
    intro d
    induction d with
    | zero =>
      intro i m r hi hm h0 h1
      obtain ⟨m, rfl, _⟩ := fuel hm
      exact ⟨_, by rw [L_q5_l0, if_neg (by omega), List.drop_eq_nil_of_le (by omega)]; simp [ptVs]; rfl⟩
    | succ d ih =>
      intro i m r hi hm h0 h1
      obtain ⟨m, rfl, hm'⟩ := fuel hm
      have hil : i < v.L.length := by omega
      have hp : ptVs (v.L.drop i) = ptV v.L[i] + ptVs (v.L.drop (i + 1)) := by rw [drop_cons hil]; simp only [ptVs]
      rw [hp] at h1 ⊢
      rw [L_q5_l0, if_pos (by omega), natO_nat, Option.bind_some, get_some hil, Option.bind_some, hG _ (List.getElem_mem hil), Option.bind_some, w64_succ (by omega), w64_id (by omega) (by omega)]
      obtain ⟨z, hz⟩ := ih (i + 1) m (r + ptV v.L[i]) (by omega) (by omega) (by omega) (by omega)
      exact ⟨z, by rw [hz]; congr 2; omega⟩
  have hle := ptVs_le v.L
  obtain ⟨z, hz⟩ := loop v.L.length 0 f 1 (by omega) (by omega) (by omega) (by rw [List.drop_zero]; omega)
  rw [show ((0 : Nat) : Int) = 0 from rfl, List.drop_zero] at hz
  unfold T_q5
  rw [hz, ptV_eq]
  simp only [Option.bind_some]
  congr 1
theorem impl_Value_parts_U : ∀ (N : Nat) (v : GValue), vsz v < N → vsz v <= 2 ^ 20 → ∀ f : Nat, vsz v + 2 <= f → U_q5 f v = some (((ptV v) : Nat) : Int) := by
  intro N
  induction N with
  | zero => intro v hv; omega
  | succ N ih =>
    intro v hv hs f hf
    obtain ⟨f, rfl, _⟩ := fuel (show 0 < f by omega)
    have he := vsz_eq v
    have hl := vszs_len v.L
    rw [U_q5]
    refine impl_Value_parts_T hs (by omega) fun x hx => ?_
    have := vszs_mem hx
    exact ih x (by omega) (by omega) f (by omega)
def S_q5 (a0 : GValue) : Option Int := if vsz a0 <= 2 ^ 20 then some (((ptV a0) : Nat) : Int) else none
theorem spec_q5 (a0 : GValue) (r : Int) (h : S_q5 a0 = some r) : ∃ n, U_q5 n a0 = some r := by
  unfold S_q5 at h
  obtain ⟨ha, h⟩ := need_c h
  exact ⟨vsz a0 + 2, by rw [<- h]; exact impl_Value_parts_U _ a0 (Nat.lt_succ_self _) ha _ (Nat.le_refl _)⟩
theorem ok_q5 : K_q5 S_q5 := by
  intro a0 r h
  obtain ⟨n, hn⟩ := spec_q5 a0 r h
  exact (rec_impl_Value_parts n) a0 r hn
def S_q29 (a0 : GValue) : Option Bool :=
 (S_q9 a0 5).bind fun r1 =>
 match r1 with
 | true =>
  (S_q5 a0).bind fun r2 =>
  some (decide (r2 <= 40))
 | false =>
  some false
theorem ok_q29 (a0 : GValue) : Oc (S_q29 a0) 202 [] [.val true (x_GValue a0)] fun r => (vb r, []) := tc (
 .cl (ok_q9 a0 5) fun r1 =>
 .vM 0 r1 (
  .az 0 0 <|
  .cl (ok_q5 a0) fun r2 =>
  .az 0 1 <|
  .gD r2 40 <|
  .az 0 1 <|
  .ret (decide (r2 <= 40))) <|
 .az 0 0 <|
 .az 0 0 <|
 .az 0 0 <|
 .ret false) (fn_of Tryz.func202)
def S_q2v (a0 : GValue) : Option Bool :=
 if a0.Kind = 5 then
  (S_q29 a0).bind fun r2 =>
  some r2
 else
 some false
theorem ok_q2v (a0 : GValue) : Oc (S_q2v a0) 175 [] [.val true (x_GValue a0)] fun r => (vb r, []) := tc (
 .eI a0.Kind 5 (fun c1 =>
  .cl (ok_q29 a0) fun r2 =>
  .ret r2) fun c1 =>
 .ret false) (fn_of Tryz.func175)
def K_qg (F : GValue → Option Bool) : Prop := ∀ (a0 : GValue), Oc (F a0) 204 [] [.val true (x_GValue a0)] fun r => (vb r, [])
def K_q1 (F : (List GValue) → Option Int) : Prop := ∀ (a0 : (List GValue)), Oc (F a0) 224 [] [vq e_GValue a0, .val false [.fn 204 []]] fun r => (vi r, [])
def K_q3 (F : (List GValue) → Option Bool) : Prop := ∀ (a0 : (List GValue)), Oc (F a0) 203 [] [vq e_GValue a0, .val false [.fn 204 []]] fun r => (vb r, [])
def K_qc (F : GValue → Option Bool) : Prop := ∀ (a0 : GValue), Oc (F a0) 176 [] [.val true (x_GValue a0)] fun r => (vb r, [])
def T_qg (G_impl_Value_known : GValue → Option Bool) (a0 : GValue) : Option Bool :=
 (G_impl_Value_known a0).bind fun r1 =>
 some (!r1)
theorem g_impl_Value_known_1 (G_impl_Value_known : GValue → Option Bool) (H_impl_Value_known : K_qc G_impl_Value_known) : K_qg (T_qg G_impl_Value_known) := fun a0 => tc (
 .cl (H_impl_Value_known a0) fun r1 =>
 .ret (!r1)) (fn_of Tryz.func204)
def L_q1_l0 (G_impl_Value_known_1 : GValue → Option Bool) (a0 : (List GValue)) (v1 : Int) : Nat → Int → Option (Int ⊕ Int)
  | 0, _ => none
  | m + 1, v2 =>
  if v2 < v1 then
   (natO v2).bind fun i2 =>
   (a0[i2]?).bind fun x3 =>
   (G_impl_Value_known_1 x3).bind fun r4 =>
   match r4 with
   | true =>
    some (.inl v2)
   | false =>
    L_q1_l0 G_impl_Value_known_1 a0 v1 m (w64 (v2 + 1))
  else
  some (.inr v2)
theorem gl_slices_IndexFunc_Value_Value_known_1_l0 (G_impl_Value_known_1 : GValue → Option Bool) (H_impl_Value_known_1 : K_qg G_impl_Value_known_1) (a0 : (List GValue)) (v1 : Int) (m : Nat) : ∀ (v2 : Int), Ol (L_q1_l0 G_impl_Value_known_1 a0 v1 m v2) 224 (loopB Tryz.f224 0) ⟨[(0, vq e_GValue a0), (1, .val false [.fn 204 []]), (7, vi v1), (8, vi v2)], [], 0⟩ fun o => match o with | .inl o_0 => (.ret, ⟨[(4, vi o_0)], [], 0⟩) | .inr (o_1) => (.exit 0, ⟨[(0, vq e_GValue a0), (1, .val false [.fn 204 []]), (7, vi v1), (8, vi o_1), (9, vb false)], [], 0⟩) := by
  induction m with
  | zero => intro v2 o h; cases h
  | succ m ih => exact fun v2 => tlp (
   .lI v2 v1 (fun c1 =>
    .na v2 fun i2 =>
    .ix eq_GValue a0 i2 fun x3 =>
    .cl (H_impl_Value_known_1 x3) fun r4 =>
    .vM 0 r4 (
     .ret (.inl v2)) <|
    .go (ih (w64 (v2 + 1)))) fun c1 =>
   .ret (.inr v2))
def T_q1 (G_impl_Value_known_1 : GValue → Option Bool) (n : Nat) (a0 : (List GValue)) : Option Int :=
 (L_q1_l0 G_impl_Value_known_1 a0 ((a0.length : Nat) : Int) n 0).bind fun o1 =>
 match o1 with
 | .inl o1_0 =>
  some o1_0
 | .inr (o1_1) =>
  some (-1)
theorem g_slices_IndexFunc_Value_Value_known_1 (G_impl_Value_known_1 : GValue → Option Bool) (H_impl_Value_known_1 : K_qg G_impl_Value_known_1) (n : Nat) : K_q1 (T_q1 G_impl_Value_known_1 n) := fun a0 => tc (
 .le e_GValue a0 <|
 .l2 (gl_slices_IndexFunc_Value_Value_known_1_l0 G_impl_Value_known_1 H_impl_Value_known_1 a0 ((a0.length : Nat) : Int) n 0) (fun o1_0 =>
  .ret o1_0) fun o1_1 =>
 .ret (-1)) (fn_of Tryz.func224)
def T_q3 (G_slices_IndexFunc_Value_Value_known_1 : (List GValue) → Option Int) (a0 : (List GValue)) : Option Bool :=
 (G_slices_IndexFunc_Value_Value_known_1 a0).bind fun r1 =>
 some (decide (0 <= r1))
theorem g_slices_ContainsFunc_Value_Value_known_1 (G_slices_IndexFunc_Value_Value_known_1 : (List GValue) → Option Int) (H_slices_IndexFunc_Value_Value_known_1 : K_q1 G_slices_IndexFunc_Value_Value_known_1) : K_q3 (T_q3 G_slices_IndexFunc_Value_Value_known_1) := fun a0 => tc (
 .cl (H_slices_IndexFunc_Value_Value_known_1 a0) fun r1 =>
 .gD 0 r1 <|
 .ret (decide (0 <= r1))) (fn_of Tryz.func203)
def T_qc (G_slices_ContainsFunc_Value_Value_known_1 : (List GValue) → Option Bool) (a0 : GValue) : Option Bool :=
 if a0.Kind = 6 then
  some false
 else
 (G_slices_ContainsFunc_Value_Value_known_1 a0.L).bind fun r2 =>
 some (!r2)
theorem g_impl_Value_known (G_slices_ContainsFunc_Value_Value_known_1 : (List GValue) → Option Bool) (H_slices_ContainsFunc_Value_Value_known_1 : K_q3 G_slices_ContainsFunc_Value_Value_known_1) : K_qc (T_qc G_slices_ContainsFunc_Value_Value_known_1) := fun a0 => tc (
 .eI a0.Kind 6 (fun c1 =>
  .ret false) fun c1 =>
 .cl (H_slices_ContainsFunc_Value_Value_known_1 a0.L) fun r2 =>
 .ret (!r2)) (fn_of Tryz.func176)
mutual
def U_qg : Nat → GValue → Option Bool
  | 0, _ => none
  | n + 1, a0 => T_qg (U_qc n) a0
def U_q1 : Nat → (List GValue) → Option Int
  | 0, _ => none
  | n + 1, a0 => T_q1 (U_qg n) n a0
def U_q3 : Nat → (List GValue) → Option Bool
  | 0, _ => none
  | n + 1, a0 => T_q3 (U_q1 n) a0
def U_qc : Nat → GValue → Option Bool
  | 0, _ => none
  | n + 1, a0 => T_qc (U_q3 n) a0
end
theorem rec_impl_Value_known_1 (n : Nat) : K_qg (U_qg n) ∧ K_q1 (U_q1 n) ∧ K_q3 (U_q3 n) ∧ K_qc (U_qc n) := by
  induction n with
  | zero => exact ⟨fun _ _ h => (by rw [U_qg] at h; cases h), fun _ _ h => (by rw [U_q1] at h; cases h), fun _ _ h => (by rw [U_q3] at h; cases h), fun _ _ h => (by rw [U_qc] at h; cases h)⟩
  | succ n ih =>
    obtain ⟨ih_impl_Value_known_1, ih_slices_IndexFunc_Value_Value_known_1, ih_slices_ContainsFunc_Value_Value_known_1, ih_impl_Value_known⟩ := ih
    exact ⟨fun a0 r h => g_impl_Value_known_1 (U_qc n) ih_impl_Value_known a0 r (by rw [U_qg] at h; exact h),
      fun a0 r h => g_slices_IndexFunc_Value_Value_known_1 (U_qg n) ih_impl_Value_known_1 n a0 r (by rw [U_q1] at h; exact h),
      fun a0 r h => g_slices_ContainsFunc_Value_Value_known_1 (U_q1 n) ih_slices_IndexFunc_Value_Value_known_1 a0 r (by rw [U_q3] at h; exact h),
      fun a0 r h => g_impl_Value_known (U_q3 n) ih_slices_ContainsFunc_Value_Value_known_1 a0 r (by rw [U_qc] at h; exact h)⟩
def S_qg (a0 : GValue) : Option Bool := none
theorem spec_qg (a0 : GValue) (r : Bool) (h : S_qg a0 = some r) : ∃ n, U_qg n a0 = some r := by cases h
def S_q1 (a0 : (List GValue)) : Option Int := none
theorem spec_q1 (a0 : (List GValue)) (r : Int) (h : S_q1 a0 = some r) : ∃ n, U_q1 n a0 = some r := by cases h
def S_q3 (a0 : (List GValue)) : Option Bool := none
theorem spec_q3 (a0 : (List GValue)) (r : Bool) (h : S_q3 a0 = some r) : ∃ n, U_q3 n a0 = some r := by cases h
theorem known_ix {G : GValue → Option Bool} {a : List GValue} {f : Nat} (ha : a.length <= 2 ^ 40) (hf : a.length < f) (hG : ∀ x ∈ a, G x = some (!knV x)) : ∃ r : Int, T_q1 G f a = some r ∧ decide (0 <= r) = !(knVs a) := by
  have loop : ∀ (l p : List GValue) (m : Nat), a = p ++ l → l.length < m → ∃ (q : Nat) (z : Int), L_q1_l0 G a ((a.length : Nat) : Int) m ((p.length : Nat) : Int) = some (if knVs l = true then .inr z else .inl (q : Int)) := by
    intro l
    induction l with
    | nil =>
      intro p m he hm
      subst he
      obtain ⟨m, rfl, _⟩ := fuel hm
      exact ⟨0, _, by rw [L_q1_l0, if_neg (nlt_end p)]; rfl⟩
    | cons x l ih =>
      intro p m he hm
      obtain ⟨m, rfl, hm'⟩ := fuel hm
      have hlen : a.length = p.length + (l.length + 1) := by rw [he]; simp
      rw [L_q1_l0, if_pos (by omega), natO_nat, Option.bind_some, show a[p.length]? = some x by rw [he]; exact get_mid p x l, Option.bind_some, hG x (by rw [he]; simp), Option.bind_some, w64_len p x (by omega)]
      rw [show knVs (x :: l) = (knV x && knVs l) by simp only [knVs]]
      by_cases hp : knV x = true
      · obtain ⟨q, z, hz⟩ := ih (p ++ [x]) m (by rw [he]; simp) (by simp only [List.length_cons] at hm'; omega)
        exact ⟨q, z, by rw [hp, Bool.true_and]; exact hz⟩
      · rw [Bool.eq_false_iff.2 hp]
        exact ⟨p.length, 0, rfl⟩
  obtain ⟨q, z, hz⟩ := loop a [] f rfl (by omega)
  simp only [List.length_nil, Int.natCast_zero] at hz
  unfold T_q1
  rw [hz, Option.bind_some]
  cases hp : knVs a with
  | true => exact ⟨-1, rfl, rfl⟩
  | false => exact ⟨(q : Int), rfl, by simp⟩
theorem known_U : ∀ (N : Nat) (v : GValue), vsz v < N → vsz v <= 2 ^ 39 → ∀ f : Nat, 4 * vsz v + 5 <= f → U_qc f v = some (knV v) := by
  intro N
  induction N with
  | zero => intro v hv; omega
  | succ N ih =>
    intro v hv hs f hf
    have he := vsz_eq v
    have hl := vszs_len v.L
    obtain ⟨f, rfl, _⟩ := fuel (show 0 < f by omega)
    obtain ⟨f, rfl, _⟩ := fuel (show 0 < f by omega)
    obtain ⟨f, rfl, _⟩ := fuel (show 0 < f by omega)
    obtain ⟨f, rfl, _⟩ := fuel (show 0 < f by omega)
    obtain ⟨r, hr, hd⟩ := known_ix (G := U_qg (f + 1)) (a := v.L) (f := f + 1) (by omega) (by omega) (fun x hx => by
      have := vszs_mem hx
      rw [U_qg]
      unfold T_qg
      rw [ih x (by omega) (by omega) f (by omega), Option.bind_some])
    rw [U_qc]
    unfold T_qc
    rw [U_q3]
    unfold T_q3
    rw [U_q1, hr, Option.bind_some, Option.bind_some, hd, knV_eq]
    by_cases h6 : v.Kind = 6
    · rw [if_pos h6, h6]; rfl
    · rw [if_neg h6]; simp [h6]
def S_qc (a0 : GValue) : Option Bool := if vsz a0 <= 2 ^ 39 then some (knV a0) else none
theorem spec_qc (a0 : GValue) (r : Bool) (h : S_qc a0 = some r) : ∃ n, U_qc n a0 = some r := by
  unfold S_qc at h
  obtain ⟨ha, h⟩ := need_c h
  exact ⟨4 * vsz a0 + 5, by rw [<- h]; exact known_U _ a0 (Nat.lt_succ_self _) ha _ (Nat.le_refl _)⟩
theorem ok_qg : K_qg S_qg := by
  intro a0 r h
  obtain ⟨n, hn⟩ := spec_qg a0 r h
  exact (rec_impl_Value_known_1 n).1 a0 r hn
theorem ok_q1 : K_q1 S_q1 := by
  intro a0 r h
  obtain ⟨n, hn⟩ := spec_q1 a0 r h
  exact (rec_impl_Value_known_1 n).2.1 a0 r hn
theorem ok_q3 : K_q3 S_q3 := by
  intro a0 r h
  obtain ⟨n, hn⟩ := spec_q3 a0 r h
  exact (rec_impl_Value_known_1 n).2.2.1 a0 r hn
theorem ok_qc : K_qc S_qc := by
  intro a0 r h
  obtain ⟨n, hn⟩ := spec_qc a0 r h
  exact (rec_impl_Value_known_1 n).2.2.2 a0 r hn
def S_q1l (a0 : GValue) : Option Bool :=
 (S_q2v a0).bind fun r1 =>
 match r1 with
 | true =>
  (S_qc a0).bind fun r2 =>
  some r2
 | false =>
  some false
theorem ok_q1l (a0 : GValue) : Oc (S_q1l a0) 134 [] [.val true (x_GValue a0)] fun r => (vb r, []) := tc (
 .cl (ok_q2v a0) fun r1 =>
 .vM 0 r1 (
  .az 0 0 <|
  .cl (ok_qc a0) fun r2 =>
  .az 0 1 <|
  .ret r2) <|
 .az 0 0 <|
 .az 0 0 <|
 .ret false) (fn_of Tryz.func134)
def K_qs (F : (List (List UInt8)) → Option Bool) : Prop := ∀ (a0 : (List (List UInt8))), Oc (F a0) 135 [] [vq (e_sl e_u8) a0] fun r => (vb r, [])
def L_qs_l0 (a0 : (List (List UInt8))) (v1 : Int) : Nat → Int → Option (Bool ⊕ Int)
  | 0, _ => none
  | m + 1, v2 =>
  if v2 < v1 then
   (natO v2).bind fun i2 =>
   (a0[i2]?).bind fun x3 =>
   (S_q1i x3).bind fun r4 =>
   match r4 with
   | true =>
    if 0 < v2 then
     (natO (w64 (v2 - 1))).bind fun i6 =>
     (a0[i6]?).bind fun x7 =>
     (S_q1m x7 x3).bind fun r8 =>
     if 0 <= r8 then
      some (.inl false)
     else
     L_qs_l0 a0 v1 m (w64 (v2 + 1))
    else
    L_qs_l0 a0 v1 m (w64 (v2 + 1))
   | false =>
    some (.inl false)
  else
  some (.inr v2)
theorem gl_impl_areAddrs_l0 (a0 : (List (List UInt8))) (v1 : Int) (m : Nat) : ∀ (v2 : Int), Ol (L_qs_l0 a0 v1 m v2) 135 (loopB Tryz.f135 0) ⟨[(0, vq (e_sl e_u8) a0), (5, vq (e_sl e_u8) a0), (6, vi v1), (7, vi v2)], [], 0⟩ fun o => match o with | .inl o_0 => (.ret, ⟨[(2, vb o_0)], [], 0⟩) | .inr (o_1) => (.exit 0, ⟨[(0, vq (e_sl e_u8) a0), (5, vq (e_sl e_u8) a0), (6, vi v1), (7, vi o_1), (8, vb false)], [], 0⟩) := by
  induction m with
  | zero => intro v2 o h; cases h
  | succ m ih => exact fun v2 => tlp (
   .lI v2 v1 (fun c1 =>
    .na v2 fun i2 =>
    .ix0 (e_sl e_u8) a0 i2 fun x3 =>
    .cl (ok_q1i x3) fun r4 =>
    .vN 0 r4 (
     .an 0 0 <|
     .lI 0 v2 (fun c5 =>
      .an 0 0 <|
      .na (w64 (v2 - 1)) fun i6 =>
      .ix0 (e_sl e_u8) a0 i6 fun x7 =>
      .cl (ok_q1m x7 x3) fun r8 =>
      .gI 0 r8 (fun c9 =>
       .an 0 3 <|
       .an 1 3 <|
       .ret (.inl false)) fun c9 =>
      .an 0 3 <|
      .an 1 3 <|
      .go (ih (w64 (v2 + 1)))) fun c5 =>
     .an 0 0 <|
     .an 8 0 <|
     .an 1 0 <|
     .go (ih (w64 (v2 + 1)))) <|
    .an 0 0 <|
    .an 0 0 <|
    .an 0 0 <|
    .an 0 0 <|
    .ret (.inl false)) fun c1 =>
   .ret (.inr v2))
def T_qs (n : Nat) (a0 : (List (List UInt8))) : Option Bool :=
 (L_qs_l0 a0 ((a0.length : Nat) : Int) n 0).bind fun o1 =>
 match o1 with
 | .inl o1_0 =>
  some o1_0
 | .inr (o1_1) =>
  some (decide (((a0.length : Nat) : Int) <= 8))
theorem g_impl_areAddrs (n : Nat) : K_qs (T_qs n) := fun a0 => tc (
 .le (e_sl e_u8) a0 <|
 .l2 (gl_impl_areAddrs_l0 a0 ((a0.length : Nat) : Int) n 0) (fun o1_0 =>
  .ret o1_0) fun o1_1 =>
 .le (e_sl e_u8) a0 <|
 .gD ((a0.length : Nat) : Int) 8 <|
 .ret (decide (((a0.length : Nat) : Int) <= 8))) (fn_of Tryz.func135)
theorem idx_tw (c : UInt8) : ∀ b : List UInt8, Lib.indexByte b c = if b.dropWhile (fun x => decide (x ≠ c)) = [] then -1 else (((b.takeWhile fun x => decide (x ≠ c)).length : Nat) : Int)
  | [] => rfl
  | x :: b => by
    have ih := idx_tw c b
    rw [Lib.indexByte, List.dropWhile_cons, List.takeWhile_cons]
    by_cases h : x = c
    · subst h; simp
    · have hb : (x == c) = false := by simpa using h
      have hd : decide (x ≠ c) = true := decide_eq_true h
      rw [hb, if_neg (by simp), if_pos hd, if_pos hd, ih]
      by_cases hd : b.dropWhile (fun x => decide (x ≠ c)) = []
      · rw [if_pos hd, if_pos hd]; rfl
      · rw [if_neg hd, if_neg hd, if_neg (by simp), List.length_cons]; omega
theorem bIndex_eq (a : List UInt8) (c : UInt8) : S_q2n a [c] = some (Lib.indexByte a c) := by
  unfold S_q2n S_q2l S_q1s
  rw [if_neg (by simp), if_pos (by simp)]
  rfl
theorem cut91 {a : List UInt8} (h : a.length <= 2 ^ 20) : S_bytes_Cut a [91] = some (nm91 a, (rs91 a).drop 1, decide (rs91 a ≠ [])) := by
  have hix : S_q2n a [91] = some (if rs91 a = [] then -1 else (((nm91 a).length : Nat) : Int)) := by rw [bIndex_eq, idx_tw]; rfl
  unfold S_bytes_Cut
  have hlen := nm_len a
  by_cases hr : rs91 a = []
  · have hn := nm_rs a
    rw [hr, List.append_nil] at hn
    rw [hix, if_pos hr, Option.bind_some, if_neg (by omega), hr, hn]; rfl
  · obtain ⟨t, ht⟩ := rs_head hr
    have e : w64 ((((nm91 a).length : Nat) : Int) + ((([91] : List UInt8).length : Nat) : Int)) = (((nm91 a).length + 1 : Nat) : Int) := by
      show w64 ((((nm91 a).length : Nat) : Int) + 1) = _
      exact w64_succ (by omega)
    have hl2 := hlen
    rw [ht, List.length_cons] at hl2
    rw [hix, if_neg hr, Option.bind_some, if_pos (by omega), natO_nat, Option.bind_some, cut_to (by omega), Option.bind_some, nm_take, e, natO_nat, Option.bind_some, cut_from (by omega), Option.bind_some, decide_eq_true hr, <- List.drop_drop, nm_drop]
theorem hasSuf (s : List UInt8) (c : UInt8) (h : s.length <= 2 ^ 20) : S_q2a s [c] = some (decide (s.getLast? = some c)) := by
  unfold S_q2a
  rw [show ((([c] : List UInt8).length : Nat) : Int) = 1 from rfl]
  rcases List.eq_nil_or_concat s with rfl | ⟨l, x, rfl⟩
  · rw [if_neg (by simp)]; rfl
  · simp only [List.concat_eq_append, List.length_append, List.length_cons, List.length_nil] at h ⊢
    rw [if_pos (by omega), show w64 (((l.length + (0 + 1) : Nat) : Int) - 1) = ((l.length : Nat) : Int) by rw [w64_id (by omega) (by omega)]; omega, natO_nat, Option.bind_some, cut_from (by simp), Option.bind_some, List.drop_left]
    unfold S_q1j
    rw [Option.bind_some, List.getLast?_concat]
    congr 1
    exact decide_eq_decide.2 (by simp)
theorem cutSuf (s : List UInt8) (c : UInt8) (h : s.length <= 2 ^ 20) : S_q21 s [c] = some (if s.getLast? = some c then (s.dropLast, true) else (s, false)) := by
  unfold S_q21
  rw [hasSuf s c h, Option.bind_some]
  by_cases hc : s.getLast? = some c
  · rw [decide_eq_true hc, if_pos hc]
    dsimp only
    have h0 : 0 < s.length := by
      cases s with
      | nil => simp at hc
      | cons x s => simp
    rw [show ((([c] : List UInt8).length : Nat) : Int) = 1 from rfl, w64_pred (by omega) h0, natO_nat, Option.bind_some, cut_to (by omega), Option.bind_some, List.dropLast_eq_take]
  · rw [decide_eq_false hc, if_neg hc]
theorem cutPre (s : List UInt8) (c : UInt8) : S_q2b s [c] = some (if s[0]? = some c then (s.drop 1, true) else (s, false)) := by
  unfold S_q2b S_q2m S_q1j
  rw [show ((([c] : List UInt8).length : Nat) : Int) = ((1 : Nat) : Int) from rfl]
  cases s with
  | nil => rw [if_neg (by simp)]; rfl
  | cons x s =>
    rw [if_pos (by simp; omega), natO_nat, Option.bind_some, cut_to (by simp), Option.bind_some, Option.bind_some, Option.bind_some]
    show (match decide ([x] = [c]) with | true => _ | false => _) = _
    by_cases hc : x = c
    · subst hc
      rw [decide_eq_true rfl]
      dsimp only
      rw [Option.bind_some, cut_from (by simp), Option.bind_some]
      simp
    · rw [decide_eq_false (by simpa using hc), if_neg (by simpa using hc)]
theorem itoa_ok : ∀ n : Fin 100, S_q2h ((n.val : Nat) : Int) = some (itoaL n.val) := by
  have h1 : ∀ n : Fin 100, S_q22 ((n.val : Nat) : Int) = some (itoaL n.val) := by decide +kernel
  intro n
  unfold S_q2h S_q23 S_q1t
  rw [if_pos rfl, if_pos (by omega), if_pos (by omega), h1]; rfl
theorem atoi_itoa : ∀ n : Fin 100, Lib.atoiAll (itoaL n.val) = .ok ((n.val : Nat) : Int) := by decide +kernel
theorem dig_itoa : ∀ n : Fin 100, digB (itoaL n.val) = true := by decide +kernel
theorem digB_itoa {l : List UInt8} (h : digB l = true) : ∃ n : Fin 100, l = itoaL n.val := by
  unfold digB at h
  simp only [Bool.and_eq_true, Bool.not_eq_true', decide_eq_true_eq] at h
  obtain ⟨⟨⟨h1, h2⟩, h3⟩, h4⟩ := h
  match l, h1, h2 with
  | [x], _, _ =>
    simp only [List.all_cons, List.all_nil, Bool.and_true, inB, Bool.and_eq_true, decide_eq_true_eq] at h4
    refine ⟨⟨x.toNat - 48, by omega⟩, ?_⟩
    unfold itoaL
    rw [if_pos (by simp only; omega)]
    simp only [List.cons.injEq, and_true]
    refine UInt8.toNat_inj.1 ?_
    rw [UInt8.toNat_ofNat_of_lt' (by show _ < 256; omega)]; omega
  | [x, y], _, _ =>
    simp only [List.all_cons, List.all_nil, Bool.and_true, inB, Bool.and_eq_true, decide_eq_true_eq] at h4
    have hx : x.toNat ≠ 48 := fun e => by
      have : x = 48 := UInt8.toNat_inj.1 e
      subst this
      simp at h3
    refine ⟨⟨(x.toNat - 48) * 10 + (y.toNat - 48), by omega⟩, ?_⟩
    unfold itoaL
    rw [if_neg (by simp only; omega)]
    simp only [List.cons.injEq, and_true]
    constructor
    · refine UInt8.toNat_inj.1 ?_
      rw [UInt8.toNat_ofNat_of_lt' (by show _ < 256; omega)]; omega
    · refine UInt8.toNat_inj.1 ?_
      rw [UInt8.toNat_ofNat_of_lt' (by show _ < 256; omega)]; omega
theorem isNm_eq {a : List UInt8} (h : a.length <= 2 ^ 20) : S_q19 a = some (nameB a) := if_pos h
theorem isAddr_num {l : List UInt8} (hl : l.length <= 2 ^ 20) : ((S_q28 l).bind fun ⟨n, e⟩ =>
    match e with
    | true => some false
    | false => (S_impl_in n 0 99).bind fun r13 =>
      match r13 with
      | true => (S_q2h n).bind fun r15 => some (decide (r15 = l))
      | false => some false) = some (digB l) := by
  unfold S_q28
  rw [if_pos (by omega), Option.bind_some]
  cases hd : digB l with
  | true =>
    obtain ⟨n, rfl⟩ := digB_itoa hd
    have hr : atoiR (itoaL n.val) = (((n.val : Nat) : Int), false) := by unfold atoiR; rw [atoi_itoa n]
    have hn := n.isLt
    rw [hr]
    dsimp only
    rw [in_eq, Option.bind_some, decide_eq_true (show (0 : Int) <= ((n.val : Nat) : Int) ∧ ((n.val : Nat) : Int) <= 99 by omega)]
    dsimp only
    rw [itoa_ok n, Option.bind_some, decide_eq_true rfl]
  | false =>
    obtain ⟨n, e⟩ := atoiR l
    cases e with
    | true => rfl
    | false =>
      dsimp only
      rw [in_eq, Option.bind_some]
      by_cases hn : (0 : Int) <= n ∧ n <= 99
      · rw [decide_eq_true hn]
        dsimp only
        have := itoa_ok ⟨n.toNat, by omega⟩
        rw [show (((⟨n.toNat, by omega⟩ : Fin 100).val : Nat) : Int) = n by simp only; omega] at this
        rw [this, Option.bind_some]
        congr 1
        refine decide_eq_false fun e => ?_
        rw [<- e, dig_itoa] at hd; cases hd
      · rw [decide_eq_false hn]
theorem implAd_eq {a : List UInt8} (h : a.length <= 2 ^ 20) : S_q1i a = some (addrB a) := by
  unfold S_q1i
  have hlen := nm_len a
  rw [cut91 h, Option.bind_some]
  dsimp only
  rw [isNm_eq (by omega), Option.bind_some]
  unfold addrB
  cases hn : nameB (nm91 a) with
  | false => rfl
  | true =>
    dsimp only
    by_cases hr : rs91 a = []
    · rw [decide_eq_false (fun h => h hr), if_pos hr]; rfl
    rw [decide_eq_true hr, if_neg hr]
    dsimp only
    have ht : ((rs91 a).drop 1).length <= 2 ^ 20 := by rw [List.length_drop]; omega
    generalize (rs91 a).drop 1 = t at ht ⊢
    rw [cutSuf t 93 ht, Option.bind_some]
    by_cases h93 : t.getLast? = some 93
    · rw [if_pos h93, if_pos h93]
      dsimp only
      have hl : t.dropLast.length <= 2 ^ 20 := by rw [List.length_dropLast]; omega
      generalize t.dropLast = l at hl ⊢
      rw [cutPre, Option.bind_some]
      unfold insB
      by_cases h34 : l[0]? = some 34
      · rw [if_pos h34, if_pos h34]
        dsimp only
        rw [cutSuf _ 34 (by rw [List.length_drop]; omega), Option.bind_some]
        by_cases h2 : (l.drop 1).getLast? = some 34
        · rw [if_pos h2, if_pos h2]
          dsimp only
          rw [isNm_eq (by rw [List.length_dropLast, List.length_drop]; omega), Option.bind_some]; rfl
        · rw [if_neg h2, if_neg h2]; rfl
      · rw [if_neg h34, if_neg h34]
        dsimp only
        rw [cutSuf _ 34 hl, Option.bind_some]
        by_cases h2 : l.getLast? = some 34
        · rw [if_pos h2]
          dsimp only
          have hd : digB l = false := by
            unfold digB
            have : l.all (inB 48 57) = false := by
              rcases List.eq_nil_or_concat l with rfl | ⟨k, x, rfl⟩
              · simp at h2
              · rw [List.concat_eq_append, List.getLast?_concat] at h2
                injection h2 with h2
                subst h2
                simp [inB]
            rw [this, Bool.and_false]
          rw [hd]; rfl
        · rw [if_neg h2]
          dsimp only
          exact isAddr_num hl
    · rw [if_neg h93, if_neg h93]
      dsimp only
      rw [cutPre, Option.bind_some]
      by_cases h34 : t[0]? = some 34
      · rw [if_pos h34]
        dsimp only
        rw [cutSuf _ 34 (by rw [List.length_drop]; omega), Option.bind_some]
        rfl
      · rw [if_neg h34]
        dsimp only
        rw [cutSuf _ 34 ht, Option.bind_some]
        by_cases h2 : t.getLast? = some 34
        · rw [if_pos h2]; rfl
        · rw [if_neg h2]
          dsimp only
          unfold S_q28
          rw [if_pos (by omega), Option.bind_some]
          obtain ⟨n, e⟩ := atoiR t
          cases e <;> rfl
theorem areAddrs_loop {a : List (List UInt8)} (hs : ∀ x ∈ a, x.length <= 2 ^ 20) (ha : a.length <= 2 ^ 40) : ∀ (d i m : Nat), i + d = a.length → d < m → ∃ z, L_qs_l0 a ((a.length : Nat) : Int) m (i : Int) = some (if gAll addrB id a i d = true then .inr z else .inl false) := by
  intro d
  induction d with
  | zero =>
    intro i m hi hm
    obtain ⟨m, rfl, _⟩ := fuel hm
    exact ⟨_, by rw [L_qs_l0, if_neg (by omega)]; rfl⟩
  | succ d ih =>
    intro i m hi hm
    obtain ⟨m, rfl, hm'⟩ := fuel hm
    have hil : i < a.length := by omega
    rw [L_qs_l0, if_pos (by omega), natO_nat, Option.bind_some, get_some hil, Option.bind_some, implAd_eq (hs _ (List.getElem_mem hil)), Option.bind_some, gAll_succ]
    obtain ⟨z, hz⟩ := ih (i + 1) m (by omega) (by omega)
    cases hx : addrB a[i] with
    | false =>
      refine ⟨0, ?_⟩
      have : gOk addrB id a i = false := by
        unfold gOk; rw [get_some hil]; simp [hx]
      rw [this]; rfl
    | true =>
      dsimp only
      by_cases h0 : 0 < i
      · rw [if_pos (by omega), w64_pred (by omega) h0, natO_nat, Option.bind_some, get_some (show i - 1 < a.length by omega), Option.bind_some, gOk_eq hil h0, hx, Bool.true_and, w64_succ (by omega), hz]
        unfold S_q1m S_q1q
        simp only [Option.bind_some]
        by_cases hl : Op.bytesLess a[i - 1] a[i] = true
        · rw [if_neg (by rw [less_cmp]; exact fun h => h hl), show Op.bytesLess (id a[i - 1]) (id a[i]) = true from hl, Bool.true_and]; exact ⟨z, rfl⟩
        · rw [if_pos (by rw [less_cmp]; exact hl), show Op.bytesLess (id a[i - 1]) (id a[i]) = false from Bool.eq_false_iff.2 hl]; exact ⟨z, rfl⟩
      · obtain rfl : i = 0 := by omega
        rw [if_neg (by omega), gOk_zero hil, hx, Bool.true_and, w64_succ (by omega), hz]
        exact ⟨z, rfl⟩
def S_qs (a0 : (List (List UInt8))) : Option Bool := if bsz a0 <= 2 ^ 20 then some (addrsB a0) else none
theorem spec_qs (a0 : (List (List UInt8))) (r : Bool) (h : S_qs a0 = some r) : ∃ n, T_qs n a0 = some r := by
  unfold S_qs at h
  obtain ⟨ha, h⟩ := need_c h
  have hl := bsz_len a0
  obtain ⟨z, hz⟩ := areAddrs_loop (a := a0) (fun x hx => by have := bsz_mem hx; omega) (by omega) a0.length 0 (a0.length + 1) (by omega) (by omega)
  refine ⟨a0.length + 1, ?_⟩
  unfold T_qs
  rw [show ((0 : Nat) : Int) = 0 from rfl] at hz
  rw [<- h, hz, Option.bind_some]
  unfold addrsB
  cases gAll addrB id a0 0 a0.length
  · rw [Bool.and_false]; rfl
  · rw [Bool.and_true]
    show some (decide (((a0.length : Nat) : Int) <= 8)) = _
    congr 1
    exact decide_eq_decide.2 (by omega)
theorem ok_qs : K_qs S_qs := fun a0 r h => (spec_qs a0 r h).elim fun n hn => g_impl_areAddrs n a0 r hn
def S_q1r (a0 : GEntry) (a1 : (List UInt8)) : Option Int :=
 (S_q1m a0.Addr a1).bind fun r1 =>
 some r1
theorem ok_q1r (a0 : GEntry) (a1 : (List UInt8)) : Oc (S_q1r a0 a1) 163 [] [.val true (x_GEntry a0), vq e_u8 a1] fun r => (vi r, []) := tc (
 .cl (ok_q1m a0.Addr a1) fun r1 =>
 .ret r1) (fn_of Tryz.func163)
def K_q0 (F : (List GEntry) → (List UInt8) → Option (Int × Bool)) : Prop := ∀ (a0 : (List GEntry)) (a1 : (List UInt8)), Oc (F a0 a1) 162 [] [vq e_GEntry a0, vq e_u8 a1, .val false [.fn 163 []]] fun r => (.tup [(false, [ci r.1]), (false, [.bool r.2])], [])
def L_q0_l0 (a0 : (List GEntry)) (a1 : (List UInt8)) (v2 : Int) : Nat → Int → Int → Option (Int × Int)
  | 0, _, _ => none
  | m + 1, v3, v4 =>
  if v3 < v4 then
   (natO (w64 (bitI .shr .u64 (IntKind.u64.wrap (w64 (v3 + v4))) 1))).bind fun i2 =>
   (a0[i2]?).bind fun x3 =>
   (S_q1r x3 a1).bind fun r4 =>
   if r4 < 0 then
    L_q0_l0 a0 a1 v2 m (w64 ((w64 (bitI .shr .u64 (IntKind.u64.wrap (w64 (v3 + v4))) 1)) + 1)) v4
   else
   L_q0_l0 a0 a1 v2 m v3 (w64 (bitI .shr .u64 (IntKind.u64.wrap (w64 (v3 + v4))) 1))
  else
  some (v3, v4)
theorem gl_slices_BinarySearchFunc_byte_State_entryAt_1_l0 (a0 : (List GEntry)) (a1 : (List UInt8)) (v2 : Int) (m : Nat) : ∀ (v3 : Int) (v4 : Int), Ol (L_q0_l0 a0 a1 v2 m v3 v4) 162 (loopB Tryz.f162 0) ⟨[(0, vq e_GEntry a0), (1, vq e_u8 a1), (2, .val false [.fn 163 []]), (8, vi v2), (9, vi v3), (10, vi v4)], [], 0⟩ fun o => match o with | ⟨o_0, o_1⟩ => (.exit 0, ⟨[(0, vq e_GEntry a0), (1, vq e_u8 a1), (2, .val false [.fn 163 []]), (8, vi v2), (9, vi o_0), (10, vi o_1), (17, vb false)], [], 0⟩) := by
  induction m with
  | zero => intro v3 v4 o h; cases h
  | succ m ih => exact fun v3 v4 => tlp (
   .lI v3 v4 (fun c1 =>
    .q (.gTo 0 1 (by decide)) <|
    .cw (bitI .shr .u64 (IntKind.u64.wrap (w64 (v3 + v4))) 1) <|
    .na (w64 (bitI .shr .u64 (IntKind.u64.wrap (w64 (v3 + v4))) 1)) fun i2 =>
    .ix eq_GEntry a0 i2 fun x3 =>
    .cl (ok_q1r x3 a1) fun r4 =>
    .lI r4 0 (fun c5 =>
     .go (ih (w64 ((w64 (bitI .shr .u64 (IntKind.u64.wrap (w64 (v3 + v4))) 1)) + 1)) v4)) fun c5 =>
    .go (ih v3 (w64 (bitI .shr .u64 (IntKind.u64.wrap (w64 (v3 + v4))) 1)))) fun c1 =>
   .ret (v3, v4))
def T_q0 (n : Nat) (a0 : (List GEntry)) (a1 : (List UInt8)) : Option (Int × Bool) :=
 (L_q0_l0 a0 a1 ((a0.length : Nat) : Int) n 0 ((a0.length : Nat) : Int)).bind fun ⟨o1_0, o1_1⟩ =>
 if o1_0 < ((a0.length : Nat) : Int) then
  (natO o1_0).bind fun i3 =>
  (a0[i3]?).bind fun x4 =>
  (S_q1r x4 a1).bind fun r5 =>
  some (o1_0, (decide (r5 = 0)))
 else
 some (o1_0, false)
theorem g_slices_BinarySearchFunc_byte_State_entryAt_1 (n : Nat) : K_q0 (T_q0 n) := fun a0 a1 => tc (
 .le e_GEntry a0 <|
 .lp (gl_slices_BinarySearchFunc_byte_State_entryAt_1_l0 a0 a1 ((a0.length : Nat) : Int) n 0 ((a0.length : Nat) : Int)) fun ⟨o1_0, o1_1⟩ =>
 .lI o1_0 ((a0.length : Nat) : Int) (fun c2 =>
  .na o1_0 fun i3 =>
  .ix eq_GEntry a0 i3 fun x4 =>
  .cl (ok_q1r x4 a1) fun r5 =>
  .eD r5 0 <|
  .ret (o1_0, (decide (r5 = 0)))) fun c2 =>
 .ret (o1_0, false)) (fn_of Tryz.func162)
theorem eat_cmp (e : GEntry) (x : List UInt8) : S_q1r e x = some (Lib.compareBytes e.Addr x) := rfl
theorem eat_any {a : List GEntry} {x : List UInt8} {v2 : Int} (ha : a.length <= 2 ^ 40) : ∀ (d i j m : Nat), j - i <= d → i <= j → j <= a.length → d < m → ∃ c c' : Nat, c <= a.length ∧ L_q0_l0 a x v2 m (i : Int) (j : Int) = some ((c : Int), (c' : Int)) := by
  intro d
  induction d with
  | zero =>
    intro i j m hd h1 h3 hm
    obtain ⟨m, rfl, _⟩ := fuel hm
    exact ⟨i, j, by omega, by rw [L_q0_l0, if_neg (by omega)]⟩
  | succ d ih =>
    intro i j m hd h1 h3 hm
    obtain ⟨m, rfl, hm'⟩ := fuel hm
    by_cases hij : i < j
    · have hk : (i + j) / 2 < a.length := by omega
      rw [L_q0_l0, if_pos (by omega), mid_eq (by omega), natO_nat, Option.bind_some, get_some hk, Option.bind_some, eat_cmp, Option.bind_some]
      split
      · rw [w64_succ (by omega)]
        exact ih _ _ m (by omega) (by omega) h3 (by omega)
      · exact ih _ _ m (by omega) (by omega) (by omega) (by omega)
    · exact ⟨i, j, by omega, by rw [L_q0_l0, if_neg (by omega)]⟩
theorem eat_loop {a : List GEntry} {x : List UInt8} {c : Nat} {v2 : Int} (hp : Part (a.map GEntry.Addr) x c) (ha : a.length <= 2 ^ 40) : ∀ (d i j m : Nat), j - i <= d → i <= c → c <= j → j <= a.length → d < m → L_q0_l0 a x v2 m (i : Int) (j : Int) = some ((c : Int), (c : Int)) := by
  intro d
  induction d with
  | zero =>
    intro i j m hd h1 h2 h3 hm
    obtain ⟨m, rfl, _⟩ := fuel hm
    rw [L_q0_l0, if_neg (by omega), show i = c by omega, show j = c by omega]
  | succ d ih =>
    intro i j m hd h1 h2 h3 hm
    obtain ⟨m, rfl, hm'⟩ := fuel hm
    by_cases hij : i < j
    · have hk : (i + j) / 2 < a.length := by omega
      rw [L_q0_l0, if_pos (by omega), mid_eq (by omega), natO_nat, Option.bind_some, get_some hk, Option.bind_some, eat_cmp, Option.bind_some]
      have hq := hp.2 ((i + j) / 2) (by rw [List.length_map]; exact hk)
      rw [List.getElem_map] at hq
      by_cases hl : Op.bytesLess a[(i + j) / 2].Addr x = true
      · rw [if_pos (by rw [cmp_neg]; exact hl), w64_succ (by omega)]
        have := hq.2 hl
        exact ih _ _ m (by omega) (by omega) h2 h3 (by omega)
      · rw [if_neg (by rw [cmp_neg]; exact hl)]
        have : ¬ (i + j) / 2 < c := fun h => hl (hq.1 h)
        exact ih _ _ m (by omega) h1 (by omega) (by omega) (by omega)
    · rw [L_q0_l0, if_neg (by omega), show i = c by omega, show j = c by omega]
def S_q0 (a0 : (List GEntry)) (a1 : (List UInt8)) : Option (Int × Bool) := T_q0 (a0.length + 5) a0 a1
theorem spec_q0 (a0 : (List GEntry)) (a1 : (List UInt8)) (r : (Int × Bool)) (h : S_q0 a0 a1 = some r) : ∃ n, T_q0 n a0 a1 = some r := ⟨_, h⟩
theorem eat_some {a : List GEntry} {x : List UInt8} (ha : a.length <= 2 ^ 40) : ∃ (c : Nat) (b : Bool), S_q0 a x = some ((c : Int), b) := by
  unfold S_q0 T_q0
  obtain ⟨c, c', hc, hl⟩ := eat_any (x := x) (v2 := ((a.length : Nat) : Int)) ha a.length 0 a.length (a.length + 5) (by omega) (by omega) (Nat.le_refl _) (by omega)
  rw [show ((0 : Nat) : Int) = 0 from rfl] at hl
  rw [hl, Option.bind_some]
  dsimp only
  by_cases h : c < a.length
  · rw [if_pos (by omega), natO_nat, Option.bind_some, get_some h, Option.bind_some, eat_cmp, Option.bind_some]
    exact ⟨c, _, rfl⟩
  · rw [if_neg (by omega)]
    exact ⟨c, _, rfl⟩
theorem hasB_iff {l : List GEntry} {a : List UInt8} : hasB l a = true ↔ a ∈ l.map GEntry.Addr := by
  unfold hasB
  rw [List.any_eq_true, List.mem_map]
  constructor
  · rintro ⟨e, he, h⟩; exact ⟨e, he, of_decide_eq_true h⟩
  · rintro ⟨e, he, rfl⟩; exact ⟨e, he, decide_eq_true rfl⟩
theorem eat_eq {a : List GEntry} {x : List UInt8} (ha : a.length <= 2 ^ 40) (h : Asc (a.map GEntry.Addr)) : ∃ c : Nat, Part (a.map GEntry.Addr) x c ∧ S_q0 a x = some ((c : Int), hasB a x) := by
  obtain ⟨c, hp⟩ := Part.of h x
  refine ⟨c, hp, ?_⟩
  have hm := Part.mem h hp
  have hcl : c <= a.length := by have := hp.1; rwa [List.length_map] at this
  unfold S_q0 T_q0
  have hl := eat_loop (v2 := ((a.length : Nat) : Int)) hp ha a.length 0 a.length (a.length + 5) (by omega) (by omega) hcl (Nat.le_refl _) (by omega)
  rw [show ((0 : Nat) : Int) = 0 from rfl] at hl
  rw [hl, Option.bind_some]
  dsimp only
  have hb : hasB a x = decide ((a.map GEntry.Addr)[c]? = some x) := by
    cases hx : hasB a x with
    | true => exact (decide_eq_true (hm.2 (hasB_iff.1 hx))).symm
    | false => exact (decide_eq_false fun h' => by rw [hasB_iff.2 (hm.1 h')] at hx; cases hx).symm
  rw [hb, List.getElem?_map]
  by_cases hc : c < a.length
  · rw [if_pos (by omega), natO_nat, Option.bind_some, get_some hc, Option.bind_some, eat_cmp, Option.bind_some]
    congr 2
    exact decide_eq_decide.2 ((cmp_zero _ _).trans (by simp))
  · rw [if_neg (by omega), List.getElem?_eq_none (by omega)]
    simp
theorem ok_q0 : K_q0 S_q0 := fun a0 a1 r h => (spec_q0 a0 a1 r h).elim fun n hn => g_slices_BinarySearchFunc_byte_State_entryAt_1 n a0 a1 r hn
def S_q1e (a0 : GState) (a1 : (List UInt8)) : Option (Int × Bool) :=
 (S_q0 a0.Entries a1).bind fun ⟨r1_0, r1_1⟩ =>
 some (r1_0, r1_1)
theorem ok_q1e (a0 : GState) (a1 : (List UInt8)) : Oc (S_q1e a0 a1) 118 [] [.val true (x_GState a0), vq e_u8 a1] fun r => (.tup [(false, [ci r.1]), (false, [.bool r.2])], []) := tc (
 .cl (ok_q0 a0.Entries a1) fun ⟨r1_0, r1_1⟩ =>
 .ret (r1_0, r1_1)) (fn_of Tryz.func118)
def K_q1c (F : GState → Option Bool) : Prop := ∀ (a0 : GState), Oc (F a0) 78 [] [.val true (x_GState a0)] fun r => (vb r, [])
def L_q1c_l0 (v0 : (List GEntry)) (v1 : Int) (a0 : GState) : Nat → Int → Option (Bool ⊕ Int)
  | 0, _ => none
  | m + 1, v2 =>
  if v2 < v1 then
   (natO v2).bind fun i2 =>
   (v0[i2]?).bind fun x3 =>
   (S_q1i x3.Addr).bind fun r4 =>
   match r4 with
   | true =>
    if 0 < v2 then
     (natO (w64 (v2 - 1))).bind fun i6 =>
     (a0.Entries[i6]?).bind fun x7 =>
     (S_q1m x7.Addr x3.Addr).bind fun r8 =>
     if 0 <= r8 then
      some (.inl false)
     else
     (S_q1l x3.Val).bind fun r10 =>
     match r10 with
     | true =>
      (S_qs x3.Deps).bind fun r11 =>
      match r11 with
      | true =>
       (S_impl_in x3.Turned 1 a0.Serial).bind fun r12 =>
       match r12 with
       | true =>
        L_q1c_l0 v0 v1 a0 m (w64 (v2 + 1))
       | false =>
        some (.inl false)
      | false =>
       some (.inl false)
     | false =>
      some (.inl false)
    else
    (S_q1l x3.Val).bind fun r6 =>
    match r6 with
    | true =>
     (S_qs x3.Deps).bind fun r7 =>
     match r7 with
     | true =>
      (S_impl_in x3.Turned 1 a0.Serial).bind fun r8 =>
      match r8 with
      | true =>
       L_q1c_l0 v0 v1 a0 m (w64 (v2 + 1))
      | false =>
       some (.inl false)
     | false =>
      some (.inl false)
    | false =>
     some (.inl false)
   | false =>
    some (.inl false)
  else
  some (.inr v2)
theorem gl_impl_isState_l0 (v0 : (List GEntry)) (v1 : Int) (a0 : GState) (m : Nat) : ∀ (v2 : Int), Ol (L_q1c_l0 v0 v1 a0 m v2) 78 (loopB Tryz.f78 0) ⟨[(1, vp 0 0), (18, vq e_GEntry v0), (19, vi v1), (20, vi v2)], [.var (x_GState a0)], 0⟩ fun o => match o with | .inl o_0 => (.ret, ⟨[(2, vb o_0)], [], 0⟩) | .inr (o_1) => (.exit 0, ⟨[(1, vp 0 0), (18, vq e_GEntry v0), (19, vi v1), (20, vi o_1), (21, vb false)], [.var (x_GState a0)], 0⟩) := by
  induction m with
  | zero => intro v2 o h; cases h
  | succ m ih => exact fun v2 => tlp (
   .lI v2 v1 (fun c1 =>
    .na v2 fun i2 =>
    .ix eq_GEntry v0 i2 fun x3 =>
    .cl (ok_q1i x3.Addr) fun r4 =>
    .vN 0 r4 (
     .an 0 0 <|
     .lI 0 v2 (fun c5 =>
      .an 0 0 <|
      .na (w64 (v2 - 1)) fun i6 =>
      .ix eq_GEntry a0.Entries i6 fun x7 =>
      .cl (ok_q1m x7.Addr x3.Addr) fun r8 =>
      .gI 0 r8 (fun c9 =>
       .an 0 3 <|
       .an 1 3 <|
       .ret (.inl false)) fun c9 =>
      .an 0 3 <|
      .an 1 3 <|
      .cl (ok_q1l x3.Val) fun r10 =>
      .vN 2 r10 (
       .an 0 0 <|
       .an 0 0 <|
       .cl (ok_qs x3.Deps) fun r11 =>
       .an 0 1 <|
       .an 0 1 <|
       .vN 0 r11 (
        .an 0 0 <|
        .an 0 0 <|
        .an 0 0 <|
        .an 0 0 <|
        .cl (ok_impl_in x3.Turned 1 a0.Serial) fun r12 =>
        .an 0 1 <|
        .an 0 1 <|
        .vN 0 r12 (
         .go (ih (w64 (v2 + 1)))) <|
        .ret (.inl false)) <|
       .an 0 0 <|
       .an 0 0 <|
       .an 0 0 <|
       .an 0 0 <|
       .an 0 0 <|
       .an 0 0 <|
       .ret (.inl false)) <|
      .an 0 0 <|
      .an 0 0 <|
      .an 0 0 <|
      .an 0 0 <|
      .ret (.inl false)) fun c5 =>
     .an 0 0 <|
     .an 11 0 <|
     .an 1 0 <|
     .cl (ok_q1l x3.Val) fun r6 =>
     .vN 2 r6 (
      .an 0 0 <|
      .an 0 0 <|
      .cl (ok_qs x3.Deps) fun r7 =>
      .an 0 1 <|
      .an 0 1 <|
      .vN 0 r7 (
       .an 0 0 <|
       .an 0 0 <|
       .an 0 0 <|
       .an 0 0 <|
       .cl (ok_impl_in x3.Turned 1 a0.Serial) fun r8 =>
       .an 0 1 <|
       .an 0 1 <|
       .vN 0 r8 (
        .go (ih (w64 (v2 + 1)))) <|
       .ret (.inl false)) <|
      .an 0 0 <|
      .an 0 0 <|
      .an 0 0 <|
      .an 0 0 <|
      .an 0 0 <|
      .an 0 0 <|
      .ret (.inl false)) <|
     .an 0 0 <|
     .an 0 0 <|
     .an 0 0 <|
     .an 0 0 <|
     .ret (.inl false)) <|
    .an 0 0 <|
    .an 0 0 <|
    .an 0 0 <|
    .an 0 0 <|
    .ret (.inl false)) fun c1 =>
   .ret (.inr v2))
def T_q1c (n : Nat) (a0 : GState) : Option Bool :=
 (S_impl_in a0.Serial 0 1000000).bind fun r1 =>
 match r1 with
 | true =>
  if 16 < ((a0.Entries.length : Nat) : Int) then
   some false
  else
  (L_q1c_l0 a0.Entries ((a0.Entries.length : Nat) : Int) a0 n 0).bind fun o3 =>
  match o3 with
  | .inl o3_0 =>
   some o3_0
  | .inr (o3_1) =>
   if ((a0.Pending.length : Nat) : Int) = 0 then
    some (decide (a0.Act = 0))
   else
   (S_q1e a0 a0.Pending).bind fun ⟨r5_0, r5_1⟩ =>
   match a0.Open with
   | true =>
    (S_q1i a0.Pending).bind fun r6 =>
    match r6 with
    | true =>
     (S_impl_in a0.Act 1 4).bind fun r7 =>
     match r7 with
     | true =>
      if r5_1 = true then
       if a0.Act = 1 then
        some false
       else
       some true
      else
      if a0.Act = 1 then
       some true
      else
      some false
     | false =>
      some false
    | false =>
     some false
   | false =>
    some false
 | false =>
  some false
theorem g_impl_isState (n : Nat) : K_q1c (T_q1c n) := fun a0 => tc (
 .cl (ok_impl_in a0.Serial 0 1000000) fun r1 =>
 .vN 0 r1 (
  .an 0 0 <|
  .an 0 0 <|
  .le e_GEntry a0.Entries <|
  .an 0 0 <|
  .lI 16 ((a0.Entries.length : Nat) : Int) (fun c2 =>
   .an 0 0 <|
   .ret false) fun c2 =>
  .an 0 0 <|
  .le e_GEntry a0.Entries <|
  .l2 (gl_impl_isState_l0 a0.Entries ((a0.Entries.length : Nat) : Int) a0 n 0) (fun o3_0 =>
   .ret o3_0) fun o3_1 =>
  .le e_u8 a0.Pending <|
  .eI ((a0.Pending.length : Nat) : Int) 0 (fun c4 =>
   .eD a0.Act 0 <|
   .ret (decide (a0.Act = 0))) fun c4 =>
  .cl (ok_q1e a0 a0.Pending) fun ⟨r5_0, r5_1⟩ =>
  .vM 0 a0.Open (
   .az 0 0 <|
   .az 0 0 <|
   .cl (ok_q1i a0.Pending) fun r6 =>
   .az 0 1 <|
   .vM 0 r6 (
    .az 0 0 <|
    .az 0 0 <|
    .cl (ok_impl_in a0.Act 1 4) fun r7 =>
    .az 0 1 <|
    .vM 0 r7 (
     .az 0 0 <|
     .az 0 0 <|
     .az 0 0 <|
     .eD a0.Act 1 <|
     .az 0 0 <|
     .sp (r5_1 = true) (fun c8 =>
      .sp (a0.Act = 1) (fun c9 =>
       .eb c8 (nT (dT c9)) <|
       .az 0 0 <|
       .ret false) fun c9 =>
      .eb c8 (nF (dF c9)) <|
      .az 0 0 <|
      .ret true) fun c8 =>
     .sp (a0.Act = 1) (fun c9 =>
      .eb (bF c8) (nT (dT c9)) <|
      .az 0 0 <|
      .ret true) fun c9 =>
     .eb (bF c8) (nF (dF c9)) <|
     .az 0 0 <|
     .ret false) <|
    .az 0 0 <|
    .az 0 0 <|
    .az 0 0 <|
    .az 0 0 <|
    .az 0 0 <|
    .ret false) <|
   .az 0 0 <|
   .az 0 0 <|
   .az 0 0 <|
   .ret false) <|
  .az 0 0 <|
  .az 0 0 <|
  .az 0 0 <|
  .ret false) <|
 .an 0 0 <|
 .an 0 0 <|
 .an 0 0 <|
 .an 0 0 <|
 .ret false) (fn_of Tryz.func78)
theorem kV_eq {v : GValue} (h : vsz v <= 2 ^ 20) : S_q29 v = some (valB v) := by
  unfold S_q29 S_q9 S_q5 valB
  rw [if_pos ⟨h, by decide, by decide⟩, Option.bind_some]
  rw [show (5 : Int).toNat = 5 from rfl]
  cases hs : shV 5 v
  · simp
  · dsimp only
    rw [if_pos h, Option.bind_some]
    simp
theorem implKm_eq {v : GValue} (h : vsz v <= 2 ^ 20) : S_q1l v = some (kmapB v) := by
  unfold S_q1l S_q2v kmapB
  by_cases h5 : v.Kind = 5
  · rw [if_pos h5, kV_eq h, Option.bind_some, decide_eq_true h5, Bool.true_and]
    cases hv : valB v with
    | false => rfl
    | true =>
      simp only [Bool.true_and]
      unfold S_qc
      rw [if_pos (by omega)]; rfl
  · rw [if_neg h5, decide_eq_false h5]; rfl
theorem implAds_eq {l : List (List UInt8)} (h : bsz l <= 2 ^ 20) : S_qs l = some (addrsB l) := if_pos h
theorem isState_loop {s : GState} (hs : eszs s.Entries <= 2 ^ 20) : ∀ (d i m : Nat), i + d = s.Entries.length → d < m → ∃ z, L_q1c_l0 s.Entries ((s.Entries.length : Nat) : Int) s m (i : Int) = some (if gAll (entB s.Serial) GEntry.Addr s.Entries i d = true then .inr z else .inl false) := by
  have hlen := eszs_len s.Entries
  intro d
  induction d with
  | zero =>
    intro i m hi hm
    obtain ⟨m, rfl, _⟩ := fuel hm
    exact ⟨_, by rw [L_q1c_l0, if_neg (by omega)]; rfl⟩
  | succ d ih =>
    intro i m hi hm
    obtain ⟨m, rfl, hm'⟩ := fuel hm
    have hil : i < s.Entries.length := by omega
    have hz0 := eszs_mem (List.getElem_mem hil)
    obtain ⟨z, hz⟩ := ih (i + 1) m (by omega) (by omega)
    rw [L_q1c_l0, if_pos (by omega), natO_nat, Option.bind_some, get_some hil, Option.bind_some, gAll_succ]
    unfold esz at hz0
    rw [implAd_eq (by omega), Option.bind_some, implKm_eq (by omega), Option.bind_some, implAds_eq (by omega), Option.bind_some, in_eq, Option.bind_some, w64_succ (by omega), hz]
    generalize gAll _ GEntry.Addr s.Entries (i + 1) d = g
    by_cases h0 : 0 < i
    · rw [gOk_eq hil h0]
      unfold entB
      cases addrB s.Entries[i].Addr with
      | false => exact ⟨0, rfl⟩
      | true =>
        dsimp only
        rw [if_pos (by omega), w64_pred (by omega) h0, natO_nat, Option.bind_some, get_some (show i - 1 < s.Entries.length by omega), Option.bind_some]
        unfold S_q1m S_q1q
        simp only [Option.bind_some]
        have hc := less_cmp s.Entries[i - 1].Addr s.Entries[i].Addr
        generalize Lib.compareBytes s.Entries[i - 1].Addr s.Entries[i].Addr = q at hc ⊢
        generalize Op.bytesLess s.Entries[i - 1].Addr s.Entries[i].Addr = b at hc ⊢
        refine ⟨z, ?_⟩
        cases b with
        | true =>
          rw [if_neg (by rw [hc]; exact fun h => h rfl)]
          cases kmapB s.Entries[i].Val <;> cases addrsB s.Entries[i].Deps <;> cases decide (1 <= s.Entries[i].Turned ∧ s.Entries[i].Turned <= s.Serial) <;> simp
        | false =>
          rw [if_pos (by rw [hc]; simp)]
          simp
    · obtain rfl : i = 0 := by omega
      rw [gOk_zero hil]
      unfold entB
      cases addrB s.Entries[0].Addr with
      | false => exact ⟨0, rfl⟩
      | true =>
        dsimp only
        rw [if_neg (by omega)]
        refine ⟨z, ?_⟩
        cases kmapB s.Entries[0].Val <;> cases addrsB s.Entries[0].Deps <;> cases decide (1 <= s.Entries[0].Turned ∧ s.Entries[0].Turned <= s.Serial) <;> simp
def S_q1c (a0 : GState) : Option Bool := if ssz a0 <= 2 ^ 20 then some (stB a0) else none
theorem implSt_eq {s : GState} (h : ssz s <= 2 ^ 20) : S_q1c s = some (stB s) := if_pos h
theorem isState_val {s : GState} (h : ssz s <= 2 ^ 20) : T_q1c (s.Entries.length + 1) s = some (stB s) := by
  have hlen := eszs_len s.Entries
  unfold ssz at h
  obtain ⟨z, hz⟩ := isState_loop (s := s) (by omega) s.Entries.length 0 (s.Entries.length + 1) (by omega) (by omega)
  rw [show ((0 : Nat) : Int) = 0 from rfl] at hz
  unfold T_q1c
  rw [in_eq, Option.bind_some]
  unfold stB
  by_cases h1 : (0 : Int) <= s.Serial ∧ s.Serial <= 1000000
  · rw [decide_eq_true h1]
    dsimp only
    by_cases h2 : (16 : Int) < ((s.Entries.length : Nat) : Int)
    · rw [if_pos h2, decide_eq_false (p := 0 <= s.Serial ∧ s.Serial <= 1000000 ∧ s.Entries.length <= 16) (by omega)]; rfl
    rw [if_neg h2, hz, decide_eq_true (p := 0 <= s.Serial ∧ s.Serial <= 1000000 ∧ s.Entries.length <= 16) (by omega), Bool.true_and]
    have he : entsB s = gAll (entB s.Serial) GEntry.Addr s.Entries 0 s.Entries.length := rfl
    cases hg : gAll (entB s.Serial) GEntry.Addr s.Entries 0 s.Entries.length with
    | false => rw [he, hg]; rfl
    | true =>
      rw [he, hg, Bool.true_and]
      simp only [if_true, Option.bind_some]
      unfold pendB
      by_cases hp : s.Pending = []
      · rw [if_pos (by rw [hp]; rfl), if_pos hp]
      · have hp0 : ¬ ((s.Pending.length : Nat) : Int) = 0 := fun e => hp (List.eq_nil_of_length_eq_zero (by omega))
        rw [if_neg hp0, if_neg hp]
        unfold S_q1e
        obtain ⟨c, _, hc⟩ := eat_eq (x := s.Pending) (a := s.Entries) (by omega) (gAll_asc hg)
        rw [hc, Option.bind_some, Option.bind_some]
        dsimp only
        rw [implAd_eq (by omega), Option.bind_some, in_eq, Option.bind_some]
        cases s.Open
        · rfl
        cases addrB s.Pending
        · rfl
        by_cases ha : (1 : Int) <= s.Act ∧ s.Act <= 4
        · rw [decide_eq_true ha]
          by_cases h1 : s.Act = 1 <;> cases hasB s.Entries s.Pending <;> simp [h1]
        · rw [decide_eq_false ha]; rfl
  · rw [decide_eq_false h1, decide_eq_false (p := 0 <= s.Serial ∧ s.Serial <= 1000000 ∧ s.Entries.length <= 16) (fun h => h1 ⟨h.1, h.2.1⟩)]; rfl
theorem spec_q1c (a0 : GState) (r : Bool) (h : S_q1c a0 = some r) : ∃ n, T_q1c n a0 = some r := by
  unfold S_q1c at h
  obtain ⟨ha, h⟩ := need_c h
  exact ⟨_, by rw [<- h]; exact isState_val ha⟩
theorem ok_q1c : K_q1c S_q1c := fun a0 r h => (spec_q1c a0 r h).elim fun n hn => g_impl_isState n a0 r hn
def S_q2u (a0 : GValue) : Option Bool :=
 if a0.Kind = 0 then
  if a0.N = 0 then
   if ((a0.S.length : Nat) : Int) = 0 then
    if ((a0.K.length : Nat) : Int) = 0 then
     some (decide (((a0.L.length : Nat) : Int) = 0))
    else
    some false
   else
   some false
  else
  some false
 else
 some false
theorem ok_q2u (a0 : GValue) : Oc (S_q2u a0) 136 [] [.val true (x_GValue a0)] fun r => (vb r, []) := tc (
 .eI a0.Kind 0 (fun c1 =>
  .eI a0.N 0 (fun c2 =>
   .le e_u8 a0.S <|
   .eI ((a0.S.length : Nat) : Int) 0 (fun c3 =>
    .le (e_sl e_u8) a0.K <|
    .eI ((a0.K.length : Nat) : Int) 0 (fun c4 =>
     .le e_GValue a0.L <|
     .eD ((a0.L.length : Nat) : Int) 0 <|
     .ret (decide (((a0.L.length : Nat) : Int) = 0))) fun c4 =>
    .ret false) fun c3 =>
   .ret false) fun c2 =>
  .ret false) fun c1 =>
 .ret false) (fn_of Tryz.func136)
def S_q2p (a0 : GEvent) : Option Bool :=
 if a0.Kind = 2 then
  (S_q1i a0.Addr).bind fun r2 =>
  match r2 with
  | true =>
   if a0.Act = 0 then
    (S_q1l a0.Val).bind fun r4 =>
    match r4 with
    | true =>
     (S_qs a0.Deps).bind fun r5 =>
     some r5
    | false =>
     some false
   else
   some false
  | false =>
   some false
 else
 (S_q2u a0.Val).bind fun r2 =>
 match r2 with
 | true =>
  if 0 < ((a0.Deps.length : Nat) : Int) then
   some false
  else
  if a0.Kind = 0 then
   if ((a0.Addr.length : Nat) : Int) = 0 then
    some (decide (a0.Act = 0))
   else
   some false
  else
  if a0.Kind = 5 then
   if ((a0.Addr.length : Nat) : Int) = 0 then
    some (decide (a0.Act = 0))
   else
   some false
  else
  if a0.Kind = 6 then
   if ((a0.Addr.length : Nat) : Int) = 0 then
    some (decide (a0.Act = 0))
   else
   some false
  else
  if a0.Kind = 1 then
   (S_q1i a0.Addr).bind fun r8 =>
   match r8 with
   | true =>
    (S_impl_in a0.Act 1 4).bind fun r9 =>
    some r9
   | false =>
    some false
  else
  if a0.Kind = 3 then
   (S_q1i a0.Addr).bind fun r9 =>
   match r9 with
   | true =>
    some (decide (a0.Act = 0))
   | false =>
    some false
  else
  if a0.Kind = 4 then
   (S_q1i a0.Addr).bind fun r10 =>
   match r10 with
   | true =>
    some (decide (a0.Act = 0))
   | false =>
    some false
  else
  some false
 | false =>
  some false
theorem ok_q2p (a0 : GEvent) : Oc (S_q2p a0) 79 [] [.val true (x_GEvent a0)] fun r => (vb r, []) := tc (
 .eI a0.Kind 2 (fun c1 =>
  .cl (ok_q1i a0.Addr) fun r2 =>
  .vM 0 r2 (
   .az 0 0 <|
   .az 0 0 <|
   .eD a0.Act 0 <|
   .az 0 0 <|
   .cI 0 (a0.Act = 0) (fun c3 =>
    .kT 0 (dT c3) <|
    .kT 0 (dT c3) <|
    .cl (ok_q1l a0.Val) fun r4 =>
    .kT 0 (dT c3) <|
    .vM 0 r4 (
     .az 0 0 <|
     .az 0 0 <|
     .cl (ok_qs a0.Deps) fun r5 =>
     .az 0 1 <|
     .ret r5) <|
    .az 0 0 <|
    .az 0 0 <|
    .az 0 0 <|
    .ret false) fun c3 =>
   .kF 0 (dF c3) <|
   .kF 0 (dF c3) <|
   .kF 0 (dF c3) <|
   .ret false) <|
  .az 0 0 <|
  .az 0 0 <|
  .az 0 0 <|
  .ret false) fun c1 =>
 .cl (ok_q2u a0.Val) fun r2 =>
 .vN 0 r2 (
  .an 0 0 <|
  .an 0 0 <|
  .le (e_sl e_u8) a0.Deps <|
  .an 0 0 <|
  .lI 0 ((a0.Deps.length : Nat) : Int) (fun c3 =>
   .an 0 0 <|
   .ret false) fun c3 =>
  .an 0 0 <|
  .eI a0.Kind 0 (fun c4 =>
   .le e_u8 a0.Addr <|
   .eI ((a0.Addr.length : Nat) : Int) 0 (fun c5 =>
    .eD a0.Act 0 <|
    .ret (decide (a0.Act = 0))) fun c5 =>
   .ret false) fun c4 =>
  .eI a0.Kind 5 (fun c5 =>
   .le e_u8 a0.Addr <|
   .eI ((a0.Addr.length : Nat) : Int) 0 (fun c6 =>
    .eD a0.Act 0 <|
    .ret (decide (a0.Act = 0))) fun c6 =>
   .ret false) fun c5 =>
  .eI a0.Kind 6 (fun c6 =>
   .le e_u8 a0.Addr <|
   .eI ((a0.Addr.length : Nat) : Int) 0 (fun c7 =>
    .eD a0.Act 0 <|
    .ret (decide (a0.Act = 0))) fun c7 =>
   .ret false) fun c6 =>
  .eI a0.Kind 1 (fun c7 =>
   .cl (ok_q1i a0.Addr) fun r8 =>
   .vM 0 r8 (
    .az 0 0 <|
    .az 0 0 <|
    .cl (ok_impl_in a0.Act 1 4) fun r9 =>
    .az 0 1 <|
    .ret r9) <|
   .az 0 0 <|
   .az 0 0 <|
   .az 0 0 <|
   .ret false) fun c7 =>
  .eI a0.Kind 3 (fun c8 =>
   .cl (ok_q1i a0.Addr) fun r9 =>
   .vM 0 r9 (
    .az 0 0 <|
    .az 0 0 <|
    .eD a0.Act 0 <|
    .az 0 0 <|
    .ret (decide (a0.Act = 0))) <|
   .az 0 0 <|
   .az 0 0 <|
   .az 0 0 <|
   .ret false) fun c8 =>
  .eI a0.Kind 4 (fun c9 =>
   .cl (ok_q1i a0.Addr) fun r10 =>
   .vM 0 r10 (
    .az 0 0 <|
    .az 0 0 <|
    .eD a0.Act 0 <|
    .az 0 0 <|
    .ret (decide (a0.Act = 0))) <|
   .az 0 0 <|
   .az 0 0 <|
   .az 0 0 <|
   .ret false) fun c9 =>
  .ret false) <|
 .an 0 0 <|
 .an 0 0 <|
 .an 0 0 <|
 .an 0 0 <|
 .ret false) (fn_of Tryz.func79)
def S_q17 (a0 : (List UInt8)) : Option (List UInt8) :=
 if roomP 1 (0 + a0.length) then
 some a0
 else none
theorem ok_q17 (a0 : (List UInt8)) : Oc (S_q17 a0) 119 [] [vq e_u8 a0] fun r => (.val false [.own 1 (eL e_u8 r)], []) := tc (
 .ap 1 E_u8 [] a0 fun n1 =>
 .ret a0) (fn_of Tryz.func119)
def K_qm (F : (List (List UInt8)) → Option (List (List UInt8))) : Prop := ∀ (a0 : (List (List UInt8))), Oc (F a0) 139 [] [vq (e_sl e_u8) a0] fun r => (.val false [.own 1 (eL (o_sl 1 e_u8) r)], [])
def L_qm_l0 (a0 : (List (List UInt8))) (v1 : Int) : Nat → Int → (List (List UInt8)) → Option (Int × (List (List UInt8)))
  | 0, _, _ => none
  | m + 1, v2, v3 =>
  if v2 < v1 then
   (natO v2).bind fun i2 =>
   (a0[i2]?).bind fun x3 =>
   (S_q17 x3).bind fun r4 =>
   if roomP 24 (v3.length + [r4].length) then
   L_qm_l0 a0 v1 m (w64 (v2 + 1)) (v3 ++ [r4])
   else none
  else
  some (v2, v3)
theorem gl_impl_copyTexts_l0 (a0 : (List (List UInt8))) (v1 : Int) (m : Nat) : ∀ (v2 : Int) (v3 : (List (List UInt8))), Ol (L_qm_l0 a0 v1 m v2 v3) 139 (loopB Tryz.f139 0) ⟨[(3, vr 0), (7, vq (e_sl e_u8) a0), (8, vi v1), (9, vi v2)], [.obj 1 (eL (o_sl 1 e_u8) v3)], 0⟩ fun o => match o with | ⟨o_0, o_1⟩ => (.exit 0, ⟨[(3, vr 0), (7, vq (e_sl e_u8) a0), (8, vi v1), (9, vi o_0), (10, vb false)], [.obj 1 (eL (o_sl 1 e_u8) o_1)], 0⟩) := by
  induction m with
  | zero => intro v2 v3 o h; cases h
  | succ m ih => exact fun v2 v3 => tlp (
   .lI v2 v1 (fun c1 =>
    .na v2 fun i2 =>
    .ix0 (e_sl e_u8) a0 i2 fun x3 =>
    .cl (ok_q17 x3) fun r4 =>
    .ao 24 (O_sl 1 O_u8) v3 [r4] fun n5 =>
    .go (ih (w64 (v2 + 1)) (v3 ++ [r4]))) fun c1 =>
   .ret (v2, v3))
def T_qm (n : Nat) (a0 : (List (List UInt8))) : Option (List (List UInt8)) :=
 (L_qm_l0 a0 ((a0.length : Nat) : Int) n 0 []).bind fun ⟨o1_0, o1_1⟩ =>
 some o1_1
theorem g_impl_copyTexts (n : Nat) : K_qm (T_qm n) := fun a0 => tc (
 .le (e_sl e_u8) a0 <|
 .lp (gl_impl_copyTexts_l0 a0 ((a0.length : Nat) : Int) n 0 []) fun ⟨o1_0, o1_1⟩ =>
 .ret o1_1) (fn_of Tryz.func139)
theorem copyBytes_eq {a : List UInt8} (h : a.length <= 2 ^ 39) : S_q17 a = some a := if_pos (room_ok (by decide) (by omega))
theorem copyTexts_loop {a : List (List UInt8)} (ha : bsz a <= 2 ^ 39) : ∀ (l p : List (List UInt8)) (m : Nat), a = p ++ l → l.length < m → ∃ z, L_qm_l0 a ((a.length : Nat) : Int) m ((p.length : Nat) : Int) p = some (z, a) := by
  have hl := bsz_len a
  intro l
  induction l with
  | nil =>
    intro p m he hm
    subst he
    obtain ⟨m, rfl, _⟩ := fuel hm
    exact ⟨_, by rw [L_qm_l0, if_neg (nlt_end p)]; simp; rfl⟩
  | cons x l ih =>
    intro p m he hm
    obtain ⟨m, rfl, hm'⟩ := fuel hm
    have hx : 1 + x.length <= bsz a := bsz_mem (by rw [he]; simp)
    have hlen : a.length = p.length + (l.length + 1) := by rw [he]; simp
    obtain ⟨z, hz⟩ := ih (p ++ [x]) m (by rw [he]; simp) (by simp only [List.length_cons] at hm'; omega)
    refine ⟨z, ?_⟩
    rw [L_qm_l0, if_pos (by omega), natO_nat, Option.bind_some, show a[p.length]? = some x by rw [he]; exact get_mid p x l, Option.bind_some, copyBytes_eq (by omega), Option.bind_some, if_pos (room_ok (by decide) (by simp only [List.length_cons, List.length_nil]; omega)), w64_len p x (by omega), hz]
def S_qm (a0 : (List (List UInt8))) : Option (List (List UInt8)) := if bsz a0 <= 2 ^ 39 then some a0 else none
theorem copyTexts_eq {a : List (List UInt8)} (h : bsz a <= 2 ^ 39) : S_qm a = some a := if_pos h
theorem spec_qm (a0 : (List (List UInt8))) (r : (List (List UInt8))) (h : S_qm a0 = some r) : ∃ n, T_qm n a0 = some r := by
  unfold S_qm at h
  obtain ⟨ha, h⟩ := need_c h
  obtain ⟨z, hz⟩ := copyTexts_loop ha a0 [] (a0.length + 1) rfl (by omega)
  refine ⟨a0.length + 1, ?_⟩
  unfold T_qm
  simp only [List.length_nil, Int.natCast_zero] at hz
  rw [hz]; exact h
theorem ok_qm : K_qm S_qm := fun a0 r h => (spec_qm a0 r h).elim fun n hn => g_impl_copyTexts n a0 r hn
def K_q7 (F : GValue → Option GValue) : Prop := ∀ (a0 : GValue), Oc (F a0) 138 [] [.val true (x_GValue a0)] fun r => (.val true (y_GValue r), [])
def L_q7_l0 (G_impl_copyValue : GValue → Option GValue) (v0 : (List GValue)) (v1 : Int) (v3 : Int) (v4 : Int) (v5 : Int) (v6 : Int) (v7 : (List UInt8)) (v8 : (List (List UInt8))) (v9 : (List GValue)) (v10 : (List UInt8)) (v11 : (List (List UInt8))) : Nat → Int → (List GValue) → Option (Int × (List GValue))
  | 0, _, _ => none
  | m + 1, v2, v12 =>
  if v2 < v1 then
   (natO v2).bind fun i2 =>
   (v0[i2]?).bind fun x3 =>
   (G_impl_copyValue x3).bind fun r4 =>
   if roomP 88 (v12.length + [r4].length) then
   L_q7_l0 G_impl_copyValue v0 v1 v3 v4 v5 v6 v7 v8 v9 v10 v11 m (w64 (v2 + 1)) (v12 ++ [r4])
   else none
  else
  some (v2, v12)
theorem gl_impl_copyValue_l0 (G_impl_copyValue : GValue → Option GValue) (H_impl_copyValue : K_q7 G_impl_copyValue) (v0 : (List GValue)) (v1 : Int) (v3 : Int) (v4 : Int) (v5 : Int) (v6 : Int) (v7 : (List UInt8)) (v8 : (List (List UInt8))) (v9 : (List GValue)) (v10 : (List UInt8)) (v11 : (List (List UInt8))) (m : Nat) : ∀ (v2 : Int) (v12 : (List GValue)), Ol (L_q7_l0 G_impl_copyValue v0 v1 v3 v4 v5 v6 v7 v8 v9 v10 v11 m v2 v12) 138 (loopB Tryz.f138 0) ⟨[(2, vp 0 0), (3, vp 1 0), (18, vq e_GValue v0), (19, vi v1), (20, vi v2)], [.var [ci v3, ci v4, .ref 2, .ref 3, .ref 4], .var [ci v5, ci v6, .ref 5, .ref 6, .ref 7], .obj 1 (eL e_u8 v7), .obj 1 (eL (o_sl 1 e_u8) v8), .obj 5 (eL o_GValue v9), .obj 1 (eL e_u8 v10), .obj 1 (eL (o_sl 1 e_u8) v11), .obj 5 (eL o_GValue v12)], 0⟩ fun o => match o with | ⟨o_0, o_1⟩ => (.exit 0, ⟨[(2, vp 0 0), (3, vp 1 0), (18, vq e_GValue v0), (19, vi v1), (20, vi o_0), (21, vb false)], [.var [ci v3, ci v4, .ref 2, .ref 3, .ref 4], .var [ci v5, ci v6, .ref 5, .ref 6, .ref 7], .obj 1 (eL e_u8 v7), .obj 1 (eL (o_sl 1 e_u8) v8), .obj 5 (eL o_GValue v9), .obj 1 (eL e_u8 v10), .obj 1 (eL (o_sl 1 e_u8) v11), .obj 5 (eL o_GValue o_1)], 0⟩) := by
  induction m with
  | zero => intro v2 v12 o h; cases h
  | succ m ih => exact fun v2 v12 => tlp (
   .lI v2 v1 (fun c1 =>
    .na v2 fun i2 =>
    .ix eq_GValue v0 i2 fun x3 =>
    .cl (H_impl_copyValue x3) fun r4 =>
    .nd (roomP 88 (v12.length + [r4].length)) fun n5 =>
    .q ⟨.room 88 (eL o_GValue v12) ([(y_GValue r4)] : List (List C)), .b true, by rw [(show ([(y_GValue r4)] : List (List C)) = eL o_GValue [r4] from (raw_cons (oeq_GValue r4) raw_nil))]; exact (A.room n5)⟩ <|
    .q ⟨.uni 5 ([(y_GValue r4)] : List (List C)), .b true, by rw [(show ([(y_GValue r4)] : List (List C)) = eL o_GValue [r4] from (raw_cons (oeq_GValue r4) raw_nil))]; exact (A.uniO O_GValue)⟩ <|
    .q ⟨.app (eL o_GValue v12) ([(y_GValue r4)] : List (List C)), .l (eL o_GValue (v12 ++ [r4])), by rw [(show ([(y_GValue r4)] : List (List C)) = eL o_GValue [r4] from (raw_cons (oeq_GValue r4) raw_nil))]; exact A.app⟩ <|
    .go (ih (w64 (v2 + 1)) (v12 ++ [r4]))) fun c1 =>
   .ret (v2, v12))
def T_q7 (G_impl_copyValue : GValue → Option GValue) (n : Nat) (a0 : GValue) : Option GValue :=
 (S_q17 a0.S).bind fun r1 =>
 (S_qm a0.K).bind fun r2 =>
 (L_q7_l0 G_impl_copyValue a0.L ((a0.L.length : Nat) : Int) 0 0 a0.Kind a0.N [] [] [] r1 r2 n 0 []).bind fun ⟨o3_0, o3_1⟩ =>
 some (GValue.mk a0.Kind a0.N r1 r2 o3_1)
theorem g_impl_copyValue (G_impl_copyValue : GValue → Option GValue) (H_impl_copyValue : K_q7 G_impl_copyValue) (n : Nat) : K_q7 (T_q7 G_impl_copyValue n) := fun a0 => tc (
 .cl (ok_q17 a0.S) fun r1 =>
 .cl (ok_qm a0.K) fun r2 =>
 .le e_GValue a0.L <|
 .lp (gl_impl_copyValue_l0 G_impl_copyValue H_impl_copyValue a0.L ((a0.L.length : Nat) : Int) 0 0 a0.Kind a0.N [] [] [] r1 r2 n 0 []) fun ⟨o3_0, o3_1⟩ =>
 .ret (GValue.mk a0.Kind a0.N r1 r2 o3_1)) (fn_of Tryz.func138)
def U_q7 : Nat → GValue → Option GValue
  | 0, _ => none
  | n + 1, a0 => T_q7 (U_q7 n) n a0
theorem rec_impl_copyValue (n : Nat) : K_q7 (U_q7 n) := by
  induction n with
  | zero => exact fun _ _ h => (by rw [U_q7] at h; cases h)
  | succ n ih =>
    have ih_impl_copyValue := ih
    exact fun a0 r h => g_impl_copyValue (U_q7 n) ih_impl_copyValue n a0 r (by rw [U_q7] at h; exact h)
theorem copyValue_loop {G : GValue → Option GValue} {a : List GValue} {v3 v4 v5 v6 : Int} {v7 : List UInt8} {v8 : List (List UInt8)} {v9 : List GValue} {v10 : List UInt8} {v11 : List (List UInt8)} (ha : a.length <= 2 ^ 39) : ∀ (l p : List GValue) (m : Nat), a = p ++ l → (∀ x ∈ l, G x = some x) → l.length < m → ∃ z, L_q7_l0 G a ((a.length : Nat) : Int) v3 v4 v5 v6 v7 v8 v9 v10 v11 m ((p.length : Nat) : Int) p = some (z, a) := by
  intro l
  induction l with
  | nil =>
    intro p m he _ hm
    subst he
    obtain ⟨m, rfl, _⟩ := fuel hm
    exact ⟨_, by rw [L_q7_l0, if_neg (nlt_end p)]; simp; rfl⟩
  | cons x l ih =>
    intro p m he hG hm
    obtain ⟨m, rfl, hm'⟩ := fuel hm
    have hlen : a.length = p.length + (l.length + 1) := by rw [he]; simp
    obtain ⟨z, hz⟩ := ih (p ++ [x]) m (by rw [he]; simp) (fun y hy => hG y (List.mem_cons_of_mem _ hy)) (by simp only [List.length_cons] at hm'; omega)
    refine ⟨z, ?_⟩
    rw [L_q7_l0, if_pos (by omega), natO_nat, Option.bind_some, show a[p.length]? = some x by rw [he]; exact get_mid p x l, Option.bind_some, hG x List.mem_cons_self, Option.bind_some, if_pos (room_ok (by decide) (by simp only [List.length_cons, List.length_nil]; omega)), w64_len p x (by omega), hz]
theorem copyValue_U : ∀ (N : Nat) (v : GValue), vsz v < N → vsz v <= 2 ^ 39 → ∀ f : Nat, vsz v + 2 <= f → U_q7 f v = some v := by
  intro N
  induction N with
  | zero => intro v hv; omega
  | succ N ih =>
    intro v hv hs f hf
    obtain ⟨f, rfl, _⟩ := fuel (show 0 < f by omega)
    have he := vsz_eq v
    have hl := vszs_len v.L
    rw [U_q7]
    unfold T_q7
    rw [copyBytes_eq (by omega), copyTexts_eq (by omega)]
    simp only [Option.bind_some]
    obtain ⟨z, hz⟩ := copyValue_loop (G := U_q7 f) (a := v.L) (v3 := 0) (v4 := 0) (v5 := v.Kind) (v6 := v.N) (v7 := []) (v8 := []) (v9 := []) (v10 := v.S) (v11 := v.K) (by omega) v.L [] f rfl (fun x hx => by
      have := vszs_mem hx
      exact ih x (by omega) (by omega) f (by omega)) (by omega)
    simp only [List.length_nil, Int.natCast_zero] at hz
    rw [hz]
    exact congrArg some (GValue.eta v)
def S_q7 (a0 : GValue) : Option GValue := if vsz a0 <= 2 ^ 39 then some a0 else none
theorem spec_q7 (a0 : GValue) (r : GValue) (h : S_q7 a0 = some r) : ∃ n, U_q7 n a0 = some r := by
  unfold S_q7 at h
  obtain ⟨ha, h⟩ := need_c h
  exact ⟨vsz a0 + 2, by rw [<- h]; exact copyValue_U _ a0 (Nat.lt_succ_self _) ha _ (Nat.le_refl _)⟩
theorem ok_q7 : K_q7 S_q7 := by
  intro a0 r h
  obtain ⟨n, hn⟩ := spec_q7 a0 r h
  exact (rec_impl_copyValue n) a0 r hn
def S_q2g (a0 : GEntry) : Option GEntry :=
 (S_q17 a0.Addr).bind fun r1 =>
 (S_q7 a0.Val).bind fun r2 =>
 (S_qm a0.Deps).bind fun r3 =>
 some (GEntry.mk r1 r2 r3 a0.Taint a0.Turned)
theorem ok_q2g (a0 : GEntry) : Oc (S_q2g a0) 177 [] [.val true (x_GEntry a0)] fun r => (.val true (y_GEntry r), []) := tc (
 .cl (ok_q17 a0.Addr) fun r1 =>
 .cl (ok_q7 a0.Val) fun r2 =>
 .cl (ok_qm a0.Deps) fun r3 =>
 .ret (GEntry.mk r1 r2 r3 a0.Taint a0.Turned)) (fn_of Tryz.func177)
def K_q11 (F : GState → Option GState) : Prop := ∀ (a0 : GState), Oc (F a0) 137 [] [.val true (x_GState a0)] fun r => (.val true (y_GState r), [])
def L_q11_l0 (v0 : (List GEntry)) (v1 : Int) (v3 : Int) (v4 : Bool) (v5 : Int) (v6 : Int) (v7 : Bool) (v8 : Int) (v9 : (List UInt8)) (v10 : (List GEntry)) (v11 : (List UInt8)) : Nat → Int → (List GEntry) → Option (Int × (List GEntry))
  | 0, _, _ => none
  | m + 1, v2, v12 =>
  if v2 < v1 then
   (natO v2).bind fun i2 =>
   (v0[i2]?).bind fun x3 =>
   (S_q2g x3).bind fun r4 =>
   if roomP 152 (v12.length + [r4].length) then
   L_q11_l0 v0 v1 v3 v4 v5 v6 v7 v8 v9 v10 v11 m (w64 (v2 + 1)) (v12 ++ [r4])
   else none
  else
  some (v2, v12)
theorem gl_impl_copyState_l0 (v0 : (List GEntry)) (v1 : Int) (v3 : Int) (v4 : Bool) (v5 : Int) (v6 : Int) (v7 : Bool) (v8 : Int) (v9 : (List UInt8)) (v10 : (List GEntry)) (v11 : (List UInt8)) (m : Nat) : ∀ (v2 : Int) (v12 : (List GEntry)), Ol (L_q11_l0 v0 v1 v3 v4 v5 v6 v7 v8 v9 v10 v11 m v2 v12) 137 (loopB Tryz.f137 0) ⟨[(2, vp 0 0), (3, vp 1 0), (17, vq e_GEntry v0), (18, vi v1), (19, vi v2)], [.var [ci v3, .bool v4, .ref 2, ci v5, .ref 3], .var [ci v6, .bool v7, .ref 4, ci v8, .ref 5], .obj 1 (eL e_u8 v9), .obj 9 (eL o_GEntry v10), .obj 1 (eL e_u8 v11), .obj 9 (eL o_GEntry v12)], 0⟩ fun o => match o with | ⟨o_0, o_1⟩ => (.exit 0, ⟨[(2, vp 0 0), (3, vp 1 0), (17, vq e_GEntry v0), (18, vi v1), (19, vi o_0), (20, vb false)], [.var [ci v3, .bool v4, .ref 2, ci v5, .ref 3], .var [ci v6, .bool v7, .ref 4, ci v8, .ref 5], .obj 1 (eL e_u8 v9), .obj 9 (eL o_GEntry v10), .obj 1 (eL e_u8 v11), .obj 9 (eL o_GEntry o_1)], 0⟩) := by
  induction m with
  | zero => intro v2 v12 o h; cases h
  | succ m ih => exact fun v2 v12 => tlp (
   .lI v2 v1 (fun c1 =>
    .na v2 fun i2 =>
    .ix eq_GEntry v0 i2 fun x3 =>
    .cl (ok_q2g x3) fun r4 =>
    .ao 152 O_GEntry v12 [r4] fun n5 =>
    .go (ih (w64 (v2 + 1)) (v12 ++ [r4]))) fun c1 =>
   .ret (v2, v12))
def T_q11 (n : Nat) (a0 : GState) : Option GState :=
 (S_q17 a0.Pending).bind fun r1 =>
 (L_q11_l0 a0.Entries ((a0.Entries.length : Nat) : Int) 0 false 0 a0.Serial a0.Open a0.Act [] [] r1 n 0 []).bind fun ⟨o2_0, o2_1⟩ =>
 some (GState.mk a0.Serial a0.Open r1 a0.Act o2_1)
theorem g_impl_copyState (n : Nat) : K_q11 (T_q11 n) := fun a0 => tc (
 .cl (ok_q17 a0.Pending) fun r1 =>
 .le e_GEntry a0.Entries <|
 .lp (gl_impl_copyState_l0 a0.Entries ((a0.Entries.length : Nat) : Int) 0 false 0 a0.Serial a0.Open a0.Act [] [] r1 n 0 []) fun ⟨o2_0, o2_1⟩ =>
 .ret (GState.mk a0.Serial a0.Open r1 a0.Act o2_1)) (fn_of Tryz.func137)
theorem copyE_eq0 {e : GEntry} (h : esz e <= 2 ^ 38) : S_q2g e = some e := by
  unfold esz at h
  unfold S_q2g S_q17 S_q7 S_qm
  rw [if_pos (room_ok (by decide) (by omega)), Option.bind_some, if_pos (by omega), Option.bind_some, if_pos (by omega), Option.bind_some]
  cases e; rfl
theorem copyS_loop {a : List GEntry} {v3 : Int} {v4 : Bool} {v5 v6 : Int} {v7 : Bool} {v8 : Int} {v9 : List UInt8} {v10 : List GEntry} {v11 : List UInt8} (ha : eszs a <= 2 ^ 38) : ∀ (l p : List GEntry) (m : Nat), a = p ++ l → l.length < m → ∃ z, L_q11_l0 a ((a.length : Nat) : Int) v3 v4 v5 v6 v7 v8 v9 v10 v11 m ((p.length : Nat) : Int) p = some (z, a) := by
  have hl := eszs_len a
  intro l
  induction l with
  | nil =>
    intro p m he hm
    obtain ⟨m, rfl, _⟩ := fuel hm
    exact ⟨_, by rw [L_q11_l0, he, List.append_nil, if_neg (by omega)]⟩
  | cons x l ih =>
    intro p m he hm
    obtain ⟨m, rfl, hm'⟩ := fuel hm
    have hx : 1 + esz x <= eszs a := eszs_mem (by rw [he]; simp)
    have hlen : a.length = p.length + (l.length + 1) := by rw [he]; simp
    obtain ⟨z, hz⟩ := ih (p ++ [x]) m (by rw [he]; simp) (by simp only [List.length_cons] at hm'; omega)
    refine ⟨z, ?_⟩
    rw [L_q11_l0, if_pos (by omega), natO_nat, Option.bind_some, show a[p.length]? = some x by rw [he]; exact get_mid p x l, Option.bind_some, copyE_eq0 (by omega), Option.bind_some, if_pos (room152 (by simp only [List.length_cons, List.length_nil]; omega)), w64_len p x (by omega), hz]
def S_q11 (a0 : GState) : Option GState := if ssz a0 <= 2 ^ 38 then some a0 else none
theorem spec_q11 (a0 : GState) (r : GState) (h : S_q11 a0 = some r) : ∃ n, T_q11 n a0 = some r := by
  unfold S_q11 at h
  obtain ⟨ha, h⟩ := need_c h
  unfold ssz at ha
  refine ⟨a0.Entries.length + 1, ?_⟩
  unfold T_q11 S_q17
  obtain ⟨z, hz⟩ := copyS_loop (a := a0.Entries) (v3 := 0) (v4 := false) (v5 := 0) (v6 := a0.Serial) (v7 := a0.Open) (v8 := a0.Act) (v9 := []) (v10 := []) (v11 := a0.Pending) (by omega) a0.Entries [] (a0.Entries.length + 1) rfl (by omega)
  simp only [List.length_nil, Int.natCast_zero] at hz
  rw [if_pos (room_ok (by decide) (by omega)), Option.bind_some, hz, <- h]
  cases a0; rfl
theorem ok_q11 : K_q11 S_q11 := fun a0 r h => (spec_q11 a0 r h).elim fun n hn => g_impl_copyState n a0 r hn
def S_q2c (a0 : GState) (a1 : GEvent) : Option Bool :=
 (S_q1e a0 a1.Addr).bind fun ⟨r1_0, r1_1⟩ =>
 if a0.Serial = 1000000 then
  some false
 else
 if a1.Kind = 0 then
  some (!a0.Open)
 else
 if a1.Kind = 1 then
  match a0.Open with
  | true =>
   if ((a0.Pending.length : Nat) : Int) = 0 then
    if r1_1 = true then
     if a1.Act = 1 then
      some false
     else
     some true
    else
    if a1.Act = 1 then
     some (decide (((a0.Entries.length : Nat) : Int) < 16))
    else
    some false
   else
   some false
  | false =>
   some false
 else
 if a1.Kind = 2 then
  (S_q1j a0.Pending a1.Addr).bind fun r6 =>
  match r6 with
  | true =>
   some (!(decide (a0.Act = 4)))
  | false =>
   some false
 else
 if a1.Kind = 3 then
  (S_q1j a0.Pending a1.Addr).bind fun r7 =>
  match r7 with
  | true =>
   some (decide (a0.Act = 4))
  | false =>
   some false
 else
 if a1.Kind = 4 then
  (S_q1j a0.Pending a1.Addr).bind fun r8 =>
  some r8
 else
 if a1.Kind = 5 then
  match a0.Open with
  | true =>
   some (decide (((a0.Pending.length : Nat) : Int) = 0))
  | false =>
   some false
 else
 some a0.Open
theorem ok_q2c (a0 : GState) (a1 : GEvent) : Oc (S_q2c a0 a1) 103 [] [.val true (x_GState a0), .val true (x_GEvent a1)] fun r => (vb r, []) := tc (
 .cl (ok_q1e a0 a1.Addr) fun ⟨r1_0, r1_1⟩ =>
 .eI a0.Serial 1000000 (fun c2 =>
  .ret false) fun c2 =>
 .eI a1.Kind 0 (fun c3 =>
  .ret (!a0.Open)) fun c3 =>
 .eI a1.Kind 1 (fun c4 =>
  .vM 1 a0.Open (
   .az 0 0 <|
   .az 0 0 <|
   .le e_u8 a0.Pending <|
   .az 0 0 <|
   .eD ((a0.Pending.length : Nat) : Int) 0 <|
   .az 0 0 <|
   .cI 0 (((a0.Pending.length : Nat) : Int) = 0) (fun c5 =>
    .kT 0 (dT c5) <|
    .kT 0 (dT c5) <|
    .kT 0 (dT c5) <|
    .eD a1.Act 1 <|
    .kT 0 (dT c5) <|
    .sp (r1_1 = true) (fun c6 =>
     .sp (a1.Act = 1) (fun c7 =>
      .eb c6 (nT (dT c7)) <|
      .kT 0 (dT c5) <|
      .ret false) fun c7 =>
     .eb c6 (nF (dF c7)) <|
     .kT 0 (dT c5) <|
     .kT 2 c6 <|
     .kT 0 c6 <|
     .kT 0 c6 <|
     .kT 0 c6 <|
     .kT 1 c6 <|
     .ret true) fun c6 =>
    .sp (a1.Act = 1) (fun c7 =>
     .eb (bF c6) (nT (dT c7)) <|
     .kT 0 (dT c5) <|
     .kF 2 (bF c6) <|
     .kF 0 (bF c6) <|
     .kF 0 (bF c6) <|
     .le e_GEntry a0.Entries <|
     .kF 0 (bF c6) <|
     .lD ((a0.Entries.length : Nat) : Int) 16 <|
     .kF 1 (bF c6) <|
     .ret (decide (((a0.Entries.length : Nat) : Int) < 16))) fun c7 =>
    .eb (bF c6) (nF (dF c7)) <|
    .kT 0 (dT c5) <|
    .ret false) fun c5 =>
   .kF 0 (dF c5) <|
   .kF 0 (dF c5) <|
   .kF 0 (dF c5) <|
   .kF 0 (dF c5) <|
   .kF 0 (dF c5) <|
   .ret false) <|
  .az 0 0 <|
  .az 0 0 <|
  .az 0 0 <|
  .az 0 0 <|
  .ret false) fun c4 =>
 .eI a1.Kind 2 (fun c5 =>
  .cl (ok_q1j a0.Pending a1.Addr) fun r6 =>
  .vM 0 r6 (
   .az 0 0 <|
   .az 0 0 <|
   .eD a0.Act 4 <|
   .az 0 0 <|
   .ret (!(decide (a0.Act = 4)))) <|
  .az 0 0 <|
  .az 0 0 <|
  .az 0 0 <|
  .ret false) fun c5 =>
 .eI a1.Kind 3 (fun c6 =>
  .cl (ok_q1j a0.Pending a1.Addr) fun r7 =>
  .vM 0 r7 (
   .az 0 0 <|
   .az 0 0 <|
   .eD a0.Act 4 <|
   .az 0 0 <|
   .ret (decide (a0.Act = 4))) <|
  .az 0 0 <|
  .az 0 0 <|
  .az 0 0 <|
  .ret false) fun c6 =>
 .eI a1.Kind 4 (fun c7 =>
  .cl (ok_q1j a0.Pending a1.Addr) fun r8 =>
  .ret r8) fun c7 =>
 .eI a1.Kind 5 (fun c8 =>
  .vM 1 a0.Open (
   .az 0 0 <|
   .az 0 0 <|
   .le e_u8 a0.Pending <|
   .az 0 0 <|
   .eD ((a0.Pending.length : Nat) : Int) 0 <|
   .az 0 0 <|
   .ret (decide (((a0.Pending.length : Nat) : Int) = 0))) <|
  .az 0 0 <|
  .az 0 0 <|
  .az 0 0 <|
  .az 0 0 <|
  .ret false) fun c8 =>
 .ret a0.Open) (fn_of Tryz.func103)
def S_q1w (a0 : Bool) (e0_0 : Int) (e0_1 : Bool) (e0_3 : Int) (e1 : (List UInt8)) (e2 : (List GEntry)) : Option GState :=
 if ((e1.length : Nat) : Int) = 0 then
  some (GState.mk e0_0 e0_1 e1 e0_3 e2)
 else
 (S_q1e (GState.mk e0_0 e0_1 e1 e0_3 e2) e1).bind fun ⟨r2_0, r2_1⟩ =>
 match r2_1 with
 | true =>
  (natO r2_0).bind fun i3 =>
  (e2[i3]?).bind fun x4 =>
  ((e2.set i3 (GEntry.mk x4.Addr x4.Val x4.Deps true x4.Turned))[i3]?).bind fun x5 =>
  some (GState.mk e0_0 e0_1 e1 e0_3 ((e2.set i3 (GEntry.mk x4.Addr x4.Val x4.Deps true x4.Turned)).set i3 (GEntry.mk x5.Addr x5.Val x5.Deps x5.Taint e0_0)))
 | false =>
  match a0 with
  | true =>
   (S_q17 e1).bind fun r3 =>
   (S_q1p r2_0 e2 [(GEntry.mk r3 (GValue.mk 5 0 [] [] []) [] false 0)]).bind fun r4 =>
   (natO r2_0).bind fun i5 =>
   (r4[i5]?).bind fun x6 =>
   ((r4.set i5 (GEntry.mk x6.Addr x6.Val x6.Deps true x6.Turned))[i5]?).bind fun x7 =>
   some (GState.mk e0_0 e0_1 e1 e0_3 ((r4.set i5 (GEntry.mk x6.Addr x6.Val x6.Deps true x6.Turned)).set i5 (GEntry.mk x7.Addr x7.Val x7.Deps x7.Taint e0_0)))
  | false =>
   some (GState.mk e0_0 e0_1 e1 e0_3 e2)
theorem ok_q1w (a0 : Bool) (e0_0 : Int) (e0_1 : Bool) (e0_3 : Int) (e1 : (List UInt8)) (e2 : (List GEntry)) : Oc (S_q1w a0 e0_0 e0_1 e0_3 e1 e2) 142 [.var [ci e0_0, .bool e0_1, .ref 1, ci e0_3, .ref 2], .obj 1 (eL e_u8 e1), .obj 9 (eL o_GEntry e2)] [vp 0 0, vb a0] fun r => (.tup [], [.var (y_GState r), .dead, .dead]) := tc (
 .le e_u8 e1 <|
 .eI ((e1.length : Nat) : Int) 0 (fun c1 =>
  .ret (GState.mk e0_0 e0_1 e1 e0_3 e2)) fun c1 =>
 .vw E_u8 e1 <|
 .vo O_GEntry e2 <|
 .vw E_u8 e1 <|
 .cl (ok_q1e (GState.mk e0_0 e0_1 e1 e0_3 e2) e1) fun ⟨r2_0, r2_1⟩ =>
 .vN 0 r2_1 (
  .na r2_0 fun i3 =>
  .ix oeq_GEntry e2 i3 fun x4 =>
  .ag 0 <|
  .sl (oeq_GEntry (GEntry.mk x4.Addr x4.Val x4.Deps true x4.Turned)) e2 i3 <|
  .ag 1 <|
  .ix oeq_GEntry (e2.set i3 (GEntry.mk x4.Addr x4.Val x4.Deps true x4.Turned)) i3 fun x5 =>
  .ag 0 <|
  .sl (oeq_GEntry (GEntry.mk x5.Addr x5.Val x5.Deps x5.Taint e0_0)) (e2.set i3 (GEntry.mk x4.Addr x4.Val x4.Deps true x4.Turned)) i3 <|
  .ret (GState.mk e0_0 e0_1 e1 e0_3 ((e2.set i3 (GEntry.mk x4.Addr x4.Val x4.Deps true x4.Turned)).set i3 (GEntry.mk x5.Addr x5.Val x5.Deps x5.Taint e0_0)))) <|
 .vN 0 a0 (
  .vw E_u8 e1 <|
  .cl (ok_q17 e1) fun r3 =>
  .cn O_u8 r3 <|
  .cl (ok_q1p r2_0 e2 [(GEntry.mk r3 (GValue.mk 5 0 [] [] []) [] false 0)]) fun r4 =>
  .na r2_0 fun i5 =>
  .ix oeq_GEntry r4 i5 fun x6 =>
  .ag 0 <|
  .sl (oeq_GEntry (GEntry.mk x6.Addr x6.Val x6.Deps true x6.Turned)) r4 i5 <|
  .ag 1 <|
  .ix oeq_GEntry (r4.set i5 (GEntry.mk x6.Addr x6.Val x6.Deps true x6.Turned)) i5 fun x7 =>
  .ag 0 <|
  .sl (oeq_GEntry (GEntry.mk x7.Addr x7.Val x7.Deps x7.Taint e0_0)) (r4.set i5 (GEntry.mk x6.Addr x6.Val x6.Deps true x6.Turned)) i5 <|
  .ret (GState.mk e0_0 e0_1 e1 e0_3 ((r4.set i5 (GEntry.mk x6.Addr x6.Val x6.Deps true x6.Turned)).set i5 (GEntry.mk x7.Addr x7.Val x7.Deps x7.Taint e0_0)))) <|
 .ret (GState.mk e0_0 e0_1 e1 e0_3 e2)) (fn_of Tryz.func142)
end
end Go.Am.Try
