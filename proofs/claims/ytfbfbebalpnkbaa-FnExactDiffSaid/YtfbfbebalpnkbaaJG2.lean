/- The functions of the program in plain Lean, and that the machine answers as they do; conditions at each theorem. -/
import Derived.Test.YtfbfbebalpnkbaaJG1
set_option linter.unusedVariables false
set_option linter.unusedSimpArgs false
namespace Go.Am.Try
open Go.Am Go.Proofs
set_option linter.unusedVariables false
set_option maxRecDepth 20000
set_option maxHeartbeats 2000000
noncomputable section
def wS (F : GValue → Int → Option Bool) : Prop := ∀ (a0 : GValue) (e0 : Int), Oc (F a0 e0) 103 [.var [ci e0]] [.val true (ze a0), vp 0 0] fun r => (vb r, [.var [ci e0]])
def y5 (F : (List GValue) → Int → Option Int) : Prop := ∀ (a0 : (List GValue)) (e0 : Int), Oc (F a0 e0) 122 [.var [ci e0]] [vq zb a0, .val false [.fn 103 [.ptr 0 0]]] fun r => (vi r, [.var [ci e0]])
def ya (F : (List GValue) → Int → Option Bool) : Prop := ∀ (a0 : (List GValue)) (e0 : Int), Oc (F a0 e0) 102 [.var [ci e0]] [vq zb a0, .val false [.fn 103 [.ptr 0 0]]] fun r => (vb r, [.var [ci e0]])
def jN (F : GValue → Int → Option Bool) : Prop := ∀ (a0 : GValue) (a1 : Int), Oc (F a0 a1) 75 [] [.val true (ze a0), vi a1] fun r => (vb r, [])
def kM (G_impl_isShaped : GValue → Int → Option Bool) (a0 : GValue) (e0 : Int) : Option Bool :=
 (G_impl_isShaped a0 (w64 (e0 - 1))).bind fun r1 =>
 some (!r1)
theorem Jt (G_impl_isShaped : GValue → Int → Option Bool) (H_impl_isShaped : jN G_impl_isShaped) : wS (kM G_impl_isShaped) := fun a0 e0 => tc (
 .cl (H_impl_isShaped a0 (w64 (e0 - 1))) fun r1 =>
 .ret (!r1)) (zx Try.func103)
def zH (G_impl_isShaped_1 : GValue → Int → Option Bool) (a0 : (List GValue)) (v1 : Int) (e0 : Int) : Nat → Int → Option (Int ⊕ Int)
  | 0, _ => none
  | m + 1, v2 =>
  if v2 < v1 then
   (zD v2).bind fun i2 =>
   (a0[i2]?).bind fun x3 =>
   (G_impl_isShaped_1 x3 e0).bind fun r4 =>
   match r4 with
   | true =>
    some (.inl v2)
   | false =>
    zH G_impl_isShaped_1 a0 v1 e0 m (w64 (v2 + 1))
  else
  some (.inr v2)
theorem j0 (G_impl_isShaped_1 : GValue → Int → Option Bool) (H_impl_isShaped_1 : wS G_impl_isShaped_1) (a0 : (List GValue)) (v1 : Int) (e0 : Int) (m : Nat) : ∀ (v2 : Int), Ol (zH G_impl_isShaped_1 a0 v1 e0 m v2) 122 (yg Try.f122 0) ⟨[(0, vq zb a0), (1, .val false [.fn 103 [.ptr 0 0]]), (7, vi v1), (8, vi v2)], [.var [ci e0]], 1⟩ fun o => match o with | .inl o_0 => (.ret, ⟨[(4, vi o_0)], [.var [ci e0]], 1⟩) | .inr (o_1) => (.exit 0, ⟨[(0, vq zb a0), (1, .val false [.fn 103 [.ptr 0 0]]), (7, vi v1), (8, vi o_1), (9, vb false)], [.var [ci e0]], 1⟩) := by
  induction m with
  | zero => intro v2 o h; cases h
  | succ m ih => exact fun v2 => tlp (
   .lI v2 v1 (fun c1 =>
    .na v2 fun i2 =>
    .ix eq_GValue a0 i2 fun x3 =>
    .cl (H_impl_isShaped_1 x3 e0) fun r4 =>
    .vM 0 r4 (
     .ret (.inl v2)) <|
    .go (ih (w64 (v2 + 1)))) fun c1 =>
   .ret (.inr v2))
def y6 (G_impl_isShaped_1 : GValue → Int → Option Bool) (n : Nat) (a0 : (List GValue)) (e0 : Int) : Option Int :=
 (zH G_impl_isShaped_1 a0 (a0.length : Int) e0 n 0).bind fun o1 =>
 match o1 with
 | .inl o1_0 =>
  some o1_0
 | .inr (o1_1) =>
  some (-1)
theorem kH (G_impl_isShaped_1 : GValue → Int → Option Bool) (H_impl_isShaped_1 : wS G_impl_isShaped_1) (n : Nat) : y5 (y6 G_impl_isShaped_1 n) := fun a0 e0 => tc (
 .le zb a0 <|
 .l2 (j0 G_impl_isShaped_1 H_impl_isShaped_1 a0 (a0.length : Int) e0 n 0) (fun o1_0 =>
  .ret o1_0) fun o1_1 =>
 .ret (-1)) (zx Try.func122)
def yS (G_slices_IndexFunc_Value_isShaped_1 : (List GValue) → Int → Option Int) (a0 : (List GValue)) (e0 : Int) : Option Bool :=
 (G_slices_IndexFunc_Value_isShaped_1 a0 e0).bind fun r1 =>
 some (decide (0 <= r1))
theorem jC (G_slices_IndexFunc_Value_isShaped_1 : (List GValue) → Int → Option Int) (H_slices_IndexFunc_Value_isShaped_1 : y5 G_slices_IndexFunc_Value_isShaped_1) : ya (yS G_slices_IndexFunc_Value_isShaped_1) := fun a0 e0 => tc (
 .cl (H_slices_IndexFunc_Value_isShaped_1 a0 e0) fun r1 =>
 .gD 0 r1 <|
 .ret (decide (0 <= r1))) (zx Try.func102)
def yX (G_slices_ContainsFunc_Value_isShaped_1 : (List GValue) → Int → Option Bool) (v0 : Bool) (v1 : Bool) (v2 : (List (List UInt8))) (v3 : Int) (a0 : GValue) (a1 : Int) : Nat → Int → Option (Bool ⊕ Int)
  | 0, _ => none
  | m + 1, v4 =>
  if v4 < v3 then
   (zD v4).bind fun i2 =>
   (v2[i2]?).bind fun x3 =>
   (jz x3).bind fun r4 =>
   match r4 with
   | true =>
    if 0 < v4 then
     (zD (w64 (v4 - 1))).bind fun i6 =>
     (a0.K[i6]?).bind fun x7 =>
     (yF x7 x3).bind fun r8 =>
     if 0 <= r8 then
      some (.inl false)
     else
     yX G_slices_ContainsFunc_Value_isShaped_1 v0 v1 v2 v3 a0 a1 m (w64 (v4 + 1))
    else
    yX G_slices_ContainsFunc_Value_isShaped_1 v0 v1 v2 v3 a0 a1 m (w64 (v4 + 1))
   | false =>
    some (.inl false)
  else
  some (.inr v4)
theorem WO (G_slices_ContainsFunc_Value_isShaped_1 : (List GValue) → Int → Option Bool) (H_slices_ContainsFunc_Value_isShaped_1 : ya G_slices_ContainsFunc_Value_isShaped_1) (v0 : Bool) (v1 : Bool) (v2 : (List (List UInt8))) (v3 : Int) (a0 : GValue) (a1 : Int) (m : Nat) : ∀ (v4 : Int), Ol (yX G_slices_ContainsFunc_Value_isShaped_1 v0 v1 v2 v3 a0 a1 m v4) 75 (yg Try.f75 0) ⟨[(2, vp 0 0), (3, vp 1 0), (5, vb v0), (6, vb v1), (99, vq (zu za) v2), (100, vi v3), (101, vi v4)], [.var (ze a0), .var [ci a1]], 0⟩ fun o => match o with | .inl o_0 => (.ret, ⟨[(4, vb o_0)], [], 0⟩) | .inr (o_1) => (.exit 1, ⟨[(2, vp 0 0), (3, vp 1 0), (5, vb v0), (6, vb v1), (99, vq (zu za) v2), (100, vi v3), (101, vi o_1), (102, vb false)], [.var (ze a0), .var [ci a1]], 0⟩) := by
  induction m with
  | zero => intro v4 o h; cases h
  | succ m ih => exact fun v4 => tlp (
   .lI v4 v3 (fun c1 =>
    .na v4 fun i2 =>
    .ix0 (zu za) v2 i2 fun x3 =>
    .cl (Rq x3) fun r4 =>
    .vN 0 r4 (
     .an 0 0 <|
     .lI 0 v4 (fun c5 =>
      .an 0 0 <|
      .na (w64 (v4 - 1)) fun i6 =>
      .ix0 (zu za) a0.K i6 fun x7 =>
      .cl (qm x7 x3) fun r8 =>
      .gI 0 r8 (fun c9 =>
       .an 0 3 <|
       .an 1 3 <|
       .ret (.inl false)) fun c9 =>
      .an 0 3 <|
      .an 1 3 <|
      .go (ih (w64 (v4 + 1)))) fun c5 =>
     .an 0 0 <|
     .an 9 0 <|
     .an 1 0 <|
     .go (ih (w64 (v4 + 1)))) <|
    .an 0 0 <|
    .an 0 0 <|
    .an 0 0 <|
    .an 0 0 <|
    .ret (.inl false)) fun c1 =>
   .ret (.inr v4))
def qF (G_slices_ContainsFunc_Value_isShaped_1 : (List GValue) → Int → Option Bool) (n : Nat) (a0 : GValue) (a1 : Int) : Option Bool :=
 if a1 = 0 then
  some false
 else
 if a0.Kind = 0 then
  if a0.N = 0 then
   if (a0.S.length : Int) = 0 then
    if (a0.K.length : Int) = 0 then
     some (decide ((a0.L.length : Int) = 0))
    else
    some false
   else
   some false
  else
  some false
 else
 if a0.Kind = 6 then
  if a0.N = 0 then
   if (a0.S.length : Int) = 0 then
    if (a0.K.length : Int) = 0 then
     some (decide ((a0.L.length : Int) = 0))
    else
    some false
   else
   some false
  else
  some false
 else
 if a0.Kind = 1 then
  (vE a0.N 0 1).bind fun r5 =>
  match r5 with
  | true =>
   if (a0.S.length : Int) = 0 then
    if (a0.K.length : Int) = 0 then
     some (decide ((a0.L.length : Int) = 0))
    else
    some false
   else
   some false
  | false =>
   some false
 else
 if a0.Kind = 2 then
  (vE a0.N (-1000000000000) 1000000000000).bind fun r6 =>
  match r6 with
  | true =>
   if (a0.S.length : Int) = 0 then
    if (a0.K.length : Int) = 0 then
     some (decide ((a0.L.length : Int) = 0))
    else
    some false
   else
   some false
  | false =>
   some false
 else
 if a0.Kind = 3 then
  (jy a0.S).bind fun r7 =>
  match r7 with
  | true =>
   if a0.N = 0 then
    if (a0.K.length : Int) = 0 then
     some (decide ((a0.L.length : Int) = 0))
    else
    some false
   else
   some false
  | false =>
   some false
 else
 if a0.Kind = 4 then
  if (a0.K.length : Int) = 0 then
   if a0.N = 0 then
    if (a0.S.length : Int) = 0 then
     if (a0.L.length : Int) <= 40 then
      (G_slices_ContainsFunc_Value_isShaped_1 a0.L a1).bind fun r12 =>
      some (!r12)
     else
     some false
    else
    some false
   else
   some false
  else
  some false
 else
 if a0.Kind = 5 then
  if (a0.K.length : Int) = (a0.L.length : Int) then
   (yX G_slices_ContainsFunc_Value_isShaped_1 (decide (a0.N = 0)) (decide ((a0.S.length : Int) = 0)) a0.K (a0.K.length : Int) a0 a1 n 0).bind fun o10 =>
   match o10 with
   | .inl o10_0 =>
    some o10_0
   | .inr (o10_1) =>
    if a0.N = 0 then
     if (a0.S.length : Int) = 0 then
      if (a0.L.length : Int) <= 40 then
       (G_slices_ContainsFunc_Value_isShaped_1 a0.L a1).bind fun r14 =>
       some (!r14)
      else
      some false
     else
     some false
    else
    some false
  else
  some false
 else
 some false
theorem Vi (G_slices_ContainsFunc_Value_isShaped_1 : (List GValue) → Int → Option Bool) (H_slices_ContainsFunc_Value_isShaped_1 : ya G_slices_ContainsFunc_Value_isShaped_1) (n : Nat) : jN (qF G_slices_ContainsFunc_Value_isShaped_1 n) := fun a0 a1 => tc (
 .eI a1 0 (fun c1 =>
  .ret false) fun c1 =>
 .eD a0.N 0 <|
 .le za a0.S <|
 .eD (a0.S.length : Int) 0 <|
 .le (zu za) a0.K <|
 .eD (a0.K.length : Int) 0 <|
 .le zb a0.L <|
 .eD (a0.L.length : Int) 0 <|
 .eI a0.Kind 0 (fun c2 =>
  .cI 2 (a0.N = 0) (fun c3 =>
   .kT 0 (dT c3) <|
   .cI 0 ((a0.S.length : Int) = 0) (fun c4 =>
    .kT 0 (dT c4) <|
    .cI 0 ((a0.K.length : Int) = 0) (fun c5 =>
     .kT 0 (dT c5) <|
     .ret (decide ((a0.L.length : Int) = 0))) fun c5 =>
    .kF 0 (dF c5) <|
    .ret false) fun c4 =>
   .kF 0 (dF c4) <|
   .ret false) fun c3 =>
  .kF 0 (dF c3) <|
  .ret false) fun c2 =>
 .eI a0.Kind 6 (fun c3 =>
  .cI 1 (a0.N = 0) (fun c4 =>
   .kT 0 (dT c4) <|
   .cI 0 ((a0.S.length : Int) = 0) (fun c5 =>
    .kT 0 (dT c5) <|
    .cI 0 ((a0.K.length : Int) = 0) (fun c6 =>
     .kT 0 (dT c6) <|
     .ret (decide ((a0.L.length : Int) = 0))) fun c6 =>
    .kF 0 (dF c6) <|
    .ret false) fun c5 =>
   .kF 0 (dF c5) <|
   .ret false) fun c4 =>
  .kF 0 (dF c4) <|
  .ret false) fun c3 =>
 .eI a0.Kind 1 (fun c4 =>
  .cl (Wn a0.N 0 1) fun r5 =>
  .vM 0 r5 (
   .az 0 0 <|
   .cI 0 ((a0.S.length : Int) = 0) (fun c6 =>
    .kT 0 (dT c6) <|
    .cI 0 ((a0.K.length : Int) = 0) (fun c7 =>
     .kT 0 (dT c7) <|
     .ret (decide ((a0.L.length : Int) = 0))) fun c7 =>
    .kF 0 (dF c7) <|
    .ret false) fun c6 =>
   .kF 0 (dF c6) <|
   .ret false) <|
  .az 0 0 <|
  .ret false) fun c4 =>
 .eI a0.Kind 2 (fun c5 =>
  .cl (Wn a0.N (-1000000000000) 1000000000000) fun r6 =>
  .vM 0 r6 (
   .az 0 0 <|
   .cI 0 ((a0.S.length : Int) = 0) (fun c7 =>
    .kT 0 (dT c7) <|
    .cI 0 ((a0.K.length : Int) = 0) (fun c8 =>
     .kT 0 (dT c8) <|
     .ret (decide ((a0.L.length : Int) = 0))) fun c8 =>
    .kF 0 (dF c8) <|
    .ret false) fun c7 =>
   .kF 0 (dF c7) <|
   .ret false) <|
  .az 0 0 <|
  .ret false) fun c5 =>
 .eI a0.Kind 3 (fun c6 =>
  .cl (Rp a0.S) fun r7 =>
  .vM 0 r7 (
   .az 0 0 <|
   .cI 0 (a0.N = 0) (fun c8 =>
    .kT 0 (dT c8) <|
    .cI 0 ((a0.K.length : Int) = 0) (fun c9 =>
     .kT 0 (dT c9) <|
     .ret (decide ((a0.L.length : Int) = 0))) fun c9 =>
    .kF 0 (dF c9) <|
    .ret false) fun c8 =>
   .kF 0 (dF c8) <|
   .ret false) <|
  .az 0 0 <|
  .ret false) fun c6 =>
 .eI a0.Kind 4 (fun c7 =>
  .cN 1 ((a0.K.length : Int) = 0) (fun c8 =>
   .cI 0 (a0.N = 0) (fun c9 =>
    .kT 0 (dT c9) <|
    .cI 0 ((a0.S.length : Int) = 0) (fun c10 =>
     .kT 0 (dT c10) <|
     .kT 0 (dT c10) <|
     .le zb a0.L <|
     .kT 0 (dT c10) <|
     .gI (a0.L.length : Int) 40 (fun c11 =>
      .kT 0 (dT c10) <|
      .cl (H_slices_ContainsFunc_Value_isShaped_1 a0.L a1) fun r12 =>
      .ret (!r12)) fun c11 =>
     .kT 0 (dT c10) <|
     .ret false) fun c10 =>
    .kF 0 (dF c10) <|
    .kF 0 (dF c10) <|
    .kF 0 (dF c10) <|
    .kF 0 (dF c10) <|
    .ret false) fun c9 =>
   .kF 0 (dF c9) <|
   .ret false) fun c8 =>
  .ret false) fun c7 =>
 .eI a0.Kind 5 (fun c8 =>
  .le (zu za) a0.K <|
  .le zb a0.L <|
  .eI (a0.K.length : Int) (a0.L.length : Int) (fun c9 =>
   .le (zu za) a0.K <|
   .l2 (WO G_slices_ContainsFunc_Value_isShaped_1 H_slices_ContainsFunc_Value_isShaped_1 (decide (a0.N = 0)) (decide ((a0.S.length : Int) = 0)) a0.K (a0.K.length : Int) a0 a1 n 0) (fun o10_0 =>
    .ret o10_0) fun o10_1 =>
   .cI 0 (a0.N = 0) (fun c11 =>
    .kT 0 (dT c11) <|
    .cI 0 ((a0.S.length : Int) = 0) (fun c12 =>
     .kT 0 (dT c12) <|
     .kT 0 (dT c12) <|
     .le zb a0.L <|
     .kT 0 (dT c12) <|
     .gI (a0.L.length : Int) 40 (fun c13 =>
      .kT 0 (dT c12) <|
      .cl (H_slices_ContainsFunc_Value_isShaped_1 a0.L a1) fun r14 =>
      .ret (!r14)) fun c13 =>
     .kT 0 (dT c12) <|
     .ret false) fun c12 =>
    .kF 0 (dF c12) <|
    .kF 0 (dF c12) <|
    .kF 0 (dF c12) <|
    .kF 0 (dF c12) <|
    .ret false) fun c11 =>
   .kF 0 (dF c11) <|
   .ret false) fun c9 =>
  .ret false) fun c8 =>
 .ret false) (zx Try.func75)
mutual
def yQ : Nat → GValue → Int → Option Bool
 | 0, _, _ => none
 | n + 1, a0, e0 => kM (xw n) a0 e0
def zC : Nat → (List GValue) → Int → Option Int
 | 0, _, _ => none
 | n + 1, a0, e0 => y6 (yQ n) n a0 e0
def z6 : Nat → (List GValue) → Int → Option Bool
 | 0, _, _ => none
 | n + 1, a0, e0 => yS (zC n) a0 e0
def xw : Nat → GValue → Int → Option Bool
 | 0, _, _ => none
 | n + 1, a0, a1 => qF (z6 n) n a0 a1
end
theorem qy (n : Nat) : wS (yQ n) ∧ y5 (zC n) ∧ ya (z6 n) ∧ jN (xw n) := by
 induction n with
 | zero => exact ⟨fun _ _ _ h => (by rw [yQ] at h; cases h), fun _ _ _ h => (by rw [zC] at h; cases h), fun _ _ _ h => (by rw [z6] at h; cases h), fun _ _ _ h => (by rw [xw] at h; cases h)⟩
 | succ n ih =>
  obtain ⟨ih_impl_isShaped_1, ih_slices_IndexFunc_Value_isShaped_1, ih_slices_ContainsFunc_Value_isShaped_1, ih_impl_isShaped⟩ := ih
  exact ⟨fun a0 e0 r h => Jt (xw n) ih_impl_isShaped a0 e0 r (by rw [yQ] at h; exact h),
   fun a0 e0 r h => kH (yQ n) ih_impl_isShaped_1 n a0 e0 r (by rw [zC] at h; exact h),
   fun a0 e0 r h => jC (zC n) ih_slices_IndexFunc_Value_isShaped_1 a0 e0 r (by rw [z6] at h; exact h),
   fun a0 a1 r h => Vi (z6 n) ih_slices_ContainsFunc_Value_isShaped_1 n a0 a1 r (by rw [xw] at h; exact h)⟩
theorem GF (a b : List UInt8) : yF a b = some (Lib.compareBytes a b) := rfl
theorem LW {a : List UInt8} (h : a.length <= 2 ^ 20) : jz a = some (qT a) := if_pos h
theorem LX {a : List UInt8} (h : a.length <= 2 ^ 20) : jy a = some (Ze a) := if_pos h
theorem jD {G : GValue → Int → Option Bool} {a : List GValue} {f : Nat} {e : Int} {p : GValue → Bool} (ha : a.length <= 2 ^ 20) (hf : a.length < f) (hG : ∀ x ∈ a, G x e = some (!p x)) : ∃ r : Int, y6 G f a e = some r ∧ decide (0 <= r) = !(a.all p) := by
 have loop : ∀ (d i m : Nat), i + d = a.length → d < m → ∃ (q : Nat) (z : Int), zH G a (a.length : Int) e m (i : Int) = some (if (a.drop i).all p = true then .inr z else .inl (q : Int)) := by
  intro d
  induction d with
  | zero =>
   intro i m hi hm
   obtain ⟨m, rfl, _⟩ := zg hm
   exact ⟨0, _, by rw [zH, if_neg (by omega), List.drop_eq_nil_of_le (by omega)]; rfl⟩
  | succ d ih =>
   intro i m hi hm
   obtain ⟨m, rfl, hm'⟩ := zg hm
   have hil : i < a.length := by omega
   rw [zH, if_pos (by omega), zd, Option.bind_some, zq hil, Option.bind_some, hG _ (List.getElem_mem hil), Option.bind_some, yr (by omega), wH hil, List.all_cons]
   cases hp : p a[i] with
   | false => exact ⟨i, 0, rfl⟩
   | true =>
    obtain ⟨q, z, hz⟩ := ih (i + 1) m (by omega) (by omega)
    exact ⟨q, z, by rw [Bool.true_and]; exact hz⟩
 obtain ⟨q, z, hz⟩ := loop a.length 0 f (by omega) (by omega)
 rw [show ((0 : Nat) : Int) = 0 from rfl, List.drop_zero] at hz
 unfold y6
 rw [hz, Option.bind_some]
 cases hp : a.all p with
 | true => exact ⟨-1, rfl, rfl⟩
 | false => exact ⟨(q : Int), rfl, by simp⟩
theorem T7 {G : List GValue → Int → Option Bool} {v : GValue} {v0 v1 : Bool} {a1 : Int} (hs : vsz v <= 2 ^ 20) : ∀ (d i m : Nat), i + d = v.K.length → d < m → ∃ z, yX G v0 v1 v.K (v.K.length : Int) v a1 m (i : Int) = some (if q4 v.K i d = true then .inr z else .inl false) := by
 have he := y8 v
 have hl := wk v.K
 intro d
 induction d with
 | zero =>
  intro i m hi hm
  obtain ⟨m, rfl, _⟩ := zg hm
  exact ⟨_, by rw [yX, if_neg (by omega)]; rfl⟩
 | succ d ih =>
  intro i m hi hm
  obtain ⟨m, rfl, hm'⟩ := zg hm
  have hil : i < v.K.length := by omega
  have hx := kI (List.getElem_mem hil)
  rw [yX, if_pos (by omega), zd, Option.bind_some, zq hil, Option.bind_some, LW (by omega), Option.bind_some, yr (by omega), Xr]
  obtain ⟨z, hz⟩ := ih (i + 1) m (by omega) (by omega)
  cases hnm : qT v.K[i] with
  | false =>
   refine ⟨0, ?_⟩
   have : kOk v.K i = false := by
    by_cases h0 : i = 0
    ·subst h0; rw [W5 hil, hnm]
    ·rw [YG hil (by omega), hnm]; rfl
   rw [this]; rfl
  | true =>
   dsimp only
   by_cases h0 : 0 < i
   ·rw [if_pos (by omega), JM (by omega) h0, zd, Option.bind_some, zq (show i - 1 < v.K.length by omega), Option.bind_some, GF, Option.bind_some]
    by_cases hb : Op.bytesLess (v.K[i - 1]'(by omega)) v.K[i] = true
    ·rw [if_neg (by rw [Ku]; exact fun h => h hb), YG hil h0, hnm, hb]
     exact ⟨z, hz⟩
    ·rw [if_pos (by rw [Ku]; exact hb), YG hil h0, hnm, show Op.bytesLess (v.K[i - 1]'(by omega)) v.K[i] = false by simpa using hb]
     exact ⟨0, rfl⟩
   ·have : i = 0 := by omega
    subst this
    rw [if_neg (by omega), W5 hil, hnm]
    exact ⟨z, hz⟩
theorem ON {G : List GValue → Int → Option Bool} {v : GValue} {f d : Nat} (hs : vsz v <= 2 ^ 20) (hf : v.K.length < f) (hd : 0 < d) (hG : G v.L (d : Int) = some (!(v.L.all (shV (d - 1))))) : qF G f v (d : Int) = some (shV d v) := by
 obtain ⟨e, rfl⟩ : ∃ e, d = e + 1 := ⟨d - 1, by omega⟩
 have he := y8 v
 have hl := y0 v.L
 have hb := wk v.K
 rw [show e + 1 - 1 = e by omega] at hG
 unfold qF
 rw [if_neg (by omega)]
 simp only [shV]
 have nil : v.L.length = 0 → v.L.all (shV e) = true := fun h => by rw [List.eq_nil_of_length_eq_zero h]; rfl
 have c0 : ∀ n : Nat, (((n : Nat) : Int) = 0) = (n = 0) := fun n => by simp
 simp only [c0]
 have leaf : ∀ {b : Bool}, y3 v = (b && decide (v.L.length = 0)) → b = true → some (decide (v.L.length = 0)) = some (y3 v && v.L.all (shV e)) := fun h hb' => by
  rw [h, hb', Bool.true_and]
  by_cases hz : v.L.length = 0
  ·rw [decide_eq_true hz, nil hz]; rfl
  ·rw [decide_eq_false hz]; rfl
 have no : y3 v = false → some false = some (y3 v && v.L.all (shV e)) := fun h => by rw [h]; rfl
 have four : ∀ {p : Prop} [Decidable p], y3 v = decide (p ∧ v.S.length = 0 ∧ v.K.length = 0 ∧ v.L.length = 0) → p → (if v.S.length = 0 then if v.K.length = 0 then some (decide (v.L.length = 0)) else some false else some false) = some (y3 v && v.L.all (shV e)) := fun h hp => by
  by_cases h1 : v.S.length = 0
  ·rw [if_pos h1]
   by_cases h2 : v.K.length = 0
   ·rw [if_pos h2]
    exact leaf (b := true) (by rw [h]; simp [hp, h1, h2]) rfl
   ·rw [if_neg h2]; exact no (by rw [h, decide_eq_false (fun h => h2 h.2.2.1)])
  ·rw [if_neg h1]; exact no (by rw [h, decide_eq_false (fun h => h1 h.2.1)])
 by_cases k0 : v.Kind = 0
 ·rw [if_pos k0]
  have hv : y3 v = decide (v.N = 0 ∧ v.S.length = 0 ∧ v.K.length = 0 ∧ v.L.length = 0) := by unfold y3; rw [if_pos (.inl k0)]
  by_cases a1 : v.N = 0
  ·rw [if_pos a1]; exact four hv a1
  ·rw [if_neg a1]; exact no (by rw [hv, decide_eq_false (fun h => a1 h.1)])
 rw [if_neg k0]
 by_cases k6 : v.Kind = 6
 ·rw [if_pos k6]
  have hv : y3 v = decide (v.N = 0 ∧ v.S.length = 0 ∧ v.K.length = 0 ∧ v.L.length = 0) := by unfold y3; rw [if_pos (.inr k6)]
  by_cases a1 : v.N = 0
  ·rw [if_pos a1]; exact four hv a1
  ·rw [if_neg a1]; exact no (by rw [hv, decide_eq_false (fun h => a1 h.1)])
 rw [if_neg k6]
 have n06 : ¬ (v.Kind = 0 ∨ v.Kind = 6) := by omega
 by_cases k1 : v.Kind = 1
 ·rw [if_pos k1, OM, Option.bind_some]
  have hv : y3 v = decide ((0 <= v.N ∧ v.N <= 1) ∧ v.S.length = 0 ∧ v.K.length = 0 ∧ v.L.length = 0) := by unfold y3; rw [if_neg n06, if_pos k1]
  by_cases a1 : 0 <= v.N ∧ v.N <= 1
  ·rw [decide_eq_true a1]; exact four hv a1
  ·rw [decide_eq_false a1]; exact no (by rw [hv, decide_eq_false (fun h => a1 h.1)])
 rw [if_neg k1]
 by_cases k2 : v.Kind = 2
 ·rw [if_pos k2, OM, Option.bind_some]
  have hv : y3 v = decide ((-1000000000000 <= v.N ∧ v.N <= 1000000000000) ∧ v.S.length = 0 ∧ v.K.length = 0 ∧ v.L.length = 0) := by unfold y3; rw [if_neg n06, if_neg k1, if_pos k2]
  by_cases a1 : -1000000000000 <= v.N ∧ v.N <= 1000000000000
  ·rw [decide_eq_true a1]; exact four hv a1
  ·rw [decide_eq_false a1]; exact no (by rw [hv, decide_eq_false (fun h => a1 h.1)])
 rw [if_neg k2]
 by_cases k3 : v.Kind = 3
 ·rw [if_pos k3, LX (by omega), Option.bind_some]
  have hv : y3 v = (Ze v.S && decide (v.N = 0 ∧ v.K.length = 0 ∧ v.L.length = 0)) := by unfold y3; rw [if_neg n06, if_neg k1, if_neg k2, if_pos k3]
  cases ht : Ze v.S with
  | false => exact no (by rw [hv, ht]; rfl)
  | true =>
   rw [ht, Bool.true_and] at hv
   dsimp only
   by_cases a1 : v.N = 0
   ·rw [if_pos a1]
    by_cases a2 : v.K.length = 0
    ·rw [if_pos a2]; exact leaf (b := true) (by rw [hv]; simp [a1, a2]) rfl
    ·rw [if_neg a2]; exact no (by rw [hv, decide_eq_false (fun h => a2 h.2.1)])
   ·rw [if_neg a1]; exact no (by rw [hv, decide_eq_false (fun h => a1 h.1)])
 rw [if_neg k3]
 have ends : ∀ {b : Bool}, y3 v = (b && decide (v.L.length <= 40)) → b = true → (if (v.L.length : Int) <= 40 then (G v.L ((e + 1 : Nat) : Int)).bind fun r12 => some (!r12) else some false) = some (y3 v && v.L.all (shV e)) := fun h hb' => by
  by_cases h4 : v.L.length <= 40
  ·rw [if_pos (by omega), hG, Option.bind_some, h, hb', decide_eq_true h4, Bool.not_not]; rfl
  ·rw [if_neg (by omega)]; exact no (by rw [h, decide_eq_false h4, Bool.and_false])
 by_cases k4 : v.Kind = 4
 ·rw [if_pos k4]
  have hv : y3 v = decide (v.N = 0 ∧ v.S.length = 0 ∧ v.K.length = 0 ∧ v.L.length <= 40) := by unfold y3; rw [if_neg n06, if_neg k1, if_neg k2, if_neg k3, if_pos k4]
  by_cases a1 : v.K.length = 0
  ·rw [if_pos a1]
   by_cases a2 : v.N = 0
   ·rw [if_pos a2]
    by_cases a3 : v.S.length = 0
    ·rw [if_pos a3]; exact ends (b := true) (by rw [hv]; simp [a1, a2, a3]) rfl
    ·rw [if_neg a3]; exact no (by rw [hv, decide_eq_false (fun h => a3 h.2.1)])
   ·rw [if_neg a2]; exact no (by rw [hv, decide_eq_false (fun h => a2 h.1)])
  ·rw [if_neg a1]; exact no (by rw [hv, decide_eq_false (fun h => a1 h.2.2.1)])
 rw [if_neg k4]
 by_cases k5 : v.Kind = 5
 ·rw [if_pos k5]
  have hv : y3 v = (decide (v.K.length = v.L.length ∧ v.N = 0 ∧ v.S.length = 0 ∧ v.L.length <= 40) && q4 v.K 0 v.K.length) := by unfold y3; rw [if_neg n06, if_neg k1, if_neg k2, if_neg k3, if_neg k4, if_pos k5]
  by_cases a1 : (v.K.length : Int) = (v.L.length : Int)
  ·rw [if_pos a1]
   have keys := fun (v0 v1 : Bool) => T7 (G := G) (v0 := v0) (v1 := v1) (a1 := ((e + 1 : Nat) : Int)) hs v.K.length 0 f (by omega) (by omega)
   simp only [show ((0 : Nat) : Int) = 0 from rfl] at keys
   obtain ⟨z, hz⟩ := keys (decide (v.N = 0)) (decide (v.S.length = 0))
   rw [hz, Option.bind_some]
   cases hk : q4 v.K 0 v.K.length with
   | false => exact no (by rw [hv, hk, Bool.and_false])
   | true =>
    rw [if_pos rfl]
    dsimp only
    by_cases a2 : v.N = 0
    ·rw [if_pos a2]
     by_cases a3 : v.S.length = 0
     ·rw [if_pos a3]
      exact ends (b := true) (by rw [hv, hk]; simp [a2, a3, show v.K.length = v.L.length by omega]) rfl
     ·rw [if_neg a3]
      exact no (by rw [hv, decide_eq_false (fun h => a3 h.2.2.1)]; rfl)
    ·rw [if_neg a2]
     exact no (by rw [hv, decide_eq_false (fun h => a2 h.2.1)]; rfl)
  ·rw [if_neg a1]; exact no (by rw [hv, decide_eq_false (fun h => a1 (by omega))]; rfl)
 rw [if_neg k5]
 exact no (by unfold y3; simp only [k0, k1, k2, k3, k4, k5, k6, or_self, if_false])
theorem OO : ∀ (N : Nat) (v : GValue), vsz v < N → vsz v <= 2 ^ 20 → ∀ (f d : Nat), 4 * vsz v + 6 <= f → d <= 2 ^ 20 → xw f v (d : Int) = some (shV d v) := by
 intro N
 induction N with
 | zero => intro v hv; omega
 | succ N ih =>
  intro v hv hs f d hf hd
  have he := y8 v
  have hl := y0 v.L
  have hb := wk v.K
  obtain ⟨f, rfl, _⟩ := zg (show 0 < f by omega)
  rw [xw]
  by_cases h0 : d = 0
  ·subst h0; unfold qF; rw [if_pos (show ((0 : Nat) : Int) = 0 from rfl)]; rfl
  refine ON hs (by omega) (by omega) ?_
  obtain ⟨f, rfl, _⟩ := zg (show 0 < f by omega)
  obtain ⟨f, rfl, _⟩ := zg (show 0 < f by omega)
  obtain ⟨f, rfl, _⟩ := zg (show 0 < f by omega)
  rw [z6]
  unfold yS
  rw [zC]
  obtain ⟨r, hr, hr2⟩ := jD (G := yQ (f + 1)) (a := v.L) (f := f + 1) (e := (d : Int)) (p := shV (d - 1)) (by omega) (by omega) fun x hx => by
   have := yw hx
   rw [yQ]
   unfold kM
   rw [JM (by omega) (by omega), ih x (by omega) (by omega) f (d - 1) (by omega) (by omega)]
   rfl
  rw [hr, Option.bind_some, hr2]
def Yb (a0 : GValue) (e0 : Int) : Option Bool := none
theorem Wo (a0 : GValue) (e0 : Int) (r : Bool) (h : Yb a0 e0 = some r) : ∃ n, yQ n a0 e0 = some r := by cases h
def wQ (a0 : (List GValue)) (e0 : Int) : Option Int := none
theorem jE (a0 : (List GValue)) (e0 : Int) (r : Int) (h : wQ a0 e0 = some r) : ∃ n, zC n a0 e0 = some r := by cases h
def wq (a0 : (List GValue)) (e0 : Int) : Option Bool := none
theorem jg (a0 : (List GValue)) (e0 : Int) (r : Bool) (h : wq a0 e0 = some r) : ∃ n, z6 n a0 e0 = some r := by cases h
def qG (a0 : GValue) (a1 : Int) : Option Bool := if vsz a0 <= 2 ^ 20 ∧ 0 <= a1 ∧ a1 <= 2 ^ 20 then some (shV a1.toNat a0) else none
theorem Q2 (a0 : GValue) (a1 : Int) (r : Bool) (h : qG a0 a1 = some r) : ∃ n, xw n a0 a1 = some r := by
 unfold qG at h
 obtain ⟨⟨hs, h0, h1⟩, h⟩ := yd h
 refine ⟨4 * vsz a0 + 6, ?_⟩
 have := OO _ a0 (Nat.lt_succ_self _) hs _ a1.toNat (Nat.le_refl _) (by omega)
 rw [show ((a1.toNat : Nat) : Int) = a1 by omega] at this
 rw [this]; exact h
theorem LY : wS Yb := by
 intro a0 e0 r h
 obtain ⟨n, hn⟩ := Wo a0 e0 r h
 exact (qy n).1 a0 e0 r hn
theorem Q3 : y5 wQ := by
 intro a0 e0 r h
 obtain ⟨n, hn⟩ := jE a0 e0 r h
 exact (qy n).2.1 a0 e0 r hn
theorem WI : ya wq := by
 intro a0 e0 r h
 obtain ⟨n, hn⟩ := jg a0 e0 r h
 exact (qy n).2.2.1 a0 e0 r hn
theorem Ke : jN qG := by
 intro a0 a1 r h
 obtain ⟨n, hn⟩ := Q2 a0 a1 r h
 exact (qy n).2.2.2 a0 a1 r hn
def wI (F : GValue → Option Int) : Prop := ∀ (a0 : GValue), Oc (F a0) 76 [] [.val true (ze a0)] fun r => (vi r, [])
def yV (G_impl_Value_parts : GValue → Option Int) (v1 : (List GValue)) (v2 : Int) : Nat → Int → Int → Option (Int × Int)
  | 0, _, _ => none
  | m + 1, v0, v3 =>
  if v3 < v2 then
   (zD v3).bind fun i2 =>
   (v1[i2]?).bind fun x3 =>
   (G_impl_Value_parts x3).bind fun r4 =>
   yV G_impl_Value_parts v1 v2 m (w64 (v0 + r4)) (w64 (v3 + 1))
  else
  some (v0, v3)
theorem Xu (G_impl_Value_parts : GValue → Option Int) (H_impl_Value_parts : wI G_impl_Value_parts) (v1 : (List GValue)) (v2 : Int) (m : Nat) : ∀ (v0 : Int) (v3 : Int), Ol (yV G_impl_Value_parts v1 v2 m v0 v3) 76 (yg Try.f76 0) ⟨[(3, vi v0), (7, vq zb v1), (8, vi v2), (9, vi v3)], [], 0⟩ fun o => match o with | ⟨o_0, o_1⟩ => (.exit 0, ⟨[(3, vi o_0), (7, vq zb v1), (8, vi v2), (9, vi o_1), (10, vb false)], [], 0⟩) := by
  induction m with
  | zero => intro v0 v3 o h; cases h
  | succ m ih => exact fun v0 v3 => tlp (
   .lI v3 v2 (fun c1 =>
    .na v3 fun i2 =>
    .ix eq_GValue v1 i2 fun x3 =>
    .cl (H_impl_Value_parts x3) fun r4 =>
    .go (ih (w64 (v0 + r4)) (w64 (v3 + 1)))) fun c1 =>
   .ret (v0, v3))
def qH (G_impl_Value_parts : GValue → Option Int) (n : Nat) (a0 : GValue) : Option Int :=
 (yV G_impl_Value_parts a0.L (a0.L.length : Int) n 1 0).bind fun ⟨o1_0, o1_1⟩ =>
 some o1_0
theorem Q4 (G_impl_Value_parts : GValue → Option Int) (H_impl_Value_parts : wI G_impl_Value_parts) (n : Nat) : wI (qH G_impl_Value_parts n) := fun a0 => tc (
 .le zb a0.L <|
 .lp (Xu G_impl_Value_parts H_impl_Value_parts a0.L (a0.L.length : Int) n 1 0) fun ⟨o1_0, o1_1⟩ =>
 .ret o1_0) (zx Try.func76)
def yH : Nat → GValue → Option Int
 | 0, _ => none
 | n + 1, a0 => qH (yH n) n a0
theorem Wp (n : Nat) : wI (yH n) := by
 induction n with
 | zero => exact fun _ _ h => (by rw [yH] at h; cases h)
 | succ n ih =>
  have ih_impl_Value_parts := ih
  exact fun a0 r h => Q4 (yH n) ih_impl_Value_parts n a0 r (by rw [yH] at h; exact h)
theorem Q5 {G : GValue → Option Int} {v : GValue} {f : Nat} (hs : vsz v <= 2 ^ 20) (hf : v.L.length < f) (hG : ∀ x ∈ v.L, G x = some (((ptV x) : Nat) : Int)) : qH G f v = some (((ptV v) : Nat) : Int) := by
 have he := y8 v
 have hl := y0 v.L
 have loop : ∀ (d i m : Nat) (r : Int), i + d = v.L.length → d < m → 0 <= r → r <= 2 ^ 21 - zO (v.L.drop i) → ∃ z, yV G v.L (v.L.length : Int) m r (i : Int) = some (r + zO (v.L.drop i), z) := by
  intro d
  induction d with
  | zero =>
   intro i m r hi hm h0 h1
   obtain ⟨m, rfl, _⟩ := zg hm
   exact ⟨_, by rw [yV, if_neg (by omega), List.drop_eq_nil_of_le (by omega)]; simp [zO]; rfl⟩
  | succ d ih =>
   intro i m r hi hm h0 h1
   obtain ⟨m, rfl, hm'⟩ := zg hm
   have hil : i < v.L.length := by omega
   have hp : zO (v.L.drop i) = ptV v.L[i] + zO (v.L.drop (i + 1)) := by rw [wH hil]; simp only [zO]
   rw [hp] at h1 ⊢
   rw [yV, if_pos (by omega), zd, Option.bind_some, zq hil, Option.bind_some, hG _ (List.getElem_mem hil), Option.bind_some, yr (by omega), yo (by omega) (by omega)]
   obtain ⟨z, hz⟩ := ih (i + 1) m (r + ptV v.L[i]) (by omega) (by omega) (by omega) (by omega)
   exact ⟨z, by rw [hz]; congr 2; omega⟩
 have hle := R6 v.L
 obtain ⟨z, hz⟩ := loop v.L.length 0 f 1 (by omega) (by omega) (by omega) (by rw [List.drop_zero]; omega)
 rw [show ((0 : Nat) : Int) = 0 from rfl, List.drop_zero] at hz
 unfold qH
 rw [hz, XJ]
 simp only [Option.bind_some]
 congr 1
theorem Q6 : ∀ (N : Nat) (v : GValue), vsz v < N → vsz v <= 2 ^ 20 → ∀ f : Nat, vsz v + 2 <= f → yH f v = some (((ptV v) : Nat) : Int) := by
 intro N
 induction N with
 | zero => intro v hv; omega
 | succ N ih =>
  intro v hv hs f hf
  obtain ⟨f, rfl, _⟩ := zg (show 0 < f by omega)
  have he := y8 v
  have hl := y0 v.L
  rw [yH]
  refine Q5 hs (by omega) fun x hx => ?_
  have := yw hx
  exact ih x (by omega) (by omega) f (by omega)
def wJ (a0 : GValue) : Option Int := if vsz a0 <= 2 ^ 20 then some (((ptV a0) : Nat) : Int) else none
theorem X8 (a0 : GValue) (r : Int) (h : wJ a0 = some r) : ∃ n, yH n a0 = some r := by
 unfold wJ at h
 obtain ⟨ha, h⟩ := yd h
 exact ⟨vsz a0 + 2, by rw [<- h]; exact Q6 _ a0 (Nat.lt_succ_self _) ha _ (Nat.le_refl _)⟩
theorem WP : wI wJ := by
 intro a0 r h
 obtain ⟨n, hn⟩ := X8 a0 r h
 exact (Wp n) a0 r hn
def ja (a0 : GValue) : Option Bool :=
 (qG a0 5).bind fun r1 =>
 match r1 with
 | true =>
  (wJ a0).bind fun r2 =>
  some (decide (r2 <= 40))
 | false =>
  some false
theorem Xo (a0 : GValue) : Oc (ja a0) 48 [] [.val true (ze a0)] fun r => (vb r, []) := tc (
 .cl (Ke a0 5) fun r1 =>
 .vM 0 r1 (
  .az 0 0 <|
  .cl (WP a0) fun r2 =>
  .az 0 1 <|
  .gD r2 40 <|
  .az 0 1 <|
  .ret (decide (r2 <= 40))) <|
 .az 0 0 <|
 .az 0 0 <|
 .az 0 0 <|
 .ret false) (zx Try.func48)
def jO (a0 : Int) : Option Bool :=
 some false
theorem Y6 (a0 : Int) : Oc (jO a0) 123 [] [vi a0] fun r => (vb r, []) := tc (
 .q (.eTo a0 a0 (by omega)) <|
 .ret false) (zx Try.func123)
def wd (a0 : Int) (a1 : Int) : Option Int :=
 (jO a0).bind fun r1 =>
 (jO a1).bind fun r2 =>
 match r1 with
 | true =>
  match r2 with
  | true =>
   some 0
  | false =>
   some (-1)
 | false =>
  match r2 with
  | true =>
   some 1
  | false =>
   if a0 < a1 then
    some (-1)
   else
   if a1 < a0 then
    some 1
   else
   some 0
theorem ki (a0 : Int) (a1 : Int) : Oc (wd a0 a1) 105 [] [vi a0, vi a1] fun r => (vi r, []) := tc (
 .cl (Y6 a0) fun r1 =>
 .cl (Y6 a1) fun r2 =>
 .vM 0 r1 (
  .vM 0 r2 (
   .ret 0) <|
  .ret (-1)) <|
 .vM 0 r2 (
  .ret 1) <|
 .lI a0 a1 (fun c3 =>
  .ret (-1)) fun c3 =>
 .lI a1 a0 (fun c4 =>
  .ret 1) fun c4 =>
 .ret 0) (zx Try.func105)
def Q7 (F : (List Int) → Option Int) : Prop := ∀ (a0 : (List Int)), Oc (F a0) 104 [] [vq vU a0] fun r => (vi r, [])
def wR (v0 : Int) (a0 : (List Int)) (v2 : Int) : Nat → Int → Option (Int ⊕ Int)
  | 0, _ => none
  | m + 1, v3 =>
  if v3 < v2 then
   (zD v3).bind fun i2 =>
   (a0[i2]?).bind fun x3 =>
   if x3 = v0 then
    wR v0 a0 v2 m (w64 (v3 + 1))
   else
   some (.inl x3)
  else
  some (.inr v3)
theorem Kf (v0 : Int) (a0 : (List Int)) (v2 : Int) (m : Nat) : ∀ (v3 : Int), Ol (wR v0 a0 v2 m v3) 104 (yg Try.f104 0) ⟨[(3, vi v0), (6, vq vU a0), (7, vi v2), (8, vi v3)], [], 0⟩ fun o => match o with | .inl o_0 => (.ret, ⟨[(2, vi o_0)], [], 0⟩) | .inr (o_1) => (.exit 0, ⟨[(3, vi v0), (6, vq vU a0), (7, vi v2), (8, vi o_1), (9, vb false)], [], 0⟩) := by
  induction m with
  | zero => intro v3 o h; cases h
  | succ m ih => exact fun v3 => tlp (
   .lI v3 v2 (fun c1 =>
    .na v3 fun i2 =>
    .ix0 vU a0 i2 fun x3 =>
    .eI x3 v0 (fun c4 =>
     .go (ih (w64 (v3 + 1)))) fun c4 =>
    .ret (.inl x3)) fun c1 =>
   .ret (.inr v3))
def Y7 (n : Nat) (a0 : (List Int)) : Option Int :=
 (wR 0 a0 (a0.length : Int) n 0).bind fun o1 =>
 match o1 with
 | .inl o1_0 =>
  some o1_0
 | .inr (o1_1) =>
  some 0
theorem UU (n : Nat) : Q7 (Y7 n) := fun a0 => tc (
 .le vU a0 <|
 .l2 (Kf 0 a0 (a0.length : Int) n 0) (fun o1_0 =>
  .ret o1_0) fun o1_1 =>
 .ret 0) (zx Try.func104)
def orI : List Int → Int
 | [] => 0
 | x :: l => if x = 0 then orI l else x
theorem OP {a : List Int} (ha : a.length <= 2 ^ 20) : ∀ (d i m : Nat), i + d = a.length → d < m → ∃ z, wR 0 a (a.length : Int) m (i : Int) = some z ∧ (match z with | .inl x => x | .inr _ => 0) = orI (a.drop i) := by
 intro d
 induction d with
 | zero =>
  intro i m hi hm
  obtain ⟨m, rfl, _⟩ := zg hm
  refine ⟨.inr i, by rw [wR, if_neg (by omega)], ?_⟩
  rw [List.drop_eq_nil_of_le (by omega)]; rfl
 | succ d ih =>
  intro i m hi hm
  obtain ⟨m, rfl, hm'⟩ := zg hm
  have hil : i < a.length := by omega
  rw [wR, if_pos (by omega), zd, Option.bind_some, zq hil, Option.bind_some, wH hil, orI]
  by_cases h : a[i] = 0
  ·rw [if_pos h, if_pos h, yr (by omega)]
   exact ih (i + 1) m (by omega) (by omega)
  ·rw [if_neg h, if_neg h]
   exact ⟨_, rfl, rfl⟩
def jb (a0 : (List Int)) : Option Int := if a0.length <= 2 ^ 20 then some (orI a0) else none
theorem Vj (a0 : (List Int)) (r : Int) (h : jb a0 = some r) : ∃ n, Y7 n a0 = some r := by
 unfold jb at h
 obtain ⟨ha, h⟩ := yd h
 obtain ⟨z, h1, h2⟩ := OP ha a0.length 0 (a0.length + 1) (by omega) (by omega)
 refine ⟨a0.length + 1, ?_⟩
 unfold Y7
 rw [show (0 : Int) = ((0 : Nat) : Int) from rfl]
 rw [List.drop_zero] at h2
 refine (congrArg (fun x => Option.bind x _) h1).trans ?_
 rw [Option.bind_some, <- h, <- h2]
 cases z <;> rfl
theorem T8 : Q7 jb := fun a0 r h => (Vj a0 r h).elim fun n hn => UU n a0 r hn
def xZ (F : GValue → GValue → Option Int) : Prop := ∀ (a0 : GValue) (a1 : GValue), Oc (F a0 a1) 77 [] [.val true (ze a0), .val true (ze a1)] fun r => (vi r, [])
def zZ (G_impl_compareValues : GValue → GValue → Option Int) (v0 : Int) (a0 : GValue) (a1 : GValue) : Nat → Int → Option (Int ⊕ Int)
  | 0, _ => none
  | m + 1, v1 =>
  if v1 < v0 then
   if a0.Kind = 5 then
    (zD v1).bind fun i3 =>
    (a0.K[i3]?).bind fun x4 =>
    (a1.K[i3]?).bind fun x5 =>
    (yF x4 x5).bind fun r6 =>
    if r6 = 0 then
     (a0.L[i3]?).bind fun x8 =>
     (a1.L[i3]?).bind fun x9 =>
     (G_impl_compareValues x8 x9).bind fun r10 =>
     if r10 = 0 then
      zZ G_impl_compareValues v0 a0 a1 m (w64 (v1 + 1))
     else
     some (.inl r10)
    else
    some (.inl r6)
   else
   (zD v1).bind fun i3 =>
   (a0.L[i3]?).bind fun x4 =>
   (a1.L[i3]?).bind fun x5 =>
   (G_impl_compareValues x4 x5).bind fun r6 =>
   if r6 = 0 then
    zZ G_impl_compareValues v0 a0 a1 m (w64 (v1 + 1))
   else
   some (.inl r6)
  else
  some (.inr v1)
theorem Y8 (G_impl_compareValues : GValue → GValue → Option Int) (H_impl_compareValues : xZ G_impl_compareValues) (v0 : Int) (a0 : GValue) (a1 : GValue) (m : Nat) : ∀ (v1 : Int), Ol (zZ G_impl_compareValues v0 a0 a1 m v1) 77 (yg Try.f77 0) ⟨[(2, vp 0 0), (3, vp 1 0), (35, vi v0), (36, vi v1)], [.var (ze a0), .var (ze a1)], 0⟩ fun o => match o with | .inl o_0 => (.ret, ⟨[(4, vi o_0)], [], 0⟩) | .inr (o_1) => (.exit 0, ⟨[(2, vp 0 0), (3, vp 1 0), (35, vi v0), (36, vi o_1), (37, vb false)], [.var (ze a0), .var (ze a1)], 0⟩) := by
  induction m with
  | zero => intro v1 o h; cases h
  | succ m ih => exact fun v1 => tlp (
   .lI v1 v0 (fun c1 =>
    .eI a0.Kind 5 (fun c2 =>
     .na v1 fun i3 =>
     .ix0 (zu za) a0.K i3 fun x4 =>
     .ag 1 <|
     .ix0 (zu za) a1.K i3 fun x5 =>
     .cl (qm x4 x5) fun r6 =>
     .eI r6 0 (fun c7 =>
      .ag 3 <|
      .ix eq_GValue a0.L i3 fun x8 =>
      .ag 4 <|
      .ix eq_GValue a1.L i3 fun x9 =>
      .cl (H_impl_compareValues x8 x9) fun r10 =>
      .eI r10 0 (fun c11 =>
       .go (ih (w64 (v1 + 1)))) fun c11 =>
      .ret (.inl r10)) fun c7 =>
     .ret (.inl r6)) fun c2 =>
    .na v1 fun i3 =>
    .ix eq_GValue a0.L i3 fun x4 =>
    .ag 1 <|
    .ix eq_GValue a1.L i3 fun x5 =>
    .cl (H_impl_compareValues x4 x5) fun r6 =>
    .eI r6 0 (fun c7 =>
     .go (ih (w64 (v1 + 1)))) fun c7 =>
    .ret (.inl r6)) fun c1 =>
   .ret (.inr v1))
def wW (G_impl_compareValues : GValue → GValue → Option Int) (n : Nat) (a0 : GValue) (a1 : GValue) : Option Int :=
 (wd a0.Kind a1.Kind).bind fun r1 =>
 (wd a0.N a1.N).bind fun r2 =>
 (yF a0.S a1.S).bind fun r3 =>
 (jb [r1, r2, r3]).bind fun r4 =>
 if r4 = 0 then
  (zZ G_impl_compareValues (if (a1.L.length : Int) < (a0.L.length : Int) then (a1.L.length : Int) else (a0.L.length : Int)) a0 a1 n 0).bind fun o6 =>
  match o6 with
  | .inl o6_0 =>
   some o6_0
  | .inr (o6_1) =>
   (wd (a0.L.length : Int) (a1.L.length : Int)).bind fun r7 =>
   some r7
 else
 some r4
theorem Wq (G_impl_compareValues : GValue → GValue → Option Int) (H_impl_compareValues : xZ G_impl_compareValues) (n : Nat) : xZ (wW G_impl_compareValues n) := fun a0 a1 => tc (
 .cl (ki a0.Kind a1.Kind) fun r1 =>
 .cl (ki a0.N a1.N) fun r2 =>
 .cl (qm a0.S a1.S) fun r3 =>
 .vw E5 [r1, r2, r3] <|
 .cl (T8 [r1, r2, r3]) fun r4 =>
 .eI r4 0 (fun c5 =>
  .le zb a0.L <|
  .le zb a1.L <|
  .l2 (Y8 G_impl_compareValues H_impl_compareValues (if (a1.L.length : Int) < (a0.L.length : Int) then (a1.L.length : Int) else (a0.L.length : Int)) a0 a1 n 0) (fun o6_0 =>
   .ret o6_0) fun o6_1 =>
  .le zb a0.L <|
  .le zb a1.L <|
  .cl (ki (a0.L.length : Int) (a1.L.length : Int)) fun r7 =>
  .ret r7) fun c5 =>
 .ret r4) (zx Try.func77)
def zN : Nat → GValue → GValue → Option Int
 | 0, _, _ => none
 | n + 1, a0, a1 => wW (zN n) n a0 a1
theorem Xv (n : Nat) : xZ (zN n) := by
 induction n with
 | zero => exact fun _ _ _ h => (by rw [zN] at h; cases h)
 | succ n ih =>
  have ih_impl_compareValues := ih
  exact fun a0 a1 r h => Wq (zN n) ih_impl_compareValues n a0 a1 r (by rw [zN] at h; exact h)
def wa (a0 : GValue) (a1 : GValue) : Option Int := zN (vsz a0 + 3) a0 a1
theorem YL (a0 : GValue) (a1 : GValue) (r : Int) (h : wa a0 a1 = some r) : ∃ n, zN n a0 a1 = some r := ⟨_, h⟩
theorem X9 : xZ wa := by
 intro a0 a1 r h
 obtain ⟨n, hn⟩ := YL a0 a1 r h
 exact (Xv n) a0 a1 r hn
def xJ (a0 : (List UInt8)) : Option (List UInt8) :=
 if zA 1 (0 + a0.length) then
 some a0
 else none
theorem qR (a0 : (List UInt8)) : Oc (xJ a0) 80 [] [vq za a0] fun r => (.val false [.own 1 (eL za r)], []) := tc (
 .ap 1 xY [] a0 fun n1 =>
 .ret a0) (zx Try.func80)
def Xp (F : (List GStep) → Option (List GStep)) : Prop := ∀ (a0 : (List GStep)), Oc (F a0) 78 [] [vq zP a0] fun r => (.val false [.own 3 (eL wj r)], [])
def xR (a0 : (List GStep)) (v1 : Int) : Nat → Int → (List GStep) → Option (Int × (List GStep))
  | 0, _, _ => none
  | m + 1, v2, v3 =>
  if v2 < v1 then
   (zD v2).bind fun i2 =>
   (a0[i2]?).bind fun x3 =>
   (xJ x3.Key).bind fun r4 =>
   if zA 40 (v3.length + [(GStep.mk x3.Kind r4 x3.I)].length) then
   xR a0 v1 m (w64 (v2 + 1)) (v3 ++ [(GStep.mk x3.Kind r4 x3.I)])
   else none
  else
  some (v2, v3)
theorem WQ (a0 : (List GStep)) (v1 : Int) (m : Nat) : ∀ (v2 : Int) (v3 : (List GStep)), Ol (xR a0 v1 m v2 v3) 78 (yg Try.f78 0) ⟨[(3, vr 0), (7, vq zP a0), (8, vi v1), (9, vi v2)], [.obj 3 (eL wj v3)], 0⟩ fun o => match o with | ⟨o_0, o_1⟩ => (.exit 0, ⟨[(3, vr 0), (7, vq zP a0), (8, vi v1), (9, vi o_0), (10, vb false)], [.obj 3 (eL wj o_1)], 0⟩) := by
  induction m with
  | zero => intro v2 v3 o h; cases h
  | succ m ih => exact fun v2 v3 => tlp (
   .lI v2 v1 (fun c1 =>
    .na v2 fun i2 =>
    .ix ku a0 i2 fun x3 =>
    .cl (qR x3.Key) fun r4 =>
    .ao 40 vH v3 [(GStep.mk x3.Kind r4 x3.I)] fun n5 =>
    .go (ih (w64 (v2 + 1)) (v3 ++ [(GStep.mk x3.Kind r4 x3.I)]))) fun c1 =>
   .ret (v2, v3))
def Za (n : Nat) (a0 : (List GStep)) : Option (List GStep) :=
 (xR a0 (a0.length : Int) n 0 []).bind fun ⟨o1_0, o1_1⟩ =>
 some o1_1
theorem Vk (n : Nat) : Xp (Za n) := fun a0 => tc (
 .le zP a0 <|
 .lp (WQ a0 (a0.length : Int) n 0 []) fun ⟨o1_0, o1_1⟩ =>
 .ret o1_1) (zx Try.func78)
theorem T9 {a : List GStep} (ha : zT a <= 2 ^ 38) : ∀ (l p : List GStep) (m : Nat), a = p ++ l → l.length < m → ∃ z, xR a (a.length : Int) m (p.length : Int) p = some (z, a) := by
 have hl := wX a
 intro l
 induction l with
 | nil =>
  intro p m he hm
  subst he
  obtain ⟨m, rfl, _⟩ := zg hm
  exact ⟨_, by rw [xR, if_neg (wl p)]; simp; rfl⟩
 | cons x l ih =>
  intro p m he hm
  obtain ⟨m, rfl, hm'⟩ := zg hm
  have hx : 1 + vy x <= zT a := QO (by rw [he]; simp)
  unfold vy at hx
  have hlen : a.length = p.length + (l.length + 1) := by rw [he]; simp
  obtain ⟨z, hz⟩ := ih (p ++ [x]) m (by rw [he]; simp) (by simp only [List.length_cons] at hm'; omega)
  refine ⟨z, ?_⟩
  have ex : GStep.mk x.Kind x.Key x.I = x := by cases x; rfl
  rw [xR, if_pos (by omega), zd, Option.bind_some, show a[p.length]? = some x by rw [he]; exact zy p x l, Option.bind_some, show xJ x.Key = some x.Key from if_pos (xo (by decide) (by omega)), Option.bind_some, ex, if_pos (xo (by decide) (by simp only [List.length_cons, List.length_nil]; omega)), yt p x (by omega), hz]
def yy (a0 : (List GStep)) : Option (List GStep) := if zT a0 <= 2 ^ 38 then some a0 else none
theorem kY {a : List GStep} (h : zT a <= 2 ^ 38) : yy a = some a := if_pos h
theorem Q8 (a0 : (List GStep)) (r : (List GStep)) (h : yy a0 = some r) : ∃ n, Za n a0 = some r := by
 unfold yy at h
 obtain ⟨ha, h⟩ := yd h
 obtain ⟨z, hz⟩ := T9 ha a0 [] (a0.length + 1) rfl (by omega)
 refine ⟨a0.length + 1, ?_⟩
 unfold Za
 simp only [List.length_nil, Int.natCast_zero] at hz
 rw [hz]; exact h
theorem wA : Xp yy := fun a0 r h => (Q8 a0 r h).elim fun n hn => Vk n a0 r hn
def Y9 (F : (List (List UInt8)) → Option (List (List UInt8))) : Prop := ∀ (a0 : (List (List UInt8))), Oc (F a0) 79 [] [vq (zu za) a0] fun r => (.val false [.own 1 (eL (yf 1 za) r)], [])
def xy (a0 : (List (List UInt8))) (v1 : Int) : Nat → Int → (List (List UInt8)) → Option (Int × (List (List UInt8)))
  | 0, _, _ => none
  | m + 1, v2, v3 =>
  if v2 < v1 then
   (zD v2).bind fun i2 =>
   (a0[i2]?).bind fun x3 =>
   (xJ x3).bind fun r4 =>
   if zA 24 (v3.length + [r4].length) then
   xy a0 v1 m (w64 (v2 + 1)) (v3 ++ [r4])
   else none
  else
  some (v2, v3)
theorem Wr (a0 : (List (List UInt8))) (v1 : Int) (m : Nat) : ∀ (v2 : Int) (v3 : (List (List UInt8))), Ol (xy a0 v1 m v2 v3) 79 (yg Try.f79 0) ⟨[(3, vr 0), (7, vq (zu za) a0), (8, vi v1), (9, vi v2)], [.obj 1 (eL (yf 1 za) v3)], 0⟩ fun o => match o with | ⟨o_0, o_1⟩ => (.exit 0, ⟨[(3, vr 0), (7, vq (zu za) a0), (8, vi v1), (9, vi o_0), (10, vb false)], [.obj 1 (eL (yf 1 za) o_1)], 0⟩) := by
  induction m with
  | zero => intro v2 v3 o h; cases h
  | succ m ih => exact fun v2 v3 => tlp (
   .lI v2 v1 (fun c1 =>
    .na v2 fun i2 =>
    .ix0 (zu za) a0 i2 fun x3 =>
    .cl (qR x3) fun r4 =>
    .ao 24 (wV 1 xW) v3 [r4] fun n5 =>
    .go (ih (w64 (v2 + 1)) (v3 ++ [r4]))) fun c1 =>
   .ret (v2, v3))
def vj (n : Nat) (a0 : (List (List UInt8))) : Option (List (List UInt8)) :=
 (xy a0 (a0.length : Int) n 0 []).bind fun ⟨o1_0, o1_1⟩ =>
 some o1_1
theorem Kg (n : Nat) : Y9 (vj n) := fun a0 => tc (
 .le (zu za) a0 <|
 .lp (Wr a0 (a0.length : Int) n 0 []) fun ⟨o1_0, o1_1⟩ =>
 .ret o1_1) (zx Try.func79)
theorem kj {a : List UInt8} (h : a.length <= 2 ^ 39) : xJ a = some a := if_pos (xo (by decide) (by omega))
theorem Rr {a : List (List UInt8)} (ha : bsz a <= 2 ^ 39) : ∀ (l p : List (List UInt8)) (m : Nat), a = p ++ l → l.length < m → ∃ z, xy a (a.length : Int) m (p.length : Int) p = some (z, a) := by
 have hl := wk a
 intro l
 induction l with
 | nil =>
  intro p m he hm
  subst he
  obtain ⟨m, rfl, _⟩ := zg hm
  exact ⟨_, by rw [xy, if_neg (wl p)]; simp; rfl⟩
 | cons x l ih =>
  intro p m he hm
  obtain ⟨m, rfl, hm'⟩ := zg hm
  have hx : 1 + x.length <= bsz a := kI (by rw [he]; simp)
  have hlen : a.length = p.length + (l.length + 1) := by rw [he]; simp
  obtain ⟨z, hz⟩ := ih (p ++ [x]) m (by rw [he]; simp) (by simp only [List.length_cons] at hm'; omega)
  refine ⟨z, ?_⟩
  rw [xy, if_pos (by omega), zd, Option.bind_some, show a[p.length]? = some x by rw [he]; exact zy p x l, Option.bind_some, kj (by omega), Option.bind_some, if_pos (xo (by decide) (by simp only [List.length_cons, List.length_nil]; omega)), yt p x (by omega), hz]
def xK (a0 : (List (List UInt8))) : Option (List (List UInt8)) := if bsz a0 <= 2 ^ 39 then some a0 else none
theorem YA {a : List (List UInt8)} (h : bsz a <= 2 ^ 39) : xK a = some a := if_pos h
theorem WR (a0 : (List (List UInt8))) (r : (List (List UInt8))) (h : xK a0 = some r) : ∃ n, vj n a0 = some r := by
 unfold xK at h
 obtain ⟨ha, h⟩ := yd h
 obtain ⟨z, hz⟩ := Rr ha a0 [] (a0.length + 1) rfl (by omega)
 refine ⟨a0.length + 1, ?_⟩
 unfold vj
 simp only [List.length_nil, Int.natCast_zero] at hz
 rw [hz]; exact h
theorem kN : Y9 xK := fun a0 r h => (WR a0 r h).elim fun n hn => Kg n a0 r hn
def qn (F : GValue → Option GValue) : Prop := ∀ (a0 : GValue), Oc (F a0) 82 [] [.val true (ze a0)] fun r => (.val true (xe r), [])
def xz (G_impl_copyValue : GValue → Option GValue) (v0 : (List GValue)) (v1 : Int) (v3 : Int) (v4 : Int) (v5 : Int) (v6 : Int) (v7 : (List UInt8)) (v8 : (List (List UInt8))) (v9 : (List GValue)) (v10 : (List UInt8)) (v11 : (List (List UInt8))) : Nat → Int → (List GValue) → Option (Int × (List GValue))
  | 0, _, _ => none
  | m + 1, v2, v12 =>
  if v2 < v1 then
   (zD v2).bind fun i2 =>
   (v0[i2]?).bind fun x3 =>
   (G_impl_copyValue x3).bind fun r4 =>
   if zA 88 (v12.length + [r4].length) then
   xz G_impl_copyValue v0 v1 v3 v4 v5 v6 v7 v8 v9 v10 v11 m (w64 (v2 + 1)) (v12 ++ [r4])
   else none
  else
  some (v2, v12)
theorem Ws (G_impl_copyValue : GValue → Option GValue) (H_impl_copyValue : qn G_impl_copyValue) (v0 : (List GValue)) (v1 : Int) (v3 : Int) (v4 : Int) (v5 : Int) (v6 : Int) (v7 : (List UInt8)) (v8 : (List (List UInt8))) (v9 : (List GValue)) (v10 : (List UInt8)) (v11 : (List (List UInt8))) (m : Nat) : ∀ (v2 : Int) (v12 : (List GValue)), Ol (xz G_impl_copyValue v0 v1 v3 v4 v5 v6 v7 v8 v9 v10 v11 m v2 v12) 82 (yg Try.f82 0) ⟨[(2, vp 0 0), (3, vp 1 0), (18, vq zb v0), (19, vi v1), (20, vi v2)], [.var [ci v3, ci v4, .ref 2, .ref 3, .ref 4], .var [ci v5, ci v6, .ref 5, .ref 6, .ref 7], .obj 1 (eL za v7), .obj 1 (eL (yf 1 za) v8), .obj 5 (eL zk v9), .obj 1 (eL za v10), .obj 1 (eL (yf 1 za) v11), .obj 5 (eL zk v12)], 0⟩ fun o => match o with | ⟨o_0, o_1⟩ => (.exit 0, ⟨[(2, vp 0 0), (3, vp 1 0), (18, vq zb v0), (19, vi v1), (20, vi o_0), (21, vb false)], [.var [ci v3, ci v4, .ref 2, .ref 3, .ref 4], .var [ci v5, ci v6, .ref 5, .ref 6, .ref 7], .obj 1 (eL za v7), .obj 1 (eL (yf 1 za) v8), .obj 5 (eL zk v9), .obj 1 (eL za v10), .obj 1 (eL (yf 1 za) v11), .obj 5 (eL zk o_1)], 0⟩) := by
  induction m with
  | zero => intro v2 v12 o h; cases h
  | succ m ih => exact fun v2 v12 => tlp (
   .lI v2 v1 (fun c1 =>
    .na v2 fun i2 =>
    .ix eq_GValue v0 i2 fun x3 =>
    .cl (H_impl_copyValue x3) fun r4 =>
    .nd (zA 88 (v12.length + [r4].length)) fun n5 =>
    .q ⟨.room 88 (eL zk v12) ([(xe r4)] : List (List C)), .b true, by rw [(show ([(xe r4)] : List (List C)) = eL zk [r4] from (Zu (ym r4) Yr))]; exact (A.room n5)⟩ <|
    .q ⟨.uni 5 ([(xe r4)] : List (List C)), .b true, by rw [(show ([(xe r4)] : List (List C)) = eL zk [r4] from (Zu (ym r4) Yr))]; exact (A.uniO yE)⟩ <|
    .q ⟨.app (eL zk v12) ([(xe r4)] : List (List C)), .l (eL zk (v12 ++ [r4])), by rw [(show ([(xe r4)] : List (List C)) = eL zk [r4] from (Zu (ym r4) Yr))]; exact A.app⟩ <|
    .go (ih (w64 (v2 + 1)) (v12 ++ [r4]))) fun c1 =>
   .ret (v2, v12))
def vk (G_impl_copyValue : GValue → Option GValue) (n : Nat) (a0 : GValue) : Option GValue :=
 (xJ a0.S).bind fun r1 =>
 (xK a0.K).bind fun r2 =>
 (xz G_impl_copyValue a0.L (a0.L.length : Int) 0 0 a0.Kind a0.N [] [] [] r1 r2 n 0 []).bind fun ⟨o3_0, o3_1⟩ =>
 some (GValue.mk a0.Kind a0.N r1 r2 o3_1)
theorem Kh (G_impl_copyValue : GValue → Option GValue) (H_impl_copyValue : qn G_impl_copyValue) (n : Nat) : qn (vk G_impl_copyValue n) := fun a0 => tc (
 .cl (qR a0.S) fun r1 =>
 .cl (kN a0.K) fun r2 =>
 .le zb a0.L <|
 .lp (Ws G_impl_copyValue H_impl_copyValue a0.L (a0.L.length : Int) 0 0 a0.Kind a0.N [] [] [] r1 r2 n 0 []) fun ⟨o3_0, o3_1⟩ =>
 .ret (GValue.mk a0.Kind a0.N r1 r2 o3_1)) (zx Try.func82)
def yI : Nat → GValue → Option GValue
 | 0, _ => none
 | n + 1, a0 => vk (yI n) n a0
theorem Q9 (n : Nat) : qn (yI n) := by
 induction n with
 | zero => exact fun _ _ h => (by rw [yI] at h; cases h)
 | succ n ih =>
  have ih_impl_copyValue := ih
  exact fun a0 r h => Kh (yI n) ih_impl_copyValue n a0 r (by rw [yI] at h; exact h)
theorem Rs {G : GValue → Option GValue} {a : List GValue} {v3 v4 v5 v6 : Int} {v7 : List UInt8} {v8 : List (List UInt8)} {v9 : List GValue} {v10 : List UInt8} {v11 : List (List UInt8)} (ha : a.length <= 2 ^ 39) : ∀ (l p : List GValue) (m : Nat), a = p ++ l → (∀ x ∈ l, G x = some x) → l.length < m → ∃ z, xz G a (a.length : Int) v3 v4 v5 v6 v7 v8 v9 v10 v11 m (p.length : Int) p = some (z, a) := by
 intro l
 induction l with
 | nil =>
  intro p m he _ hm
  subst he
  obtain ⟨m, rfl, _⟩ := zg hm
  exact ⟨_, by rw [xz, if_neg (wl p)]; simp; rfl⟩
 | cons x l ih =>
  intro p m he hG hm
  obtain ⟨m, rfl, hm'⟩ := zg hm
  have hlen : a.length = p.length + (l.length + 1) := by rw [he]; simp
  obtain ⟨z, hz⟩ := ih (p ++ [x]) m (by rw [he]; simp) (fun y hy => hG y (List.mem_cons_of_mem _ hy)) (by simp only [List.length_cons] at hm'; omega)
  refine ⟨z, ?_⟩
  rw [xz, if_pos (by omega), zd, Option.bind_some, show a[p.length]? = some x by rw [he]; exact zy p x l, Option.bind_some, hG x List.mem_cons_self, Option.bind_some, if_pos (xo (by decide) (by simp only [List.length_cons, List.length_nil]; omega)), yt p x (by omega), hz]
theorem PB : ∀ (N : Nat) (v : GValue), vsz v < N → vsz v <= 2 ^ 39 → ∀ f : Nat, vsz v + 2 <= f → yI f v = some v := by
 intro N
 induction N with
 | zero => intro v hv; omega
 | succ N ih =>
  intro v hv hs f hf
  obtain ⟨f, rfl, _⟩ := zg (show 0 < f by omega)
  have he := y8 v
  have hl := y0 v.L
  rw [yI]
  unfold vk
  rw [kj (by omega), YA (by omega)]
  simp only [Option.bind_some]
  obtain ⟨z, hz⟩ := Rs (G := yI f) (a := v.L) (v3 := 0) (v4 := 0) (v5 := v.Kind) (v6 := v.N) (v7 := []) (v8 := []) (v9 := []) (v10 := v.S) (v11 := v.K) (by omega) v.L [] f rfl (fun x hx => by
   have := yw hx
   exact ih x (by omega) (by omega) f (by omega)) (by omega)
  simp only [List.length_nil, Int.natCast_zero] at hz
  rw [hz]
  exact congrArg some (GValue.eta v)
def z8 (a0 : GValue) : Option GValue := if vsz a0 <= 2 ^ 39 then some a0 else none
theorem WS (a0 : GValue) (r : GValue) (h : z8 a0 = some r) : ∃ n, yI n a0 = some r := by
 unfold z8 at h
 obtain ⟨ha, h⟩ := yd h
 exact ⟨vsz a0 + 2, by rw [<- h]; exact PB _ a0 (Nat.lt_succ_self _) ha _ (Nat.le_refl _)⟩
theorem yv : qn z8 := by
 intro a0 r h
 obtain ⟨n, hn⟩ := WS a0 r h
 exact (Q9 n) a0 r hn
def wt (F : (List (List UInt8)) → (List UInt8) → Option (Int × Bool)) : Prop := ∀ (a0 : (List (List UInt8))) (a1 : (List UInt8)), Oc (F a0 a1) 106 [] [vq (zu za) a0, vq za a1, .val false [.fn 68 []]] fun r => (.tup [(false, [ci r.1]), (false, [.bool r.2])], [])
def zr (a0 : (List (List UInt8))) (a1 : (List UInt8)) (v2 : Int) : Nat → Int → Int → Option (Int × Int)
  | 0, _, _ => none
  | m + 1, v3, v4 =>
  if v3 < v4 then
   (zD (w64 (Yw .shr .u64 (IntKind.u64.wrap (w64 (v3 + v4))) 1))).bind fun i2 =>
   (a0[i2]?).bind fun x3 =>
   (yF x3 a1).bind fun r4 =>
   if r4 < 0 then
    zr a0 a1 v2 m (w64 ((w64 (Yw .shr .u64 (IntKind.u64.wrap (w64 (v3 + v4))) 1)) + 1)) v4
   else
   zr a0 a1 v2 m v3 (w64 (Yw .shr .u64 (IntKind.u64.wrap (w64 (v3 + v4))) 1))
  else
  some (v3, v4)
theorem jc (a0 : (List (List UInt8))) (a1 : (List UInt8)) (v2 : Int) (m : Nat) : ∀ (v3 : Int) (v4 : Int), Ol (zr a0 a1 v2 m v3 v4) 106 (yg Try.f106 0) ⟨[(0, vq (zu za) a0), (1, vq za a1), (2, .val false [.fn 68 []]), (8, vi v2), (9, vi v3), (10, vi v4)], [], 0⟩ fun o => match o with | ⟨o_0, o_1⟩ => (.exit 0, ⟨[(0, vq (zu za) a0), (1, vq za a1), (2, .val false [.fn 68 []]), (8, vi v2), (9, vi o_0), (10, vi o_1), (17, vb false)], [], 0⟩) := by
  induction m with
  | zero => intro v3 v4 o h; cases h
  | succ m ih => exact fun v3 v4 => tlp (
   .lI v3 v4 (fun c1 =>
    .q (.gTo 0 1 (by decide)) <|
    .cw (Yw .shr .u64 (IntKind.u64.wrap (w64 (v3 + v4))) 1) <|
    .na (w64 (Yw .shr .u64 (IntKind.u64.wrap (w64 (v3 + v4))) 1)) fun i2 =>
    .ix0 (zu za) a0 i2 fun x3 =>
    .cl (qm x3 a1) fun r4 =>
    .lI r4 0 (fun c5 =>
     .go (ih (w64 ((w64 (Yw .shr .u64 (IntKind.u64.wrap (w64 (v3 + v4))) 1)) + 1)) v4)) fun c5 =>
    .go (ih v3 (w64 (Yw .shr .u64 (IntKind.u64.wrap (w64 (v3 + v4))) 1)))) fun c1 =>
   .ret (v3, v4))
def yT (n : Nat) (a0 : (List (List UInt8))) (a1 : (List UInt8)) : Option (Int × Bool) :=
 (zr a0 a1 (a0.length : Int) n 0 (a0.length : Int)).bind fun ⟨o1_0, o1_1⟩ =>
 if o1_0 < (a0.length : Int) then
  (zD o1_0).bind fun i3 =>
  (a0[i3]?).bind fun x4 =>
  (yF x4 a1).bind fun r5 =>
  some (o1_0, (decide (r5 = 0)))
 else
 some (o1_0, false)
theorem jF (n : Nat) : wt (yT n) := fun a0 a1 => tc (
 .le (zu za) a0 <|
 .lp (jc a0 a1 (a0.length : Int) n 0 (a0.length : Int)) fun ⟨o1_0, o1_1⟩ =>
 .lI o1_0 (a0.length : Int) (fun c2 =>
  .na o1_0 fun i3 =>
  .ix0 (zu za) a0 i3 fun x4 =>
  .cl (qm x4 a1) fun r5 =>
  .eD r5 0 <|
  .ret (o1_0, (decide (r5 = 0)))) fun c2 =>
 .ret (o1_0, false)) (zx Try.func106)
theorem UV {a : List (List UInt8)} {x : List UInt8} {c : Nat} {v2 : Int} (hp : YI a x c) (ha : a.length <= 2 ^ 40) : ∀ (d i j m : Nat), j - i <= d → i <= c → c <= j → j <= a.length → d < m → zr a x v2 m (i : Int) (j : Int) = some ((c : Int), (c : Int)) := by
 intro d
 induction d with
 | zero =>
  intro i j m hd h1 h2 h3 hm
  obtain ⟨m, rfl, _⟩ := zg hm
  rw [zr, if_neg (by omega), show i = c by omega, show j = c by omega]
 | succ d ih =>
  intro i j m hd h1 h2 h3 hm
  obtain ⟨m, rfl, hm'⟩ := zg hm
  by_cases hij : i < j
  ·have hk : (i + j) / 2 < a.length := by omega
   rw [zr, if_pos (by omega), Eo (by omega), zd, Option.bind_some, zq hk, Option.bind_some]
   unfold yF xI
   simp only [Option.bind_some]
   have hq := hp.2 _ hk
   by_cases hl : Op.bytesLess a[(i + j) / 2] x = true
   ·rw [if_pos (by rw [R7]; exact hl), yr (by omega)]
    have := hq.2 hl
    exact ih _ _ m (by omega) (by omega) h2 h3 (by omega)
   ·rw [if_neg (by rw [R7]; exact hl)]
    have : ¬ (i + j) / 2 < c := fun h => hl (hq.1 h)
    exact ih _ _ m (by omega) h1 (by omega) (by omega) (by omega)
  ·rw [zr, if_neg (by omega), show i = c by omega, show j = c by omega]
open Classical in
noncomputable def zI (a0 : (List (List UInt8))) (a1 : (List UInt8)) : Option (Int × Bool) := if h : a0.length <= 2 ^ 40 ∧ ∃ c, YI a0 a1 c then some (((Classical.choose h.2 : Nat) : Int), decide (a0[Classical.choose h.2]? = some a1)) else none
theorem Vl {a : List (List UInt8)} {x : List UInt8} (ha : a.length <= 2 ^ 40) (h : Asc a) : ∃ c, YI a x c ∧ zI a x = some ((c : Int), decide (x ∈ a)) := by
 have he : a.length <= 2 ^ 40 ∧ ∃ c, YI a x c := ⟨ha, YI.of h x⟩
 refine ⟨Classical.choose he.2, Classical.choose_spec he.2, ?_⟩
 unfold zI
 rw [dif_pos he]
 congr 2
 exact decide_eq_decide.2 (YI.mem h (Classical.choose_spec he.2))
theorem jh (a0 : (List (List UInt8))) (a1 : (List UInt8)) (r : (Int × Bool)) (h : zI a0 a1 = some r) : ∃ n, yT n a0 a1 = some r := by
 unfold zI at h
 split at h
 ·rename_i he
  have hp := Classical.choose_spec he.2
  generalize Classical.choose he.2 = c at h hp
  refine ⟨a0.length + 1, ?_⟩
  unfold yT
  have hl := UV (v2 := (a0.length : Int)) hp he.1 a0.length 0 a0.length (a0.length + 1) (by omega) (by omega) hp.1 (Nat.le_refl _) (by omega)
  rw [show ((0 : Nat) : Int) = 0 from rfl] at hl
  rw [hl, Option.bind_some]
  dsimp only
  rw [<- h]
  by_cases hc : c < a0.length
  ·rw [if_pos (by omega), zd, Option.bind_some, zq hc, Option.bind_some]
   unfold yF xI
   simp only [Option.bind_some]
   congr 2
   exact decide_eq_decide.2 ((Pm _ _).trans (by simp))
  ·rw [if_neg (by omega), List.getElem?_eq_none (by omega)]
   simp
 ·cases h
theorem j6 : wt zI := fun a0 a1 r h => (jh a0 a1 r h).elim fun n hn => jF n a0 a1 r hn
def yY (a0 : GValue) (a1 : (List UInt8)) : Option (Int × Bool) :=
 (zI a0.K a1).bind fun ⟨r1_0, r1_1⟩ =>
 some (r1_0, r1_1)
theorem Zh (a0 : GValue) (a1 : (List UInt8)) : Oc (yY a0 a1) 81 [] [.val true (ze a0), vq za a1] fun r => (.tup [(false, [ci r.1]), (false, [.bool r.2])], []) := tc (
 .cl (j6 a0.K a1) fun ⟨r1_0, r1_1⟩ =>
 .ret (r1_0, r1_1)) (zx Try.func81)
def jA (F : (List GStep) → GValue → GValue → Option (List GChange)) : Prop := ∀ (a0 : (List GStep)) (a1 : GValue) (a2 : GValue), Oc (F a0 a1 a2) 49 [] [vq zP a0, .val true (ze a1), .val true (ze a2)] fun r => (.val false [.own 13 (eL yp r)], [])
def qg (G_impl_diff : (List GStep) → GValue → GValue → Option (List GChange)) (a0 : (List GStep)) (v1 : Int) (a1 : GValue) (a2 : GValue) : Nat → Int → (List GChange) → Option (Int × (List GChange))
  | 0, _, _ => none
  | m + 1, v2, v5 =>
  if v2 < v1 then
   (yy a0).bind fun r2 =>
   if zA 40 (r2.length + [(GStep.mk 1 [] v2)].length) then
   (zD v2).bind fun i4 =>
   (a1.L[i4]?).bind fun x5 =>
   (a2.L[i4]?).bind fun x6 =>
   (G_impl_diff (r2 ++ [(GStep.mk 1 [] v2)]) x5 x6).bind fun r7 =>
   if zA 216 (v5.length + r7.length) then
   qg G_impl_diff a0 v1 a1 a2 m (w64 (v2 + 1)) (v5 ++ r7)
   else none
   else none
  else
  some (v2, v5)
theorem Vm (G_impl_diff : (List GStep) → GValue → GValue → Option (List GChange)) (H_impl_diff : jA G_impl_diff) (a0 : (List GStep)) (v1 : Int) (a1 : GValue) (a2 : GValue) (m : Nat) : ∀ (v2 : Int) (v5 : (List GChange)), Ol (qg G_impl_diff a0 v1 a1 a2 m v2 v5) 49 (yg Try.f49 0) ⟨[(0, vq zP a0), (4, vp 0 0), (5, vp 1 0), (7, vr 2), (53, vi v1), (54, vi v2)], [.var (ze a1), .var (ze a2), .obj 13 (eL yp v5)], 0⟩ fun o => match o with | ⟨o_0, o_1⟩ => (.exit 1, ⟨[(0, vq zP a0), (4, vp 0 0), (5, vp 1 0), (7, vr 2), (53, vi v1), (54, vi o_0), (55, vb false)], [.var (ze a1), .var (ze a2), .obj 13 (eL yp o_1)], 0⟩) := by
  induction m with
  | zero => intro v2 v5 o h; cases h
  | succ m ih => exact fun v2 v5 => tlp (
   .lI v2 v1 (fun c1 =>
    .cl (wA a0) fun r2 =>
    .ao 40 vH r2 [(GStep.mk 1 [] v2)] fun n3 =>
    .na v2 fun i4 =>
    .ix eq_GValue a1.L i4 fun x5 =>
    .ag 1 <|
    .ix eq_GValue a2.L i4 fun x6 =>
    .vo vH (r2 ++ [(GStep.mk 1 [] v2)]) <|
    .cl (H_impl_diff (r2 ++ [(GStep.mk 1 [] v2)]) x5 x6) fun r7 =>
    .cn zG r7 <|
    .ao 216 zG v5 r7 fun n8 =>
    .go (ih (w64 (v2 + 1)) (v5 ++ r7))) fun c1 =>
   .ret (v2, v5))
def yk (G_impl_diff : (List GStep) → GValue → GValue → Option (List GChange)) (a0 : (List GStep)) (v1 : (List (List UInt8))) (v2 : Int) (a1 : GValue) (a2 : GValue) : Nat → Int → (List GChange) → Option (Int × (List GChange))
  | 0, _, _ => none
  | m + 1, v3, v6 =>
  if v3 < v2 then
   (zD v3).bind fun i2 =>
   (v1[i2]?).bind fun x3 =>
   (yy a0).bind fun r4 =>
   (xJ x3).bind fun r5 =>
   if zA 40 (r4.length + [(GStep.mk 0 r5 0)].length) then
   (yY a1 x3).bind fun ⟨r7_0, r7_1⟩ =>
   (yY a2 x3).bind fun ⟨r8_0, r8_1⟩ =>
   match r7_1 with
   | true =>
    match r8_1 with
    | true =>
     (zD r7_0).bind fun i9 =>
     (a1.L[i9]?).bind fun x10 =>
     (zD r8_0).bind fun i11 =>
     (a2.L[i11]?).bind fun x12 =>
     (G_impl_diff (r4 ++ [(GStep.mk 0 r5 0)]) x10 x12).bind fun r13 =>
     if zA 216 (v6.length + r13.length) then
     yk G_impl_diff a0 v1 v2 a1 a2 m (w64 (v3 + 1)) (v6 ++ r13)
     else none
    | false =>
     (zD r7_0).bind fun i9 =>
     (a1.L[i9]?).bind fun x10 =>
     (z8 x10).bind fun r11 =>
     if zA 216 (v6.length + [(GChange.mk (r4 ++ [(GStep.mk 0 r5 0)]) true r11 false (GValue.mk 0 0 [] [] []))].length) then
     yk G_impl_diff a0 v1 v2 a1 a2 m (w64 (v3 + 1)) (v6 ++ [(GChange.mk (r4 ++ [(GStep.mk 0 r5 0)]) true r11 false (GValue.mk 0 0 [] [] []))])
     else none
   | false =>
    (zD r8_0).bind fun i9 =>
    (a2.L[i9]?).bind fun x10 =>
    (z8 x10).bind fun r11 =>
    if zA 216 (v6.length + [(GChange.mk (r4 ++ [(GStep.mk 0 r5 0)]) false (GValue.mk 0 0 [] [] []) true r11)].length) then
    yk G_impl_diff a0 v1 v2 a1 a2 m (w64 (v3 + 1)) (v6 ++ [(GChange.mk (r4 ++ [(GStep.mk 0 r5 0)]) false (GValue.mk 0 0 [] [] []) true r11)])
    else none
   else none
  else
  some (v3, v6)
theorem Vn (G_impl_diff : (List GStep) → GValue → GValue → Option (List GChange)) (H_impl_diff : jA G_impl_diff) (a0 : (List GStep)) (v1 : (List (List UInt8))) (v2 : Int) (a1 : GValue) (a2 : GValue) (m : Nat) : ∀ (v3 : Int) (v6 : (List GChange)), Ol (yk G_impl_diff a0 v1 v2 a1 a2 m v3 v6) 49 (yg Try.f49 1) ⟨[(0, vq zP a0), (4, vp 0 0), (5, vp 1 0), (7, vr 2), (96, vq (zu za) v1), (97, vi v2), (98, vi v3)], [.var (ze a1), .var (ze a2), .obj 13 (eL yp v6)], 0⟩ fun o => match o with | ⟨o_0, o_1⟩ => (.exit 3, ⟨[(0, vq zP a0), (4, vp 0 0), (5, vp 1 0), (7, vr 2), (96, vq (zu za) v1), (97, vi v2), (98, vi o_0), (99, vb false)], [.var (ze a1), .var (ze a2), .obj 13 (eL yp o_1)], 0⟩) := by
  induction m with
  | zero => intro v3 v6 o h; cases h
  | succ m ih => exact fun v3 v6 => tlp (
   .lI v3 v2 (fun c1 =>
    .na v3 fun i2 =>
    .ix0 (zu za) v1 i2 fun x3 =>
    .cl (wA a0) fun r4 =>
    .cl (qR x3) fun r5 =>
    .ao 40 vH r4 [(GStep.mk 0 r5 0)] fun n6 =>
    .cl (Zh a1 x3) fun ⟨r7_0, r7_1⟩ =>
    .cl (Zh a2 x3) fun ⟨r8_0, r8_1⟩ =>
    .vM 0 r7_1 (
     .az 0 0 <|
     .vM 0 r8_1 (
      .na r7_0 fun i9 =>
      .ix eq_GValue a1.L i9 fun x10 =>
      .na r8_0 fun i11 =>
      .ix eq_GValue a2.L i11 fun x12 =>
      .vo vH (r4 ++ [(GStep.mk 0 r5 0)]) <|
      .cl (H_impl_diff (r4 ++ [(GStep.mk 0 r5 0)]) x10 x12) fun r13 =>
      .cn zG r13 <|
      .ao 216 zG v6 r13 fun n14 =>
      .go (ih (w64 (v3 + 1)) (v6 ++ r13))) <|
     .az 0 1 <|
     .na r7_0 fun i9 =>
     .ix eq_GValue a1.L i9 fun x10 =>
     .cl (yv x10) fun r11 =>
     .ao 216 zG v6 [(GChange.mk (r4 ++ [(GStep.mk 0 r5 0)]) true r11 false (GValue.mk 0 0 [] [] []))] fun n12 =>
     .go (ih (w64 (v3 + 1)) (v6 ++ [(GChange.mk (r4 ++ [(GStep.mk 0 r5 0)]) true r11 false (GValue.mk 0 0 [] [] []))]))) <|
    .az 0 0 <|
    .az 1 0 <|
    .na r8_0 fun i9 =>
    .ix eq_GValue a2.L i9 fun x10 =>
    .cl (yv x10) fun r11 =>
    .ao 216 zG v6 [(GChange.mk (r4 ++ [(GStep.mk 0 r5 0)]) false (GValue.mk 0 0 [] [] []) true r11)] fun n12 =>
    .go (ih (w64 (v3 + 1)) (v6 ++ [(GChange.mk (r4 ++ [(GStep.mk 0 r5 0)]) false (GValue.mk 0 0 [] [] []) true r11)]))) fun c1 =>
   .ret (v3, v6))
def Z4 (G_impl_diff : (List GStep) → GValue → GValue → Option (List GChange)) (n : Nat) (a0 : (List GStep)) (a1 : GValue) (a2 : GValue) : Option (List GChange) :=
 (wa a1 a2).bind fun r1 =>
 if r1 = 0 then
  some []
 else
 if a1.Kind = 4 then
  if a2.Kind = 4 then
   if (a1.L.length : Int) = (a2.L.length : Int) then
    (qg G_impl_diff a0 (a1.L.length : Int) a1 a2 n 0 []).bind fun ⟨o6_0, o6_1⟩ =>
    some o6_1
   else
   (yy a0).bind fun r6 =>
   (z8 a1).bind fun r7 =>
   (z8 a2).bind fun r8 =>
   if zA 216 (0 + [(GChange.mk r6 true r7 true r8)].length) then
   some [(GChange.mk r6 true r7 true r8)]
   else none
  else
  (yy a0).bind fun r5 =>
  (z8 a1).bind fun r6 =>
  (z8 a2).bind fun r7 =>
  if zA 216 (0 + [(GChange.mk r5 true r6 true r7)].length) then
  some [(GChange.mk r5 true r6 true r7)]
  else none
 else
 if a1.Kind = 5 then
  if a2.Kind = 5 then
   (xK a1.K).bind fun r6 =>
   (xK a2.K).bind fun r7 =>
   if zA 24 (r6.length + r7.length) then
   (yP (r6 ++ r7)).bind fun r9 =>
   (y7 r9).bind fun r10 =>
   (yk G_impl_diff a0 r10 (r10.length : Int) a1 a2 n 0 []).bind fun ⟨o11_0, o11_1⟩ =>
   some o11_1
   else none
  else
  (yy a0).bind fun r6 =>
  (z8 a1).bind fun r7 =>
  (z8 a2).bind fun r8 =>
  if zA 216 (0 + [(GChange.mk r6 true r7 true r8)].length) then
  some [(GChange.mk r6 true r7 true r8)]
  else none
 else
 (yy a0).bind fun r5 =>
 (z8 a1).bind fun r6 =>
 (z8 a2).bind fun r7 =>
 if zA 216 (0 + [(GChange.mk r5 true r6 true r7)].length) then
 some [(GChange.mk r5 true r6 true r7)]
 else none
theorem PC (G_impl_diff : (List GStep) → GValue → GValue → Option (List GChange)) (H_impl_diff : jA G_impl_diff) (n : Nat) : jA (Z4 G_impl_diff n) := fun a0 a1 a2 => tc (
 .cl (X9 a1 a2) fun r1 =>
 .eI r1 0 (fun c2 =>
  .ret []) fun c2 =>
 .eI a1.Kind 4 (fun c3 =>
  .eI a2.Kind 4 (fun c4 =>
   .le zb a1.L <|
   .le zb a2.L <|
   .eI (a1.L.length : Int) (a2.L.length : Int) (fun c5 =>
    .le zb a1.L <|
    .lp (Vm G_impl_diff H_impl_diff a0 (a1.L.length : Int) a1 a2 n 0 []) fun ⟨o6_0, o6_1⟩ =>
    .ret o6_1) fun c5 =>
   .q (.eFo a1.Kind 5 (by omega)) <|
   .cl (wA a0) fun r6 =>
   .cl (yv a1) fun r7 =>
   .cl (yv a2) fun r8 =>
   .ao 216 zG [] [(GChange.mk r6 true r7 true r8)] fun n9 =>
   .ret [(GChange.mk r6 true r7 true r8)]) fun c4 =>
  .q (.eFo a1.Kind 5 (by omega)) <|
  .cl (wA a0) fun r5 =>
  .cl (yv a1) fun r6 =>
  .cl (yv a2) fun r7 =>
  .ao 216 zG [] [(GChange.mk r5 true r6 true r7)] fun n8 =>
  .ret [(GChange.mk r5 true r6 true r7)]) fun c3 =>
 .eI a1.Kind 5 (fun c4 =>
  .eI a2.Kind 5 (fun c5 =>
   .cl (kN a1.K) fun r6 =>
   .cl (kN a2.K) fun r7 =>
   .ao 24 (wV 1 xW) r6 r7 fun n8 =>
   .cl (YM (r6 ++ r7)) fun r9 =>
   .cl (ZY r9) fun r10 =>
   .vo (wV 1 xW) r10 <|
   .le (zu za) r10 <|
   .lp (Vn G_impl_diff H_impl_diff a0 r10 (r10.length : Int) a1 a2 n 0 []) fun ⟨o11_0, o11_1⟩ =>
   .ret o11_1) fun c5 =>
  .cl (wA a0) fun r6 =>
  .cl (yv a1) fun r7 =>
  .cl (yv a2) fun r8 =>
  .ao 216 zG [] [(GChange.mk r6 true r7 true r8)] fun n9 =>
  .ret [(GChange.mk r6 true r7 true r8)]) fun c4 =>
 .cl (wA a0) fun r5 =>
 .cl (yv a1) fun r6 =>
 .cl (yv a2) fun r7 =>
 .ao 216 zG [] [(GChange.mk r5 true r6 true r7)] fun n8 =>
 .ret [(GChange.mk r5 true r6 true r7)]) (zx Try.func49)
def xH : Nat → (List GStep) → GValue → GValue → Option (List GChange)
 | 0, _, _, _ => none
 | n + 1, a0, a1, a2 => Z4 (xH n) n a0 a1 a2
theorem TA (n : Nat) : jA (xH n) := by
 induction n with
 | zero => exact fun _ _ _ _ h => (by rw [xH] at h; cases h)
 | succ n ih =>
  have ih_impl_diff := ih
  exact fun a0 a1 a2 r h => PC (xH n) ih_impl_diff n a0 a1 a2 r (by rw [xH] at h; exact h)
def Z5 (a0 : (List GStep)) (a1 : GValue) (a2 : GValue) : Option (List GChange) := xH (vsz a1 + vsz a2 + 4) a0 a1 a2
theorem Rt (a0 : (List GStep)) (a1 : GValue) (a2 : GValue) (r : (List GChange)) (h : Z5 a0 a1 a2 = some r) : ∃ n, xH n a0 a1 a2 = some r := ⟨_, h⟩
theorem UW : jA Z5 := by
 intro a0 a1 a2 r h
 obtain ⟨n, hn⟩ := Rt a0 a1 a2 r h
 exact (TA n) a0 a1 a2 r hn
def Z6 (a0 : GValue) (a1 : GValue) : Option ((List GChange) × Bool) :=
 (ja a0).bind fun r1 =>
 match r1 with
 | true =>
  (ja a1).bind fun r2 =>
  match r2 with
  | true =>
   (Z5 [] a0 a1).bind fun r3 =>
   some (r3, true)
  | false =>
   some ([], false)
 | false =>
  some ([], false)
theorem UX (a0 : GValue) (a1 : GValue) : Oc (Z6 a0 a1) 17 [] [.val true (ze a0), .val true (ze a1)] fun r => (.tup [(false, [.own 13 (eL yp r.1)]), (false, [.bool r.2])], []) := tc (
 .cl (Xo a0) fun r1 =>
 .vN 0 r1 (
  .an 0 0 <|
  .cl (Xo a1) fun r2 =>
  .an 0 1 <|
  .an 0 1 <|
  .vN 0 r2 (
   .cl (UW [] a0 a1) fun r3 =>
   .ret (r3, true)) <|
  .ret ([], false)) <|
 .an 0 0 <|
 .an 0 0 <|
 .an 0 0 <|
 .ret ([], false)) (zx Try.func17)
def XB (F : (List UInt8) → (List UInt8) → Option Bool) : Prop := ∀ (a0 : (List UInt8)) (a1 : (List UInt8)), Oc (F a0 a1) 36 [] [vq za a0, vq za a1] fun r => (vb r, [])
def we (a0 : (List UInt8)) (a1 : (List UInt8)) : Nat → Int → Option (Bool ⊕ Int)
  | 0, _ => none
  | m + 1, v2 =>
  if v2 < (a0.length : Int) then
   (zD v2).bind fun i2 =>
   (a0[i2]?).bind fun x3 =>
   (a1[i2]?).bind fun x4 =>
   if ((x3.toNat : Nat) : Int) = ((x4.toNat : Nat) : Int) then
    we a0 a1 m (w64 (v2 + 1))
   else
   some (.inl false)
  else
  some (.inr v2)
theorem QA (a0 : (List UInt8)) (a1 : (List UInt8)) (m : Nat) : ∀ (v2 : Int), Ol (we a0 a1 m v2) 36 (yg Try.f36 0) ⟨[(0, vq za a0), (1, vq za a1), (5, vi v2)], [], 0⟩ fun o => match o with | .inl o_0 => (.ret, ⟨[(4, vb o_0)], [], 0⟩) | .inr (o_1) => (.exit 0, ⟨[(0, vq za a0), (1, vq za a1), (5, vi o_1), (14, vb false)], [], 0⟩) := by
  induction m with
  | zero => intro v2 o h; cases h
  | succ m ih => exact fun v2 => tlp (
   .le za a0 <|
   .lI v2 (a0.length : Int) (fun c1 =>
    .na v2 fun i2 =>
    .ix0 za a0 i2 fun x3 =>
    .ag 1 <|
    .ix0 za a1 i2 fun x4 =>
    .eI ((x3.toNat : Nat) : Int) ((x4.toNat : Nat) : Int) (fun c5 =>
     .go (ih (w64 (v2 + 1)))) fun c5 =>
    .ret (.inl false)) fun c1 =>
   .ret (.inr v2))
def Zq (n : Nat) (a0 : (List UInt8)) (a1 : (List UInt8)) : Option Bool :=
 if (a0.length : Int) = (a1.length : Int) then
  (we a0 a1 n 0).bind fun o2 =>
  match o2 with
  | .inl o2_0 =>
   some o2_0
  | .inr (o2_1) =>
   some true
 else
 some false
theorem Ru (n : Nat) : XB (Zq n) := fun a0 a1 => tc (
 .le za a0 <|
 .le za a1 <|
 .eI (a0.length : Int) (a1.length : Int) (fun c1 =>
  .l2 (QA a0 a1 n 0) (fun o2_0 =>
   .ret o2_0) fun o2_1 =>
  .ret true) fun c1 =>
 .ret false) (zx Try.func36)
theorem UY {a : List UInt8} (ha : a.length <= 2 ^ 40) : ∀ (d i m : Nat), i + d = a.length → d < m → ∃ z, we a a m (i : Int) = some (.inr z) := by
 intro d
 induction d with
 | zero =>
  intro i m hi hm
  obtain ⟨m, rfl, _⟩ := zg hm
  exact ⟨_, by rw [we, if_neg (by omega)]⟩
 | succ d ih =>
  intro i m hi hm
  obtain ⟨m, rfl, hm'⟩ := zg hm
  have hil : i < a.length := by omega
  rw [we, if_pos (by omega), zd, Option.bind_some, zq hil, Option.bind_some, Option.bind_some, if_pos rfl, yr (by omega)]
  exact ih (i + 1) m (by omega) (by omega)
def xi (a0 : (List UInt8)) (a1 : (List UInt8)) : Option Bool := if a0 = a1 ∧ a0.length <= 2 ^ 40 then some true else none
theorem Ju (a0 : (List UInt8)) (a1 : (List UInt8)) (r : Bool) (h : xi a0 a1 = some r) : ∃ n, Zq n a0 a1 = some r := by
 unfold xi at h
 obtain ⟨⟨he, ha⟩, h2⟩ := yd h
 clear h
 subst he
 refine ⟨a0.length + 1, ?_⟩
 obtain ⟨z, hz⟩ := UY ha a0.length 0 (a0.length + 1) (by omega) (by omega)
 rw [show ((0 : Nat) : Int) = 0 from rfl] at hz
 unfold Zq
 rw [if_pos rfl, hz]; exact h2
theorem Zb : XB xi := fun a0 a1 r h => (Ju a0 a1 r h).elim fun n hn => Ru n a0 a1 r hn
def j7 (a0 : GStep) (a1 : GStep) : Option Bool :=
 if a0.Kind = a1.Kind then
  (xi a0.Key a1.Key).bind fun r2 =>
  match r2 with
  | true =>
   if a0.I = a1.I then
    some true
   else
   some false
  | false =>
   some false
 else
 some false
theorem Rv (a0 : GStep) (a1 : GStep) : Oc (j7 a0 a1) 107 [] [.val true (Ji a0), .val true (Ji a1)] fun r => (vb r, []) := tc (
 .eI a0.Kind a1.Kind (fun c1 =>
  .cl (Zb a0.Key a1.Key) fun r2 =>
  .vN 0 r2 (
   .eI a0.I a1.I (fun c3 =>
    .ret true) fun c3 =>
   .ret false) <|
  .ret false) fun c1 =>
 .ret false) (zx Try.func107)
def XC (F : (List GStep) → (List GStep) → Option Bool) : Prop := ∀ (a0 : (List GStep)) (a1 : (List GStep)), Oc (F a0 a1) 83 [] [vq zP a0, vq zP a1] fun r => (vb r, [])
def wg (a0 : (List GStep)) (a1 : (List GStep)) : Nat → Int → Option (Bool ⊕ Int)
  | 0, _ => none
  | m + 1, v2 =>
  if v2 < (a0.length : Int) then
   (zD v2).bind fun i2 =>
   (a0[i2]?).bind fun x3 =>
   (a1[i2]?).bind fun x4 =>
   (j7 x3 x4).bind fun r5 =>
   match r5 with
   | true =>
    wg a0 a1 m (w64 (v2 + 1))
   | false =>
    some (.inl false)
  else
  some (.inr v2)
theorem QB (a0 : (List GStep)) (a1 : (List GStep)) (m : Nat) : ∀ (v2 : Int), Ol (wg a0 a1 m v2) 83 (yg Try.f83 0) ⟨[(0, vq zP a0), (1, vq zP a1), (5, vi v2)], [], 0⟩ fun o => match o with | .inl o_0 => (.ret, ⟨[(4, vb o_0)], [], 0⟩) | .inr (o_1) => (.exit 0, ⟨[(0, vq zP a0), (1, vq zP a1), (5, vi o_1), (14, vb false)], [], 0⟩) := by
  induction m with
  | zero => intro v2 o h; cases h
  | succ m ih => exact fun v2 => tlp (
   .le zP a0 <|
   .lI v2 (a0.length : Int) (fun c1 =>
    .na v2 fun i2 =>
    .ix ku a0 i2 fun x3 =>
    .ag 1 <|
    .ix ku a1 i2 fun x4 =>
    .cl (Rv x3 x4) fun r5 =>
    .vN 0 r5 (
     .go (ih (w64 (v2 + 1)))) <|
    .ret (.inl false)) fun c1 =>
   .ret (.inr v2))
def Zr (n : Nat) (a0 : (List GStep)) (a1 : (List GStep)) : Option Bool :=
 if (a0.length : Int) = (a1.length : Int) then
  (wg a0 a1 n 0).bind fun o2 =>
  match o2 with
  | .inl o2_0 =>
   some o2_0
  | .inr (o2_1) =>
   some true
 else
 some false
theorem Rw (n : Nat) : XC (Zr n) := fun a0 a1 => tc (
 .le zP a0 <|
 .le zP a1 <|
 .eI (a0.length : Int) (a1.length : Int) (fun c1 =>
  .l2 (QB a0 a1 n 0) (fun o2_0 =>
   .ret o2_0) fun o2_1 =>
  .ret true) fun c1 =>
 .ret false) (zx Try.func83)
theorem UZ {a : List GStep} (ha : a.length <= 2 ^ 40) (hG : ∀ v ∈ a, j7 v v = some true) : ∀ (d i m : Nat), i + d = a.length → d < m → ∃ z, wg a a m (i : Int) = some (.inr z) := by
 intro d
 induction d with
 | zero =>
  intro i m hi hm
  obtain ⟨m, rfl, _⟩ := zg hm
  exact ⟨_, by rw [wg, if_neg (by omega)]⟩
 | succ d ih =>
  intro i m hi hm
  obtain ⟨m, rfl, hm'⟩ := zg hm
  have hil : i < a.length := by omega
  rw [wg, if_pos (by omega), zd, Option.bind_some, zq hil, Option.bind_some, Option.bind_some, hG _ (List.getElem_mem hil), Option.bind_some, yr (by omega)]
  exact ih (i + 1) m (by omega) (by omega)
theorem LZ {v : GStep} (h : vy v <= 2 ^ 39) : j7 v v = some true := by
 unfold vy at h
 unfold j7 xi
 rw [if_pos rfl, if_pos ⟨rfl, by omega⟩, Option.bind_some]
 dsimp only
 rw [if_pos rfl]
open Classical in
noncomputable def qh (a0 : (List GStep)) (a1 : (List GStep)) : Option Bool := if a0 = a1 ∧ zT a0 <= 2 ^ 39 then some true else none
theorem E6 {s : List GStep} (h : zT s <= 2 ^ 39) : qh s s = some true := if_pos ⟨rfl, h⟩
theorem Jv (a0 : (List GStep)) (a1 : (List GStep)) (r : Bool) (h : qh a0 a1 = some r) : ∃ n, Zr n a0 a1 = some r := by
 unfold qh at h
 obtain ⟨⟨he, ha⟩, h2⟩ := yd h
 clear h
 subst he
 have hl := wX a0
 refine ⟨a0.length + 1, ?_⟩
 obtain ⟨z, hz⟩ := UZ (a := a0) (by omega) (fun v hv => LZ (by have := QO hv; omega)) a0.length 0 (a0.length + 1) (by omega) (by omega)
 rw [show ((0 : Nat) : Int) = 0 from rfl] at hz
 unfold Zr
 rw [if_pos rfl, hz]; exact h2
theorem Vo : XC qh := fun a0 a1 r h => (Jv a0 a1 r h).elim fun n hn => Rw n a0 a1 r hn
def Xq (F : (List (List UInt8)) → (List (List UInt8)) → Option Bool) : Prop := ∀ (a0 : (List (List UInt8))) (a1 : (List (List UInt8))), Oc (F a0 a1) 9 [] [vq (zu za) a0, vq (zu za) a1] fun r => (vb r, [])
def xS (a0 : (List (List UInt8))) (a1 : (List (List UInt8))) : Nat → Int → Option (Bool ⊕ Int)
  | 0, _ => none
  | m + 1, v2 =>
  if v2 < (a0.length : Int) then
   (zD v2).bind fun i2 =>
   (a0[i2]?).bind fun x3 =>
   (a1[i2]?).bind fun x4 =>
   (xi x3 x4).bind fun r5 =>
   match r5 with
   | true =>
    xS a0 a1 m (w64 (v2 + 1))
   | false =>
    some (.inl false)
  else
  some (.inr v2)
theorem WU (a0 : (List (List UInt8))) (a1 : (List (List UInt8))) (m : Nat) : ∀ (v2 : Int), Ol (xS a0 a1 m v2) 9 (yg Try.f9 0) ⟨[(0, vq (zu za) a0), (1, vq (zu za) a1), (5, vi v2)], [], 0⟩ fun o => match o with | .inl o_0 => (.ret, ⟨[(4, vb o_0)], [], 0⟩) | .inr (o_1) => (.exit 0, ⟨[(0, vq (zu za) a0), (1, vq (zu za) a1), (5, vi o_1), (14, vb false)], [], 0⟩) := by
  induction m with
  | zero => intro v2 o h; cases h
  | succ m ih => exact fun v2 => tlp (
   .le (zu za) a0 <|
   .lI v2 (a0.length : Int) (fun c1 =>
    .na v2 fun i2 =>
    .ix0 (zu za) a0 i2 fun x3 =>
    .ag 1 <|
    .ix0 (zu za) a1 i2 fun x4 =>
    .cl (Zb x3 x4) fun r5 =>
    .vN 0 r5 (
     .go (ih (w64 (v2 + 1)))) <|
    .ret (.inl false)) fun c1 =>
   .ret (.inr v2))
def Zc (n : Nat) (a0 : (List (List UInt8))) (a1 : (List (List UInt8))) : Option Bool :=
 if (a0.length : Int) = (a1.length : Int) then
  (xS a0 a1 n 0).bind fun o2 =>
  match o2 with
  | .inl o2_0 =>
   some o2_0
  | .inr (o2_1) =>
   some true
 else
 some false
theorem Vp (n : Nat) : Xq (Zc n) := fun a0 a1 => tc (
 .le (zu za) a0 <|
 .le (zu za) a1 <|
 .eI (a0.length : Int) (a1.length : Int) (fun c1 =>
  .l2 (WU a0 a1 n 0) (fun o2_0 =>
   .ret o2_0) fun o2_1 =>
  .ret true) fun c1 =>
 .ret false) (zx Try.func9)
theorem TB {a : List (List UInt8)} (ha : bsz a <= 2 ^ 40) : ∀ (d i m : Nat), i + d = a.length → d < m → ∃ z, xS a a m (i : Int) = some (.inr z) := by
 have hl := wk a
 intro d
 induction d with
 | zero =>
  intro i m hi hm
  obtain ⟨m, rfl, _⟩ := zg hm
  exact ⟨_, by rw [xS, if_neg (by omega)]⟩
 | succ d ih =>
  intro i m hi hm
  obtain ⟨m, rfl, hm'⟩ := zg hm
  have hil : i < a.length := by omega
  have hx := kI (List.getElem_mem hil)
  rw [xS, if_pos (by omega), zd, Option.bind_some, zq hil, Option.bind_some, Option.bind_some]
  unfold xi
  rw [if_pos ⟨rfl, by omega⟩, Option.bind_some, yr (by omega)]
  exact ih (i + 1) m (by omega) (by omega)
def qI (a0 : (List (List UInt8))) (a1 : (List (List UInt8))) : Option Bool := if a0 = a1 ∧ bsz a0 <= 2 ^ 40 then some true else none
theorem QC (a0 : (List (List UInt8))) (a1 : (List (List UInt8))) (r : Bool) (h : qI a0 a1 = some r) : ∃ n, Zc n a0 a1 = some r := by
 unfold qI at h
 obtain ⟨⟨he, ha⟩, h2⟩ := yd h
 clear h
 subst he
 have hl := wk a0
 refine ⟨a0.length + 1, ?_⟩
 obtain ⟨z, hz⟩ := TB ha a0.length 0 (a0.length + 1) (by omega) (by omega)
 rw [show ((0 : Nat) : Int) = 0 from rfl] at hz
 unfold Zc
 rw [if_pos rfl, hz]; exact h2
theorem Ki : Xq qI := fun a0 a1 r h => (QC a0 a1 r h).elim fun n hn => Vp n a0 a1 r hn
def jP (F : (List GValue) → (List GValue) → Option Bool) : Prop := ∀ (a0 : (List GValue)) (a1 : (List GValue)), Oc (F a0 a1) 51 [] [vq zb a0, vq zb a1] fun r => (vb r, [])
def jd (F : GValue → GValue → Option Bool) : Prop := ∀ (a0 : GValue) (a1 : GValue), Oc (F a0 a1) 19 [] [.val true (ze a0), .val true (ze a1)] fun r => (vb r, [])
def xT (G_laws_eqValue : GValue → GValue → Option Bool) (a0 : (List GValue)) (a1 : (List GValue)) : Nat → Int → Option (Bool ⊕ Int)
  | 0, _ => none
  | m + 1, v2 =>
  if v2 < (a0.length : Int) then
   (zD v2).bind fun i2 =>
   (a0[i2]?).bind fun x3 =>
   (a1[i2]?).bind fun x4 =>
   (G_laws_eqValue x3 x4).bind fun r5 =>
   match r5 with
   | true =>
    xT G_laws_eqValue a0 a1 m (w64 (v2 + 1))
   | false =>
    some (.inl false)
  else
  some (.inr v2)
theorem WV (G_laws_eqValue : GValue → GValue → Option Bool) (H_laws_eqValue : jd G_laws_eqValue) (a0 : (List GValue)) (a1 : (List GValue)) (m : Nat) : ∀ (v2 : Int), Ol (xT G_laws_eqValue a0 a1 m v2) 51 (yg Try.f51 0) ⟨[(0, vq zb a0), (1, vq zb a1), (5, vi v2)], [], 0⟩ fun o => match o with | .inl o_0 => (.ret, ⟨[(4, vb o_0)], [], 0⟩) | .inr (o_1) => (.exit 0, ⟨[(0, vq zb a0), (1, vq zb a1), (5, vi o_1), (14, vb false)], [], 0⟩) := by
  induction m with
  | zero => intro v2 o h; cases h
  | succ m ih => exact fun v2 => tlp (
   .le zb a0 <|
   .lI v2 (a0.length : Int) (fun c1 =>
    .na v2 fun i2 =>
    .ix eq_GValue a0 i2 fun x3 =>
    .ag 1 <|
    .ix eq_GValue a1 i2 fun x4 =>
    .cl (H_laws_eqValue x3 x4) fun r5 =>
    .vN 0 r5 (
     .go (ih (w64 (v2 + 1)))) <|
    .ret (.inl false)) fun c1 =>
   .ret (.inr v2))
def jQ (G_laws_eqValue : GValue → GValue → Option Bool) (n : Nat) (a0 : (List GValue)) (a1 : (List GValue)) : Option Bool :=
 if (a0.length : Int) = (a1.length : Int) then
  (xT G_laws_eqValue a0 a1 n 0).bind fun o2 =>
  match o2 with
  | .inl o2_0 =>
   some o2_0
  | .inr (o2_1) =>
   some true
 else
 some false
theorem Vq (G_laws_eqValue : GValue → GValue → Option Bool) (H_laws_eqValue : jd G_laws_eqValue) (n : Nat) : jP (jQ G_laws_eqValue n) := fun a0 a1 => tc (
 .le zb a0 <|
 .le zb a1 <|
 .eI (a0.length : Int) (a1.length : Int) (fun c1 =>
  .l2 (WV G_laws_eqValue H_laws_eqValue a0 a1 n 0) (fun o2_0 =>
   .ret o2_0) fun o2_1 =>
  .ret true) fun c1 =>
 .ret false) (zx Try.func51)
def Zs (G_laws_eqValueS : (List GValue) → (List GValue) → Option Bool) (a0 : GValue) (a1 : GValue) : Option Bool :=
 if a0.Kind = a1.Kind then
  if a0.N = a1.N then
   (xi a0.S a1.S).bind fun r3 =>
   match r3 with
   | true =>
    (qI a0.K a1.K).bind fun r4 =>
    match r4 with
    | true =>
     (G_laws_eqValueS a0.L a1.L).bind fun r5 =>
     match r5 with
     | true =>
      some true
     | false =>
      some false
    | false =>
     some false
   | false =>
    some false
  else
  some false
 else
 some false
theorem Rx (G_laws_eqValueS : (List GValue) → (List GValue) → Option Bool) (H_laws_eqValueS : jP G_laws_eqValueS) : jd (Zs G_laws_eqValueS) := fun a0 a1 => tc (
 .eI a0.Kind a1.Kind (fun c1 =>
  .eI a0.N a1.N (fun c2 =>
   .cl (Zb a0.S a1.S) fun r3 =>
   .vN 0 r3 (
    .cl (Ki a0.K a1.K) fun r4 =>
    .vN 0 r4 (
     .cl (H_laws_eqValueS a0.L a1.L) fun r5 =>
     .vN 0 r5 (
      .ret true) <|
     .ret false) <|
    .ret false) <|
   .ret false) fun c2 =>
  .ret false) fun c1 =>
 .ret false) (zx Try.func19)
mutual
def xx : Nat → (List GValue) → (List GValue) → Option Bool
 | 0, _, _ => none
 | n + 1, a0, a1 => jQ (xU n) n a0 a1
def xU : Nat → GValue → GValue → Option Bool
 | 0, _, _ => none
 | n + 1, a0, a1 => Zs (xx n) a0 a1
end
theorem Yc (n : Nat) : jP (xx n) ∧ jd (xU n) := by
 induction n with
 | zero => exact ⟨fun _ _ _ h => (by rw [xx] at h; cases h), fun _ _ _ h => (by rw [xU] at h; cases h)⟩
 | succ n ih =>
  obtain ⟨ih_laws_eqValueS, ih_laws_eqValue⟩ := ih
  exact ⟨fun a0 a1 r h => Vq (xU n) ih_laws_eqValue n a0 a1 r (by rw [xx] at h; exact h),
   fun a0 a1 r h => Rx (xx n) ih_laws_eqValueS a0 a1 r (by rw [xU] at h; exact h)⟩
theorem Vr {G : GValue → GValue → Option Bool} {a : List GValue} {f : Nat} (ha : a.length <= 2 ^ 40) (hf : a.length < f) (hG : ∀ v ∈ a, G v v = some true) : jQ G f a a = some true := by
 have loop : ∀ (d i m : Nat), i + d = a.length → d < m → ∃ z, xT G a a m (i : Int) = some (.inr z) := by
  intro d
  induction d with
  | zero =>
   intro i m hi hm
   obtain ⟨m, rfl, _⟩ := zg hm
   exact ⟨_, by rw [xT, if_neg (by omega)]⟩
  | succ d ih =>
   intro i m hi hm
   obtain ⟨m, rfl, hm'⟩ := zg hm
   have hil : i < a.length := by omega
   rw [xT, if_pos (by omega), zd, Option.bind_some, zq hil, Option.bind_some, Option.bind_some, hG _ (List.getElem_mem hil), Option.bind_some, yr (by omega)]
   exact ih (i + 1) m (by omega) (by omega)
 obtain ⟨z, hz⟩ := loop a.length 0 f (by omega) (by omega)
 rw [show ((0 : Nat) : Int) = 0 from rfl] at hz
 unfold jQ
 rw [if_pos rfl, hz]; rfl
theorem Ta : ∀ (N : Nat) (v : GValue), vsz v < N → vsz v <= 2 ^ 40 → ∀ f : Nat, 2 * vsz v + 3 <= f → xU f v v = some true := by
 intro N
 induction N with
 | zero => intro v hv; omega
 | succ N ih =>
  intro v hv hs f hf
  obtain ⟨f, rfl, _⟩ := zg (show 0 < f by omega)
  obtain ⟨f, rfl, _⟩ := zg (show 0 < f by omega)
  have he := y8 v
  have hl := y0 v.L
  rw [xU]
  unfold Zs xi qI
  rw [if_pos rfl, if_pos rfl, if_pos (show v.S = v.S ∧ v.S.length <= 2 ^ 40 from ⟨rfl, by omega⟩), Option.bind_some]
  dsimp only
  rw [if_pos (show v.K = v.K ∧ bsz v.K <= 2 ^ 40 from ⟨rfl, by omega⟩), Option.bind_some]
  dsimp only
  rw [xx, Vr (by omega) (by omega) fun x hx => ?_]
  ·rfl
  ·have := yw hx
   exact ih x (by omega) (by omega) f (by omega)
open Classical in
noncomputable def Zd (a0 : (List GValue)) (a1 : (List GValue)) : Option Bool := if a0 = a1 ∧ yu a0 <= 2 ^ 40 then some true else none
theorem QD (a0 : (List GValue)) (a1 : (List GValue)) (r : Bool) (h : Zd a0 a1 = some r) : ∃ n, xx n a0 a1 = some r := by
 unfold Zd at h
 obtain ⟨⟨he, ha⟩, h2⟩ := yd h
 clear h
 subst he
 have hl := y0 a0
 refine ⟨2 * yu a0 + 5, ?_⟩
 rw [xx, Vr (by omega) (by omega) fun x hx => ?_, h2]
 have := yw hx
 exact Ta _ x (Nat.lt_succ_self _) (by omega) _ (by omega)
open Classical in
noncomputable def zJ (a0 : GValue) (a1 : GValue) : Option Bool := if a0 = a1 ∧ vsz a0 <= 2 ^ 40 then some true else none
theorem Jw (a0 : GValue) (a1 : GValue) (r : Bool) (h : zJ a0 a1 = some r) : ∃ n, xU n a0 a1 = some r := by
 unfold zJ at h
 obtain ⟨⟨he, ha⟩, h2⟩ := yd h
 clear h
 subst he
 exact ⟨2 * vsz a0 + 3, by rw [<- h2]; exact Ta _ a0 (Nat.lt_succ_self _) ha _ (Nat.le_refl _)⟩
theorem Nx : jP Zd := by
 intro a0 a1 r h
 obtain ⟨n, hn⟩ := QD a0 a1 r h
 exact (Yc n).1 a0 a1 r hn
theorem yG : jd zJ := by
 intro a0 a1 r h
 obtain ⟨n, hn⟩ := Jw a0 a1 r h
 exact (Yc n).2 a0 a1 r hn
def qJ (a0 : GChange) (a1 : GChange) : Option Bool :=
 (qh a0.Path a1.Path).bind fun r1 =>
 match r1 with
 | true =>
  if a0.Had = true then
   if a1.Had = true then
    (zJ a0.Old a1.Old).bind fun r4 =>
    match r4 with
    | true =>
     if a0.Has = true then
      if a1.Has = true then
       (zJ a0.New a1.New).bind fun r7 =>
       match r7 with
       | true =>
        some true
       | false =>
        some false
      else
      some false
     else
     if a1.Has = true then
      some false
     else
     (zJ a0.New a1.New).bind fun r7 =>
     match r7 with
     | true =>
      some true
     | false =>
      some false
    | false =>
     some false
   else
   some false
  else
  if a1.Had = true then
   some false
  else
  (zJ a0.Old a1.Old).bind fun r4 =>
  match r4 with
  | true =>
   if a0.Has = true then
    if a1.Has = true then
     (zJ a0.New a1.New).bind fun r7 =>
     match r7 with
     | true =>
      some true
     | false =>
      some false
    else
    some false
   else
   if a1.Has = true then
    some false
   else
   (zJ a0.New a1.New).bind fun r7 =>
   match r7 with
   | true =>
    some true
   | false =>
    some false
  | false =>
   some false
 | false =>
  some false
theorem Kj (a0 : GChange) (a1 : GChange) : Oc (qJ a0 a1) 50 [] [.val true (QN a0), .val true (QN a1)] fun r => (vb r, []) := tc (
 .cl (Vo a0.Path a1.Path) fun r1 =>
 .vN 0 r1 (
  .sp (a0.Had = true) (fun c2 =>
   .sp (a1.Had = true) (fun c3 =>
    .eb c2 c3 <|
    .cl (yG a0.Old a1.Old) fun r4 =>
    .vN 0 r4 (
     .sp (a0.Has = true) (fun c5 =>
      .sp (a1.Has = true) (fun c6 =>
       .eb c5 c6 <|
       .cl (yG a0.New a1.New) fun r7 =>
       .vN 0 r7 (
        .ret true) <|
       .ret false) fun c6 =>
      .eb c5 (bF c6) <|
      .ret false) fun c5 =>
     .sp (a1.Has = true) (fun c6 =>
      .eb (bF c5) c6 <|
      .ret false) fun c6 =>
     .eb (bF c5) (bF c6) <|
     .cl (yG a0.New a1.New) fun r7 =>
     .vN 0 r7 (
      .ret true) <|
     .ret false) <|
    .ret false) fun c3 =>
   .eb c2 (bF c3) <|
   .ret false) fun c2 =>
  .sp (a1.Had = true) (fun c3 =>
   .eb (bF c2) c3 <|
   .ret false) fun c3 =>
  .eb (bF c2) (bF c3) <|
  .cl (yG a0.Old a1.Old) fun r4 =>
  .vN 0 r4 (
   .sp (a0.Has = true) (fun c5 =>
    .sp (a1.Has = true) (fun c6 =>
     .eb c5 c6 <|
     .cl (yG a0.New a1.New) fun r7 =>
     .vN 0 r7 (
      .ret true) <|
     .ret false) fun c6 =>
    .eb c5 (bF c6) <|
    .ret false) fun c5 =>
   .sp (a1.Has = true) (fun c6 =>
    .eb (bF c5) c6 <|
    .ret false) fun c6 =>
   .eb (bF c5) (bF c6) <|
   .cl (yG a0.New a1.New) fun r7 =>
   .vN 0 r7 (
    .ret true) <|
   .ret false) <|
  .ret false) <|
 .ret false) (zx Try.func50)
def YB (F : (List GChange) → (List GChange) → Option Bool) : Prop := ∀ (a0 : (List GChange)) (a1 : (List GChange)), Oc (F a0 a1) 18 [] [vq zL a0, vq zL a1] fun r => (vb r, [])
def xA (a0 : (List GChange)) (a1 : (List GChange)) : Nat → Int → Option (Bool ⊕ Int)
  | 0, _ => none
  | m + 1, v2 =>
  if v2 < (a0.length : Int) then
   (zD v2).bind fun i2 =>
   (a0[i2]?).bind fun x3 =>
   (a1[i2]?).bind fun x4 =>
   (qJ x3 x4).bind fun r5 =>
   match r5 with
   | true =>
    xA a0 a1 m (w64 (v2 + 1))
   | false =>
    some (.inl false)
  else
  some (.inr v2)
theorem Wt (a0 : (List GChange)) (a1 : (List GChange)) (m : Nat) : ∀ (v2 : Int), Ol (xA a0 a1 m v2) 18 (yg Try.f18 0) ⟨[(0, vq zL a0), (1, vq zL a1), (5, vi v2)], [], 0⟩ fun o => match o with | .inl o_0 => (.ret, ⟨[(4, vb o_0)], [], 0⟩) | .inr (o_1) => (.exit 0, ⟨[(0, vq zL a0), (1, vq zL a1), (5, vi o_1), (14, vb false)], [], 0⟩) := by
  induction m with
  | zero => intro v2 o h; cases h
  | succ m ih => exact fun v2 => tlp (
   .le zL a0 <|
   .lI v2 (a0.length : Int) (fun c1 =>
    .na v2 fun i2 =>
    .ix qL a0 i2 fun x3 =>
    .ag 1 <|
    .ix qL a1 i2 fun x4 =>
    .cl (Kj x3 x4) fun r5 =>
    .vN 0 r5 (
     .go (ih (w64 (v2 + 1)))) <|
    .ret (.inl false)) fun c1 =>
   .ret (.inr v2))
def vl (n : Nat) (a0 : (List GChange)) (a1 : (List GChange)) : Option Bool :=
 if (a0.length : Int) = (a1.length : Int) then
  (xA a0 a1 n 0).bind fun o2 =>
  match o2 with
  | .inl o2_0 =>
   some o2_0
  | .inr (o2_1) =>
   some true
 else
 some false
theorem Kk (n : Nat) : YB (vl n) := fun a0 a1 => tc (
 .le zL a0 <|
 .le zL a1 <|
 .eI (a0.length : Int) (a1.length : Int) (fun c1 =>
  .l2 (Wt a0 a1 n 0) (fun o2_0 =>
   .ret o2_0) fun o2_1 =>
  .ret true) fun c1 =>
 .ret false) (zx Try.func18)
theorem PD {v : GChange} (h : kS v <= 2 ^ 39) : qJ v v = some true := by
 unfold kS at h
 have e1 : qh v.Path v.Path = some true := if_pos ⟨rfl, by omega⟩
 have e2 : zJ v.Old v.Old = some true := if_pos ⟨rfl, by omega⟩
 have e3 : zJ v.New v.New = some true := if_pos ⟨rfl, by omega⟩
 unfold qJ
 rw [e1, Option.bind_some]
 dsimp only
 rw [e2, Option.bind_some, e3, Option.bind_some]
 by_cases c1 : v.Had = true
 ·rw [if_pos c1, if_pos c1]
  by_cases c2 : v.Has = true
  ·rw [if_pos c2, if_pos c2]
  ·rw [if_neg c2, if_neg c2]
 ·rw [if_neg c1, if_neg c1]
  by_cases c2 : v.Has = true
  ·rw [if_pos c2, if_pos c2]
  ·rw [if_neg c2, if_neg c2]
theorem Ry {a : List GChange} (ha : a.length <= 2 ^ 40) (hG : ∀ v ∈ a, qJ v v = some true) : ∀ (d i m : Nat), i + d = a.length → d < m → ∃ z, xA a a m (i : Int) = some (.inr z) := by
 intro d
 induction d with
 | zero =>
  intro i m hi hm
  obtain ⟨m, rfl, _⟩ := zg hm
  exact ⟨_, by rw [xA, if_neg (by omega)]⟩
 | succ d ih =>
  intro i m hi hm
  obtain ⟨m, rfl, hm'⟩ := zg hm
  have hil : i < a.length := by omega
  rw [xA, if_pos (by omega), zd, Option.bind_some, zq hil, Option.bind_some, Option.bind_some, hG _ (List.getElem_mem hil), Option.bind_some, yr (by omega)]
  exact ih (i + 1) m (by omega) (by omega)
open Classical in
noncomputable def qp (a0 : (List GChange)) (a1 : (List GChange)) : Option Bool := if a0 = a1 ∧ zE a0 <= 2 ^ 39 then some true else none
theorem Pa {s : List GChange} (h : zE s <= 2 ^ 39) : qp s s = some true := if_pos ⟨rfl, h⟩
theorem WW (a0 : (List GChange)) (a1 : (List GChange)) (r : Bool) (h : qp a0 a1 = some r) : ∃ n, vl n a0 a1 = some r := by
 unfold qp at h
 obtain ⟨⟨he, ha⟩, h2⟩ := yd h
 clear h
 subst he
 have hl := wY a0
 refine ⟨a0.length + 1, ?_⟩
 obtain ⟨z, hz⟩ := Ry (a := a0) (by omega) (fun v hv => PD (by have := Ti hv; omega)) a0.length 0 (a0.length + 1) (by omega) (by omega)
 rw [show ((0 : Nat) : Int) = 0 from rfl] at hz
 unfold vl
 rw [if_pos rfl, hz]; exact h2
theorem Jx : YB qp := fun a0 a1 r h => (WW a0 a1 r h).elim fun n hn => Kk n a0 a1 r hn
def YC (F : Int → (List UInt8) → Option (Int × (List UInt8))) : Prop := ∀ (a0 : Int) (e0 : (List UInt8)), Oc (F a0 e0) 39 [.obj 1 (eL za e0)] [vr 0, vi a0] fun r => (vi r.1, [.obj 1 (eL za r.2)])
def xB : Nat → Int → Int → (List UInt8) → Option (Int × Int × (List UInt8))
  | 0, _, _, _ => none
  | m + 1, a0, v1, e0 =>
  if v1 < (e0.length : Int) then
   (zD v1).bind fun i2 =>
   (e0[i2]?).bind fun x3 =>
   xB m (w64 (a0 + 1)) (w64 (v1 + 1)) (e0.set i2 (b8 a0))
  else
  some (a0, v1, e0)
theorem Wu (m : Nat) : ∀ (a0 : Int) (v1 : Int) (e0 : (List UInt8)), Ol (xB m a0 v1 e0) 39 (yg Try.f39 0) ⟨[(0, vr 0), (1, vi a0), (5, vi v1)], [.obj 1 (eL za e0)], 1⟩ fun o => match o with | ⟨o_0, o_1, o_2⟩ => (.exit 0, ⟨[(0, vr 0), (1, vi o_0), (5, vi o_1), (9, vb false)], [.obj 1 (eL za o_2)], 1⟩) := by
  induction m with
  | zero => intro a0 v1 e0 o h; cases h
  | succ m ih => exact fun a0 v1 e0 => tlp (
   .le za e0 <|
   .lI v1 (e0.length : Int) (fun c1 =>
    .na v1 fun i2 =>
    .ix0 za e0 i2 fun x3 =>
    .ag 0 <|
    .sl (e := za) (x := (b8 a0)) (c := [.int .u8 (((b8 a0).toNat : Nat) : Int)]) rfl e0 i2 <|
    .go (ih (w64 (a0 + 1)) (w64 (v1 + 1)) (e0.set i2 (b8 a0)))) fun c1 =>
   .ret (a0, v1, e0))
def vm (n : Nat) (a0 : Int) (e0 : (List UInt8)) : Option (Int × (List UInt8)) :=
 (xB n a0 0 e0).bind fun ⟨o1_0, o1_1, o1_2⟩ =>
 some (o1_0, o1_2)
theorem Kl (n : Nat) : YC (vm n) := fun a0 e0 => tc (
 .lp (Wu n a0 0 e0) fun ⟨o1_0, o1_1, o1_2⟩ =>
 .ret (o1_0, o1_2)) (zx Try.func39)
theorem Rz : ∀ (l p : List UInt8) (k : Int) (m : Nat), 0 <= k → k + 2 * l.length <= 2 ^ 41 → p.length + l.length <= 2 ^ 41 → l.length < m → ∃ z, xB m k (p.length : Int) (p ++ l) = some (k + l.length, z, p ++ mB k l) := by
 intro l
 induction l with
 | nil =>
  intro p k m _ _ _ hm
  obtain ⟨m, rfl, _⟩ := zg hm
  exact ⟨_, by rw [xB, if_neg (wl p)]; simp [mB]; rfl⟩
 | cons x l ih =>
  intro p k m h0 h1 h2 hm
  obtain ⟨m, rfl, hm'⟩ := zg hm
  simp only [List.length_cons] at h1 h2 hm'
  obtain ⟨z, hz⟩ := ih (p ++ [b8 k]) (k + 1) m (by omega) (by omega) (by simp; omega) (by omega)
  rw [xB, if_pos (kw p x l), zd, Option.bind_some, zy, Option.bind_some, wB, yt p (b8 k) (by omega), yo (x := k + 1) (by omega) (by omega), Zv p (b8 k) l, hz]
  refine ⟨z, ?_⟩
  rw [mB, Zv p (b8 k) (mB (k + 1) l)]
  simp only [List.length_cons]
  rw [show k + 1 + (l.length : Int) = k + ((l.length + 1 : Nat) : Int) by omega]
def yz (a0 : Int) (e0 : (List UInt8)) : Option (Int × (List UInt8)) := if 0 <= a0 ∧ a0 + 2 * e0.length <= 2 ^ 41 then some (a0 + e0.length, mB a0 e0) else none
theorem je {a : Int} {s : List UInt8} (h0 : 0 <= a) (h1 : a + 2 * s.length <= 2 ^ 41) : yz a s = some (a + s.length, mB a s) := if_pos ⟨h0, h1⟩
theorem WX (a0 : Int) (e0 : (List UInt8)) (r : (Int × (List UInt8))) (h : yz a0 e0 = some r) : ∃ n, vm n a0 e0 = some r := by
 unfold yz at h
 obtain ⟨⟨h0, h1⟩, h⟩ := yd h
 obtain ⟨z, hz⟩ := Rz e0 [] a0 (e0.length + 1) h0 h1 (by simp; omega) (by omega)
 refine ⟨e0.length + 1, ?_⟩
 unfold vm
 simp only [List.nil_append, List.length_nil, Int.natCast_zero] at hz
 rw [hz]
 exact h
theorem wh : YC yz := fun a0 e0 r h => (WX a0 e0 r h).elim fun n hn => Kl n a0 e0 r hn
def Yd (F : Int → (List (List UInt8)) → Option (Int × (List (List UInt8)))) : Prop := ∀ (a0 : Int) (e0 : (List (List UInt8))), Oc (F a0 e0) 12 [.obj 1 (eL (yf 1 za) e0)] [vr 0, vi a0] fun r => (vi r.1, [.obj 1 (eL (yf 1 za) r.2)])
def xj : Nat → Int → Int → (List (List UInt8)) → Option (Int × Int × (List (List UInt8)))
  | 0, _, _, _ => none
  | m + 1, a0, v1, e0 =>
  if v1 < (e0.length : Int) then
   (zD v1).bind fun i2 =>
   (e0[i2]?).bind fun x3 =>
   (yz a0 x3).bind fun ⟨r4_0, r4_1⟩ =>
   xj m r4_0 (w64 (v1 + 1)) (e0.set i2 r4_1)
  else
  some (a0, v1, e0)
theorem XD (m : Nat) : ∀ (a0 : Int) (v1 : Int) (e0 : (List (List UInt8))), Ol (xj m a0 v1 e0) 12 (yg Try.f12 0) ⟨[(0, vr 0), (1, vi a0), (5, vi v1)], [.obj 1 (eL (yf 1 za) e0)], 1⟩ fun o => match o with | ⟨o_0, o_1, o_2⟩ => (.exit 0, ⟨[(0, vr 0), (1, vi o_0), (5, vi o_1), (9, vb false)], [.obj 1 (eL (yf 1 za) o_2)], 1⟩) := by
  induction m with
  | zero => intro a0 v1 e0 o h; cases h
  | succ m ih => exact fun a0 v1 e0 => tlp (
   .le (yf 1 za) e0 <|
   .lI v1 (e0.length : Int) (fun c1 =>
    .na v1 fun i2 =>
    .ix0 (yf 1 za) e0 i2 fun x3 =>
    .ag 0 <|
    .cl (wh a0 x3) fun ⟨r4_0, r4_1⟩ =>
    .ag 1 <|
    .sl (e := (yf 1 za)) (x := r4_1) (c := [.own 1 (eL za r4_1)]) rfl e0 i2 <|
    .go (ih r4_0 (w64 (v1 + 1)) (e0.set i2 r4_1))) fun c1 =>
   .ret (a0, v1, e0))
def kO (n : Nat) (a0 : Int) (e0 : (List (List UInt8))) : Option (Int × (List (List UInt8))) :=
 (xj n a0 0 e0).bind fun ⟨o1_0, o1_1, o1_2⟩ =>
 some (o1_0, o1_2)
theorem Jy (n : Nat) : Yd (kO n) := fun a0 e0 => tc (
 .lp (XD n a0 0 e0) fun ⟨o1_0, o1_1, o1_2⟩ =>
 .ret (o1_0, o1_2)) (zx Try.func12)
theorem Vs : ∀ (l p : List (List UInt8)) (k : Int) (m : Nat), 0 <= k → k + 2 * bsz l <= 2 ^ 41 → p.length + l.length <= 2 ^ 41 → l.length < m → ∃ z, xj m k (p.length : Int) (p ++ l) = some (k + cB l, z, p ++ mBB k l) := by
 intro l
 induction l with
 | nil =>
  intro p k m _ _ _ hm
  obtain ⟨m, rfl, _⟩ := zg hm
  exact ⟨_, by rw [xj, if_neg (wl p)]; simp [mBB, cB]; rfl⟩
 | cons x l ih =>
  intro p k m h0 h1 h2 hm
  obtain ⟨m, rfl, hm'⟩ := zg hm
  rw [Pl] at h1
  simp only [List.length_cons] at h2 hm'
  obtain ⟨z, hz⟩ := ih (p ++ [mB k x]) (k + x.length) m (by omega) (by omega) (by simp; omega) (by omega)
  rw [xj, if_pos (kw p x l), zd, Option.bind_some, zy, Option.bind_some, je (by omega) (by omega), Option.bind_some]
  dsimp only
  rw [wB, yt p (mB k x) (by omega), Zv p (mB k x) l, hz]
  refine ⟨z, ?_⟩
  rw [mBB, Zv p (mB k x) (mBB (k + x.length) l), PV]
  rw [show k + (x.length : Int) + (cB l : Int) = k + ((x.length + cB l : Nat) : Int) by omega]
def yR (a0 : Int) (e0 : (List (List UInt8))) : Option (Int × (List (List UInt8))) := if 0 <= a0 ∧ a0 + 2 * bsz e0 <= 2 ^ 41 then some (a0 + cB e0, mBB a0 e0) else none
theorem vf {a : Int} {s : List (List UInt8)} (h0 : 0 <= a) (h1 : a + 2 * bsz s <= 2 ^ 41) : yR a s = some (a + cB s, mBB a s) := if_pos ⟨h0, h1⟩
theorem Wv (a0 : Int) (e0 : (List (List UInt8))) (r : (Int × (List (List UInt8)))) (h : yR a0 e0 = some r) : ∃ n, kO n a0 e0 = some r := by
 unfold yR at h
 obtain ⟨⟨h0, h1⟩, h⟩ := yd h
 have := wk e0
 obtain ⟨z, hz⟩ := Vs e0 [] a0 (e0.length + 1) h0 h1 (by simp; omega) (by omega)
 refine ⟨e0.length + 1, ?_⟩
 unfold kO
 simp only [List.nil_append, List.length_nil, Int.natCast_zero] at hz
 rw [hz]
 exact h
theorem qK : Yd yR := fun a0 e0 r h => (Wv a0 e0 r h).elim fun n hn => Jy n a0 e0 r hn
end
end Go.Am.Try
