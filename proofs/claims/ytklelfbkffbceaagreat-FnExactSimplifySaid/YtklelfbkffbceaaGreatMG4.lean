/- The functions of the program in plain Lean, and that the machine answers as they do; conditions at each theorem. -/
import Derived.Test.YtklelfbkffbceaaGreatMG3
set_option linter.unusedVariables false
set_option linter.unusedSimpArgs false
namespace Go.Am.Try
open Go.Am Go.Proofs
set_option linter.unusedVariables false
set_option maxRecDepth 20000
set_option maxHeartbeats 2000000
noncomputable section
def jx (F : GValue → Int → Option Bool) : Prop := ∀ (a0 : GValue) (e0 : Int), Oc (F a0 e0) 165 [.var [ci e0]] [.val true (zf a0), vp 0 0] fun r => (vb r, [.var [ci e0]])
def yZ (F : (List GValue) → Int → Option Int) : Prop := ∀ (a0 : (List GValue)) (e0 : Int), Oc (F a0 e0) 198 [.var [ci e0]] [vq zb a0, .val false [.fn 165 [.ptr 0 0]]] fun r => (vi r, [.var [ci e0]])
def yq (F : (List GValue) → Int → Option Bool) : Prop := ∀ (a0 : (List GValue)) (e0 : Int), Oc (F a0 e0) 164 [.var [ci e0]] [vq zb a0, .val false [.fn 165 [.ptr 0 0]]] fun r => (vb r, [.var [ci e0]])
def Zu (F : GValue → Int → Option Bool) : Prop := ∀ (a0 : GValue) (a1 : Int), Oc (F a0 a1) 98 [] [.val true (zf a0), vi a1] fun r => (vb r, [])
def Yu (G_impl_isShaped : GValue → Int → Option Bool) (a0 : GValue) (e0 : Int) : Option Bool :=
 (G_impl_isShaped a0 (w64 (e0 - 1))).bind fun r1 =>
 some (!r1)
theorem Tn (G_impl_isShaped : GValue → Int → Option Bool) (H_impl_isShaped : Zu G_impl_isShaped) : jx (Yu G_impl_isShaped) := fun a0 e0 => tc (
 .cl (H_impl_isShaped a0 (w64 (e0 - 1))) fun r1 =>
 .ret (!r1)) (zj Tryz.func165)
def zX (G_impl_isShaped_1 : GValue → Int → Option Bool) (a0 : (List GValue)) (v1 : Int) (e0 : Int) : Nat → Int → Option (Int ⊕ Int)
  | 0, _ => none
  | m + 1, v2 =>
  if v2 < v1 then
   (zH v2).bind fun i2 =>
   (a0[i2]?).bind fun x3 =>
   (G_impl_isShaped_1 x3 e0).bind fun r4 =>
   match r4 with
   | true =>
    some (.inl v2)
   | false =>
    zX G_impl_isShaped_1 a0 v1 e0 m (w64 (v2 + 1))
  else
  some (.inr v2)
theorem vY (G_impl_isShaped_1 : GValue → Int → Option Bool) (H_impl_isShaped_1 : jx G_impl_isShaped_1) (a0 : (List GValue)) (v1 : Int) (e0 : Int) (m : Nat) : ∀ (v2 : Int), Ol (zX G_impl_isShaped_1 a0 v1 e0 m v2) 198 (zQ Tryz.f198 0) ⟨[(0, vq zb a0), (1, .val false [.fn 165 [.ptr 0 0]]), (7, vi v1), (8, vi v2)], [.var [ci e0]], 1⟩ fun o => match o with | .inl o_0 => (.ret, ⟨[(4, vi o_0)], [.var [ci e0]], 1⟩) | .inr (o_1) => (.exit 0, ⟨[(0, vq zb a0), (1, .val false [.fn 165 [.ptr 0 0]]), (7, vi v1), (8, vi o_1), (9, vb false)], [.var [ci e0]], 1⟩) := by
  induction m with
  | zero => intro v2 o h; cases h
  | succ m ih => exact fun v2 => tlp (
   .lI v2 v1 (fun c1 =>
    .na v2 fun i2 =>
    .ix zh a0 i2 fun x3 =>
    .cl (H_impl_isShaped_1 x3 e0) fun r4 =>
    .vM 0 r4 (
     .ret (.inl v2)) <|
    .go (ih (w64 (v2 + 1)))) fun c1 =>
   .ret (.inr v2))
def xa (G_impl_isShaped_1 : GValue → Int → Option Bool) (n : Nat) (a0 : (List GValue)) (e0 : Int) : Option Int :=
 (zX G_impl_isShaped_1 a0 (a0.length : Int) e0 n 0).bind fun o1 =>
 match o1 with
 | .inl o1_0 =>
  some o1_0
 | .inr (o1_1) =>
  some (-1)
theorem Yj (G_impl_isShaped_1 : GValue → Int → Option Bool) (H_impl_isShaped_1 : jx G_impl_isShaped_1) (n : Nat) : yZ (xa G_impl_isShaped_1 n) := fun a0 e0 => tc (
 .le zb a0 <|
 .l2 (vY G_impl_isShaped_1 H_impl_isShaped_1 a0 (a0.length : Int) e0 n 0) (fun o1_0 =>
  .ret o1_0) fun o1_1 =>
 .ret (-1)) (zj Tryz.func198)
def xM (G_slices_IndexFunc_Value_isShaped_1 : (List GValue) → Int → Option Int) (a0 : (List GValue)) (e0 : Int) : Option Bool :=
 (G_slices_IndexFunc_Value_isShaped_1 a0 e0).bind fun r1 =>
 some (decide (0 <= r1))
theorem Zh (G_slices_IndexFunc_Value_isShaped_1 : (List GValue) → Int → Option Int) (H_slices_IndexFunc_Value_isShaped_1 : yZ G_slices_IndexFunc_Value_isShaped_1) : yq (xM G_slices_IndexFunc_Value_isShaped_1) := fun a0 e0 => tc (
 .cl (H_slices_IndexFunc_Value_isShaped_1 a0 e0) fun r1 =>
 .gD 0 r1 <|
 .ret (decide (0 <= r1))) (zj Tryz.func164)
def xW (G_slices_ContainsFunc_Value_isShaped_1 : (List GValue) → Int → Option Bool) (v0 : Bool) (v1 : Bool) (v2 : (List (List UInt8))) (v3 : Int) (a0 : GValue) (a1 : Int) : Nat → Int → Option (Bool ⊕ Int)
  | 0, _ => none
  | m + 1, v4 =>
  if v4 < v3 then
   (zH v4).bind fun i2 =>
   (v2[i2]?).bind fun x3 =>
   (w9 x3).bind fun r4 =>
   match r4 with
   | true =>
    if 0 < v4 then
     (zH (w64 (v4 - 1))).bind fun i6 =>
     (a0.K[i6]?).bind fun x7 =>
     (yS x7 x3).bind fun r8 =>
     if 0 <= r8 then
      some (.inl false)
     else
     xW G_slices_ContainsFunc_Value_isShaped_1 v0 v1 v2 v3 a0 a1 m (w64 (v4 + 1))
    else
    xW G_slices_ContainsFunc_Value_isShaped_1 v0 v1 v2 v3 a0 a1 m (w64 (v4 + 1))
   | false =>
    some (.inl false)
  else
  some (.inr v4)
theorem Vo (G_slices_ContainsFunc_Value_isShaped_1 : (List GValue) → Int → Option Bool) (H_slices_ContainsFunc_Value_isShaped_1 : yq G_slices_ContainsFunc_Value_isShaped_1) (v0 : Bool) (v1 : Bool) (v2 : (List (List UInt8))) (v3 : Int) (a0 : GValue) (a1 : Int) (m : Nat) : ∀ (v4 : Int), Ol (xW G_slices_ContainsFunc_Value_isShaped_1 v0 v1 v2 v3 a0 a1 m v4) 98 (zQ Tryz.f98 0) ⟨[(2, vp 0 0), (3, vp 1 0), (5, vb v0), (6, vb v1), (99, vq (zi za) v2), (100, vi v3), (101, vi v4)], [.var (zf a0), .var [ci a1]], 0⟩ fun o => match o with | .inl o_0 => (.ret, ⟨[(4, vb o_0)], [], 0⟩) | .inr (o_1) => (.exit 1, ⟨[(2, vp 0 0), (3, vp 1 0), (5, vb v0), (6, vb v1), (99, vq (zi za) v2), (100, vi v3), (101, vi o_1), (102, vb false)], [.var (zf a0), .var [ci a1]], 0⟩) := by
  induction m with
  | zero => intro v4 o h; cases h
  | succ m ih => exact fun v4 => tlp (
   .lI v4 v3 (fun c1 =>
    .na v4 fun i2 =>
    .ix0 (zi za) v2 i2 fun x3 =>
    .cl (kV x3) fun r4 =>
    .vN 0 r4 (
     .an 0 0 <|
     .lI 0 v4 (fun c5 =>
      .an 0 0 <|
      .na (w64 (v4 - 1)) fun i6 =>
      .ix0 (zi za) a0.K i6 fun x7 =>
      .cl (qF x7 x3) fun r8 =>
      .gI 0 r8 (fun c9 =>
       .an 0 3 <|
       .an 1 3 <|
       .ret (.inl false)) fun c9 =>
      .an 0 3 <|
      .an 1 3 <|
      .go (ih (w64 (v4 + 1)))) fun c5 =>
     .an 0 0 <|
     .an 9 0 <|
     .an 1 0 <|
     .go (ih (w64 (v4 + 1)))) <|
    .an 0 0 <|
    .an 0 0 <|
    .an 0 0 <|
    .an 0 0 <|
    .ret (.inl false)) fun c1 =>
   .ret (.inr v4))
def ki (G_slices_ContainsFunc_Value_isShaped_1 : (List GValue) → Int → Option Bool) (n : Nat) (a0 : GValue) (a1 : Int) : Option Bool :=
 if a1 = 0 then
  some false
 else
 if a0.Kind = 0 then
  if a0.N = 0 then
   if (a0.S.length : Int) = 0 then
    if (a0.K.length : Int) = 0 then
     some (decide ((a0.L.length : Int) = 0))
    else
    some false
   else
   some false
  else
  some false
 else
 if a0.Kind = 6 then
  if a0.N = 0 then
   if (a0.S.length : Int) = 0 then
    if (a0.K.length : Int) = 0 then
     some (decide ((a0.L.length : Int) = 0))
    else
    some false
   else
   some false
  else
  some false
 else
 if a0.Kind = 1 then
  (xH a0.N 0 1).bind fun r5 =>
  match r5 with
  | true =>
   if (a0.S.length : Int) = 0 then
    if (a0.K.length : Int) = 0 then
     some (decide ((a0.L.length : Int) = 0))
    else
    some false
   else
   some false
  | false =>
   some false
 else
 if a0.Kind = 2 then
  (xH a0.N (-1000000000000) 1000000000000).bind fun r6 =>
  match r6 with
  | true =>
   if (a0.S.length : Int) = 0 then
    if (a0.K.length : Int) = 0 then
     some (decide ((a0.L.length : Int) = 0))
    else
    some false
   else
   some false
  | false =>
   some false
 else
 if a0.Kind = 3 then
  (jS a0.S).bind fun r7 =>
  match r7 with
  | true =>
   if a0.N = 0 then
    if (a0.K.length : Int) = 0 then
     some (decide ((a0.L.length : Int) = 0))
    else
    some false
   else
   some false
  | false =>
   some false
 else
 if a0.Kind = 4 then
  if (a0.K.length : Int) = 0 then
   if a0.N = 0 then
    if (a0.S.length : Int) = 0 then
     if (a0.L.length : Int) <= 40 then
      (G_slices_ContainsFunc_Value_isShaped_1 a0.L a1).bind fun r12 =>
      some (!r12)
     else
     some false
    else
    some false
   else
   some false
  else
  some false
 else
 if a0.Kind = 5 then
  if (a0.K.length : Int) = (a0.L.length : Int) then
   (xW G_slices_ContainsFunc_Value_isShaped_1 (decide (a0.N = 0)) (decide ((a0.S.length : Int) = 0)) a0.K (a0.K.length : Int) a0 a1 n 0).bind fun o10 =>
   match o10 with
   | .inl o10_0 =>
    some o10_0
   | .inr (o10_1) =>
    if a0.N = 0 then
     if (a0.S.length : Int) = 0 then
      if (a0.L.length : Int) <= 40 then
       (G_slices_ContainsFunc_Value_isShaped_1 a0.L a1).bind fun r14 =>
       some (!r14)
      else
      some false
     else
     some false
    else
    some false
  else
  some false
 else
 some false
theorem Pt (G_slices_ContainsFunc_Value_isShaped_1 : (List GValue) → Int → Option Bool) (H_slices_ContainsFunc_Value_isShaped_1 : yq G_slices_ContainsFunc_Value_isShaped_1) (n : Nat) : Zu (ki G_slices_ContainsFunc_Value_isShaped_1 n) := fun a0 a1 => tc (
 .eI a1 0 (fun c1 =>
  .ret false) fun c1 =>
 .eD a0.N 0 <|
 .le za a0.S <|
 .eD (a0.S.length : Int) 0 <|
 .le (zi za) a0.K <|
 .eD (a0.K.length : Int) 0 <|
 .le zb a0.L <|
 .eD (a0.L.length : Int) 0 <|
 .eI a0.Kind 0 (fun c2 =>
  .cI 2 (a0.N = 0) (fun c3 =>
   .kT 0 (dT c3) <|
   .cI 0 ((a0.S.length : Int) = 0) (fun c4 =>
    .kT 0 (dT c4) <|
    .cI 0 ((a0.K.length : Int) = 0) (fun c5 =>
     .kT 0 (dT c5) <|
     .ret (decide ((a0.L.length : Int) = 0))) fun c5 =>
    .kF 0 (dF c5) <|
    .ret false) fun c4 =>
   .kF 0 (dF c4) <|
   .ret false) fun c3 =>
  .kF 0 (dF c3) <|
  .ret false) fun c2 =>
 .eI a0.Kind 6 (fun c3 =>
  .cI 1 (a0.N = 0) (fun c4 =>
   .kT 0 (dT c4) <|
   .cI 0 ((a0.S.length : Int) = 0) (fun c5 =>
    .kT 0 (dT c5) <|
    .cI 0 ((a0.K.length : Int) = 0) (fun c6 =>
     .kT 0 (dT c6) <|
     .ret (decide ((a0.L.length : Int) = 0))) fun c6 =>
    .kF 0 (dF c6) <|
    .ret false) fun c5 =>
   .kF 0 (dF c5) <|
   .ret false) fun c4 =>
  .kF 0 (dF c4) <|
  .ret false) fun c3 =>
 .eI a0.Kind 1 (fun c4 =>
  .cl (qO a0.N 0 1) fun r5 =>
  .vM 0 r5 (
   .az 0 0 <|
   .cI 0 ((a0.S.length : Int) = 0) (fun c6 =>
    .kT 0 (dT c6) <|
    .cI 0 ((a0.K.length : Int) = 0) (fun c7 =>
     .kT 0 (dT c7) <|
     .ret (decide ((a0.L.length : Int) = 0))) fun c7 =>
    .kF 0 (dF c7) <|
    .ret false) fun c6 =>
   .kF 0 (dF c6) <|
   .ret false) <|
  .az 0 0 <|
  .ret false) fun c4 =>
 .eI a0.Kind 2 (fun c5 =>
  .cl (qO a0.N (-1000000000000) 1000000000000) fun r6 =>
  .vM 0 r6 (
   .az 0 0 <|
   .cI 0 ((a0.S.length : Int) = 0) (fun c7 =>
    .kT 0 (dT c7) <|
    .cI 0 ((a0.K.length : Int) = 0) (fun c8 =>
     .kT 0 (dT c8) <|
     .ret (decide ((a0.L.length : Int) = 0))) fun c8 =>
    .kF 0 (dF c8) <|
    .ret false) fun c7 =>
   .kF 0 (dF c7) <|
   .ret false) <|
  .az 0 0 <|
  .ret false) fun c5 =>
 .eI a0.Kind 3 (fun c6 =>
  .cl (JH a0.S) fun r7 =>
  .vM 0 r7 (
   .az 0 0 <|
   .cI 0 (a0.N = 0) (fun c8 =>
    .kT 0 (dT c8) <|
    .cI 0 ((a0.K.length : Int) = 0) (fun c9 =>
     .kT 0 (dT c9) <|
     .ret (decide ((a0.L.length : Int) = 0))) fun c9 =>
    .kF 0 (dF c9) <|
    .ret false) fun c8 =>
   .kF 0 (dF c8) <|
   .ret false) <|
  .az 0 0 <|
  .ret false) fun c6 =>
 .eI a0.Kind 4 (fun c7 =>
  .cN 1 ((a0.K.length : Int) = 0) (fun c8 =>
   .cI 0 (a0.N = 0) (fun c9 =>
    .kT 0 (dT c9) <|
    .cI 0 ((a0.S.length : Int) = 0) (fun c10 =>
     .kT 0 (dT c10) <|
     .kT 0 (dT c10) <|
     .le zb a0.L <|
     .kT 0 (dT c10) <|
     .gI (a0.L.length : Int) 40 (fun c11 =>
      .kT 0 (dT c10) <|
      .cl (H_slices_ContainsFunc_Value_isShaped_1 a0.L a1) fun r12 =>
      .ret (!r12)) fun c11 =>
     .kT 0 (dT c10) <|
     .ret false) fun c10 =>
    .kF 0 (dF c10) <|
    .kF 0 (dF c10) <|
    .kF 0 (dF c10) <|
    .kF 0 (dF c10) <|
    .ret false) fun c9 =>
   .kF 0 (dF c9) <|
   .ret false) fun c8 =>
  .ret false) fun c7 =>
 .eI a0.Kind 5 (fun c8 =>
  .le (zi za) a0.K <|
  .le zb a0.L <|
  .eI (a0.K.length : Int) (a0.L.length : Int) (fun c9 =>
   .le (zi za) a0.K <|
   .l2 (Vo G_slices_ContainsFunc_Value_isShaped_1 H_slices_ContainsFunc_Value_isShaped_1 (decide (a0.N = 0)) (decide ((a0.S.length : Int) = 0)) a0.K (a0.K.length : Int) a0 a1 n 0) (fun o10_0 =>
    .ret o10_0) fun o10_1 =>
   .cI 0 (a0.N = 0) (fun c11 =>
    .kT 0 (dT c11) <|
    .cI 0 ((a0.S.length : Int) = 0) (fun c12 =>
     .kT 0 (dT c12) <|
     .kT 0 (dT c12) <|
     .le zb a0.L <|
     .kT 0 (dT c12) <|
     .gI (a0.L.length : Int) 40 (fun c13 =>
      .kT 0 (dT c12) <|
      .cl (H_slices_ContainsFunc_Value_isShaped_1 a0.L a1) fun r14 =>
      .ret (!r14)) fun c13 =>
     .kT 0 (dT c12) <|
     .ret false) fun c12 =>
    .kF 0 (dF c12) <|
    .kF 0 (dF c12) <|
    .kF 0 (dF c12) <|
    .kF 0 (dF c12) <|
    .ret false) fun c11 =>
   .kF 0 (dF c11) <|
   .ret false) fun c9 =>
  .ret false) fun c8 =>
 .ret false) (zj Tryz.func98)
mutual
def xK : Nat → GValue → Int → Option Bool
 | 0, _, _ => none
 | n + 1, a0, e0 => Yu (wr n) a0 e0
def zS : Nat → (List GValue) → Int → Option Int
 | 0, _, _ => none
 | n + 1, a0, e0 => xa (xK n) n a0 e0
def zI : Nat → (List GValue) → Int → Option Bool
 | 0, _, _ => none
 | n + 1, a0, e0 => xM (zS n) a0 e0
def wr : Nat → GValue → Int → Option Bool
 | 0, _, _ => none
 | n + 1, a0, a1 => ki (zI n) n a0 a1
end
theorem jM (n : Nat) : jx (xK n) ∧ yZ (zS n) ∧ yq (zI n) ∧ Zu (wr n) := by
 induction n with
 | zero => exact ⟨fun _ _ _ h => (by rw [xK] at h; cases h), fun _ _ _ h => (by rw [zS] at h; cases h), fun _ _ _ h => (by rw [zI] at h; cases h), fun _ _ _ h => (by rw [wr] at h; cases h)⟩
 | succ n ih =>
  obtain ⟨ih_impl_isShaped_1, ih_slices_IndexFunc_Value_isShaped_1, ih_slices_ContainsFunc_Value_isShaped_1, ih_impl_isShaped⟩ := ih
  exact ⟨fun a0 e0 r h => Tn (wr n) ih_impl_isShaped a0 e0 r (by rw [xK] at h; exact h),
   fun a0 e0 r h => Yj (xK n) ih_impl_isShaped_1 n a0 e0 r (by rw [zS] at h; exact h),
   fun a0 e0 r h => Zh (zS n) ih_slices_IndexFunc_Value_isShaped_1 a0 e0 r (by rw [zI] at h; exact h),
   fun a0 a1 r h => Pt (zI n) ih_slices_ContainsFunc_Value_isShaped_1 n a0 a1 r (by rw [wr] at h; exact h)⟩
theorem Zi {G : GValue → Int → Option Bool} {a : List GValue} {f : Nat} {e : Int} {p : GValue → Bool} (ha : a.length <= 2 ^ 20) (hf : a.length < f) (hG : ∀ x ∈ a, G x e = some (!p x)) : ∃ r : Int, xa G f a e = some r ∧ decide (0 <= r) = !(a.all p) := by
 have loop : ∀ (d i m : Nat), i + d = a.length → d < m → ∃ (q : Nat) (z : Int), zX G a (a.length : Int) e m (i : Int) = some (if (a.drop i).all p = true then .inr z else .inl (q : Int)) := by
  intro d
  induction d with
  | zero =>
   intro i m hi hm
   obtain ⟨m, rfl, _⟩ := zg hm
   exact ⟨0, _, by rw [zX, if_neg (by omega), List.drop_eq_nil_of_le (by omega)]; rfl⟩
  | succ d ih =>
   intro i m hi hm
   obtain ⟨m, rfl, hm'⟩ := zg hm
   have hil : i < a.length := by omega
   rw [zX, if_pos (by omega), zl, Option.bind_some, zr hil, Option.bind_some, hG _ (List.getElem_mem hil), Option.bind_some, yt (by omega), xr hil, List.all_cons]
   cases hp : p a[i] with
   | false => exact ⟨i, 0, rfl⟩
   | true =>
    obtain ⟨q, z, hz⟩ := ih (i + 1) m (by omega) (by omega)
    exact ⟨q, z, by rw [Bool.true_and]; exact hz⟩
 obtain ⟨q, z, hz⟩ := loop a.length 0 f (by omega) (by omega)
 rw [show ((0 : Nat) : Int) = 0 from rfl, List.drop_zero] at hz
 unfold xa
 rw [hz, Option.bind_some]
 cases hp : a.all p with
 | true => exact ⟨-1, rfl, rfl⟩
 | false => exact ⟨(q : Int), rfl, by simp⟩
theorem Mo {G : List GValue → Int → Option Bool} {v : GValue} {v0 v1 : Bool} {a1 : Int} (hs : vsz v <= 2 ^ 20) : ∀ (d i m : Nat), i + d = v.K.length → d < m → ∃ z, xW G v0 v1 v.K (v.K.length : Int) v a1 m (i : Int) = some (if xq v.K i d = true then .inr z else .inl false) := by
 have he := jz v
 have hl := qJ v.K
 intro d
 induction d with
 | zero =>
  intro i m hi hm
  obtain ⟨m, rfl, _⟩ := zg hm
  exact ⟨_, by rw [xW, if_neg (by omega)]; rfl⟩
 | succ d ih =>
  intro i m hi hm
  obtain ⟨m, rfl, hm'⟩ := zg hm
  have hil : i < v.K.length := by omega
  have hx := Xl (List.getElem_mem hil)
  rw [xW, if_pos (by omega), zl, Option.bind_some, zr hil, Option.bind_some, Ji (by omega), Option.bind_some, yt (by omega), vm]
  obtain ⟨z, hz⟩ := ih (i + 1) m (by omega) (by omega)
  cases hnm : xR v.K[i] with
  | false =>
   refine ⟨0, ?_⟩
   have : kOk v.K i = false := by
    by_cases h0 : i = 0
    ·subst h0; rw [ZK hil, hnm]
    ·rw [vd hil (by omega), hnm]; rfl
   rw [this]; rfl
  | true =>
   dsimp only
   by_cases h0 : 0 < i
   ·rw [if_pos (by omega), XK (by omega) h0, zl, Option.bind_some, zr (show i - 1 < v.K.length by omega), Option.bind_some, Ha, Option.bind_some]
    by_cases hb : Op.bytesLess (v.K[i - 1]'(by omega)) v.K[i] = true
    ·rw [if_neg (by rw [QB]; exact fun h => h hb), vd hil h0, hnm, hb]
     exact ⟨z, hz⟩
    ·rw [if_pos (by rw [QB]; exact hb), vd hil h0, hnm, show Op.bytesLess (v.K[i - 1]'(by omega)) v.K[i] = false by simpa using hb]
     exact ⟨0, rfl⟩
   ·have : i = 0 := by omega
    subst this
    rw [if_neg (by omega), ZK hil, hnm]
    exact ⟨z, hz⟩
theorem Ef {G : List GValue → Int → Option Bool} {v : GValue} {f d : Nat} (hs : vsz v <= 2 ^ 20) (hf : v.K.length < f) (hd : 0 < d) (hG : G v.L (d : Int) = some (!(v.L.all (shV (d - 1))))) : ki G f v (d : Int) = some (shV d v) := by
 obtain ⟨e, rfl⟩ : ∃ e, d = e + 1 := ⟨d - 1, by omega⟩
 have he := jz v
 have hl := qK v.L
 have hb := qJ v.K
 rw [show e + 1 - 1 = e by omega] at hG
 unfold ki
 rw [if_neg (by omega)]
 simp only [shV]
 have nil : v.L.length = 0 → v.L.all (shV e) = true := fun h => by rw [List.eq_nil_of_length_eq_zero h]; rfl
 have c0 : ∀ n : Nat, (((n : Nat) : Int) = 0) = (n = 0) := fun n => by simp
 simp only [c0]
 have leaf : ∀ {b : Bool}, zO v = (b && decide (v.L.length = 0)) → b = true → some (decide (v.L.length = 0)) = some (zO v && v.L.all (shV e)) := fun h hb' => by
  rw [h, hb', Bool.true_and]
  by_cases hz : v.L.length = 0
  ·rw [decide_eq_true hz, nil hz]; rfl
  ·rw [decide_eq_false hz]; rfl
 have no : zO v = false → some false = some (zO v && v.L.all (shV e)) := fun h => by rw [h]; rfl
 have four : ∀ {p : Prop} [Decidable p], zO v = decide (p ∧ v.S.length = 0 ∧ v.K.length = 0 ∧ v.L.length = 0) → p → (if v.S.length = 0 then if v.K.length = 0 then some (decide (v.L.length = 0)) else some false else some false) = some (zO v && v.L.all (shV e)) := fun h hp => by
  by_cases h1 : v.S.length = 0
  ·rw [if_pos h1]
   by_cases h2 : v.K.length = 0
   ·rw [if_pos h2]
    exact leaf (b := true) (by rw [h]; simp [hp, h1, h2]) rfl
   ·rw [if_neg h2]; exact no (by rw [h, decide_eq_false (fun h => h2 h.2.2.1)])
  ·rw [if_neg h1]; exact no (by rw [h, decide_eq_false (fun h => h1 h.2.1)])
 by_cases k0 : v.Kind = 0
 ·rw [if_pos k0]
  have hv : zO v = decide (v.N = 0 ∧ v.S.length = 0 ∧ v.K.length = 0 ∧ v.L.length = 0) := by unfold zO; rw [if_pos (.inl k0)]
  by_cases a1 : v.N = 0
  ·rw [if_pos a1]; exact four hv a1
  ·rw [if_neg a1]; exact no (by rw [hv, decide_eq_false (fun h => a1 h.1)])
 rw [if_neg k0]
 by_cases k6 : v.Kind = 6
 ·rw [if_pos k6]
  have hv : zO v = decide (v.N = 0 ∧ v.S.length = 0 ∧ v.K.length = 0 ∧ v.L.length = 0) := by unfold zO; rw [if_pos (.inr k6)]
  by_cases a1 : v.N = 0
  ·rw [if_pos a1]; exact four hv a1
  ·rw [if_neg a1]; exact no (by rw [hv, decide_eq_false (fun h => a1 h.1)])
 rw [if_neg k6]
 have n06 : ¬ (v.Kind = 0 ∨ v.Kind = 6) := by omega
 by_cases k1 : v.Kind = 1
 ·rw [if_pos k1, M4, Option.bind_some]
  have hv : zO v = decide ((0 <= v.N ∧ v.N <= 1) ∧ v.S.length = 0 ∧ v.K.length = 0 ∧ v.L.length = 0) := by unfold zO; rw [if_neg n06, if_pos k1]
  by_cases a1 : 0 <= v.N ∧ v.N <= 1
  ·rw [decide_eq_true a1]; exact four hv a1
  ·rw [decide_eq_false a1]; exact no (by rw [hv, decide_eq_false (fun h => a1 h.1)])
 rw [if_neg k1]
 by_cases k2 : v.Kind = 2
 ·rw [if_pos k2, M4, Option.bind_some]
  have hv : zO v = decide ((-1000000000000 <= v.N ∧ v.N <= 1000000000000) ∧ v.S.length = 0 ∧ v.K.length = 0 ∧ v.L.length = 0) := by unfold zO; rw [if_neg n06, if_neg k1, if_pos k2]
  by_cases a1 : -1000000000000 <= v.N ∧ v.N <= 1000000000000
  ·rw [decide_eq_true a1]; exact four hv a1
  ·rw [decide_eq_false a1]; exact no (by rw [hv, decide_eq_false (fun h => a1 h.1)])
 rw [if_neg k2]
 by_cases k3 : v.Kind = 3
 ·rw [if_pos k3, L8 (by omega), Option.bind_some]
  have hv : zO v = (xo v.S && decide (v.N = 0 ∧ v.K.length = 0 ∧ v.L.length = 0)) := by unfold zO; rw [if_neg n06, if_neg k1, if_neg k2, if_pos k3]
  cases ht : xo v.S with
  | false => exact no (by rw [hv, ht]; rfl)
  | true =>
   rw [ht, Bool.true_and] at hv
   dsimp only
   by_cases a1 : v.N = 0
   ·rw [if_pos a1]
    by_cases a2 : v.K.length = 0
    ·rw [if_pos a2]; exact leaf (b := true) (by rw [hv]; simp [a1, a2]) rfl
    ·rw [if_neg a2]; exact no (by rw [hv, decide_eq_false (fun h => a2 h.2.1)])
   ·rw [if_neg a1]; exact no (by rw [hv, decide_eq_false (fun h => a1 h.1)])
 rw [if_neg k3]
 have ends : ∀ {b : Bool}, zO v = (b && decide (v.L.length <= 40)) → b = true → (if (v.L.length : Int) <= 40 then (G v.L ((e + 1 : Nat) : Int)).bind fun r12 => some (!r12) else some false) = some (zO v && v.L.all (shV e)) := fun h hb' => by
  by_cases h4 : v.L.length <= 40
  ·rw [if_pos (by omega), hG, Option.bind_some, h, hb', decide_eq_true h4, Bool.not_not]; rfl
  ·rw [if_neg (by omega)]; exact no (by rw [h, decide_eq_false h4, Bool.and_false])
 by_cases k4 : v.Kind = 4
 ·rw [if_pos k4]
  have hv : zO v = decide (v.N = 0 ∧ v.S.length = 0 ∧ v.K.length = 0 ∧ v.L.length <= 40) := by unfold zO; rw [if_neg n06, if_neg k1, if_neg k2, if_neg k3, if_pos k4]
  by_cases a1 : v.K.length = 0
  ·rw [if_pos a1]
   by_cases a2 : v.N = 0
   ·rw [if_pos a2]
    by_cases a3 : v.S.length = 0
    ·rw [if_pos a3]; exact ends (b := true) (by rw [hv]; simp [a1, a2, a3]) rfl
    ·rw [if_neg a3]; exact no (by rw [hv, decide_eq_false (fun h => a3 h.2.1)])
   ·rw [if_neg a2]; exact no (by rw [hv, decide_eq_false (fun h => a2 h.1)])
  ·rw [if_neg a1]; exact no (by rw [hv, decide_eq_false (fun h => a1 h.2.2.1)])
 rw [if_neg k4]
 by_cases k5 : v.Kind = 5
 ·rw [if_pos k5]
  have hv : zO v = (decide (v.K.length = v.L.length ∧ v.N = 0 ∧ v.S.length = 0 ∧ v.L.length <= 40) && xq v.K 0 v.K.length) := by unfold zO; rw [if_neg n06, if_neg k1, if_neg k2, if_neg k3, if_neg k4, if_pos k5]
  by_cases a1 : (v.K.length : Int) = (v.L.length : Int)
  ·rw [if_pos a1]
   have keys := fun (v0 v1 : Bool) => Mo (G := G) (v0 := v0) (v1 := v1) (a1 := ((e + 1 : Nat) : Int)) hs v.K.length 0 f (by omega) (by omega)
   simp only [show ((0 : Nat) : Int) = 0 from rfl] at keys
   obtain ⟨z, hz⟩ := keys (decide (v.N = 0)) (decide (v.S.length = 0))
   rw [hz, Option.bind_some]
   cases hk : xq v.K 0 v.K.length with
   | false => exact no (by rw [hv, hk, Bool.and_false])
   | true =>
    rw [if_pos rfl]
    dsimp only
    by_cases a2 : v.N = 0
    ·rw [if_pos a2]
     by_cases a3 : v.S.length = 0
     ·rw [if_pos a3]
      exact ends (b := true) (by rw [hv, hk]; simp [a2, a3, show v.K.length = v.L.length by omega]) rfl
     ·rw [if_neg a3]
      exact no (by rw [hv, decide_eq_false (fun h => a3 h.2.2.1)]; rfl)
    ·rw [if_neg a2]
     exact no (by rw [hv, decide_eq_false (fun h => a2 h.2.1)]; rfl)
  ·rw [if_neg a1]; exact no (by rw [hv, decide_eq_false (fun h => a1 (by omega))]; rfl)
 rw [if_neg k5]
 exact no (by unfold zO; simp only [k0, k1, k2, k3, k4, k5, k6, or_self, if_false])
theorem Eg : ∀ (N : Nat) (v : GValue), vsz v < N → vsz v <= 2 ^ 20 → ∀ (f d : Nat), 4 * vsz v + 6 <= f → d <= 2 ^ 20 → wr f v (d : Int) = some (shV d v) := by
 intro N
 induction N with
 | zero => intro v hv; omega
 | succ N ih =>
  intro v hv hs f d hf hd
  have he := jz v
  have hl := qK v.L
  have hb := qJ v.K
  obtain ⟨f, rfl, _⟩ := zg (show 0 < f by omega)
  rw [wr]
  by_cases h0 : d = 0
  ·subst h0; unfold ki; rw [if_pos (show ((0 : Nat) : Int) = 0 from rfl)]; rfl
  refine Ef hs (by omega) (by omega) ?_
  obtain ⟨f, rfl, _⟩ := zg (show 0 < f by omega)
  obtain ⟨f, rfl, _⟩ := zg (show 0 < f by omega)
  obtain ⟨f, rfl, _⟩ := zg (show 0 < f by omega)
  rw [zI]
  unfold xM
  rw [zS]
  obtain ⟨r, hr, hr2⟩ := Zi (G := xK (f + 1)) (a := v.L) (f := f + 1) (e := (d : Int)) (p := shV (d - 1)) (by omega) (by omega) fun x hx => by
   have := ZJ hx
   rw [xK]
   unfold Yu
   rw [XK (by omega) (by omega), ih x (by omega) (by omega) f (d - 1) (by omega) (by omega)]
   rfl
  rw [hr, Option.bind_some, hr2]
def WR (a0 : GValue) (e0 : Int) : Option Bool := none
theorem K6 (a0 : GValue) (e0 : Int) (r : Bool) (h : WR a0 e0 = some r) : ∃ n, xK n a0 e0 = some r := by cases h
def jg (a0 : (List GValue)) (e0 : Int) : Option Int := none
theorem Zj (a0 : (List GValue)) (e0 : Int) (r : Int) (h : jg a0 e0 = some r) : ∃ n, zS n a0 e0 = some r := by cases h
def qz (a0 : (List GValue)) (e0 : Int) : Option Bool := none
theorem vg (a0 : (List GValue)) (e0 : Int) (r : Bool) (h : qz a0 e0 = some r) : ∃ n, zI n a0 e0 = some r := by cases h
def jh (a0 : GValue) (a1 : Int) : Option Bool := if vsz a0 <= 2 ^ 20 ∧ 0 <= a1 ∧ a1 <= 2 ^ 20 then some (shV a1.toNat a0) else none
theorem VZ (a0 : GValue) (a1 : Int) (r : Bool) (h : jh a0 a1 = some r) : ∃ n, wr n a0 a1 = some r := by
 unfold jh at h
 obtain ⟨⟨hs, h0, h1⟩, h⟩ := yc h
 refine ⟨4 * vsz a0 + 6, ?_⟩
 have := Eg _ a0 (Nat.lt_succ_self _) hs _ a1.toNat (Nat.le_refl _) (by omega)
 rw [show ((a1.toNat : Nat) : Int) = a1 by omega] at this
 rw [this]; exact h
theorem D1 : jx WR := by
 intro a0 e0 r h
 obtain ⟨n, hn⟩ := K6 a0 e0 r h
 exact (jM n).1 a0 e0 r hn
theorem Ra : yZ jg := by
 intro a0 e0 r h
 obtain ⟨n, hn⟩ := Zj a0 e0 r h
 exact (jM n).2.1 a0 e0 r hn
theorem Vb : yq qz := by
 intro a0 e0 r h
 obtain ⟨n, hn⟩ := vg a0 e0 r h
 exact (jM n).2.2.1 a0 e0 r hn
theorem Um : Zu jh := by
 intro a0 a1 r h
 obtain ⟨n, hn⟩ := VZ a0 a1 r h
 exact (jM n).2.2.2 a0 a1 r hn
def qY (F : GValue → Option Int) : Prop := ∀ (a0 : GValue), Oc (F a0) 99 [] [.val true (zf a0)] fun r => (vi r, [])
def xU (G_impl_Value_parts : GValue → Option Int) (v1 : (List GValue)) (v2 : Int) : Nat → Int → Int → Option (Int × Int)
  | 0, _, _ => none
  | m + 1, v0, v3 =>
  if v3 < v2 then
   (zH v3).bind fun i2 =>
   (v1[i2]?).bind fun x3 =>
   (G_impl_Value_parts x3).bind fun r4 =>
   xU G_impl_Value_parts v1 v2 m (w64 (v0 + r4)) (w64 (v3 + 1))
  else
  some (v0, v3)
theorem J0 (G_impl_Value_parts : GValue → Option Int) (H_impl_Value_parts : qY G_impl_Value_parts) (v1 : (List GValue)) (v2 : Int) (m : Nat) : ∀ (v0 : Int) (v3 : Int), Ol (xU G_impl_Value_parts v1 v2 m v0 v3) 99 (zQ Tryz.f99 0) ⟨[(3, vi v0), (7, vq zb v1), (8, vi v2), (9, vi v3)], [], 0⟩ fun o => match o with | ⟨o_0, o_1⟩ => (.exit 0, ⟨[(3, vi o_0), (7, vq zb v1), (8, vi v2), (9, vi o_1), (10, vb false)], [], 0⟩) := by
  induction m with
  | zero => intro v0 v3 o h; cases h
  | succ m ih => exact fun v0 v3 => tlp (
   .lI v3 v2 (fun c1 =>
    .na v3 fun i2 =>
    .ix zh v1 i2 fun x3 =>
    .cl (H_impl_Value_parts x3) fun r4 =>
    .go (ih (w64 (v0 + r4)) (w64 (v3 + 1)))) fun c1 =>
   .ret (v0, v3))
def kj (G_impl_Value_parts : GValue → Option Int) (n : Nat) (a0 : GValue) : Option Int :=
 (xU G_impl_Value_parts a0.L (a0.L.length : Int) n 1 0).bind fun ⟨o1_0, o1_1⟩ =>
 some o1_0
theorem Rb (G_impl_Value_parts : GValue → Option Int) (H_impl_Value_parts : qY G_impl_Value_parts) (n : Nat) : qY (kj G_impl_Value_parts n) := fun a0 => tc (
 .le zb a0.L <|
 .lp (J0 G_impl_Value_parts H_impl_Value_parts a0.L (a0.L.length : Int) n 1 0) fun ⟨o1_0, o1_1⟩ =>
 .ret o1_0) (zj Tryz.func99)
def xt : Nat → GValue → Option Int
 | 0, _ => none
 | n + 1, a0 => kj (xt n) n a0
theorem K7 (n : Nat) : qY (xt n) := by
 induction n with
 | zero => exact fun _ _ h => (by rw [xt] at h; cases h)
 | succ n ih =>
  have ih_impl_Value_parts := ih
  exact fun a0 r h => Rb (xt n) ih_impl_Value_parts n a0 r (by rw [xt] at h; exact h)
theorem Rc {G : GValue → Option Int} {v : GValue} {f : Nat} (hs : vsz v <= 2 ^ 20) (hf : v.L.length < f) (hG : ∀ x ∈ v.L, G x = some (((ptV x) : Nat) : Int)) : kj G f v = some (((ptV v) : Nat) : Int) := by
 have he := jz v
 have hl := qK v.L
 have loop : ∀ (d i m : Nat) (r : Int), i + d = v.L.length → d < m → 0 <= r → r <= 2 ^ 21 - yW (v.L.drop i) → ∃ z, xU G v.L (v.L.length : Int) m r (i : Int) = some (r + yW (v.L.drop i), z) := by
  intro d
  induction d with
  | zero =>
   intro i m r hi hm h0 h1
   obtain ⟨m, rfl, _⟩ := zg hm
   exact ⟨_, by rw [xU, if_neg (by omega), List.drop_eq_nil_of_le (by omega)]; simp [yW]; rfl⟩
  | succ d ih =>
   intro i m r hi hm h0 h1
   obtain ⟨m, rfl, hm'⟩ := zg hm
   have hil : i < v.L.length := by omega
   have hp : yW (v.L.drop i) = ptV v.L[i] + yW (v.L.drop (i + 1)) := by rw [xr hil]; simp only [yW]
   rw [hp] at h1 ⊢
   rw [xU, if_pos (by omega), zl, Option.bind_some, zr hil, Option.bind_some, hG _ (List.getElem_mem hil), Option.bind_some, yt (by omega), yu (by omega) (by omega)]
   obtain ⟨z, hz⟩ := ih (i + 1) m (r + ptV v.L[i]) (by omega) (by omega) (by omega) (by omega)
   exact ⟨z, by rw [hz]; congr 2; omega⟩
 have hle := La v.L
 obtain ⟨z, hz⟩ := loop v.L.length 0 f 1 (by omega) (by omega) (by omega) (by rw [List.drop_zero]; omega)
 rw [show ((0 : Nat) : Int) = 0 from rfl, List.drop_zero] at hz
 unfold kj
 rw [hz, Wy]
 simp only [Option.bind_some]
 congr 1
theorem Re : ∀ (N : Nat) (v : GValue), vsz v < N → vsz v <= 2 ^ 20 → ∀ f : Nat, vsz v + 2 <= f → xt f v = some (((ptV v) : Nat) : Int) := by
 intro N
 induction N with
 | zero => intro v hv; omega
 | succ N ih =>
  intro v hv hs f hf
  obtain ⟨f, rfl, _⟩ := zg (show 0 < f by omega)
  have he := jz v
  have hl := qK v.L
  rw [xt]
  refine Rc hs (by omega) fun x hx => ?_
  have := ZJ hx
  exact ih x (by omega) (by omega) f (by omega)
def wP (a0 : GValue) : Option Int := if vsz a0 <= 2 ^ 20 then some (((ptV a0) : Nat) : Int) else none
theorem JO (a0 : GValue) (r : Int) (h : wP a0 = some r) : ∃ n, xt n a0 = some r := by
 unfold wP at h
 obtain ⟨ha, h⟩ := yc h
 exact ⟨vsz a0 + 2, by rw [<- h]; exact Re _ a0 (Nat.lt_succ_self _) ha _ (Nat.le_refl _)⟩
theorem Vp : qY wP := by
 intro a0 r h
 obtain ⟨n, hn⟩ := JO a0 r h
 exact (K7 n) a0 r hn
def wd (a0 : GValue) : Option Bool :=
 (jh a0 5).bind fun r1 =>
 match r1 with
 | true =>
  (wP a0).bind fun r2 =>
  some (decide (r2 <= 40))
 | false =>
  some false
theorem Zv (a0 : GValue) : Oc (wd a0) 58 [] [.val true (zf a0)] fun r => (vb r, []) := tc (
 .cl (Um a0 5) fun r1 =>
 .vM 0 r1 (
  .az 0 0 <|
  .cl (Vp a0) fun r2 =>
  .az 0 1 <|
  .gD r2 40 <|
  .az 0 1 <|
  .ret (decide (r2 <= 40))) <|
 .az 0 0 <|
 .az 0 0 <|
 .az 0 0 <|
 .ret false) (zj Tryz.func58)
def qc (F : GValue → Option Bool) : Prop := ∀ (a0 : GValue), Oc (F a0) 211 [] [.val true (zf a0)] fun r => (vb r, [])
def yJ (F : (List GValue) → Option Int) : Prop := ∀ (a0 : (List GValue)), Oc (F a0) 198 [] [vq zb a0, .val false [.fn 211 []]] fun r => (vi r, [])
def yA (F : (List GValue) → Option Bool) : Prop := ∀ (a0 : (List GValue)), Oc (F a0) 164 [] [vq zb a0, .val false [.fn 211 []]] fun r => (vb r, [])
def km (F : GValue → Option Bool) : Prop := ∀ (a0 : GValue), Oc (F a0) 195 [] [.val true (zf a0)] fun r => (vb r, [])
def vG (G_impl_Value_known : GValue → Option Bool) (a0 : GValue) : Option Bool :=
 (G_impl_Value_known a0).bind fun r1 =>
 some (!r1)
theorem K8 (G_impl_Value_known : GValue → Option Bool) (H_impl_Value_known : km G_impl_Value_known) : qc (vG G_impl_Value_known) := fun a0 => tc (
 .cl (H_impl_Value_known a0) fun r1 =>
 .ret (!r1)) (zj Tryz.func211)
def zN (G_impl_Value_known_1 : GValue → Option Bool) (a0 : (List GValue)) (v1 : Int) : Nat → Int → Option (Int ⊕ Int)
  | 0, _ => none
  | m + 1, v2 =>
  if v2 < v1 then
   (zH v2).bind fun i2 =>
   (a0[i2]?).bind fun x3 =>
   (G_impl_Value_known_1 x3).bind fun r4 =>
   match r4 with
   | true =>
    some (.inl v2)
   | false =>
    zN G_impl_Value_known_1 a0 v1 m (w64 (v2 + 1))
  else
  some (.inr v2)
theorem kY (G_impl_Value_known_1 : GValue → Option Bool) (H_impl_Value_known_1 : qc G_impl_Value_known_1) (a0 : (List GValue)) (v1 : Int) (m : Nat) : ∀ (v2 : Int), Ol (zN G_impl_Value_known_1 a0 v1 m v2) 198 (zQ Tryz.f198 0) ⟨[(0, vq zb a0), (1, .val false [.fn 211 []]), (7, vi v1), (8, vi v2)], [], 0⟩ fun o => match o with | .inl o_0 => (.ret, ⟨[(4, vi o_0)], [], 0⟩) | .inr (o_1) => (.exit 0, ⟨[(0, vq zb a0), (1, .val false [.fn 211 []]), (7, vi v1), (8, vi o_1), (9, vb false)], [], 0⟩) := by
  induction m with
  | zero => intro v2 o h; cases h
  | succ m ih => exact fun v2 => tlp (
   .lI v2 v1 (fun c1 =>
    .na v2 fun i2 =>
    .ix zh a0 i2 fun x3 =>
    .cl (H_impl_Value_known_1 x3) fun r4 =>
    .vM 0 r4 (
     .ret (.inl v2)) <|
    .go (ih (w64 (v2 + 1)))) fun c1 =>
   .ret (.inr v2))
def yK (G_impl_Value_known_1 : GValue → Option Bool) (n : Nat) (a0 : (List GValue)) : Option Int :=
 (zN G_impl_Value_known_1 a0 (a0.length : Int) n 0).bind fun o1 =>
 match o1 with
 | .inl o1_0 =>
  some o1_0
 | .inr (o1_1) =>
  some (-1)
theorem Zk (G_impl_Value_known_1 : GValue → Option Bool) (H_impl_Value_known_1 : qc G_impl_Value_known_1) (n : Nat) : yJ (yK G_impl_Value_known_1 n) := fun a0 => tc (
 .le zb a0 <|
 .l2 (kY G_impl_Value_known_1 H_impl_Value_known_1 a0 (a0.length : Int) n 0) (fun o1_0 =>
  .ret o1_0) fun o1_1 =>
 .ret (-1)) (zj Tryz.func198)
def xp (G_slices_IndexFunc_Value_Value_known_1 : (List GValue) → Option Int) (a0 : (List GValue)) : Option Bool :=
 (G_slices_IndexFunc_Value_Value_known_1 a0).bind fun r1 =>
 some (decide (0 <= r1))
theorem vh (G_slices_IndexFunc_Value_Value_known_1 : (List GValue) → Option Int) (H_slices_IndexFunc_Value_Value_known_1 : yJ G_slices_IndexFunc_Value_Value_known_1) : yA (xp G_slices_IndexFunc_Value_Value_known_1) := fun a0 => tc (
 .cl (H_slices_IndexFunc_Value_Value_known_1 a0) fun r1 =>
 .gD 0 r1 <|
 .ret (decide (0 <= r1))) (zj Tryz.func164)
def ZE (G_slices_ContainsFunc_Value_Value_known_1 : (List GValue) → Option Bool) (a0 : GValue) : Option Bool :=
 if a0.Kind = 6 then
  some false
 else
 (G_slices_ContainsFunc_Value_Value_known_1 a0.L).bind fun r2 =>
 some (!r2)
theorem Rf (G_slices_ContainsFunc_Value_Value_known_1 : (List GValue) → Option Bool) (H_slices_ContainsFunc_Value_Value_known_1 : yA G_slices_ContainsFunc_Value_Value_known_1) : km (ZE G_slices_ContainsFunc_Value_Value_known_1) := fun a0 => tc (
 .eI a0.Kind 6 (fun c1 =>
  .ret false) fun c1 =>
 .cl (H_slices_ContainsFunc_Value_Value_known_1 a0.L) fun r2 =>
 .ret (!r2)) (zj Tryz.func195)
mutual
def yV : Nat → GValue → Option Bool
 | 0, _ => none
 | n + 1, a0 => vG (xu n) a0
def zJ : Nat → (List GValue) → Option Int
 | 0, _ => none
 | n + 1, a0 => yK (yV n) n a0
def zD : Nat → (List GValue) → Option Bool
 | 0, _ => none
 | n + 1, a0 => xp (zJ n) a0
def xu : Nat → GValue → Option Bool
 | 0, _ => none
 | n + 1, a0 => ZE (zD n) a0
end
theorem qQ (n : Nat) : qc (yV n) ∧ yJ (zJ n) ∧ yA (zD n) ∧ km (xu n) := by
 induction n with
 | zero => exact ⟨fun _ _ h => (by rw [yV] at h; cases h), fun _ _ h => (by rw [zJ] at h; cases h), fun _ _ h => (by rw [zD] at h; cases h), fun _ _ h => (by rw [xu] at h; cases h)⟩
 | succ n ih =>
  obtain ⟨ih_impl_Value_known_1, ih_slices_IndexFunc_Value_Value_known_1, ih_slices_ContainsFunc_Value_Value_known_1, ih_impl_Value_known⟩ := ih
  exact ⟨fun a0 r h => K8 (xu n) ih_impl_Value_known a0 r (by rw [yV] at h; exact h),
   fun a0 r h => Zk (yV n) ih_impl_Value_known_1 n a0 r (by rw [zJ] at h; exact h),
   fun a0 r h => vh (zJ n) ih_slices_IndexFunc_Value_Value_known_1 a0 r (by rw [zD] at h; exact h),
   fun a0 r h => Rf (zD n) ih_slices_ContainsFunc_Value_Value_known_1 a0 r (by rw [xu] at h; exact h)⟩
def X7 (a0 : GValue) : Option Bool := none
theorem QG (a0 : GValue) (r : Bool) (h : X7 a0 = some r) : ∃ n, yV n a0 = some r := by cases h
def q4 (a0 : (List GValue)) : Option Int := none
theorem vj (a0 : (List GValue)) (r : Int) (h : q4 a0 = some r) : ∃ n, zJ n a0 = some r := by cases h
def wU (a0 : (List GValue)) : Option Bool := none
theorem kD (a0 : (List GValue)) (r : Bool) (h : wU a0 = some r) : ∃ n, zD n a0 = some r := by cases h
theorem BW {G : GValue → Option Bool} {a : List GValue} {f : Nat} (ha : a.length <= 2 ^ 40) (hf : a.length < f) (hG : ∀ x ∈ a, G x = some (!knV x)) : ∃ r : Int, yK G f a = some r ∧ decide (0 <= r) = !(qx a) := by
 have loop : ∀ (l p : List GValue) (m : Nat), a = p ++ l → l.length < m → ∃ (q : Nat) (z : Int), zN G a (a.length : Int) m (p.length : Int) = some (if qx l = true then .inr z else .inl (q : Int)) := by
  intro l
  induction l with
  | nil =>
   intro p m he hm
   subst he
   obtain ⟨m, rfl, _⟩ := zg hm
   exact ⟨0, _, by rw [zN, if_neg (yD p)]; rfl⟩
  | cons x l ih =>
   intro p m he hm
   obtain ⟨m, rfl, hm'⟩ := zg hm
   have hlen : a.length = p.length + (l.length + 1) := by rw [he]; simp
   rw [zN, if_pos (by omega), zl, Option.bind_some, show a[p.length]? = some x by rw [he]; exact yg p x l, Option.bind_some, hG x (by rw [he]; simp), Option.bind_some, y8 p x (by omega)]
   rw [show qx (x :: l) = (knV x && qx l) by simp only [qx]]
   by_cases hp : knV x = true
   ·obtain ⟨q, z, hz⟩ := ih (p ++ [x]) m (by rw [he]; simp) (by simp only [List.length_cons] at hm'; omega)
    exact ⟨q, z, by rw [hp, Bool.true_and]; exact hz⟩
   ·rw [Bool.eq_false_iff.2 hp]
    exact ⟨p.length, 0, rfl⟩
 obtain ⟨q, z, hz⟩ := loop a [] f rfl (by omega)
 simp only [List.length_nil, Int.natCast_zero] at hz
 unfold yK
 rw [hz, Option.bind_some]
 cases hp : qx a with
 | true => exact ⟨-1, rfl, rfl⟩
 | false => exact ⟨(q : Int), rfl, by simp⟩
theorem zcv : ∀ (N : Nat) (v : GValue), vsz v < N → vsz v <= 2 ^ 39 → ∀ f : Nat, 4 * vsz v + 5 <= f → xu f v = some (knV v) := by
 intro N
 induction N with
 | zero => intro v hv; omega
 | succ N ih =>
  intro v hv hs f hf
  have he := jz v
  have hl := qK v.L
  obtain ⟨f, rfl, _⟩ := zg (show 0 < f by omega)
  obtain ⟨f, rfl, _⟩ := zg (show 0 < f by omega)
  obtain ⟨f, rfl, _⟩ := zg (show 0 < f by omega)
  obtain ⟨f, rfl, _⟩ := zg (show 0 < f by omega)
  obtain ⟨r, hr, hd⟩ := BW (G := yV (f + 1)) (a := v.L) (f := f + 1) (by omega) (by omega) (fun x hx => by
   have := ZJ hx
   rw [yV]
   unfold vG
   rw [ih x (by omega) (by omega) f (by omega), Option.bind_some])
  rw [xu]
  unfold ZE
  rw [zD]
  unfold xp
  rw [zJ, hr, Option.bind_some, Option.bind_some, hd, PJ]
  by_cases h6 : v.Kind = 6
  ·rw [if_pos h6, h6]; rfl
  ·rw [if_neg h6]; simp [h6]
def qZ (a0 : GValue) : Option Bool := if vsz a0 <= 2 ^ 39 then some (knV a0) else none
theorem JP (a0 : GValue) (r : Bool) (h : qZ a0 = some r) : ∃ n, xu n a0 = some r := by
 unfold qZ at h
 obtain ⟨ha, h⟩ := yc h
 exact ⟨4 * vsz a0 + 5, by rw [<- h]; exact zcv _ a0 (Nat.lt_succ_self _) ha _ (Nat.le_refl _)⟩
theorem He : qc X7 := by
 intro a0 r h
 obtain ⟨n, hn⟩ := QG a0 r h
 exact (qQ n).1 a0 r hn
theorem Vc : yJ q4 := by
 intro a0 r h
 obtain ⟨n, hn⟩ := vj a0 r h
 exact (qQ n).2.1 a0 r hn
theorem JQ : yA wU := by
 intro a0 r h
 obtain ⟨n, hn⟩ := kD a0 r h
 exact (qQ n).2.2.1 a0 r hn
theorem Vq : km qZ := by
 intro a0 r h
 obtain ⟨n, hn⟩ := JP a0 r h
 exact (qQ n).2.2.2 a0 r hn
def Yk (a0 : GValue) : Option Bool :=
 (wd a0).bind fun r1 =>
 match r1 with
 | true =>
  (qZ a0).bind fun r2 =>
  some r2
 | false =>
  some false
theorem Jj (a0 : GValue) : Oc (Yk a0) 153 [] [.val true (zf a0)] fun r => (vb r, []) := tc (
 .cl (Zv a0) fun r1 =>
 .vM 0 r1 (
  .az 0 0 <|
  .cl (Vq a0) fun r2 =>
  .az 0 1 <|
  .ret r2) <|
 .az 0 0 <|
 .az 0 0 <|
 .ret false) (zj Tryz.func153)
def Zw (a0 : Int) : Option Bool :=
 some false
theorem Q0 (a0 : Int) : Oc (Zw a0) 200 [] [vi a0] fun r => (vb r, []) := tc (
 .q (.eTo a0 a0 (by omega)) <|
 .ret false) (zj Tryz.func200)
def ql (a0 : Int) (a1 : Int) : Option Int :=
 (Zw a0).bind fun r1 =>
 (Zw a1).bind fun r2 =>
 match r1 with
 | true =>
  match r2 with
  | true =>
   some 0
  | false =>
   some (-1)
 | false =>
  match r2 with
  | true =>
   some 1
  | false =>
   if a0 < a1 then
    some (-1)
   else
   if a1 < a0 then
    some 1
   else
   some 0
theorem ZF (a0 : Int) (a1 : Int) : Oc (ql a0 a1) 171 [] [vi a0, vi a1] fun r => (vi r, []) := tc (
 .cl (Q0 a0) fun r1 =>
 .cl (Q0 a1) fun r2 =>
 .vM 0 r1 (
  .vM 0 r2 (
   .ret 0) <|
  .ret (-1)) <|
 .vM 0 r2 (
  .ret 1) <|
 .lI a0 a1 (fun c3 =>
  .ret (-1)) fun c3 =>
 .lI a1 a0 (fun c4 =>
  .ret 1) fun c4 =>
 .ret 0) (zj Tryz.func171)
def Rh (F : (List Int) → Option Int) : Prop := ∀ (a0 : (List Int)), Oc (F a0) 170 [] [vq yY a0] fun r => (vi r, [])
def ji (v0 : Int) (a0 : (List Int)) (v2 : Int) : Nat → Int → Option (Int ⊕ Int)
  | 0, _ => none
  | m + 1, v3 =>
  if v3 < v2 then
   (zH v3).bind fun i2 =>
   (a0[i2]?).bind fun x3 =>
   if x3 = v0 then
    ji v0 a0 v2 m (w64 (v3 + 1))
   else
   some (.inl x3)
  else
  some (.inr v3)
theorem Un (v0 : Int) (a0 : (List Int)) (v2 : Int) (m : Nat) : ∀ (v3 : Int), Ol (ji v0 a0 v2 m v3) 170 (zQ Tryz.f170 0) ⟨[(3, vi v0), (6, vq yY a0), (7, vi v2), (8, vi v3)], [], 0⟩ fun o => match o with | .inl o_0 => (.ret, ⟨[(2, vi o_0)], [], 0⟩) | .inr (o_1) => (.exit 0, ⟨[(3, vi v0), (6, vq yY a0), (7, vi v2), (8, vi o_1), (9, vb false)], [], 0⟩) := by
  induction m with
  | zero => intro v3 o h; cases h
  | succ m ih => exact fun v3 => tlp (
   .lI v3 v2 (fun c1 =>
    .na v3 fun i2 =>
    .ix0 yY a0 i2 fun x3 =>
    .eI x3 v0 (fun c4 =>
     .go (ih (w64 (v3 + 1)))) fun c4 =>
    .ret (.inl x3)) fun c1 =>
   .ret (.inr v3))
def Q1 (n : Nat) (a0 : (List Int)) : Option Int :=
 (ji 0 a0 (a0.length : Int) n 0).bind fun o1 =>
 match o1 with
 | .inl o1_0 =>
  some o1_0
 | .inr (o1_1) =>
  some 0
theorem NI (n : Nat) : Rh (Q1 n) := fun a0 => tc (
 .le yY a0 <|
 .l2 (Un 0 a0 (a0.length : Int) n 0) (fun o1_0 =>
  .ret o1_0) fun o1_1 =>
 .ret 0) (zj Tryz.func170)
def orI : List Int → Int
 | [] => 0
 | x :: l => if x = 0 then orI l else x
theorem Eh {a : List Int} (ha : a.length <= 2 ^ 20) : ∀ (d i m : Nat), i + d = a.length → d < m → ∃ z, ji 0 a (a.length : Int) m (i : Int) = some z ∧ (match z with | .inl x => x | .inr _ => 0) = orI (a.drop i) := by
 intro d
 induction d with
 | zero =>
  intro i m hi hm
  obtain ⟨m, rfl, _⟩ := zg hm
  refine ⟨.inr i, by rw [ji, if_neg (by omega)], ?_⟩
  rw [List.drop_eq_nil_of_le (by omega)]; rfl
 | succ d ih =>
  intro i m hi hm
  obtain ⟨m, rfl, hm'⟩ := zg hm
  have hil : i < a.length := by omega
  rw [ji, if_pos (by omega), zl, Option.bind_some, zr hil, Option.bind_some, xr hil, orI]
  by_cases h : a[i] = 0
  ·rw [if_pos h, if_pos h, yt (by omega)]
   exact ih (i + 1) m (by omega) (by omega)
  ·rw [if_neg h, if_neg h]
   exact ⟨_, rfl, rfl⟩
def kZ (a0 : (List Int)) : Option Int := if a0.length <= 2 ^ 20 then some (orI a0) else none
theorem Pu (a0 : (List Int)) (r : Int) (h : kZ a0 = some r) : ∃ n, Q1 n a0 = some r := by
 unfold kZ at h
 obtain ⟨ha, h⟩ := yc h
 obtain ⟨z, h1, h2⟩ := Eh ha a0.length 0 (a0.length + 1) (by omega) (by omega)
 refine ⟨a0.length + 1, ?_⟩
 unfold Q1
 rw [show (0 : Int) = ((0 : Nat) : Int) from rfl]
 rw [List.drop_zero] at h2
 refine (congrArg (fun x => Option.bind x _) h1).trans ?_
 rw [Option.bind_some, <- h, <- h2]
 cases z <;> rfl
theorem Mp : Rh kZ := fun a0 r h => (Pu a0 r h).elim fun n hn => NI n a0 r hn
def qd (F : GValue → GValue → Option Int) : Prop := ∀ (a0 : GValue) (a1 : GValue), Oc (F a0 a1) 104 [] [.val true (zf a0), .val true (zf a1)] fun r => (vi r, [])
def yo (G_impl_compareValues : GValue → GValue → Option Int) (v0 : Int) (a0 : GValue) (a1 : GValue) : Nat → Int → Option (Int ⊕ Int)
  | 0, _ => none
  | m + 1, v1 =>
  if v1 < v0 then
   if a0.Kind = 5 then
    (zH v1).bind fun i3 =>
    (a0.K[i3]?).bind fun x4 =>
    (a1.K[i3]?).bind fun x5 =>
    (yS x4 x5).bind fun r6 =>
    if r6 = 0 then
     (a0.L[i3]?).bind fun x8 =>
     (a1.L[i3]?).bind fun x9 =>
     (G_impl_compareValues x8 x9).bind fun r10 =>
     if r10 = 0 then
      yo G_impl_compareValues v0 a0 a1 m (w64 (v1 + 1))
     else
     some (.inl r10)
    else
    some (.inl r6)
   else
   (zH v1).bind fun i3 =>
   (a0.L[i3]?).bind fun x4 =>
   (a1.L[i3]?).bind fun x5 =>
   (G_impl_compareValues x4 x5).bind fun r6 =>
   if r6 = 0 then
    yo G_impl_compareValues v0 a0 a1 m (w64 (v1 + 1))
   else
   some (.inl r6)
  else
  some (.inr v1)
theorem Q2 (G_impl_compareValues : GValue → GValue → Option Int) (H_impl_compareValues : qd G_impl_compareValues) (v0 : Int) (a0 : GValue) (a1 : GValue) (m : Nat) : ∀ (v1 : Int), Ol (yo G_impl_compareValues v0 a0 a1 m v1) 104 (zQ Tryz.f104 0) ⟨[(2, vp 0 0), (3, vp 1 0), (35, vi v0), (36, vi v1)], [.var (zf a0), .var (zf a1)], 0⟩ fun o => match o with | .inl o_0 => (.ret, ⟨[(4, vi o_0)], [], 0⟩) | .inr (o_1) => (.exit 0, ⟨[(2, vp 0 0), (3, vp 1 0), (35, vi v0), (36, vi o_1), (37, vb false)], [.var (zf a0), .var (zf a1)], 0⟩) := by
  induction m with
  | zero => intro v1 o h; cases h
  | succ m ih => exact fun v1 => tlp (
   .lI v1 v0 (fun c1 =>
    .eI a0.Kind 5 (fun c2 =>
     .na v1 fun i3 =>
     .ix0 (zi za) a0.K i3 fun x4 =>
     .ag 1 <|
     .ix0 (zi za) a1.K i3 fun x5 =>
     .cl (qF x4 x5) fun r6 =>
     .eI r6 0 (fun c7 =>
      .ag 3 <|
      .ix zh a0.L i3 fun x8 =>
      .ag 4 <|
      .ix zh a1.L i3 fun x9 =>
      .cl (H_impl_compareValues x8 x9) fun r10 =>
      .eI r10 0 (fun c11 =>
       .go (ih (w64 (v1 + 1)))) fun c11 =>
      .ret (.inl r10)) fun c7 =>
     .ret (.inl r6)) fun c2 =>
    .na v1 fun i3 =>
    .ix zh a0.L i3 fun x4 =>
    .ag 1 <|
    .ix zh a1.L i3 fun x5 =>
    .cl (H_impl_compareValues x4 x5) fun r6 =>
    .eI r6 0 (fun c7 =>
     .go (ih (w64 (v1 + 1)))) fun c7 =>
    .ret (.inl r6)) fun c1 =>
   .ret (.inr v1))
def j0 (G_impl_compareValues : GValue → GValue → Option Int) (n : Nat) (a0 : GValue) (a1 : GValue) : Option Int :=
 (ql a0.Kind a1.Kind).bind fun r1 =>
 (ql a0.N a1.N).bind fun r2 =>
 (yS a0.S a1.S).bind fun r3 =>
 (kZ [r1, r2, r3]).bind fun r4 =>
 if r4 = 0 then
  (yo G_impl_compareValues (if (a1.L.length : Int) < (a0.L.length : Int) then (a1.L.length : Int) else (a0.L.length : Int)) a0 a1 n 0).bind fun o6 =>
  match o6 with
  | .inl o6_0 =>
   some o6_0
  | .inr (o6_1) =>
   (ql (a0.L.length : Int) (a1.L.length : Int)).bind fun r7 =>
   some r7
 else
 some r4
theorem K9 (G_impl_compareValues : GValue → GValue → Option Int) (H_impl_compareValues : qd G_impl_compareValues) (n : Nat) : qd (j0 G_impl_compareValues n) := fun a0 a1 => tc (
 .cl (ZF a0.Kind a1.Kind) fun r1 =>
 .cl (ZF a0.N a1.N) fun r2 =>
 .cl (qF a0.S a1.S) fun r3 =>
 .vw za9 [r1, r2, r3] <|
 .cl (Mp [r1, r2, r3]) fun r4 =>
 .eI r4 0 (fun c5 =>
  .le zb a0.L <|
  .le zb a1.L <|
  .l2 (Q2 G_impl_compareValues H_impl_compareValues (if (a1.L.length : Int) < (a0.L.length : Int) then (a1.L.length : Int) else (a0.L.length : Int)) a0 a1 n 0) (fun o6_0 =>
   .ret o6_0) fun o6_1 =>
  .le zb a0.L <|
  .le zb a1.L <|
  .cl (ZF (a0.L.length : Int) (a1.L.length : Int)) fun r7 =>
  .ret r7) fun c5 =>
 .ret r4) (zj Tryz.func104)
def ya : Nat → GValue → GValue → Option Int
 | 0, _, _ => none
 | n + 1, a0, a1 => j0 (ya n) n a0 a1
theorem J1 (n : Nat) : qd (ya n) := by
 induction n with
 | zero => exact fun _ _ _ h => (by rw [ya] at h; cases h)
 | succ n ih =>
  have ih_impl_compareValues := ih
  exact fun a0 a1 r h => K9 (ya n) ih_impl_compareValues n a0 a1 r (by rw [ya] at h; exact h)
def we (a0 : GValue) (a1 : GValue) : Option Int := ya (vsz a0 + 3) a0 a1
theorem QH (a0 : GValue) (a1 : GValue) (r : Int) (h : we a0 a1 = some r) : ∃ n, ya n a0 a1 = some r := ⟨_, h⟩
theorem JR : qd we := by
 intro a0 a1 r h
 obtain ⟨n, hn⟩ := QH a0 a1 r h
 exact (J1 n) a0 a1 r hn
def WL (a0 : GValue) : Option Bool :=
 (wd a0).bind fun r1 =>
 some (!r1)
theorem OL (a0 : GValue) : Oc (WL a0) 196 [] [.val true (zf a0)] fun r => (vb r, []) := tc (
 .cl (Zv a0) fun r1 =>
 .ret (!r1)) (zj Tryz.func196)
def jO (F : (List GValue) → Option Int) : Prop := ∀ (a0 : (List GValue)), Oc (F a0) 198 [] [vq zb a0, .val false [.fn 196 []]] fun r => (vi r, [])
def zU (a0 : (List GValue)) (v1 : Int) : Nat → Int → Option (Int ⊕ Int)
  | 0, _ => none
  | m + 1, v2 =>
  if v2 < v1 then
   (zH v2).bind fun i2 =>
   (a0[i2]?).bind fun x3 =>
   (WL x3).bind fun r4 =>
   match r4 with
   | true =>
    some (.inl v2)
   | false =>
    zU a0 v1 m (w64 (v2 + 1))
  else
  some (.inr v2)
theorem Yl (a0 : (List GValue)) (v1 : Int) (m : Nat) : ∀ (v2 : Int), Ol (zU a0 v1 m v2) 198 (zQ Tryz.f198 0) ⟨[(0, vq zb a0), (1, .val false [.fn 196 []]), (7, vi v1), (8, vi v2)], [], 0⟩ fun o => match o with | .inl o_0 => (.ret, ⟨[(4, vi o_0)], [], 0⟩) | .inr (o_1) => (.exit 0, ⟨[(0, vq zb a0), (1, .val false [.fn 196 []]), (7, vi v1), (8, vi o_1), (9, vb false)], [], 0⟩) := by
  induction m with
  | zero => intro v2 o h; cases h
  | succ m ih => exact fun v2 => tlp (
   .lI v2 v1 (fun c1 =>
    .na v2 fun i2 =>
    .ix zh a0 i2 fun x3 =>
    .cl (OL x3) fun r4 =>
    .vM 0 r4 (
     .ret (.inl v2)) <|
    .go (ih (w64 (v2 + 1)))) fun c1 =>
   .ret (.inr v2))
def wT (n : Nat) (a0 : (List GValue)) : Option Int :=
 (zU a0 (a0.length : Int) n 0).bind fun o1 =>
 match o1 with
 | .inl o1_0 =>
  some o1_0
 | .inr (o1_1) =>
  some (-1)
theorem Xm (n : Nat) : jO (wT n) := fun a0 => tc (
 .le zb a0 <|
 .l2 (Yl a0 (a0.length : Int) n 0) (fun o1_0 =>
  .ret o1_0) fun o1_1 =>
 .ret (-1)) (zj Tryz.func198)
theorem BX {v : GValue} (h : vsz v <= 2 ^ 20) : wd v = some (zp v) := by
 unfold wd jh wP zp
 rw [if_pos ⟨h, by decide, by decide⟩, Option.bind_some]
 rw [show (5 : Int).toNat = 5 from rfl]
 cases hs : shV 5 v
 ·simp
 ·dsimp only
  rw [if_pos h, Option.bind_some]
  simp
def J2 : List GValue → Nat → Int
 | [], _ => -1
 | v :: l, i => if zp v = true then J2 l (i + 1) else (i : Int)
theorem Uo : ∀ (l : List GValue) (i : Nat), 0 <= J2 l i ↔ ¬ l.all zp = true
 | [], i => by simp [J2]
 | v :: l, i => by
  rw [J2, List.all_cons]
  by_cases h : zp v = true
  ·rw [if_pos h, Uo l, h, Bool.true_and]
  ·rw [if_neg h, Bool.eq_false_iff.2 h]; simp
theorem GD {a : List GValue} (ha : a.length <= 2 ^ 40) (hs : ∀ v ∈ a, vsz v <= 2 ^ 20) : ∀ (l p : List GValue) (m : Nat), a = p ++ l → l.length < m → ∃ z, zU a (a.length : Int) m (p.length : Int) = some (if l.all zp = true then .inr z else .inl (J2 l p.length)) := by
 intro l
 induction l with
 | nil =>
  intro p m he hm
  subst he
  obtain ⟨m, rfl, _⟩ := zg hm
  exact ⟨_, by rw [zU, if_neg (yD p)]; rfl⟩
 | cons x l ih =>
  intro p m he hm
  obtain ⟨m, rfl, hm'⟩ := zg hm
  have hlen : a.length = p.length + (l.length + 1) := by rw [he]; simp
  rw [zU, if_pos (by omega), zl, Option.bind_some, show a[p.length]? = some x by rw [he]; exact yg p x l, Option.bind_some]
  unfold WL
  rw [BX (hs x (by rw [he]; simp)), Option.bind_some, Option.bind_some, y8 p x (by omega)]
  by_cases hp : zp x = true
  ·obtain ⟨z, hz⟩ := ih (p ++ [x]) m (by rw [he]; simp) (by simp only [List.length_cons] at hm'; omega)
   refine ⟨z, ?_⟩
   rw [hp]
   show zU _ _ _ _ = _
   rw [hz]
   simp only [List.all_cons, hp, Bool.true_and, J2, if_true, List.length_append, List.length_cons, List.length_nil]
  ·refine ⟨0, ?_⟩
   rw [Bool.eq_false_iff.2 hp]
   simp only [List.all_cons, Bool.eq_false_iff.2 hp, Bool.false_and, J2, Bool.not_false, Bool.false_eq_true, if_false]
def yM (a0 : (List GValue)) : Option Int := if a0.length <= 2 ^ 40 ∧ ∀ v ∈ a0, vsz v <= 2 ^ 20 then some (J2 a0 0) else none
theorem Yv (a0 : (List GValue)) (r : Int) (h : yM a0 = some r) : ∃ n, wT n a0 = some r := by
 unfold yM at h
 obtain ⟨⟨ha, hs⟩, h⟩ := yc h
 obtain ⟨z, hz⟩ := GD ha hs a0 [] (a0.length + 1) rfl (by omega)
 refine ⟨a0.length + 1, ?_⟩
 unfold wT
 simp only [List.length_nil, Int.natCast_zero] at hz
 rw [hz, Option.bind_some, <- h]
 by_cases hc : a0.all zp = true
 ·rw [if_pos hc]
  have : ∀ (l : List GValue) (i : Nat), l.all zp = true → J2 l i = -1 := by
   intro l
   induction l with
   | nil => intro i _; rfl
   | cons v l ih =>
    intro i hl
    rw [List.all_cons, Bool.and_eq_true] at hl
    rw [J2, if_pos hl.1, ih _ hl.2]
  rw [this a0 0 hc]
 ·rw [if_neg hc]
theorem YT : jO yM := fun a0 r h => (Yv a0 r h).elim fun n hn => Xm n a0 r hn
def wl (a0 : (List GValue)) : Option Bool :=
 (yM a0).bind fun r1 =>
 some (decide (0 <= r1))
theorem Ym (a0 : (List GValue)) : Oc (wl a0) 164 [] [vq zb a0, .val false [.fn 196 []]] fun r => (vb r, []) := tc (
 .cl (YT a0) fun r1 =>
 .gD 0 r1 <|
 .ret (decide (0 <= r1))) (zj Tryz.func164)
def X8 (a0 : (List UInt8)) : Option (List (List Int)) :=
 if a0 = [108, 101, 110] then
  some [[3, 4, 5]]
 else
 if a0 = [99, 97, 116] then
  some [[3], [3]]
 else
 if a0 = [107, 101, 121, 115] then
  some [[5]]
 else
 if a0 = [118, 97, 108, 115] then
  some [[5]]
 else
 if a0 = [104, 97, 115] then
  some [[5], [3]]
 else
 if a0 = [109, 105, 110] then
  some [[2], [2]]
 else
 if a0 = [109, 97, 120] then
  some [[2], [2]]
 else
 some []
theorem Mq (a0 : (List UInt8)) : Oc (X8 a0) 197 [] [vs a0] fun r => (vq (zi yY) r, []) := tc (
 .vo (zC 1 Kw) [[3, 4, 5]] <|
 .vo (zC 1 Kw) [[3], [3]] <|
 .q ⟨.eqS [99, 97, 116] [108, 101, 110], .b false, A.eqS_f (by decide)⟩ <|
 .vo (zC 1 Kw) [[5]] <|
 .q ⟨.eqS [107, 101, 121, 115] [108, 101, 110], .b false, A.eqS_f (by decide)⟩ <|
 .q ⟨.eqS [107, 101, 121, 115] [99, 97, 116], .b false, A.eqS_f (by decide)⟩ <|
 .vo (zC 1 Kw) [[5]] <|
 .q ⟨.eqS [118, 97, 108, 115] [108, 101, 110], .b false, A.eqS_f (by decide)⟩ <|
 .q ⟨.eqS [118, 97, 108, 115] [99, 97, 116], .b false, A.eqS_f (by decide)⟩ <|
 .q ⟨.eqS [118, 97, 108, 115] [107, 101, 121, 115], .b false, A.eqS_f (by decide)⟩ <|
 .vo (zC 1 Kw) [[5], [3]] <|
 .q ⟨.eqS [104, 97, 115] [108, 101, 110], .b false, A.eqS_f (by decide)⟩ <|
 .q ⟨.eqS [104, 97, 115] [99, 97, 116], .b false, A.eqS_f (by decide)⟩ <|
 .q ⟨.eqS [104, 97, 115] [107, 101, 121, 115], .b false, A.eqS_f (by decide)⟩ <|
 .q ⟨.eqS [104, 97, 115] [118, 97, 108, 115], .b false, A.eqS_f (by decide)⟩ <|
 .vo (zC 1 Kw) [[2], [2]] <|
 .q ⟨.eqS [109, 105, 110] [108, 101, 110], .b false, A.eqS_f (by decide)⟩ <|
 .q ⟨.eqS [109, 105, 110] [99, 97, 116], .b false, A.eqS_f (by decide)⟩ <|
 .q ⟨.eqS [109, 105, 110] [107, 101, 121, 115], .b false, A.eqS_f (by decide)⟩ <|
 .q ⟨.eqS [109, 105, 110] [118, 97, 108, 115], .b false, A.eqS_f (by decide)⟩ <|
 .q ⟨.eqS [109, 105, 110] [104, 97, 115], .b false, A.eqS_f (by decide)⟩ <|
 .vo (zC 1 Kw) [[2], [2]] <|
 .q ⟨.eqS [109, 97, 120] [108, 101, 110], .b false, A.eqS_f (by decide)⟩ <|
 .q ⟨.eqS [109, 97, 120] [99, 97, 116], .b false, A.eqS_f (by decide)⟩ <|
 .q ⟨.eqS [109, 97, 120] [107, 101, 121, 115], .b false, A.eqS_f (by decide)⟩ <|
 .q ⟨.eqS [109, 97, 120] [118, 97, 108, 115], .b false, A.eqS_f (by decide)⟩ <|
 .q ⟨.eqS [109, 97, 120] [104, 97, 115], .b false, A.eqS_f (by decide)⟩ <|
 .q ⟨.eqS [109, 97, 120] [109, 105, 110], .b false, A.eqS_f (by decide)⟩ <|
 .sI a0 [108, 101, 110] (fun c1 =>
  .ret [[3, 4, 5]]) fun c1 =>
 .sI a0 [99, 97, 116] (fun c2 =>
  .ret [[3], [3]]) fun c2 =>
 .sI a0 [107, 101, 121, 115] (fun c3 =>
  .ret [[5]]) fun c3 =>
 .sI a0 [118, 97, 108, 115] (fun c4 =>
  .ret [[5]]) fun c4 =>
 .sI a0 [104, 97, 115] (fun c5 =>
  .ret [[5], [3]]) fun c5 =>
 .sI a0 [109, 105, 110] (fun c6 =>
  .ret [[2], [2]]) fun c6 =>
 .sI a0 [109, 97, 120] (fun c7 =>
  .ret [[2], [2]]) fun c7 =>
 .vw (zn yY) [] <|
 .ret []) (zj Tryz.func197)
def y9 (a0 : (List UInt8)) : Option (List UInt8) :=
 if y4 1 (0 + a0.length) then
 some a0
 else none
theorem xf (a0 : (List UInt8)) : Oc (y9 a0) 85 [] [vq za a0] fun r => (.val false [.own 1 (eL za r)], []) := tc (
 .ap 1 ze [] a0 fun n1 =>
 .ret a0) (zj Tryz.func85)
def Tz (F : (List UInt8) → (List GValue) → Option (GValue × Int)) : Prop := ∀ (a0 : (List UInt8)) (a1 : (List GValue)), Oc (F a0 a1) 156 [] [vs a0, vq zb a1] fun r => (.tup [(true, (zf r.1)), (false, [ci r.2])], [])
def qH (a0 : (List UInt8)) (a1 : (List GValue)) (v2 : (List (List Int))) (v4 : Int) (v6 : Int) (v7 : Int) (v8 : (List UInt8)) (v9 : (List (List UInt8))) (v10 : (List GValue)) : Nat → Bool → Int → Option ((Int × Int × (List UInt8) × (List (List UInt8)) × (List GValue)) ⊕ (Bool × Int))
  | 0, _, _ => none
  | m + 1, v3, v5 =>
  if v5 < v4 then
   (zH v5).bind fun i2 =>
   (a1[i2]?).bind fun x3 =>
   if x3.Kind = 6 then
    qH a0 a1 v2 v4 v6 v7 v8 v9 v10 m false (w64 (v5 + 1))
   else
   (v2[i2]?).bind fun x5 =>
   (wO x5 x3.Kind).bind fun r6 =>
   match r6 with
   | true =>
    qH a0 a1 v2 v4 v6 v7 v8 v9 v10 m v3 (w64 (v5 + 1))
   | false =>
    some (.inl (2, 0, [], [], []))
  else
  some (.inr (v3, v5))
theorem Pv (a0 : (List UInt8)) (a1 : (List GValue)) (v2 : (List (List Int))) (v4 : Int) (v6 : Int) (v7 : Int) (v8 : (List UInt8)) (v9 : (List (List UInt8))) (v10 : (List GValue)) (m : Nat) : ∀ (v3 : Bool) (v5 : Int), Ol (qH a0 a1 v2 v4 v6 v7 v8 v9 v10 m v3 v5) 156 (zQ Tryz.f156 0) ⟨[(0, vs a0), (1, vq zb a1), (4, vp 0 0), (6, vq (zi yY) v2), (7, vb v3), (38, vq zb a1), (39, vi v4), (40, vi v5)], [.var [ci v6, ci v7, .ref 1, .ref 2, .ref 3], .obj 1 (eL za v8), .obj 1 (eL (zi za) v9), .obj 5 (eL zb v10)], 0⟩ fun o => match o with | .inl ⟨o_0_0, o_0_1, o_0_2, o_0_3, o_0_4⟩ => (.ret, ⟨[(4, vp 0 0), (5, vi o_0_0)], [.var [ci o_0_1, ci o_0_1, .ref 1, .ref 2, .ref 3], .obj 1 (eL za o_0_2), .obj 1 (eL (zi za) o_0_3), .obj 5 (eL zb o_0_4)], 0⟩) | .inr (⟨o_1_0, o_1_1⟩) => (.exit 0, ⟨[(0, vs a0), (1, vq zb a1), (4, vp 0 0), (6, vq (zi yY) v2), (7, vb o_1_0), (38, vq zb a1), (39, vi v4), (40, vi o_1_1), (41, vb false)], [.var [ci v6, ci v7, .ref 1, .ref 2, .ref 3], .obj 1 (eL za v8), .obj 1 (eL (zi za) v9), .obj 5 (eL zb v10)], 0⟩) := by
  induction m with
  | zero => intro v3 v5 o h; cases h
  | succ m ih => exact fun v3 v5 => tlp (
   .lI v5 v4 (fun c1 =>
    .na v5 fun i2 =>
    .ix zh a1 i2 fun x3 =>
    .eI x3.Kind 6 (fun c4 =>
     .go (ih false (w64 (v5 + 1)))) fun c4 =>
    .ag 1 <|
    .ix0 (zi yY) v2 i2 fun x5 =>
    .cl (Y5 x5 x3.Kind) fun r6 =>
    .vN 0 r6 (
     .go (ih v3 (w64 (v5 + 1)))) <|
    .ret (.inl (2, 0, [], [], []))) fun c1 =>
   .ret (.inr (v3, v5)))
def j5 (v0 : (List (List UInt8))) (v1 : Int) (v3 : Int) (v4 : Int) (v5 : Int) (v6 : Int) (v7 : (List UInt8)) (v8 : (List (List UInt8))) (v9 : (List GValue)) (v10 : (List UInt8)) (v11 : (List (List UInt8))) : Nat → Int → (List GValue) → Option (Int × (List GValue))
  | 0, _, _ => none
  | m + 1, v2, v12 =>
  if v2 < v1 then
   (zH v2).bind fun i2 =>
   (v0[i2]?).bind fun x3 =>
   if y4 88 (v12.length + [(GValue.mk 3 0 x3 [] [])].length) then
   j5 v0 v1 v3 v4 v5 v6 v7 v8 v9 v10 v11 m (w64 (v2 + 1)) (v12 ++ [(GValue.mk 3 0 x3 [] [])])
   else none
  else
  some (v2, v12)
theorem Pw (v0 : (List (List UInt8))) (v1 : Int) (v3 : Int) (v4 : Int) (v5 : Int) (v6 : Int) (v7 : (List UInt8)) (v8 : (List (List UInt8))) (v9 : (List GValue)) (v10 : (List UInt8)) (v11 : (List (List UInt8))) (m : Nat) : ∀ (v2 : Int) (v12 : (List GValue)), Ol (j5 v0 v1 v3 v4 v5 v6 v7 v8 v9 v10 v11 m v2 v12) 156 (zQ Tryz.f156 1) ⟨[(4, vp 0 0), (12, vp 1 0), (98, vq (zi za) v0), (99, vi v1), (100, vi v2)], [.var [ci v3, ci v4, .ref 2, .ref 3, .ref 4], .var [ci v5, ci v6, .ref 5, .ref 6, .ref 7], .obj 1 (eL za v7), .obj 1 (eL (zi za) v8), .obj 5 (eL zb v9), .obj 1 (eL za v10), .obj 1 (eL (zi za) v11), .obj 5 (eL zb v12)], 0⟩ fun o => match o with | ⟨o_0, o_1⟩ => (.exit 3, ⟨[(4, vp 0 0), (12, vp 1 0), (98, vq (zi za) v0), (99, vi v1), (100, vi o_0), (101, vb false)], [.var [ci v3, ci v4, .ref 2, .ref 3, .ref 4], .var [ci v5, ci v6, .ref 5, .ref 6, .ref 7], .obj 1 (eL za v7), .obj 1 (eL (zi za) v8), .obj 5 (eL zb v9), .obj 1 (eL za v10), .obj 1 (eL (zi za) v11), .obj 5 (eL zb o_1)], 0⟩) := by
  induction m with
  | zero => intro v2 v12 o h; cases h
  | succ m ih => exact fun v2 v12 => tlp (
   .lI v2 v1 (fun c1 =>
    .na v2 fun i2 =>
    .ix0 (zi za) v0 i2 fun x3 =>
    .vw (zn za) [] <|
    .vw zc [] <|
    .pl zc [(GValue.mk 3 0 x3 [] [])] <|
    .ap 88 zc v12 [(GValue.mk 3 0 x3 [] [])] fun n4 =>
    .go (ih (w64 (v2 + 1)) (v12 ++ [(GValue.mk 3 0 x3 [] [])]))) fun c1 =>
   .ret (v2, v12))
def Wj (n : Nat) (a0 : (List UInt8)) (a1 : (List GValue)) : Option (GValue × Int) :=
 if 40 < (a1.length : Int) then
  some ((GValue.mk 0 0 [] [] []), 1)
 else
 (wl a1).bind fun r2 =>
 match r2 with
 | true =>
  some ((GValue.mk 0 0 [] [] []), 1)
 | false =>
  (X8 a0).bind fun r3 =>
  if (r3.length : Int) = 0 then
   some ((GValue.mk 0 0 [] [] []), 5)
  else
  if (r3.length : Int) = (a1.length : Int) then
   (qH a0 a1 r3 (a1.length : Int) 0 0 [] [] [] n true 0).bind fun o6 =>
   match o6 with
   | .inl ⟨o6_0_0, o6_0_1, o6_0_2, o6_0_3, o6_0_4⟩ =>
    some ((GValue.mk o6_0_1 o6_0_1 o6_0_2 o6_0_3 o6_0_4), o6_0_0)
   | .inr (⟨o6_1_0, o6_1_1⟩) =>
    match o6_1_0 with
    | true =>
     (a1[0]?).bind fun x7 =>
     if a0 = [108, 101, 110] then
      if x7.Kind = 3 then
       some ((GValue.mk 2 (x7.S.length : Int) [] [] []), 0)
      else
      some ((GValue.mk 2 (x7.L.length : Int) [] [] []), 0)
     else
     if a0 = [99, 97, 116] then
      (y9 x7.S).bind fun r10 =>
      (a1[1]?).bind fun x11 =>
      if y4 1 (r10.length + x11.S.length) then
      if 20 < ((r10 ++ x11.S).length : Int) then
       some ((GValue.mk 0 0 [] [] []), 4)
      else
      some ((GValue.mk 3 0 (r10 ++ x11.S) [] []), 0)
      else none
     else
     if a0 = [107, 101, 121, 115] then
      (j5 x7.K (x7.K.length : Int) 0 0 4 0 [] [] [] [] [] n 0 []).bind fun ⟨o11_0, o11_1⟩ =>
      some ((GValue.mk 4 0 [] [] o11_1), 0)
     else
     if a0 = [118, 97, 108, 115] then
      some ((GValue.mk 4 0 [] [] x7.L), 0)
     else
     if a0 = [104, 97, 115] then
      (a1[1]?).bind fun x13 =>
      (qX x7 x13.S).bind fun ⟨r14_0, r14_1⟩ =>
      (kC r14_1).bind fun r15 =>
      some (r15, 0)
     else
     if a0 = [109, 105, 110] then
      (a1[1]?).bind fun x14 =>
      some ((GValue.mk 2 (if x14.N < x7.N then x14.N else x7.N) [] [] []), 0)
     else
     (a1[1]?).bind fun x14 =>
     some ((GValue.mk 2 (if x7.N < x14.N then x14.N else x7.N) [] [] []), 0)
    | false =>
     (yf).bind fun r7 =>
     some (r7, 0)
  else
  some ((GValue.mk 0 0 [] [] []), 5)
theorem GE (n : Nat) : Tz (Wj n) := fun a0 a1 => tc (
 .le zb a1 <|
 .lI 40 (a1.length : Int) (fun c1 =>
  .vw ze [] <|
  .vw (zn za) [] <|
  .vw zc [] <|
  .ret ((GValue.mk 0 0 [] [] []), 1)) fun c1 =>
 .cl (Ym a1) fun r2 =>
 .vM 1 r2 (
  .vw ze [] <|
  .vw (zn za) [] <|
  .vw zc [] <|
  .ret ((GValue.mk 0 0 [] [] []), 1)) <|
 .cl (Mq a0) fun r3 =>
 .le (zi yY) r3 <|
 .eI (r3.length : Int) 0 (fun c4 =>
  .vw ze [] <|
  .vw (zn za) [] <|
  .vw zc [] <|
  .ret ((GValue.mk 0 0 [] [] []), 5)) fun c4 =>
 .le (zi yY) r3 <|
 .le zb a1 <|
 .eI (r3.length : Int) (a1.length : Int) (fun c5 =>
  .le zb a1 <|
  .l2 (Pv a0 a1 r3 (a1.length : Int) 0 0 [] [] [] n true 0) (fun ⟨o6_0_0, o6_0_1, o6_0_2, o6_0_3, o6_0_4⟩ =>
   .vw ze o6_0_2 <|
   .vw (zn za) o6_0_3 <|
   .vw zc o6_0_4 <|
   .ret ((GValue.mk o6_0_1 o6_0_1 o6_0_2 o6_0_3 o6_0_4), o6_0_0)) fun ⟨o6_1_0, o6_1_1⟩ =>
  .vN 0 o6_1_0 (
   .nl 0 <|
   .ix zh a1 0 fun x7 =>
   .sI a0 [108, 101, 110] (fun c8 =>
    .eI x7.Kind 3 (fun c9 =>
     .le za x7.S <|
     .vw ze [] <|
     .vw (zn za) [] <|
     .vw zc [] <|
     .ret ((GValue.mk 2 (x7.S.length : Int) [] [] []), 0)) fun c9 =>
    .le zb x7.L <|
    .vw ze [] <|
    .vw (zn za) [] <|
    .vw zc [] <|
    .ret ((GValue.mk 2 (x7.L.length : Int) [] [] []), 0)) fun c8 =>
   .sI a0 [99, 97, 116] (fun c9 =>
    .cl (xf x7.S) fun r10 =>
    .nl 1 <|
    .ix zh a1 1 fun x11 =>
    .ap 1 ze r10 x11.S fun n12 =>
    .le za (r10 ++ x11.S) <|
    .lI 20 ((r10 ++ x11.S).length : Int) (fun c13 =>
     .vw ze [] <|
     .vw (zn za) [] <|
     .vw zc [] <|
     .ret ((GValue.mk 0 0 [] [] []), 4)) fun c13 =>
    .vw ze (r10 ++ x11.S) <|
    .vw (zn za) [] <|
    .vw zc [] <|
    .ret ((GValue.mk 3 0 (r10 ++ x11.S) [] []), 0)) fun c9 =>
   .sI a0 [107, 101, 121, 115] (fun c10 =>
    .le (zi za) x7.K <|
    .lp (Pw x7.K (x7.K.length : Int) 0 0 4 0 [] [] [] [] [] n 0 []) fun ⟨o11_0, o11_1⟩ =>
    .vw ze [] <|
    .vw (zn za) [] <|
    .vw zc o11_1 <|
    .ret ((GValue.mk 4 0 [] [] o11_1), 0)) fun c10 =>
   .sI a0 [118, 97, 108, 115] (fun c11 =>
    .vw ze [] <|
    .vw (zn za) [] <|
    .ret ((GValue.mk 4 0 [] [] x7.L), 0)) fun c11 =>
   .sI a0 [104, 97, 115] (fun c12 =>
    .nl 1 <|
    .ix zh a1 1 fun x13 =>
    .cl (XE x7 x13.S) fun ⟨r14_0, r14_1⟩ =>
    .cl (X6 r14_1) fun r15 =>
    .vw ze r15.S <|
    .vo (zC 1 z9) r15.K <|
    .vo zz r15.L <|
    .ret (r15, 0)) fun c12 =>
   .sI a0 [109, 105, 110] (fun c13 =>
    .nl 1 <|
    .ix zh a1 1 fun x14 =>
    .vw ze [] <|
    .vw (zn za) [] <|
    .vw zc [] <|
    .ret ((GValue.mk 2 (if x14.N < x7.N then x14.N else x7.N) [] [] []), 0)) fun c13 =>
   .nl 1 <|
   .ix zh a1 1 fun x14 =>
   .vw ze [] <|
   .vw (zn za) [] <|
   .vw zc [] <|
   .ret ((GValue.mk 2 (if x7.N < x14.N then x14.N else x7.N) [] [] []), 0)) <|
  .cl (yi) fun r7 =>
  .vw ze r7.S <|
  .vo (zC 1 z9) r7.K <|
  .vo zz r7.L <|
  .ret (r7, 0)) fun c5 =>
 .vw ze [] <|
 .vw (zn za) [] <|
 .vw zc [] <|
 .ret ((GValue.mk 0 0 [] [] []), 5)) (zj Tryz.func156)
theorem D2 (a : List UInt8) : X8 a = some (jb a) := by
 unfold X8 jb
 by_cases h : a = [108, 101, 110]
 ·rw [if_pos h, if_pos h]
 rw [if_neg h, if_neg h]
 clear h
 by_cases h : a = [99, 97, 116]
 ·rw [if_pos h, if_pos h]
 rw [if_neg h, if_neg h]
 clear h
 by_cases h : a = [107, 101, 121, 115]
 ·rw [if_pos h, if_pos h]
 rw [if_neg h, if_neg h]
 clear h
 by_cases h : a = [118, 97, 108, 115]
 ·rw [if_pos h, if_pos h]
 rw [if_neg h, if_neg h]
 clear h
 by_cases h : a = [104, 97, 115]
 ·rw [if_pos h, if_pos h]
 rw [if_neg h, if_neg h]
 clear h
 by_cases h : a = [109, 105, 110]
 ·rw [if_pos h, if_pos h]
 rw [if_neg h, if_neg h]
 clear h
 by_cases h : a = [109, 97, 120]
 ·rw [if_pos h, if_pos h]
 rw [if_neg h, if_neg h]
theorem T0 {l : List Int} (x : Int) (h : l.length <= 2 ^ 40) : wO l x = some (decide (x ∈ l)) := by
 unfold wO qW
 rw [if_pos h, Option.bind_some]
 exact congrArg some (decide_eq_decide.2 (Hb l x 0))
theorem Ei (a : List UInt8) : (jb a).length = (zK a).length ∧ ∀ k ∈ jb a, k.length <= 2 ^ 40 := by
 unfold jb zK
 refine ⟨?_, ?_⟩
 ·(repeat' split) <;> rfl
 ·(repeat' split) <;> simp
theorem D3 (a : List UInt8) (l : List GValue) (h : (zK a).length = l.length) : YN (jb a) l = xB (zK a) l := by
 by_cases n1 : a = [108, 101, 110]
 ·subst n1
  obtain ⟨x, rfl⟩ := Y3 (show 1 = l.length from h)
  rw [show jb [108, 101, 110] = [[3, 4, 5]] from rfl, show zK [108, 101, 110] = [99] from rfl]
  simp [YN, xB, vI]
 by_cases n2 : a = [99, 97, 116]
 ·subst n2
  obtain ⟨x, y, rfl⟩ := kb (show 2 = l.length from h)
  rw [show jb [99, 97, 116] = [[3], [3]] from rfl, show zK [99, 97, 116] = [116, 116] from rfl]
  simp [YN, xB, kw]
 by_cases n3 : a = [107, 101, 121, 115]
 ·subst n3
  obtain ⟨x, rfl⟩ := Y3 (show 1 = l.length from h)
  rw [show jb [107, 101, 121, 115] = [[5]] from rfl, show zK [107, 101, 121, 115] = [109] from rfl]
  simp [YN, xB, jN]
 by_cases n4 : a = [118, 97, 108, 115]
 ·subst n4
  obtain ⟨x, rfl⟩ := Y3 (show 1 = l.length from h)
  rw [show jb [118, 97, 108, 115] = [[5]] from rfl, show zK [118, 97, 108, 115] = [109] from rfl]
  simp [YN, xB, jN]
 by_cases n5 : a = [104, 97, 115]
 ·subst n5
  obtain ⟨x, y, rfl⟩ := kb (show 2 = l.length from h)
  rw [show jb [104, 97, 115] = [[5], [3]] from rfl, show zK [104, 97, 115] = [109, 116] from rfl]
  simp [YN, xB, jN, kw]
 by_cases n6 : a = [109, 105, 110]
 ·subst n6
  obtain ⟨x, y, rfl⟩ := kb (show 2 = l.length from h)
  rw [show jb [109, 105, 110] = [[2], [2]] from rfl, show zK [109, 105, 110] = [105, 105] from rfl]
  simp [YN, xB, kz]
 by_cases n7 : a = [109, 97, 120]
 ·subst n7
  obtain ⟨x, y, rfl⟩ := kb (show 2 = l.length from h)
  rw [show jb [109, 97, 120] = [[2], [2]] from rfl, show zK [109, 97, 120] = [105, 105] from rfl]
  simp [YN, xB, kz]
 ·have h1 : jb a = [] := by unfold jb; simp [*]
  have h2 : zK a = [] := by unfold zK; simp [*]
  rw [h1, h2]; rfl
theorem GF {a0 : List UInt8} {a1 : List GValue} {v2 : List (List Int)} {v6 v7 : Int} {v8 : List UInt8} {v9 : List (List UInt8)} {v10 : List GValue} (ha : a1.length <= 2 ^ 40) (hk : ∀ k ∈ v2, k.length <= 2 ^ 40) : ∀ (l p : List GValue) (cs q : List (List Int)) (m : Nat) (b : Bool), a1 = p ++ l → v2 = q ++ cs → q.length = p.length → cs.length = l.length → l.length < m →
  ∃ z, qH a0 a1 v2 (a1.length : Int) v6 v7 v8 v9 v10 m b (p.length : Int) = some (if YN cs l = true then .inr (b && xn l, z) else .inl (2, 0, [], [], [])) := by
 intro l
 induction l with
 | nil =>
  intro p cs q m b he h2 hq hc hm
  subst he
  obtain ⟨m, rfl, _⟩ := zg hm
  obtain rfl := List.length_eq_zero_iff.1 hc
  exact ⟨_, by rw [qH, if_neg (yD p)]; simp [YN, xn]; rfl⟩
 | cons x l ih =>
  intro p cs q m b he h2 hq hc hm
  obtain ⟨m, rfl, hm'⟩ := zg hm
  have hlen : a1.length = p.length + (l.length + 1) := by rw [he]; simp
  cases cs with
  | nil => simp at hc
  | cons c cs =>
  simp only [List.length_cons] at hc hm'
  rw [qH, if_pos (by omega), zl, Option.bind_some, show a1[p.length]? = some x by rw [he]; exact yg p x l, Option.bind_some, y8 p x (by omega)]
  have ihb := fun b => ih (p ++ [x]) cs (q ++ [c]) m b (by rw [he]; simp) (by rw [h2]; simp) (by simp [hq]) (by omega) (by omega)
  rw [YN]
  unfold xn
  rw [List.all_cons]
  by_cases h6 : x.Kind = 6
  ·obtain ⟨z, hz⟩ := ihb false
   refine ⟨z, ?_⟩
   rw [if_pos h6, hz]
   simp [h6]
  ·rw [if_neg h6, show v2[p.length]? = some c by rw [h2, <- hq]; exact yg q c cs, Option.bind_some, T0 _ (hk c (by rw [h2]; simp)), Option.bind_some]
   by_cases hf : x.Kind ∈ c
   ·obtain ⟨z, hz⟩ := ihb b
    refine ⟨z, ?_⟩
    rw [decide_eq_true hf]
    dsimp only
    rw [hz]
    simp [h6, xn]
   ·rw [decide_eq_false hf]
    exact ⟨0, by simp [h6]⟩
theorem GG {a : List (List UInt8)} {v3 v4 v5 v6 : Int} {v7 : List UInt8} {v8 : List (List UInt8)} {v9 : List GValue} {v10 : List UInt8} {v11 : List (List UInt8)} (hx : a.length <= 2 ^ 39) : ∀ (l p : List (List UInt8)) (m : Nat), a = p ++ l → l.length < m → ∃ z, j5 a (a.length : Int) v3 v4 v5 v6 v7 v8 v9 v10 v11 m (p.length : Int) (p.map fun k => GValue.mk 3 0 k [] []) = some (z, a.map fun k => GValue.mk 3 0 k [] []) := by
 intro l
 induction l with
 | nil =>
  intro p m he hm
  subst he
  obtain ⟨m, rfl, _⟩ := zg hm
  exact ⟨_, by rw [j5, if_neg (yD p), List.append_nil]⟩
 | cons y l ih =>
  intro p m he hm
  obtain ⟨m, rfl, hm'⟩ := zg hm
  have hlen : a.length = p.length + (l.length + 1) := by rw [he]; simp
  obtain ⟨z, hz⟩ := ih (p ++ [y]) m (by rw [he]; simp) (by simp only [List.length_cons] at hm'; omega)
  refine ⟨z, ?_⟩
  rw [j5, if_pos (by omega), zl, Option.bind_some, show a[p.length]? = some y by rw [he]; exact yg p y l, Option.bind_some, if_pos (xb (by decide) (by simp only [List.length_map, List.length_cons, List.length_nil]; omega)), y8 p y (by omega)]
  rw [List.map_append] at hz
  exact hz
theorem zcw {a0 : List UInt8} {a1 : List GValue} (hs : ∀ v ∈ a1, vsz v <= 2 ^ 20) (hl : a1.length <= 2 ^ 39) : Wj 64 a0 a1 = some (Wl a0 a1) := by
 unfold Wj Wl
 by_cases h40 : 40 < a1.length
 ·rw [if_pos (by omega), if_pos h40]; rfl
 rw [if_neg (by omega), if_neg h40]
 unfold wl yM
 rw [if_pos ⟨by omega, hs⟩, Option.bind_some, Option.bind_some]
 by_cases hv : a1.all zp = true
 case neg =>
  rw [decide_eq_true ((Uo a1 0).2 hv), if_neg hv]; rfl
 rw [decide_eq_false (fun h => (Uo a1 0).1 h hv), if_pos hv]
 dsimp only
 unfold Yq
 rw [D2, Option.bind_some]
 obtain ⟨hkl, hks⟩ := Ei a0
 by_cases h0 : (zK a0).length = 0
 ·rw [if_pos (by omega), if_pos h0]; rfl
 rw [if_neg (by omega), if_neg h0]
 by_cases he : (zK a0).length = a1.length
 case neg =>
  rw [if_neg (by omega), if_neg he]; rfl
 rw [if_pos (by omega), if_pos he]
 obtain ⟨z, hz⟩ := GF (a0 := a0) (a1 := a1) (v2 := jb a0) (v6 := 0) (v7 := 0) (v8 := []) (v9 := []) (v10 := []) (by omega) hks a1 [] (jb a0) [] 64 true rfl rfl rfl (by omega) (by omega)
 simp only [List.length_nil, Int.natCast_zero] at hz
 rw [hz, Option.bind_some, D3 a0 a1 he]
 by_cases hA : xB (zK a0) a1 = true
 case neg =>
  rw [if_neg hA, if_neg hA]; rfl
 rw [if_pos hA, if_pos hA]
 dsimp only
 by_cases hK : xn a1 = true
 case neg =>
  rw [if_neg hK, Bool.eq_false_iff.2 hK]; rfl
 rw [if_pos hK, hK]
 simp only [Bool.and_self]
 clear hz
 have hv : ∀ v ∈ a1, vsz v <= 2 ^ 20 ∧ zp v = true := fun v hm => ⟨hs v hm, List.all_eq_true.1 hv v hm⟩
 by_cases n1 : a0 = [108, 101, 110]
 ·subst n1
  rw [show zK [108, 101, 110] = [99] from rfl] at he hA
  obtain ⟨x, rfl⟩ := Y3 he
  have hx := hv x (by simp)
  simp only [xB, xn, List.all_cons, List.all_nil, kw, kz, jN, vI, Bool.and_true, Bool.or_eq_true, decide_eq_true_eq] at hA hK
  rw [show ([x] : List GValue)[0]? = some x from rfl, Option.bind_some]
  show _ = some (wH _ x _)
  rw [if_pos rfl, Gg]
  by_cases h3 : x.Kind = 3
  ·rw [if_pos h3, if_pos h3]
  ·rw [if_neg h3, if_neg h3]
 by_cases n1 : a0 = [99, 97, 116]
 ·subst n1
  rw [show zK [99, 97, 116] = [116, 116] from rfl] at he hA
  obtain ⟨x, y, rfl⟩ := kb he
  have hx := hv x (by simp)
  have hy := hv y (by simp)
  simp only [xB, xn, List.all_cons, List.all_nil, kw, kz, jN, vI, Bool.and_true, Bool.and_eq_true, Bool.or_eq_true, decide_eq_true_eq] at hA hK
  rw [show ([x, y] : List GValue)[0]? = some x from rfl, Option.bind_some]
  show _ = some (wH _ x y)
  rw [if_neg (show ¬ ([99, 97, 116] : List UInt8) = [108, 101, 110] by decide)]
  have k1 : x.Kind = 3 := hA.1.resolve_left hK.1
  have k2 : y.Kind = 3 := hA.2.resolve_left hK.2
  have t1 := TX hx.2 k1
  have t2 := TX hy.2 k2
  have l1 : x.S.length <= 20 := by unfold xo at t1; rw [Bool.and_eq_true] at t1; exact of_decide_eq_true t1.1
  have l2 : y.S.length <= 20 := by unfold xo at t2; rw [Bool.and_eq_true] at t2; exact of_decide_eq_true t2.1
  unfold y9
  rw [if_pos rfl, if_pos (xb (by decide) (by omega)), Option.bind_some, show ([x, y] : List GValue)[1]? = some y from rfl, Option.bind_some, if_pos (xb (by decide) (by omega)), Gh]
  by_cases h20 : 20 < (x.S ++ y.S).length
  ·rw [if_pos (by omega), if_pos h20]; rfl
  ·rw [if_neg (by omega), if_neg h20]
 by_cases n1 : a0 = [107, 101, 121, 115]
 ·subst n1
  rw [show zK [107, 101, 121, 115] = [109] from rfl] at he hA
  obtain ⟨x, rfl⟩ := Y3 he
  have hx := hv x (by simp)
  simp only [xB, xn, List.all_cons, List.all_nil, kw, kz, jN, vI, Bool.and_true, Bool.or_eq_true, decide_eq_true_eq] at hA hK
  rw [show ([x] : List GValue)[0]? = some x from rfl, Option.bind_some]
  show _ = some (wH _ x _)
  rw [if_neg (show ¬ ([107, 101, 121, 115] : List UInt8) = [108, 101, 110] by decide)]
  rw [if_neg (show ¬ ([107, 101, 121, 115] : List UInt8) = [99, 97, 116] by decide)]
  have k1 : x.Kind = 5 := hA.resolve_left hK
  have h5 := (NA hx.2 k1).2
  rw [if_pos rfl, LK]
  obtain ⟨z, hz⟩ := GG (a := x.K) (v3 := 0) (v4 := 0) (v5 := 4) (v6 := 0) (v7 := []) (v8 := []) (v9 := []) (v10 := []) (v11 := []) (by omega) x.K [] 64 rfl (by omega)
  simp only [List.length_nil, Int.natCast_zero, List.map_nil] at hz
  rw [hz]; rfl
 by_cases n1 : a0 = [118, 97, 108, 115]
 ·subst n1
  rw [show zK [118, 97, 108, 115] = [109] from rfl] at he hA
  obtain ⟨x, rfl⟩ := Y3 he
  have hx := hv x (by simp)
  simp only [xB, xn, List.all_cons, List.all_nil, kw, kz, jN, vI, Bool.and_true, Bool.or_eq_true, decide_eq_true_eq] at hA hK
  rw [show ([x] : List GValue)[0]? = some x from rfl, Option.bind_some]
  show _ = some (wH _ x _)
  rw [if_neg (show ¬ ([118, 97, 108, 115] : List UInt8) = [108, 101, 110] by decide)]
  rw [if_neg (show ¬ ([118, 97, 108, 115] : List UInt8) = [99, 97, 116] by decide)]
  rw [if_neg (show ¬ ([118, 97, 108, 115] : List UInt8) = [107, 101, 121, 115] by decide)]
  rw [if_pos rfl, LL]
 by_cases n1 : a0 = [104, 97, 115]
 ·subst n1
  rw [show zK [104, 97, 115] = [109, 116] from rfl] at he hA
  obtain ⟨x, y, rfl⟩ := kb he
  have hx := hv x (by simp)
  have hy := hv y (by simp)
  simp only [xB, xn, List.all_cons, List.all_nil, kw, kz, jN, vI, Bool.and_true, Bool.and_eq_true, Bool.or_eq_true, decide_eq_true_eq] at hA hK
  rw [show ([x, y] : List GValue)[0]? = some x from rfl, Option.bind_some]
  show _ = some (wH _ x y)
  rw [if_neg (show ¬ ([104, 97, 115] : List UInt8) = [108, 101, 110] by decide)]
  rw [if_neg (show ¬ ([104, 97, 115] : List UInt8) = [99, 97, 116] by decide)]
  rw [if_neg (show ¬ ([104, 97, 115] : List UInt8) = [107, 101, 121, 115] by decide)]
  rw [if_neg (show ¬ ([104, 97, 115] : List UInt8) = [118, 97, 108, 115] by decide)]
  have k1 : x.Kind = 5 := hA.1.resolve_left hK.1
  obtain ⟨hasc, h5⟩ := NA hx.2 k1
  rw [if_pos rfl, show ([x, y] : List GValue)[1]? = some y from rfl, Option.bind_some, Gi]
  unfold qX kC
  obtain ⟨c, _, hb⟩ := Ps (a := x.K) (x := y.S) (by omega) hasc
  rw [hb, Option.bind_some]
  dsimp only
  rw [Option.bind_some]
  by_cases hm : y.S ∈ x.K
  ·rw [decide_eq_true hm, if_pos hm]; rfl
  ·rw [decide_eq_false hm, if_neg hm]; rfl
 by_cases n1 : a0 = [109, 105, 110]
 ·subst n1
  rw [show zK [109, 105, 110] = [105, 105] from rfl] at he hA
  obtain ⟨x, y, rfl⟩ := kb he
  have hx := hv x (by simp)
  have hy := hv y (by simp)
  simp only [xB, xn, List.all_cons, List.all_nil, kw, kz, jN, vI, Bool.and_true, Bool.and_eq_true, Bool.or_eq_true, decide_eq_true_eq] at hA hK
  rw [show ([x, y] : List GValue)[0]? = some x from rfl, Option.bind_some]
  show _ = some (wH _ x y)
  rw [if_neg (show ¬ ([109, 105, 110] : List UInt8) = [108, 101, 110] by decide)]
  rw [if_neg (show ¬ ([109, 105, 110] : List UInt8) = [99, 97, 116] by decide)]
  rw [if_neg (show ¬ ([109, 105, 110] : List UInt8) = [107, 101, 121, 115] by decide)]
  rw [if_neg (show ¬ ([109, 105, 110] : List UInt8) = [118, 97, 108, 115] by decide)]
  rw [if_neg (show ¬ ([109, 105, 110] : List UInt8) = [104, 97, 115] by decide)]
  rw [if_pos rfl, show ([x, y] : List GValue)[1]? = some y from rfl, Option.bind_some, Gj]
 by_cases n1 : a0 = [109, 97, 120]
 ·subst n1
  rw [show zK [109, 97, 120] = [105, 105] from rfl] at he hA
  obtain ⟨x, y, rfl⟩ := kb he
  have hx := hv x (by simp)
  have hy := hv y (by simp)
  simp only [xB, xn, List.all_cons, List.all_nil, kw, kz, jN, vI, Bool.and_true, Bool.and_eq_true, Bool.or_eq_true, decide_eq_true_eq] at hA hK
  rw [show ([x, y] : List GValue)[0]? = some x from rfl, Option.bind_some]
  show _ = some (wH _ x y)
  rw [if_neg (show ¬ ([109, 97, 120] : List UInt8) = [108, 101, 110] by decide)]
  rw [if_neg (show ¬ ([109, 97, 120] : List UInt8) = [99, 97, 116] by decide)]
  rw [if_neg (show ¬ ([109, 97, 120] : List UInt8) = [107, 101, 121, 115] by decide)]
  rw [if_neg (show ¬ ([109, 97, 120] : List UInt8) = [118, 97, 108, 115] by decide)]
  rw [if_neg (show ¬ ([109, 97, 120] : List UInt8) = [104, 97, 115] by decide)]
  rw [if_neg (show ¬ ([109, 97, 120] : List UInt8) = [109, 105, 110] by decide)]
  rw [show ([x, y] : List GValue)[1]? = some y from rfl, Option.bind_some, Gk]
 exfalso
 have : zK a0 = [] := by
  unfold zK
  simp [*]
 simp [this] at h0
open Classical in
noncomputable def Y6 (a0 : (List UInt8)) (a1 : (List GValue)) : Option (GValue × Int) := if (∀ v ∈ a1, vsz v <= 2 ^ 20) ∧ a1.length <= 2 ^ 39 then some (Wl a0 a1) else none
theorem OM (a0 : (List UInt8)) (a1 : (List GValue)) (r : (GValue × Int)) (h : Y6 a0 a1 = some r) : ∃ n, Wj n a0 a1 = some r := by
 unfold Y6 at h
 obtain ⟨⟨hs, hl⟩, h⟩ := yc h
 exact ⟨64, by rw [zcw hs hl, h]⟩
theorem NJ : Tz Y6 := fun a0 a1 r h => (OM a0 a1 r h).elim fun n hn => GE n a0 a1 r hn
def YL (a0 : Int) (a1 : GValue) (a2 : GValue) : Option (GValue × Int) :=
 if a1.Kind = 2 then
  if a2.Kind = 2 then
   if a0 = 19 then
    (kC (decide (a1.N < a2.N))).bind fun r4 =>
    some (r4, 0)
   else
   if a0 = 16 then
    (xH (w64 (a1.N + a2.N)) (-1000000000000) 1000000000000).bind fun r5 =>
    match r5 with
    | true =>
     some ((GValue.mk 2 (w64 (a1.N + a2.N)) [] [] []), 0)
    | false =>
     some ((GValue.mk 0 0 [] [] []), 4)
   else
   if a0 = 17 then
    (xH (w64 (a1.N - a2.N)) (-1000000000000) 1000000000000).bind fun r6 =>
    match r6 with
    | true =>
     some ((GValue.mk 2 (w64 (a1.N - a2.N)) [] [] []), 0)
    | false =>
     some ((GValue.mk 0 0 [] [] []), 4)
   else
   if a1.N = 0 then
    (xH (w64 (a1.N * a2.N)) (-1000000000000) 1000000000000).bind fun r7 =>
    match r7 with
    | true =>
     some ((GValue.mk 2 (w64 (a1.N * a2.N)) [] [] []), 0)
    | false =>
     some ((GValue.mk 0 0 [] [] []), 4)
   else
   if (if a1.N < (w64 (0 - a1.N)) then (w64 (0 - a1.N)) else a1.N) ≠ 0 then
   if (w64 ((1000000000000 : Int).tdiv (if a1.N < (w64 (0 - a1.N)) then (w64 (0 - a1.N)) else a1.N))) < (if a2.N < (w64 (0 - a2.N)) then (w64 (0 - a2.N)) else a2.N) then
    some ((GValue.mk 0 0 [] [] []), 4)
   else
   (xH (w64 (a1.N * a2.N)) (-1000000000000) 1000000000000).bind fun r9 =>
   match r9 with
   | true =>
    some ((GValue.mk 2 (w64 (a1.N * a2.N)) [] [] []), 0)
   | false =>
    some ((GValue.mk 0 0 [] [] []), 4)
   else none
  else
  if a2.Kind = 6 then
   (yf).bind fun r4 =>
   some (r4, 0)
  else
  some ((GValue.mk 0 0 [] [] []), 2)
 else
 if a1.Kind = 6 then
  if a2.Kind = 2 then
   (yf).bind fun r4 =>
   some (r4, 0)
  else
  if a2.Kind = 6 then
   (yf).bind fun r5 =>
   some (r5, 0)
  else
  some ((GValue.mk 0 0 [] [] []), 2)
 else
 some ((GValue.mk 0 0 [] [] []), 2)
theorem ON (a0 : Int) (a1 : GValue) (a2 : GValue) : Oc (YL a0 a1 a2) 157 [] [vi a0, .val true (zf a1), .val true (zf a2)] fun r => (.tup [(true, (YZ r.1)), (false, [ci r.2])], []) := tc (
 .eI a1.Kind 2 (fun c1 =>
  .eI a2.Kind 2 (fun c2 =>
   .q (.eFo a1.Kind 6 (by omega)) <|
   .q (.eFo a2.Kind 6 (by omega)) <|
   .eI a0 19 (fun c3 =>
    .lD a1.N a2.N <|
    .cl (X6 (decide (a1.N < a2.N))) fun r4 =>
    .ret (r4, 0)) fun c3 =>
   .eI a0 16 (fun c4 =>
    .cl (qO (w64 (a1.N + a2.N)) (-1000000000000) 1000000000000) fun r5 =>
    .vN 0 r5 (
     .ret ((GValue.mk 2 (w64 (a1.N + a2.N)) [] [] []), 0)) <|
    .ret ((GValue.mk 0 0 [] [] []), 4)) fun c4 =>
   .eI a0 17 (fun c5 =>
    .cl (qO (w64 (a1.N - a2.N)) (-1000000000000) 1000000000000) fun r6 =>
    .vN 0 r6 (
     .ret ((GValue.mk 2 (w64 (a1.N - a2.N)) [] [] []), 0)) <|
    .ret ((GValue.mk 0 0 [] [] []), 4)) fun c5 =>
   .eI a1.N 0 (fun c6 =>
    .cl (qO (w64 (a1.N * a2.N)) (-1000000000000) 1000000000000) fun r7 =>
    .vN 0 r7 (
     .ret ((GValue.mk 2 (w64 (a1.N * a2.N)) [] [] []), 0)) <|
    .ret ((GValue.mk 0 0 [] [] []), 4)) fun c6 =>
   .nd ((if a1.N < (w64 (0 - a1.N)) then (w64 (0 - a1.N)) else a1.N) ≠ 0) fun n7 =>
   .q ⟨.nz (if a1.N < (w64 (0 - a1.N)) then (w64 (0 - a1.N)) else a1.N), .b true, A.nz n7⟩ <|
   .lI (w64 ((1000000000000 : Int).tdiv (if a1.N < (w64 (0 - a1.N)) then (w64 (0 - a1.N)) else a1.N))) (if a2.N < (w64 (0 - a2.N)) then (w64 (0 - a2.N)) else a2.N) (fun c8 =>
    .ret ((GValue.mk 0 0 [] [] []), 4)) fun c8 =>
   .cl (qO (w64 (a1.N * a2.N)) (-1000000000000) 1000000000000) fun r9 =>
   .vN 0 r9 (
    .ret ((GValue.mk 2 (w64 (a1.N * a2.N)) [] [] []), 0)) <|
   .ret ((GValue.mk 0 0 [] [] []), 4)) fun c2 =>
  .eI a2.Kind 6 (fun c3 =>
   .q (.eFo a1.Kind 6 (by omega)) <|
   .q (.eT c3) <|
   .cl (yi) fun r4 =>
   .ret (r4, 0)) fun c3 =>
  .ret ((GValue.mk 0 0 [] [] []), 2)) fun c1 =>
 .eI a1.Kind 6 (fun c2 =>
  .eI a2.Kind 2 (fun c3 =>
   .q (.eT c2) <|
   .cl (yi) fun r4 =>
   .ret (r4, 0)) fun c3 =>
  .eI a2.Kind 6 (fun c4 =>
   .q (.eT c2) <|
   .cl (yi) fun r5 =>
   .ret (r5, 0)) fun c4 =>
  .ret ((GValue.mk 0 0 [] [] []), 2)) fun c2 =>
 .ret ((GValue.mk 0 0 [] [] []), 2)) (zj Tryz.func157)
def kn (F : GEnv → GExpr → Bool → Option (GValue × Int)) : Prop := ∀ (a0 : GEnv) (a1 : GExpr) (a2 : Bool), Oc (F a0 a1 a2) 150 [] [.val true (Y8 a0), .val true (zs a1), vb a2] fun r => (.tup [(true, (zf r.1)), (false, [ci r.2])], [])
def jj (F : GEnv → GExpr → Option (GValue × Int)) : Prop := ∀ (a0 : GEnv) (a1 : GExpr), Oc (F a0 a1) 83 [] [.val true (Y8 a0), .val true (zs a1)] fun r => (.tup [(true, (zf r.1)), (false, [ci r.2])], [])
def Zx (G_impl_Env_eval : GEnv → GExpr → Option (GValue × Int)) (a0 : GEnv) (a1 : GExpr) (a2 : Bool) : Option (GValue × Int) :=
 (a1.Kids[0]?).bind fun x1 =>
 (G_impl_Env_eval a0 x1).bind fun ⟨r2_0, r2_1⟩ =>
 if r2_1 = 0 then
  if r2_0.Kind = 1 then
   if r2_0.N = 1 then
    if a2 = true then
     some (r2_0, 0)
    else
    (a1.Kids[1]?).bind fun x7 =>
    (G_impl_Env_eval a0 x7).bind fun ⟨r8_0, r8_1⟩ =>
    if r8_1 = 0 then
     if r8_0.Kind = 1 then
      some (r8_0, 0)
     else
     if r8_0.Kind = 6 then
      some (r8_0, 0)
     else
     some ((GValue.mk 0 0 [] [] []), 2)
    else
    some ((GValue.mk 0 0 [] [] []), r8_1)
   else
   if a2 = true then
    (a1.Kids[1]?).bind fun x7 =>
    (G_impl_Env_eval a0 x7).bind fun ⟨r8_0, r8_1⟩ =>
    if r8_1 = 0 then
     if r8_0.Kind = 1 then
      some (r8_0, 0)
     else
     if r8_0.Kind = 6 then
      some (r8_0, 0)
     else
     some ((GValue.mk 0 0 [] [] []), 2)
    else
    some ((GValue.mk 0 0 [] [] []), r8_1)
   else
   some (r2_0, 0)
  else
  if r2_0.Kind = 6 then
   (a1.Kids[1]?).bind fun x6 =>
   (G_impl_Env_eval a0 x6).bind fun ⟨r7_0, r7_1⟩ =>
   if r7_1 = 0 then
    if r7_0.Kind = 1 then
     if r7_0.N = 1 then
      if a2 = true then
       some (r7_0, 0)
      else
      (yf).bind fun r12 =>
      some (r12, 0)
     else
     if a2 = true then
      (yf).bind fun r12 =>
      some (r12, 0)
     else
     some (r7_0, 0)
    else
    if r7_0.Kind = 6 then
     (yf).bind fun r11 =>
     some (r11, 0)
    else
    some ((GValue.mk 0 0 [] [] []), 2)
   else
   some ((GValue.mk 0 0 [] [] []), r7_1)
  else
  some ((GValue.mk 0 0 [] [] []), 2)
 else
 some ((GValue.mk 0 0 [] [] []), r2_1)
theorem Px (G_impl_Env_eval : GEnv → GExpr → Option (GValue × Int)) (H_impl_Env_eval : jj G_impl_Env_eval) : kn (Zx G_impl_Env_eval) := fun a0 a1 a2 => tc (
 .nl 0 <|
 .ix eq_GExpr a1.Kids 0 fun x1 =>
 .cl (H_impl_Env_eval a0 x1) fun ⟨r2_0, r2_1⟩ =>
 .eI r2_1 0 (fun c3 =>
  .eI r2_0.Kind 1 (fun c4 =>
   .q (.eT c4) <|
   .eI r2_0.N 1 (fun c5 =>
    .sp (a2 = true) (fun c6 =>
     .eb (a := true) (b := a2) rfl c6 <|
     .ret (r2_0, 0)) fun c6 =>
    .eb (a := true) (b := a2) rfl (bF c6) <|
    .nl 1 <|
    .ix eq_GExpr a1.Kids 1 fun x7 =>
    .cl (H_impl_Env_eval a0 x7) fun ⟨r8_0, r8_1⟩ =>
    .eI r8_1 0 (fun c9 =>
     .eI r8_0.Kind 1 (fun c10 =>
      .q (.eFo r2_0.Kind 6 (by omega)) <|
      .ret (r8_0, 0)) fun c10 =>
     .eI r8_0.Kind 6 (fun c11 =>
      .q (.eFo r2_0.Kind 6 (by omega)) <|
      .ret (r8_0, 0)) fun c11 =>
     .vw ze [] <|
     .vw (zn za) [] <|
     .vw zc [] <|
     .ret ((GValue.mk 0 0 [] [] []), 2)) fun c9 =>
    .vw ze [] <|
    .vw (zn za) [] <|
    .vw zc [] <|
    .ret ((GValue.mk 0 0 [] [] []), r8_1)) fun c5 =>
   .sp (a2 = true) (fun c6 =>
    .eb (a := false) (b := a2) rfl c6 <|
    .nl 1 <|
    .ix eq_GExpr a1.Kids 1 fun x7 =>
    .cl (H_impl_Env_eval a0 x7) fun ⟨r8_0, r8_1⟩ =>
    .eI r8_1 0 (fun c9 =>
     .eI r8_0.Kind 1 (fun c10 =>
      .q (.eFo r2_0.Kind 6 (by omega)) <|
      .ret (r8_0, 0)) fun c10 =>
     .eI r8_0.Kind 6 (fun c11 =>
      .q (.eFo r2_0.Kind 6 (by omega)) <|
      .ret (r8_0, 0)) fun c11 =>
     .vw ze [] <|
     .vw (zn za) [] <|
     .vw zc [] <|
     .ret ((GValue.mk 0 0 [] [] []), 2)) fun c9 =>
    .vw ze [] <|
    .vw (zn za) [] <|
    .vw zc [] <|
    .ret ((GValue.mk 0 0 [] [] []), r8_1)) fun c6 =>
   .eb (a := false) (b := a2) rfl (bF c6) <|
   .ret (r2_0, 0)) fun c4 =>
  .eI r2_0.Kind 6 (fun c5 =>
   .q (.eF c4) <|
   .nl 1 <|
   .ix eq_GExpr a1.Kids 1 fun x6 =>
   .cl (H_impl_Env_eval a0 x6) fun ⟨r7_0, r7_1⟩ =>
   .eI r7_1 0 (fun c8 =>
    .eI r7_0.Kind 1 (fun c9 =>
     .q (.eT c5) <|
     .q (.eT c9) <|
     .eI r7_0.N 1 (fun c10 =>
      .sp (a2 = true) (fun c11 =>
       .eb (a := true) (b := a2) rfl c11 <|
       .ret (r7_0, 0)) fun c11 =>
      .eb (a := true) (b := a2) rfl (bF c11) <|
      .cl (yi) fun r12 =>
      .vw ze r12.S <|
      .vo (zC 1 z9) r12.K <|
      .vo zz r12.L <|
      .ret (r12, 0)) fun c10 =>
     .sp (a2 = true) (fun c11 =>
      .eb (a := false) (b := a2) rfl c11 <|
      .cl (yi) fun r12 =>
      .vw ze r12.S <|
      .vo (zC 1 z9) r12.K <|
      .vo zz r12.L <|
      .ret (r12, 0)) fun c11 =>
     .eb (a := false) (b := a2) rfl (bF c11) <|
     .ret (r7_0, 0)) fun c9 =>
    .eI r7_0.Kind 6 (fun c10 =>
     .q (.eT c5) <|
     .q (.eF c9) <|
     .cl (yi) fun r11 =>
     .vw ze r11.S <|
     .vo (zC 1 z9) r11.K <|
     .vo zz r11.L <|
     .ret (r11, 0)) fun c10 =>
    .vw ze [] <|
    .vw (zn za) [] <|
    .vw zc [] <|
    .ret ((GValue.mk 0 0 [] [] []), 2)) fun c8 =>
   .vw ze [] <|
   .vw (zn za) [] <|
   .vw zc [] <|
   .ret ((GValue.mk 0 0 [] [] []), r7_1)) fun c5 =>
  .vw ze [] <|
  .vw (zn za) [] <|
  .vw zc [] <|
  .ret ((GValue.mk 0 0 [] [] []), 2)) fun c3 =>
 .vw ze [] <|
 .vw (zn za) [] <|
 .vw zc [] <|
 .ret ((GValue.mk 0 0 [] [] []), r2_1)) (zj Tryz.func150)
def wQ (G_impl_Env_both : GEnv → GExpr → Bool → Option (GValue × Int)) (G_impl_Env_eval : GEnv → GExpr → Option (GValue × Int)) (v0 : (List GExpr)) (v1 : Int) (a0 : GEnv) (a1 : GExpr) (v5 : Int) (v6 : Int) (v8 : (List UInt8)) (v9 : (List (List UInt8))) (v10 : (List GValue)) : Nat → Int → (List GValue) → Option ((Int × Int × (List UInt8) × (List (List UInt8)) × (List GValue)) ⊕ (Int × (List GValue)))
  | 0, _, _ => none
  | m + 1, v2, v7 =>
  if v2 < v1 then
   (zH v2).bind fun i2 =>
   (v0[i2]?).bind fun x3 =>
   (G_impl_Env_eval a0 x3).bind fun ⟨r4_0, r4_1⟩ =>
   if r4_1 = 0 then
    if y4 88 (v7.length + [r4_0].length) then
    wQ G_impl_Env_both G_impl_Env_eval v0 v1 a0 a1 v5 v6 v8 v9 v10 m (w64 (v2 + 1)) (v7 ++ [r4_0])
    else none
   else
   some (.inl (r4_1, 0, [], [], []))
  else
  some (.inr (v2, v7))
theorem Vr (G_impl_Env_both : GEnv → GExpr → Bool → Option (GValue × Int)) (G_impl_Env_eval : GEnv → GExpr → Option (GValue × Int)) (H_impl_Env_both : kn G_impl_Env_both) (H_impl_Env_eval : jj G_impl_Env_eval) (v0 : (List GExpr)) (v1 : Int) (a0 : GEnv) (a1 : GExpr) (v5 : Int) (v6 : Int) (v8 : (List UInt8)) (v9 : (List (List UInt8))) (v10 : (List GValue)) (m : Nat) : ∀ (v2 : Int) (v7 : (List GValue)), Ol (wQ G_impl_Env_both G_impl_Env_eval v0 v1 a0 a1 v5 v6 v8 v9 v10 m v2 v7) 83 (zQ Tryz.f83 0) ⟨[(2, vp 0 0), (3, vp 1 0), (4, vp 2 0), (8, vr 3), (108, vq zd v0), (109, vi v1), (110, vi v2)], [.var (Y8 a0), .var (zs a1), .var [ci v5, ci v6, .ref 4, .ref 5, .ref 6], .obj 5 (eL zb v7), .obj 1 (eL za v8), .obj 1 (eL (zi za) v9), .obj 5 (eL zb v10)], 0⟩ fun o => match o with | .inl ⟨o_0_0, o_0_1, o_0_2, o_0_3, o_0_4⟩ => (.ret, ⟨[(4, vp 0 0), (5, vi o_0_0)], [.var [ci o_0_1, ci o_0_1, .ref 1, .ref 2, .ref 3], .obj 1 (eL za o_0_2), .obj 1 (eL (zi za) o_0_3), .obj 5 (eL zb o_0_4)], 0⟩) | .inr (⟨o_1_0, o_1_1⟩) => (.exit 2, ⟨[(2, vp 0 0), (3, vp 1 0), (4, vp 2 0), (8, vr 3), (108, vq zd v0), (109, vi v1), (110, vi o_1_0), (111, vb false)], [.var (Y8 a0), .var (zs a1), .var [ci v5, ci v6, .ref 4, .ref 5, .ref 6], .obj 5 (eL zb o_1_1), .obj 1 (eL za v8), .obj 1 (eL (zi za) v9), .obj 5 (eL zb v10)], 0⟩) := by
  induction m with
  | zero => intro v2 v7 o h; cases h
  | succ m ih => exact fun v2 v7 => tlp (
   .lI v2 v1 (fun c1 =>
    .na v2 fun i2 =>
    .ix eq_GExpr v0 i2 fun x3 =>
    .cl (H_impl_Env_eval a0 x3) fun ⟨r4_0, r4_1⟩ =>
    .eI r4_1 0 (fun c5 =>
     .q ⟨.pl ([(zf r4_0)] : List (List C)), .b true, by rw [(show ([(zf r4_0)] : List (List C)) = eL zb [r4_0] from (yk (zh r4_0) y7))]; exact (A.pl zc)⟩ <|
     .nd (y4 88 (v7.length + [r4_0].length)) fun n6 =>
     .q ⟨.room 88 (eL zb v7) ([(zf r4_0)] : List (List C)), .b true, by rw [(show ([(zf r4_0)] : List (List C)) = eL zb [r4_0] from (yk (zh r4_0) y7))]; exact (A.room n6)⟩ <|
     .q ⟨.uni 5 ([(zf r4_0)] : List (List C)), .b true, by rw [(show ([(zf r4_0)] : List (List C)) = eL zb [r4_0] from (yk (zh r4_0) y7))]; exact (A.uni zc)⟩ <|
     .q ⟨.app (eL zb v7) ([(zf r4_0)] : List (List C)), .l (eL zb (v7 ++ [r4_0])), by rw [(show ([(zf r4_0)] : List (List C)) = eL zb [r4_0] from (yk (zh r4_0) y7))]; exact A.app⟩ <|
     .go (ih (w64 (v2 + 1)) (v7 ++ [r4_0]))) fun c5 =>
    .ret (.inl (r4_1, 0, [], [], []))) fun c1 =>
   .ret (.inr (v2, v7)))
def Zy (G_impl_Env_both : GEnv → GExpr → Bool → Option (GValue × Int)) (G_impl_Env_eval : GEnv → GExpr → Option (GValue × Int)) (n : Nat) (a0 : GEnv) (a1 : GExpr) : Option (GValue × Int) :=
 if a1.Kind = 0 then
  some ((GValue.mk a1.Kind a1.N a1.S [] []), 0)
 else
 if a1.Kind = 1 then
  some ((GValue.mk a1.Kind a1.N a1.S [] []), 0)
 else
 if a1.Kind = 2 then
  some ((GValue.mk a1.Kind a1.N a1.S [] []), 0)
 else
 if a1.Kind = 3 then
  some ((GValue.mk a1.Kind a1.N a1.S [] []), 0)
 else
 if a1.Kind = 10 then
  some (a0.Index, 0)
 else
 if a1.Kind = 11 then
  some (a0.Key, 0)
 else
 if a1.Kind = 12 then
  some (a0.Val, 0)
 else
 if a1.Kind = 6 then
  (jD a0.Locals a1.S).bind fun ⟨r9_0, r9_1⟩ =>
  some (r9_0, r9_1)
 else
 if a1.Kind = 7 then
  (jD a0.Res a1.S).bind fun ⟨r10_0, r10_1⟩ =>
  some (r10_0, r10_1)
 else
 if a1.Kind = 20 then
  (G_impl_Env_both a0 a1 false).bind fun ⟨r11_0, r11_1⟩ =>
  some (r11_0, r11_1)
 else
 if a1.Kind = 21 then
  (G_impl_Env_both a0 a1 true).bind fun ⟨r12_0, r12_1⟩ =>
  some (r12_0, r12_1)
 else
 if a1.Kind = 22 then
  (a1.Kids[0]?).bind fun x13 =>
  (G_impl_Env_eval a0 x13).bind fun ⟨r14_0, r14_1⟩ =>
  if r14_1 = 0 then
   if r14_0.Kind = 6 then
    some (r14_0, 0)
   else
   if r14_0.Kind = 1 then
    (zH (w64 (2 - r14_0.N))).bind fun i18 =>
    (a1.Kids[i18]?).bind fun x19 =>
    (G_impl_Env_eval a0 x19).bind fun ⟨r20_0, r20_1⟩ =>
    some (r20_0, r20_1)
   else
   some ((GValue.mk 0 0 [] [] []), 2)
  else
  some ((GValue.mk 0 0 [] [] []), r14_1)
 else
 (wQ G_impl_Env_both G_impl_Env_eval a1.Kids (a1.Kids.length : Int) a0 a1 0 0 [] [] [] n 0 []).bind fun o13 =>
 match o13 with
 | .inl ⟨o13_0_0, o13_0_1, o13_0_2, o13_0_3, o13_0_4⟩ =>
  some ((GValue.mk o13_0_1 o13_0_1 o13_0_2 o13_0_3 o13_0_4), o13_0_0)
 | .inr (⟨o13_1_0, o13_1_1⟩) =>
  if a1.Kind = 8 then
   (o13_1_1[0]?).bind fun x15 =>
   (jD x15 a1.S).bind fun ⟨r16_0, r16_1⟩ =>
   some (r16_0, r16_1)
  else
  if a1.Kind = 9 then
   (o13_1_1[0]?).bind fun x16 =>
   (o13_1_1[1]?).bind fun x17 =>
   (Wh x16 x17).bind fun ⟨r18_0, r18_1⟩ =>
   some (r18_0, r18_1)
  else
  if a1.Kind = 13 then
   (o13_1_1[0]?).bind fun x17 =>
   (vX x17 1).bind fun ⟨r18_0, r18_1⟩ =>
   some (r18_0, r18_1)
  else
  if a1.Kind = 14 then
   (o13_1_1[0]?).bind fun x18 =>
   (vX x18 2).bind fun ⟨r19_0, r19_1⟩ =>
   some (r19_0, r19_1)
  else
  if a1.Kind = 18 then
   (o13_1_1[0]?).bind fun x19 =>
   (Yk x19).bind fun r20 =>
   match r20 with
   | true =>
    (o13_1_1[1]?).bind fun x21 =>
    (Yk x21).bind fun r22 =>
    match r22 with
    | true =>
     (we x19 x21).bind fun r23 =>
     (kC (decide (r23 = 0))).bind fun r24 =>
     some (r24, 0)
    | false =>
     (yf).bind fun r23 =>
     some (r23, 0)
   | false =>
    (yf).bind fun r21 =>
    some (r21, 0)
  else
  if a1.Kind = 23 then
   (Y6 a1.S o13_1_1).bind fun ⟨r20_0, r20_1⟩ =>
   some (r20_0, r20_1)
  else
  if a1.Kind = 4 then
   (wd (GValue.mk 4 0 [] [] o13_1_1)).bind fun r21 =>
   match r21 with
   | true =>
    some ((GValue.mk 4 0 [] [] o13_1_1), 0)
   | false =>
    some ((GValue.mk 0 0 [] [] []), 4)
  else
  if a1.Kind = 5 then
   (wd (GValue.mk 5 0 [] a1.K o13_1_1)).bind fun r22 =>
   match r22 with
   | true =>
    some ((GValue.mk 5 0 [] a1.K o13_1_1), 0)
   | false =>
    some ((GValue.mk 0 0 [] [] []), 4)
  else
  (o13_1_1[0]?).bind fun x22 =>
  (o13_1_1[1]?).bind fun x23 =>
  (YL a1.Kind x22 x23).bind fun ⟨r24_0, r24_1⟩ =>
  some (r24_0, r24_1)
theorem Py (G_impl_Env_both : GEnv → GExpr → Bool → Option (GValue × Int)) (G_impl_Env_eval : GEnv → GExpr → Option (GValue × Int)) (H_impl_Env_both : kn G_impl_Env_both) (H_impl_Env_eval : jj G_impl_Env_eval) (n : Nat) : jj (Zy G_impl_Env_both G_impl_Env_eval n) := fun a0 a1 => tc (
 .eI a1.Kind 0 (fun c1 =>
  .vw (zn za) [] <|
  .vw zc [] <|
  .ret ((GValue.mk a1.Kind a1.N a1.S [] []), 0)) fun c1 =>
 .eI a1.Kind 1 (fun c2 =>
  .vw (zn za) [] <|
  .vw zc [] <|
  .ret ((GValue.mk a1.Kind a1.N a1.S [] []), 0)) fun c2 =>
 .eI a1.Kind 2 (fun c3 =>
  .vw (zn za) [] <|
  .vw zc [] <|
  .ret ((GValue.mk a1.Kind a1.N a1.S [] []), 0)) fun c3 =>
 .eI a1.Kind 3 (fun c4 =>
  .vw (zn za) [] <|
  .vw zc [] <|
  .ret ((GValue.mk a1.Kind a1.N a1.S [] []), 0)) fun c4 =>
 .eI a1.Kind 10 (fun c5 =>
  .ret (a0.Index, 0)) fun c5 =>
 .eI a1.Kind 11 (fun c6 =>
  .ret (a0.Key, 0)) fun c6 =>
 .eI a1.Kind 12 (fun c7 =>
  .ret (a0.Val, 0)) fun c7 =>
 .eI a1.Kind 6 (fun c8 =>
  .cl (YK a0.Locals a1.S) fun ⟨r9_0, r9_1⟩ =>
  .ret (r9_0, r9_1)) fun c8 =>
 .eI a1.Kind 7 (fun c9 =>
  .cl (YK a0.Res a1.S) fun ⟨r10_0, r10_1⟩ =>
  .ret (r10_0, r10_1)) fun c9 =>
 .eI a1.Kind 20 (fun c10 =>
  .q (.eFo a1.Kind 21 (by omega)) <|
  .cl (H_impl_Env_both a0 a1 false) fun ⟨r11_0, r11_1⟩ =>
  .ret (r11_0, r11_1)) fun c10 =>
 .eI a1.Kind 21 (fun c11 =>
  .q (.eT c11) <|
  .cl (H_impl_Env_both a0 a1 true) fun ⟨r12_0, r12_1⟩ =>
  .ret (r12_0, r12_1)) fun c11 =>
 .eI a1.Kind 22 (fun c12 =>
  .nl 0 <|
  .ix eq_GExpr a1.Kids 0 fun x13 =>
  .cl (H_impl_Env_eval a0 x13) fun ⟨r14_0, r14_1⟩ =>
  .eI r14_1 0 (fun c15 =>
   .eI r14_0.Kind 6 (fun c16 =>
    .ret (r14_0, 0)) fun c16 =>
   .eI r14_0.Kind 1 (fun c17 =>
    .na (w64 (2 - r14_0.N)) fun i18 =>
    .ix eq_GExpr a1.Kids i18 fun x19 =>
    .cl (H_impl_Env_eval a0 x19) fun ⟨r20_0, r20_1⟩ =>
    .ret (r20_0, r20_1)) fun c17 =>
   .vw ze [] <|
   .vw (zn za) [] <|
   .vw zc [] <|
   .ret ((GValue.mk 0 0 [] [] []), 2)) fun c15 =>
  .vw ze [] <|
  .vw (zn za) [] <|
  .vw zc [] <|
  .ret ((GValue.mk 0 0 [] [] []), r14_1)) fun c12 =>
 .le zd a1.Kids <|
 .l2 (Vr G_impl_Env_both G_impl_Env_eval H_impl_Env_both H_impl_Env_eval a1.Kids (a1.Kids.length : Int) a0 a1 0 0 [] [] [] n 0 []) (fun ⟨o13_0_0, o13_0_1, o13_0_2, o13_0_3, o13_0_4⟩ =>
  .vw ze o13_0_2 <|
  .vw (zn za) o13_0_3 <|
  .vw zc o13_0_4 <|
  .ret ((GValue.mk o13_0_1 o13_0_1 o13_0_2 o13_0_3 o13_0_4), o13_0_0)) fun ⟨o13_1_0, o13_1_1⟩ =>
 .eI a1.Kind 8 (fun c14 =>
  .nl 0 <|
  .ix zh o13_1_1 0 fun x15 =>
  .ag 0 <|
  .cl (YK x15 a1.S) fun ⟨r16_0, r16_1⟩ =>
  .ret (r16_0, r16_1)) fun c14 =>
 .eI a1.Kind 9 (fun c15 =>
  .nl 0 <|
  .ix zh o13_1_1 0 fun x16 =>
  .ag 0 <|
  .nl 1 <|
  .ix zh o13_1_1 1 fun x17 =>
  .ag 0 <|
  .cl (NH x16 x17) fun ⟨r18_0, r18_1⟩ =>
  .ret (r18_0, r18_1)) fun c15 =>
 .eI a1.Kind 13 (fun c16 =>
  .nl 0 <|
  .ix zh o13_1_1 0 fun x17 =>
  .ag 0 <|
  .cl (JN x17 1) fun ⟨r18_0, r18_1⟩ =>
  .ret (r18_0, r18_1)) fun c16 =>
 .eI a1.Kind 14 (fun c17 =>
  .nl 0 <|
  .ix zh o13_1_1 0 fun x18 =>
  .ag 0 <|
  .cl (JN x18 2) fun ⟨r19_0, r19_1⟩ =>
  .ret (r19_0, r19_1)) fun c17 =>
 .eI a1.Kind 18 (fun c18 =>
  .nl 0 <|
  .ix zh o13_1_1 0 fun x19 =>
  .ag 0 <|
  .cl (Jj x19) fun r20 =>
  .vN 0 r20 (
   .an 0 0 <|
   .nl 1 <|
   .ix zh o13_1_1 1 fun x21 =>
   .an 0 1 <|
   .ag 0 <|
   .an 0 1 <|
   .cl (Jj x21) fun r22 =>
   .an 0 2 <|
   .an 0 2 <|
   .vN 0 r22 (
    .nl 0 <|
    .ag 5 <|
    .ag 5 <|
    .nl 1 <|
    .ag 2 <|
    .ag 2 <|
    .cl (JR x19 x21) fun r23 =>
    .eD r23 0 <|
    .cl (X6 (decide (r23 = 0))) fun r24 =>
    .vw ze r24.S <|
    .vo (zC 1 z9) r24.K <|
    .vo zz r24.L <|
    .ret (r24, 0)) <|
   .cl (yi) fun r23 =>
   .vw ze r23.S <|
   .vo (zC 1 z9) r23.K <|
   .vo zz r23.L <|
   .ret (r23, 0)) <|
  .an 0 0 <|
  .an 0 0 <|
  .an 0 0 <|
  .an 0 0 <|
  .an 0 0 <|
  .cl (yi) fun r21 =>
  .vw ze r21.S <|
  .vo (zC 1 z9) r21.K <|
  .vo zz r21.L <|
  .ret (r21, 0)) fun c18 =>
 .eI a1.Kind 23 (fun c19 =>
  .bt a1.S <|
  .vw zc o13_1_1 <|
  .cl (NJ a1.S o13_1_1) fun ⟨r20_0, r20_1⟩ =>
  .ret (r20_0, r20_1)) fun c19 =>
 .eI a1.Kind 4 (fun c20 =>
  .q (.eFo a1.Kind 5 (by omega)) <|
  .vw ze [] <|
  .vw (zn za) [] <|
  .vw zc o13_1_1 <|
  .cl (Zv (GValue.mk 4 0 [] [] o13_1_1)) fun r21 =>
  .vN 0 r21 (
   .vw ze [] <|
   .vw (zn za) [] <|
   .vw zc o13_1_1 <|
   .ret ((GValue.mk 4 0 [] [] o13_1_1), 0)) <|
  .vw ze [] <|
  .vw (zn za) [] <|
  .vw zc [] <|
  .ret ((GValue.mk 0 0 [] [] []), 4)) fun c20 =>
 .eI a1.Kind 5 (fun c21 =>
  .q (.eT c21) <|
  .vw ze [] <|
  .vw zc o13_1_1 <|
  .cl (Zv (GValue.mk 5 0 [] a1.K o13_1_1)) fun r22 =>
  .vN 0 r22 (
   .vw ze [] <|
   .vw zc o13_1_1 <|
   .ret ((GValue.mk 5 0 [] a1.K o13_1_1), 0)) <|
  .vw ze [] <|
  .vw (zn za) [] <|
  .vw zc [] <|
  .ret ((GValue.mk 0 0 [] [] []), 4)) fun c21 =>
 .nl 0 <|
 .ix zh o13_1_1 0 fun x22 =>
 .ag 0 <|
 .nl 1 <|
 .ix zh o13_1_1 1 fun x23 =>
 .ag 0 <|
 .cl (ON a1.Kind x22 x23) fun ⟨r24_0, r24_1⟩ =>
 .vw ze r24_0.S <|
 .vo (zC 1 z9) r24_0.K <|
 .vo zz r24_0.L <|
 .ret (r24_0, r24_1)) (zj Tryz.func83)
mutual
def xP : Nat → GEnv → GExpr → Bool → Option (GValue × Int)
 | 0, _, _, _ => none
 | n + 1, a0, a1, a2 => Zx (yj n) a0 a1 a2
def yj : Nat → GEnv → GExpr → Option (GValue × Int)
 | 0, _, _ => none
 | n + 1, a0, a1 => Zy (xP n) (yj n) n a0 a1
end
theorem WS (n : Nat) : kn (xP n) ∧ jj (yj n) := by
 induction n with
 | zero => exact ⟨fun _ _ _ _ h => (by rw [xP] at h; cases h), fun _ _ _ h => (by rw [yj] at h; cases h)⟩
 | succ n ih =>
  obtain ⟨ih_impl_Env_both, ih_impl_Env_eval⟩ := ih
  exact ⟨fun a0 a1 a2 r h => Px (yj n) ih_impl_Env_eval a0 a1 a2 r (by rw [xP] at h; exact h),
   fun a0 a1 r h => Py (xP n) (yj n) ih_impl_Env_both ih_impl_Env_eval n a0 a1 r (by rw [yj] at h; exact h)⟩
def Jk (a0 : GEnv) (a1 : GExpr) (a2 : Bool) : Option (GValue × Int) := none
theorem Ri (a0 : GEnv) (a1 : GExpr) (a2 : Bool) (r : (GValue × Int)) (h : Jk a0 a1 a2 = some r) : ∃ n, xP n a0 a1 a2 = some r := by cases h
def Zz (a0 : GEnv) (a1 : GExpr) : Option (GValue × Int) := yj (3 * xsz a1 + 9) a0 a1
theorem Rj (a0 : GEnv) (a1 : GExpr) (r : (GValue × Int)) (h : Zz a0 a1 = some r) : ∃ n, yj n a0 a1 = some r := ⟨_, h⟩
theorem BY : kn Jk := by
 intro a0 a1 a2 r h
 obtain ⟨n, hn⟩ := Ri a0 a1 a2 r h
 exact (WS n).1 a0 a1 a2 r hn
theorem Up : jj Zz := by
 intro a0 a1 r h
 obtain ⟨n, hn⟩ := Rj a0 a1 r h
 exact (WS n).2 a0 a1 r hn
end
end Go.Am.Try
