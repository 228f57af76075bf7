
/- The functions of the program in plain Lean, and that the machine answers as they do; conditions at each theorem. -/
import Derived.Test.YtjmhaigcaidloaaGreatDoorXG2
set_option linter.unusedVariables false
set_option linter.unusedSimpArgs false
namespace Go.Am.Try
open Go.Am Go.Proofs
set_option linter.unusedVariables false
set_option maxRecDepth 20000
set_option maxHeartbeats 2000000
noncomputable section
def qN (F : GValue → Int → Option Bool) : Prop := ∀ (a0 : GValue) (e0 : Int), Oc (F a0 e0) 237 [.var [ci e0]] [.val true (zA a0), vp 0 0] fun r => (vb r, [.var [ci e0]])
def y8 (F : (List GValue) → Int → Option Int) : Prop := ∀ (a0 : (List GValue)) (e0 : Int), Oc (F a0 e0) 224 [.var [ci e0]] [vq zh a0, .val false [.fn 237 [.ptr 0 0]]] fun r => (vi r, [.var [ci e0]])
def ya (F : (List GValue) → Int → Option Bool) : Prop := ∀ (a0 : (List GValue)) (e0 : Int), Oc (F a0 e0) 203 [.var [ci e0]] [vq zh a0, .val false [.fn 237 [.ptr 0 0]]] fun r => (vb r, [.var [ci e0]])
def vH (F : GValue → Int → Option Bool) : Prop := ∀ (a0 : GValue) (a1 : Int), Oc (F a0 a1) 222 [] [.val true (zA a0), vi a1] fun r => (vb r, [])
def ZB (G_impl_isShaped : GValue → Int → Option Bool) (a0 : GValue) (e0 : Int) : Option Bool :=
 (G_impl_isShaped a0 (w64 (e0 - 1))).bind fun r1 =>
 some (!r1)
theorem Ri (G_impl_isShaped : GValue → Int → Option Bool) (H_impl_isShaped : vH G_impl_isShaped) : qN (ZB G_impl_isShaped) := fun a0 e0 => tc (
 .cl (H_impl_isShaped a0 (w64 (e0 - 1))) fun r1 =>
 .ret (!r1)) (zf Tryz.func237)
def zP (G_impl_isShaped_1 : GValue → Int → Option Bool) (a0 : (List GValue)) (v1 : Int) (e0 : Int) : Nat → Int → Option (Int ⊕ Int)
  | 0, _ => none
  | m + 1, v2 =>
  if v2 < v1 then
   (zv v2).bind fun i2 =>
   (a0[i2]?).bind fun x3 =>
   (G_impl_isShaped_1 x3 e0).bind fun r4 =>
   match r4 with
   | true =>
    some (.inl v2)
   | false =>
    zP G_impl_isShaped_1 a0 v1 e0 m (w64 (v2 + 1))
  else
  some (.inr v2)
theorem vd (G_impl_isShaped_1 : GValue → Int → Option Bool) (H_impl_isShaped_1 : qN G_impl_isShaped_1) (a0 : (List GValue)) (v1 : Int) (e0 : Int) (m : Nat) : ∀ (v2 : Int), Ol (zP G_impl_isShaped_1 a0 v1 e0 m v2) 224 (zO Tryz.f224 0) ⟨[(0, vq zh a0), (1, .val false [.fn 237 [.ptr 0 0]]), (7, vi v1), (8, vi v2)], [.var [ci e0]], 1⟩ fun o => match o with | .inl o_0 => (.ret, ⟨[(4, vi o_0)], [.var [ci e0]], 1⟩) | .inr (o_1) => (.exit 0, ⟨[(0, vq zh a0), (1, .val false [.fn 237 [.ptr 0 0]]), (7, vi v1), (8, vi o_1), (9, vb false)], [.var [ci e0]], 1⟩) := by
  induction m with
  | zero => intro v2 o h; cases h
  | succ m ih => exact fun v2 => tlp (
   .lI v2 v1 (fun c1 =>
    .na v2 fun i2 =>
    .ix yp a0 i2 fun x3 =>
    .cl (H_impl_isShaped_1 x3 e0) fun r4 =>
    .vM 0 r4 (
     .ret (.inl v2)) <|
    .go (ih (w64 (v2 + 1)))) fun c1 =>
   .ret (.inr v2))
def y9 (G_impl_isShaped_1 : GValue → Int → Option Bool) (n : Nat) (a0 : (List GValue)) (e0 : Int) : Option Int :=
 (zP G_impl_isShaped_1 a0 (a0.length : Int) e0 n 0).bind fun o1 =>
 match o1 with
 | .inl o1_0 =>
  some o1_0
 | .inr (o1_1) =>
  some (-1)
theorem Z0 (G_impl_isShaped_1 : GValue → Int → Option Bool) (H_impl_isShaped_1 : qN G_impl_isShaped_1) (n : Nat) : y8 (y9 G_impl_isShaped_1 n) := fun a0 e0 => tc (
 .le zh a0 <|
 .l2 (vd G_impl_isShaped_1 H_impl_isShaped_1 a0 (a0.length : Int) e0 n 0) (fun o1_0 =>
  .ret o1_0) fun o1_1 =>
 .ret (-1)) (zf Tryz.func224)
def yY (G_slices_IndexFunc_Value_isShaped_1 : (List GValue) → Int → Option Int) (a0 : (List GValue)) (e0 : Int) : Option Bool :=
 (G_slices_IndexFunc_Value_isShaped_1 a0 e0).bind fun r1 =>
 some (decide (0 <= r1))
theorem vm (G_slices_IndexFunc_Value_isShaped_1 : (List GValue) → Int → Option Int) (H_slices_IndexFunc_Value_isShaped_1 : y8 G_slices_IndexFunc_Value_isShaped_1) : ya (yY G_slices_IndexFunc_Value_isShaped_1) := fun a0 e0 => tc (
 .cl (H_slices_IndexFunc_Value_isShaped_1 a0 e0) fun r1 =>
 .gD 0 r1 <|
 .ret (decide (0 <= r1))) (zf Tryz.func203)
def xf (G_slices_ContainsFunc_Value_isShaped_1 : (List GValue) → Int → Option Bool) (v0 : Bool) (v1 : Bool) (v2 : (List (List UInt8))) (v3 : Int) (a0 : GValue) (a1 : Int) : Nat → Int → Option (Bool ⊕ Int)
  | 0, _ => none
  | m + 1, v4 =>
  if v4 < v3 then
   (zv v4).bind fun i2 =>
   (v2[i2]?).bind fun x3 =>
   (wO x3).bind fun r4 =>
   match r4 with
   | true =>
    if 0 < v4 then
     (zv (w64 (v4 - 1))).bind fun i6 =>
     (a0.K[i6]?).bind fun x7 =>
     (xI x7 x3).bind fun r8 =>
     if 0 <= r8 then
      some (.inl false)
     else
     xf G_slices_ContainsFunc_Value_isShaped_1 v0 v1 v2 v3 a0 a1 m (w64 (v4 + 1))
    else
    xf G_slices_ContainsFunc_Value_isShaped_1 v0 v1 v2 v3 a0 a1 m (w64 (v4 + 1))
   | false =>
    some (.inl false)
  else
  some (.inr v4)
theorem Km (G_slices_ContainsFunc_Value_isShaped_1 : (List GValue) → Int → Option Bool) (H_slices_ContainsFunc_Value_isShaped_1 : ya G_slices_ContainsFunc_Value_isShaped_1) (v0 : Bool) (v1 : Bool) (v2 : (List (List UInt8))) (v3 : Int) (a0 : GValue) (a1 : Int) (m : Nat) : ∀ (v4 : Int), Ol (xf G_slices_ContainsFunc_Value_isShaped_1 v0 v1 v2 v3 a0 a1 m v4) 222 (zO Tryz.f222 0) ⟨[(2, vp 0 0), (3, vp 1 0), (5, vb v0), (6, vb v1), (99, vq (zr za) v2), (100, vi v3), (101, vi v4)], [.var (zA a0), .var [ci a1]], 0⟩ fun o => match o with | .inl o_0 => (.ret, ⟨[(4, vb o_0)], [], 0⟩) | .inr (o_1) => (.exit 1, ⟨[(2, vp 0 0), (3, vp 1 0), (5, vb v0), (6, vb v1), (99, vq (zr za) v2), (100, vi v3), (101, vi o_1), (102, vb false)], [.var (zA a0), .var [ci a1]], 0⟩) := by
  induction m with
  | zero => intro v4 o h; cases h
  | succ m ih => exact fun v4 => tlp (
   .lI v4 v3 (fun c1 =>
    .na v4 fun i2 =>
    .ix0 (zr za) v2 i2 fun x3 =>
    .cl (Xe x3) fun r4 =>
    .vN 0 r4 (
     .an 0 0 <|
     .lI 0 v4 (fun c5 =>
      .an 0 0 <|
      .na (w64 (v4 - 1)) fun i6 =>
      .ix0 (zr za) a0.K i6 fun x7 =>
      .cl (kM x7 x3) fun r8 =>
      .gI 0 r8 (fun c9 =>
       .an 0 3 <|
       .an 1 3 <|
       .ret (.inl false)) fun c9 =>
      .an 0 3 <|
      .an 1 3 <|
      .go (ih (w64 (v4 + 1)))) fun c5 =>
     .an 0 0 <|
     .an 9 0 <|
     .an 1 0 <|
     .go (ih (w64 (v4 + 1)))) <|
    .an 0 0 <|
    .an 0 0 <|
    .an 0 0 <|
    .an 0 0 <|
    .ret (.inl false)) fun c1 =>
   .ret (.inr v4))
def jC (G_slices_ContainsFunc_Value_isShaped_1 : (List GValue) → Int → Option Bool) (n : Nat) (a0 : GValue) (a1 : Int) : Option Bool :=
 if a1 = 0 then
  some false
 else
 if a0.Kind = 0 then
  if a0.N = 0 then
   if (a0.S.length : Int) = 0 then
    if (a0.K.length : Int) = 0 then
     some (decide ((a0.L.length : Int) = 0))
    else
    some false
   else
   some false
  else
  some false
 else
 if a0.Kind = 6 then
  if a0.N = 0 then
   if (a0.S.length : Int) = 0 then
    if (a0.K.length : Int) = 0 then
     some (decide ((a0.L.length : Int) = 0))
    else
    some false
   else
   some false
  else
  some false
 else
 if a0.Kind = 1 then
  (y4 a0.N 0 1).bind fun r5 =>
  match r5 with
  | true =>
   if (a0.S.length : Int) = 0 then
    if (a0.K.length : Int) = 0 then
     some (decide ((a0.L.length : Int) = 0))
    else
    some false
   else
   some false
  | false =>
   some false
 else
 if a0.Kind = 2 then
  (y4 a0.N (-1000000000000) 1000000000000).bind fun r6 =>
  match r6 with
  | true =>
   if (a0.S.length : Int) = 0 then
    if (a0.K.length : Int) = 0 then
     some (decide ((a0.L.length : Int) = 0))
    else
    some false
   else
   some false
  | false =>
   some false
 else
 if a0.Kind = 3 then
  (va a0.S).bind fun r7 =>
  match r7 with
  | true =>
   if a0.N = 0 then
    if (a0.K.length : Int) = 0 then
     some (decide ((a0.L.length : Int) = 0))
    else
    some false
   else
   some false
  | false =>
   some false
 else
 if a0.Kind = 4 then
  if (a0.K.length : Int) = 0 then
   if a0.N = 0 then
    if (a0.S.length : Int) = 0 then
     if (a0.L.length : Int) <= 40 then
      (G_slices_ContainsFunc_Value_isShaped_1 a0.L a1).bind fun r12 =>
      some (!r12)
     else
     some false
    else
    some false
   else
   some false
  else
  some false
 else
 if a0.Kind = 5 then
  if (a0.K.length : Int) = (a0.L.length : Int) then
   (xf G_slices_ContainsFunc_Value_isShaped_1 (decide (a0.N = 0)) (decide ((a0.S.length : Int) = 0)) a0.K (a0.K.length : Int) a0 a1 n 0).bind fun o10 =>
   match o10 with
   | .inl o10_0 =>
    some o10_0
   | .inr (o10_1) =>
    if a0.N = 0 then
     if (a0.S.length : Int) = 0 then
      if (a0.L.length : Int) <= 40 then
       (G_slices_ContainsFunc_Value_isShaped_1 a0.L a1).bind fun r14 =>
       some (!r14)
      else
      some false
     else
     some false
    else
    some false
  else
  some false
 else
 some false
theorem Up (G_slices_ContainsFunc_Value_isShaped_1 : (List GValue) → Int → Option Bool) (H_slices_ContainsFunc_Value_isShaped_1 : ya G_slices_ContainsFunc_Value_isShaped_1) (n : Nat) : vH (jC G_slices_ContainsFunc_Value_isShaped_1 n) := fun a0 a1 => tc (
 .eI a1 0 (fun c1 =>
  .ret false) fun c1 =>
 .eD a0.N 0 <|
 .le za a0.S <|
 .eD (a0.S.length : Int) 0 <|
 .le (zr za) a0.K <|
 .eD (a0.K.length : Int) 0 <|
 .le zh a0.L <|
 .eD (a0.L.length : Int) 0 <|
 .eI a0.Kind 0 (fun c2 =>
  .cI 2 (a0.N = 0) (fun c3 =>
   .kT 0 (dT c3) <|
   .cI 0 ((a0.S.length : Int) = 0) (fun c4 =>
    .kT 0 (dT c4) <|
    .cI 0 ((a0.K.length : Int) = 0) (fun c5 =>
     .kT 0 (dT c5) <|
     .ret (decide ((a0.L.length : Int) = 0))) fun c5 =>
    .kF 0 (dF c5) <|
    .ret false) fun c4 =>
   .kF 0 (dF c4) <|
   .ret false) fun c3 =>
  .kF 0 (dF c3) <|
  .ret false) fun c2 =>
 .eI a0.Kind 6 (fun c3 =>
  .cI 1 (a0.N = 0) (fun c4 =>
   .kT 0 (dT c4) <|
   .cI 0 ((a0.S.length : Int) = 0) (fun c5 =>
    .kT 0 (dT c5) <|
    .cI 0 ((a0.K.length : Int) = 0) (fun c6 =>
     .kT 0 (dT c6) <|
     .ret (decide ((a0.L.length : Int) = 0))) fun c6 =>
    .kF 0 (dF c6) <|
    .ret false) fun c5 =>
   .kF 0 (dF c5) <|
   .ret false) fun c4 =>
  .kF 0 (dF c4) <|
  .ret false) fun c3 =>
 .eI a0.Kind 1 (fun c4 =>
  .cl (wC a0.N 0 1) fun r5 =>
  .vM 0 r5 (
   .az 0 0 <|
   .cI 0 ((a0.S.length : Int) = 0) (fun c6 =>
    .kT 0 (dT c6) <|
    .cI 0 ((a0.K.length : Int) = 0) (fun c7 =>
     .kT 0 (dT c7) <|
     .ret (decide ((a0.L.length : Int) = 0))) fun c7 =>
    .kF 0 (dF c7) <|
    .ret false) fun c6 =>
   .kF 0 (dF c6) <|
   .ret false) <|
  .az 0 0 <|
  .ret false) fun c4 =>
 .eI a0.Kind 2 (fun c5 =>
  .cl (wC a0.N (-1000000000000) 1000000000000) fun r6 =>
  .vM 0 r6 (
   .az 0 0 <|
   .cI 0 ((a0.S.length : Int) = 0) (fun c7 =>
    .kT 0 (dT c7) <|
    .cI 0 ((a0.K.length : Int) = 0) (fun c8 =>
     .kT 0 (dT c8) <|
     .ret (decide ((a0.L.length : Int) = 0))) fun c8 =>
    .kF 0 (dF c8) <|
    .ret false) fun c7 =>
   .kF 0 (dF c7) <|
   .ret false) <|
  .az 0 0 <|
  .ret false) fun c5 =>
 .eI a0.Kind 3 (fun c6 =>
  .cl (P5 a0.S) fun r7 =>
  .vM 0 r7 (
   .az 0 0 <|
   .cI 0 (a0.N = 0) (fun c8 =>
    .kT 0 (dT c8) <|
    .cI 0 ((a0.K.length : Int) = 0) (fun c9 =>
     .kT 0 (dT c9) <|
     .ret (decide ((a0.L.length : Int) = 0))) fun c9 =>
    .kF 0 (dF c9) <|
    .ret false) fun c8 =>
   .kF 0 (dF c8) <|
   .ret false) <|
  .az 0 0 <|
  .ret false) fun c6 =>
 .eI a0.Kind 4 (fun c7 =>
  .cN 1 ((a0.K.length : Int) = 0) (fun c8 =>
   .cI 0 (a0.N = 0) (fun c9 =>
    .kT 0 (dT c9) <|
    .cI 0 ((a0.S.length : Int) = 0) (fun c10 =>
     .kT 0 (dT c10) <|
     .kT 0 (dT c10) <|
     .le zh a0.L <|
     .kT 0 (dT c10) <|
     .gI (a0.L.length : Int) 40 (fun c11 =>
      .kT 0 (dT c10) <|
      .cl (H_slices_ContainsFunc_Value_isShaped_1 a0.L a1) fun r12 =>
      .ret (!r12)) fun c11 =>
     .kT 0 (dT c10) <|
     .ret false) fun c10 =>
    .kF 0 (dF c10) <|
    .kF 0 (dF c10) <|
    .kF 0 (dF c10) <|
    .kF 0 (dF c10) <|
    .ret false) fun c9 =>
   .kF 0 (dF c9) <|
   .ret false) fun c8 =>
  .ret false) fun c7 =>
 .eI a0.Kind 5 (fun c8 =>
  .le (zr za) a0.K <|
  .le zh a0.L <|
  .eI (a0.K.length : Int) (a0.L.length : Int) (fun c9 =>
   .le (zr za) a0.K <|
   .l2 (Km G_slices_ContainsFunc_Value_isShaped_1 H_slices_ContainsFunc_Value_isShaped_1 (decide (a0.N = 0)) (decide ((a0.S.length : Int) = 0)) a0.K (a0.K.length : Int) a0 a1 n 0) (fun o10_0 =>
    .ret o10_0) fun o10_1 =>
   .cI 0 (a0.N = 0) (fun c11 =>
    .kT 0 (dT c11) <|
    .cI 0 ((a0.S.length : Int) = 0) (fun c12 =>
     .kT 0 (dT c12) <|
     .kT 0 (dT c12) <|
     .le zh a0.L <|
     .kT 0 (dT c12) <|
     .gI (a0.L.length : Int) 40 (fun c13 =>
      .kT 0 (dT c12) <|
      .cl (H_slices_ContainsFunc_Value_isShaped_1 a0.L a1) fun r14 =>
      .ret (!r14)) fun c13 =>
     .kT 0 (dT c12) <|
     .ret false) fun c12 =>
    .kF 0 (dF c12) <|
    .kF 0 (dF c12) <|
    .kF 0 (dF c12) <|
    .kF 0 (dF c12) <|
    .ret false) fun c11 =>
   .kF 0 (dF c11) <|
   .ret false) fun c9 =>
  .ret false) fun c8 =>
 .ret false) (zf Tryz.func222)
mutual
def yW : Nat → GValue → Int → Option Bool
 | 0, _, _ => none
 | n + 1, a0, e0 => ZB (xJ n) a0 e0
def zK : Nat → (List GValue) → Int → Option Int
 | 0, _, _ => none
 | n + 1, a0, e0 => y9 (yW n) n a0 e0
def zB : Nat → (List GValue) → Int → Option Bool
 | 0, _, _ => none
 | n + 1, a0, e0 => yY (zK n) a0 e0
def xJ : Nat → GValue → Int → Option Bool
 | 0, _, _ => none
 | n + 1, a0, a1 => jC (zB n) n a0 a1
end
theorem jt (n : Nat) : qN (yW n) ∧ y8 (zK n) ∧ ya (zB n) ∧ vH (xJ n) := by
 induction n with
 | zero => exact ⟨fun _ _ _ h => (by rw [yW] at h; cases h), fun _ _ _ h => (by rw [zK] at h; cases h), fun _ _ _ h => (by rw [zB] at h; cases h), fun _ _ _ h => (by rw [xJ] at h; cases h)⟩
 | succ n ih =>
  obtain ⟨ih_impl_isShaped_1, ih_slices_IndexFunc_Value_isShaped_1, ih_slices_ContainsFunc_Value_isShaped_1, ih_impl_isShaped⟩ := ih
  exact ⟨fun a0 e0 r h => Ri (xJ n) ih_impl_isShaped a0 e0 r (by rw [yW] at h; exact h),
   fun a0 e0 r h => Z0 (yW n) ih_impl_isShaped_1 n a0 e0 r (by rw [zK] at h; exact h),
   fun a0 e0 r h => vm (zK n) ih_slices_IndexFunc_Value_isShaped_1 a0 e0 r (by rw [zB] at h; exact h),
   fun a0 a1 r h => Up (zB n) ih_slices_ContainsFunc_Value_isShaped_1 n a0 a1 r (by rw [xJ] at h; exact h)⟩
theorem AY (a b : List UInt8) : xI a b = some (Lib.compareBytes a b) := rfl
theorem Ee {a : List UInt8} (h : a.length <= 2 ^ 20) : wO a = some (jG a) := if_pos h
theorem Ef {a : List UInt8} (h : a.length <= 2 ^ 20) : va a = some (YN a) := if_pos h
theorem vn {G : GValue → Int → Option Bool} {a : List GValue} {f : Nat} {e : Int} {p : GValue → Bool} (ha : a.length <= 2 ^ 20) (hf : a.length < f) (hG : ∀ x ∈ a, G x e = some (!p x)) : ∃ r : Int, y9 G f a e = some r ∧ decide (0 <= r) = !(a.all p) := by
 have loop : ∀ (d i m : Nat), i + d = a.length → d < m → ∃ (q : Nat) (z : Int), zP G a (a.length : Int) e m (i : Int) = some (if (a.drop i).all p = true then .inr z else .inl (q : Int)) := by
  intro d
  induction d with
  | zero =>
   intro i m hi hm
   obtain ⟨m, rfl, _⟩ := zg hm
   exact ⟨0, _, by rw [zP, if_neg (by omega), List.drop_eq_nil_of_le (by omega)]; rfl⟩
  | succ d ih =>
   intro i m hi hm
   obtain ⟨m, rfl, hm'⟩ := zg hm
   have hil : i < a.length := by omega
   rw [zP, if_pos (by omega), zd, Option.bind_some, zl hil, Option.bind_some, hG _ (List.getElem_mem hil), Option.bind_some, zG (by omega), xF hil, List.all_cons]
   cases hp : p a[i] with
   | false => exact ⟨i, 0, rfl⟩
   | true =>
    obtain ⟨q, z, hz⟩ := ih (i + 1) m (by omega) (by omega)
    exact ⟨q, z, by rw [Bool.true_and]; exact hz⟩
 obtain ⟨q, z, hz⟩ := loop a.length 0 f (by omega) (by omega)
 rw [show ((0 : Nat) : Int) = 0 from rfl, List.drop_zero] at hz
 unfold y9
 rw [hz, Option.bind_some]
 cases hp : a.all p with
 | true => exact ⟨-1, rfl, rfl⟩
 | false => exact ⟨(q : Int), rfl, by simp⟩
theorem OO {G : List GValue → Int → Option Bool} {v : GValue} {v0 v1 : Bool} {a1 : Int} (hs : vsz v <= 2 ^ 20) : ∀ (d i m : Nat), i + d = v.K.length → d < m → ∃ z, xf G v0 v1 v.K (v.K.length : Int) v a1 m (i : Int) = some (if kQ v.K i d = true then .inr z else .inl false) := by
 have he := xT v
 have hl := qk v.K
 intro d
 induction d with
 | zero =>
  intro i m hi hm
  obtain ⟨m, rfl, _⟩ := zg hm
  exact ⟨_, by rw [xf, if_neg (by omega)]; rfl⟩
 | succ d ih =>
  intro i m hi hm
  obtain ⟨m, rfl, hm'⟩ := zg hm
  have hil : i < v.K.length := by omega
  have hx := Z6 (List.getElem_mem hil)
  rw [xf, if_pos (by omega), zd, Option.bind_some, zl hil, Option.bind_some, Ee (by omega), Option.bind_some, zG (by omega), Qy]
  obtain ⟨z, hz⟩ := ih (i + 1) m (by omega) (by omega)
  cases hnm : jG v.K[i] with
  | false =>
   refine ⟨0, ?_⟩
   have : kOk v.K i = false := by
    by_cases h0 : i = 0
    ·subst h0; rw [JK hil, hnm]
    ·rw [Jc hil (by omega), hnm]; rfl
   rw [this]; rfl
  | true =>
   dsimp only
   by_cases h0 : 0 < i
   ·rw [if_pos (by omega), jL (by omega) h0, zd, Option.bind_some, zl (show i - 1 < v.K.length by omega), Option.bind_some, AY, Option.bind_some]
    by_cases hb : Op.bytesLess (v.K[i - 1]'(by omega)) v.K[i] = true
    ·rw [if_neg (by rw [Xm]; exact fun h => h hb), Jc hil h0, hnm, hb]
     exact ⟨z, hz⟩
    ·rw [if_pos (by rw [Xm]; exact hb), Jc hil h0, hnm, show Op.bytesLess (v.K[i - 1]'(by omega)) v.K[i] = false by simpa using hb]
     exact ⟨0, rfl⟩
   ·have : i = 0 := by omega
    subst this
    rw [if_neg (by omega), JK hil, hnm]
    exact ⟨z, hz⟩
theorem GJ {G : List GValue → Int → Option Bool} {v : GValue} {f d : Nat} (hs : vsz v <= 2 ^ 20) (hf : v.K.length < f) (hd : 0 < d) (hG : G v.L (d : Int) = some (!(v.L.all (shV (d - 1))))) : jC G f v (d : Int) = some (shV d v) := by
 obtain ⟨e, rfl⟩ : ∃ e, d = e + 1 := ⟨d - 1, by omega⟩
 have he := xT v
 have hl := yH v.L
 have hb := qk v.K
 rw [show e + 1 - 1 = e by omega] at hG
 unfold jC
 rw [if_neg (by omega)]
 simp only [shV]
 have nil : v.L.length = 0 → v.L.all (shV e) = true := fun h => by rw [List.eq_nil_of_length_eq_zero h]; rfl
 have c0 : ∀ n : Nat, (((n : Nat) : Int) = 0) = (n = 0) := fun n => by simp
 simp only [c0]
 have leaf : ∀ {b : Bool}, yI v = (b && decide (v.L.length = 0)) → b = true → some (decide (v.L.length = 0)) = some (yI v && v.L.all (shV e)) := fun h hb' => by
  rw [h, hb', Bool.true_and]
  by_cases hz : v.L.length = 0
  ·rw [decide_eq_true hz, nil hz]; rfl
  ·rw [decide_eq_false hz]; rfl
 have no : yI v = false → some false = some (yI v && v.L.all (shV e)) := fun h => by rw [h]; rfl
 have four : ∀ {p : Prop} [Decidable p], yI v = decide (p ∧ v.S.length = 0 ∧ v.K.length = 0 ∧ v.L.length = 0) → p → (if v.S.length = 0 then if v.K.length = 0 then some (decide (v.L.length = 0)) else some false else some false) = some (yI v && v.L.all (shV e)) := fun h hp => by
  by_cases h1 : v.S.length = 0
  ·rw [if_pos h1]
   by_cases h2 : v.K.length = 0
   ·rw [if_pos h2]
    exact leaf (b := true) (by rw [h]; simp [hp, h1, h2]) rfl
   ·rw [if_neg h2]; exact no (by rw [h, decide_eq_false (fun h => h2 h.2.2.1)])
  ·rw [if_neg h1]; exact no (by rw [h, decide_eq_false (fun h => h1 h.2.1)])
 by_cases k0 : v.Kind = 0
 ·rw [if_pos k0]
  have hv : yI v = decide (v.N = 0 ∧ v.S.length = 0 ∧ v.K.length = 0 ∧ v.L.length = 0) := by unfold yI; rw [if_pos (.inl k0)]
  by_cases a1 : v.N = 0
  ·rw [if_pos a1]; exact four hv a1
  ·rw [if_neg a1]; exact no (by rw [hv, decide_eq_false (fun h => a1 h.1)])
 rw [if_neg k0]
 by_cases k6 : v.Kind = 6
 ·rw [if_pos k6]
  have hv : yI v = decide (v.N = 0 ∧ v.S.length = 0 ∧ v.K.length = 0 ∧ v.L.length = 0) := by unfold yI; rw [if_pos (.inr k6)]
  by_cases a1 : v.N = 0
  ·rw [if_pos a1]; exact four hv a1
  ·rw [if_neg a1]; exact no (by rw [hv, decide_eq_false (fun h => a1 h.1)])
 rw [if_neg k6]
 have n06 : ¬ (v.Kind = 0 ∨ v.Kind = 6) := by omega
 by_cases k1 : v.Kind = 1
 ·rw [if_pos k1, Wk, Option.bind_some]
  have hv : yI v = decide ((0 <= v.N ∧ v.N <= 1) ∧ v.S.length = 0 ∧ v.K.length = 0 ∧ v.L.length = 0) := by unfold yI; rw [if_neg n06, if_pos k1]
  by_cases a1 : 0 <= v.N ∧ v.N <= 1
  ·rw [decide_eq_true a1]; exact four hv a1
  ·rw [decide_eq_false a1]; exact no (by rw [hv, decide_eq_false (fun h => a1 h.1)])
 rw [if_neg k1]
 by_cases k2 : v.Kind = 2
 ·rw [if_pos k2, Wk, Option.bind_some]
  have hv : yI v = decide ((-1000000000000 <= v.N ∧ v.N <= 1000000000000) ∧ v.S.length = 0 ∧ v.K.length = 0 ∧ v.L.length = 0) := by unfold yI; rw [if_neg n06, if_neg k1, if_pos k2]
  by_cases a1 : -1000000000000 <= v.N ∧ v.N <= 1000000000000
  ·rw [decide_eq_true a1]; exact four hv a1
  ·rw [decide_eq_false a1]; exact no (by rw [hv, decide_eq_false (fun h => a1 h.1)])
 rw [if_neg k2]
 by_cases k3 : v.Kind = 3
 ·rw [if_pos k3, Ef (by omega), Option.bind_some]
  have hv : yI v = (YN v.S && decide (v.N = 0 ∧ v.K.length = 0 ∧ v.L.length = 0)) := by unfold yI; rw [if_neg n06, if_neg k1, if_neg k2, if_pos k3]
  cases ht : YN v.S with
  | false => exact no (by rw [hv, ht]; rfl)
  | true =>
   rw [ht, Bool.true_and] at hv
   dsimp only
   by_cases a1 : v.N = 0
   ·rw [if_pos a1]
    by_cases a2 : v.K.length = 0
    ·rw [if_pos a2]; exact leaf (b := true) (by rw [hv]; simp [a1, a2]) rfl
    ·rw [if_neg a2]; exact no (by rw [hv, decide_eq_false (fun h => a2 h.2.1)])
   ·rw [if_neg a1]; exact no (by rw [hv, decide_eq_false (fun h => a1 h.1)])
 rw [if_neg k3]
 have ends : ∀ {b : Bool}, yI v = (b && decide (v.L.length <= 40)) → b = true → (if (v.L.length : Int) <= 40 then (G v.L ((e + 1 : Nat) : Int)).bind fun r12 => some (!r12) else some false) = some (yI v && v.L.all (shV e)) := fun h hb' => by
  by_cases h4 : v.L.length <= 40
  ·rw [if_pos (by omega), hG, Option.bind_some, h, hb', decide_eq_true h4, Bool.not_not]; rfl
  ·rw [if_neg (by omega)]; exact no (by rw [h, decide_eq_false h4, Bool.and_false])
 by_cases k4 : v.Kind = 4
 ·rw [if_pos k4]
  have hv : yI v = decide (v.N = 0 ∧ v.S.length = 0 ∧ v.K.length = 0 ∧ v.L.length <= 40) := by unfold yI; rw [if_neg n06, if_neg k1, if_neg k2, if_neg k3, if_pos k4]
  by_cases a1 : v.K.length = 0
  ·rw [if_pos a1]
   by_cases a2 : v.N = 0
   ·rw [if_pos a2]
    by_cases a3 : v.S.length = 0
    ·rw [if_pos a3]; exact ends (b := true) (by rw [hv]; simp [a1, a2, a3]) rfl
    ·rw [if_neg a3]; exact no (by rw [hv, decide_eq_false (fun h => a3 h.2.1)])
   ·rw [if_neg a2]; exact no (by rw [hv, decide_eq_false (fun h => a2 h.1)])
  ·rw [if_neg a1]; exact no (by rw [hv, decide_eq_false (fun h => a1 h.2.2.1)])
 rw [if_neg k4]
 by_cases k5 : v.Kind = 5
 ·rw [if_pos k5]
  have hv : yI v = (decide (v.K.length = v.L.length ∧ v.N = 0 ∧ v.S.length = 0 ∧ v.L.length <= 40) && kQ v.K 0 v.K.length) := by unfold yI; rw [if_neg n06, if_neg k1, if_neg k2, if_neg k3, if_neg k4, if_pos k5]
  by_cases a1 : (v.K.length : Int) = (v.L.length : Int)
  ·rw [if_pos a1]
   have keys := fun (v0 v1 : Bool) => OO (G := G) (v0 := v0) (v1 := v1) (a1 := ((e + 1 : Nat) : Int)) hs v.K.length 0 f (by omega) (by omega)
   simp only [show ((0 : Nat) : Int) = 0 from rfl] at keys
   obtain ⟨z, hz⟩ := keys (decide (v.N = 0)) (decide (v.S.length = 0))
   rw [hz, Option.bind_some]
   cases hk : kQ v.K 0 v.K.length with
   | false => exact no (by rw [hv, hk, Bool.and_false])
   | true =>
    rw [if_pos rfl]
    dsimp only
    by_cases a2 : v.N = 0
    ·rw [if_pos a2]
     by_cases a3 : v.S.length = 0
     ·rw [if_pos a3]
      exact ends (b := true) (by rw [hv, hk]; simp [a2, a3, show v.K.length = v.L.length by omega]) rfl
     ·rw [if_neg a3]
      exact no (by rw [hv, decide_eq_false (fun h => a3 h.2.2.1)]; rfl)
    ·rw [if_neg a2]
     exact no (by rw [hv, decide_eq_false (fun h => a2 h.2.1)]; rfl)
  ·rw [if_neg a1]; exact no (by rw [hv, decide_eq_false (fun h => a1 (by omega))]; rfl)
 rw [if_neg k5]
 exact no (by unfold yI; simp only [k0, k1, k2, k3, k4, k5, k6, or_self, if_false])
theorem GK : ∀ (N : Nat) (v : GValue), vsz v < N → vsz v <= 2 ^ 20 → ∀ (f d : Nat), 4 * vsz v + 6 <= f → d <= 2 ^ 20 → xJ f v (d : Int) = some (shV d v) := by
 intro N
 induction N with
 | zero => intro v hv; omega
 | succ N ih =>
  intro v hv hs f d hf hd
  have he := xT v
  have hl := yH v.L
  have hb := qk v.K
  obtain ⟨f, rfl, _⟩ := zg (show 0 < f by omega)
  rw [xJ]
  by_cases h0 : d = 0
  ·subst h0; unfold jC; rw [if_pos (show ((0 : Nat) : Int) = 0 from rfl)]; rfl
  refine GJ hs (by omega) (by omega) ?_
  obtain ⟨f, rfl, _⟩ := zg (show 0 < f by omega)
  obtain ⟨f, rfl, _⟩ := zg (show 0 < f by omega)
  obtain ⟨f, rfl, _⟩ := zg (show 0 < f by omega)
  rw [zB]
  unfold yY
  rw [zK]
  obtain ⟨r, hr, hr2⟩ := vn (G := yW (f + 1)) (a := v.L) (f := f + 1) (e := (d : Int)) (p := shV (d - 1)) (by omega) (by omega) fun x hx => by
   have := wa hx
   rw [yW]
   unfold ZB
   rw [jL (by omega) (by omega), ih x (by omega) (by omega) f (d - 1) (by omega) (by omega)]
   rfl
  rw [hr, Option.bind_some, hr2]
def XP (a0 : GValue) (e0 : Int) : Option Bool := none
theorem J0 (a0 : GValue) (e0 : Int) (r : Bool) (h : XP a0 e0 = some r) : ∃ n, yW n a0 e0 = some r := by cases h
def qC (a0 : (List GValue)) (e0 : Int) : Option Int := none
theorem vt (a0 : (List GValue)) (e0 : Int) (r : Int) (h : qC a0 e0 = some r) : ∃ n, zK n a0 e0 = some r := by cases h
def wQ (a0 : (List GValue)) (e0 : Int) : Option Bool := none
theorem k7 (a0 : (List GValue)) (e0 : Int) (r : Bool) (h : wQ a0 e0 = some r) : ∃ n, zB n a0 e0 = some r := by cases h
def qD (a0 : GValue) (a1 : Int) : Option Bool := if vsz a0 <= 2 ^ 20 ∧ 0 <= a1 ∧ a1 <= 2 ^ 20 then some (shV a1.toNat a0) else none
theorem Vi (a0 : GValue) (a1 : Int) (r : Bool) (h : qD a0 a1 = some r) : ∃ n, xJ n a0 a1 = some r := by
 unfold qD at h
 obtain ⟨⟨hs, h0, h1⟩, h⟩ := zE h
 refine ⟨4 * vsz a0 + 6, ?_⟩
 have := GK _ a0 (Nat.lt_succ_self _) hs _ a1.toNat (Nat.le_refl _) (by omega)
 rw [show ((a1.toNat : Nat) : Int) = a1 by omega] at this
 rw [this]; exact h
theorem Eg : qN XP := by
 intro a0 e0 r h
 obtain ⟨n, hn⟩ := J0 a0 e0 r h
 exact (jt n).1 a0 e0 r hn
theorem Vj : y8 qC := by
 intro a0 e0 r h
 obtain ⟨n, hn⟩ := vt a0 e0 r h
 exact (jt n).2.1 a0 e0 r hn
theorem Ka : ya wQ := by
 intro a0 e0 r h
 obtain ⟨n, hn⟩ := k7 a0 e0 r h
 exact (jt n).2.2.1 a0 e0 r hn
theorem RZ : vH qD := by
 intro a0 a1 r h
 obtain ⟨n, hn⟩ := Vi a0 a1 r h
 exact (jt n).2.2.2 a0 a1 r hn
def qy (F : GValue → Option Int) : Prop := ∀ (a0 : GValue), Oc (F a0) 223 [] [.val true (zA a0)] fun r => (vi r, [])
def xc (G_impl_Value_parts : GValue → Option Int) (v1 : (List GValue)) (v2 : Int) : Nat → Int → Int → Option (Int × Int)
  | 0, _, _ => none
  | m + 1, v0, v3 =>
  if v3 < v2 then
   (zv v3).bind fun i2 =>
   (v1[i2]?).bind fun x3 =>
   (G_impl_Value_parts x3).bind fun r4 =>
   xc G_impl_Value_parts v1 v2 m (w64 (v0 + r4)) (w64 (v3 + 1))
  else
  some (v0, v3)
theorem Q8 (G_impl_Value_parts : GValue → Option Int) (H_impl_Value_parts : qy G_impl_Value_parts) (v1 : (List GValue)) (v2 : Int) (m : Nat) : ∀ (v0 : Int) (v3 : Int), Ol (xc G_impl_Value_parts v1 v2 m v0 v3) 223 (zO Tryz.f223 0) ⟨[(3, vi v0), (7, vq zh v1), (8, vi v2), (9, vi v3)], [], 0⟩ fun o => match o with | ⟨o_0, o_1⟩ => (.exit 0, ⟨[(3, vi o_0), (7, vq zh v1), (8, vi v2), (9, vi o_1), (10, vb false)], [], 0⟩) := by
  induction m with
  | zero => intro v0 v3 o h; cases h
  | succ m ih => exact fun v0 v3 => tlp (
   .lI v3 v2 (fun c1 =>
    .na v3 fun i2 =>
    .ix yp v1 i2 fun x3 =>
    .cl (H_impl_Value_parts x3) fun r4 =>
    .go (ih (w64 (v0 + r4)) (w64 (v3 + 1)))) fun c1 =>
   .ret (v0, v3))
def jD (G_impl_Value_parts : GValue → Option Int) (n : Nat) (a0 : GValue) : Option Int :=
 (xc G_impl_Value_parts a0.L (a0.L.length : Int) n 1 0).bind fun ⟨o1_0, o1_1⟩ =>
 some o1_0
theorem Vk (G_impl_Value_parts : GValue → Option Int) (H_impl_Value_parts : qy G_impl_Value_parts) (n : Nat) : qy (jD G_impl_Value_parts n) := fun a0 => tc (
 .le zh a0.L <|
 .lp (Q8 G_impl_Value_parts H_impl_Value_parts a0.L (a0.L.length : Int) n 1 0) fun ⟨o1_0, o1_1⟩ =>
 .ret o1_0) (zf Tryz.func223)
def yM : Nat → GValue → Option Int
 | 0, _ => none
 | n + 1, a0 => jD (yM n) n a0
theorem J1 (n : Nat) : qy (yM n) := by
 induction n with
 | zero => exact fun _ _ h => (by rw [yM] at h; cases h)
 | succ n ih =>
  have ih_impl_Value_parts := ih
  exact fun a0 r h => Vk (yM n) ih_impl_Value_parts n a0 r (by rw [yM] at h; exact h)
theorem Vl {G : GValue → Option Int} {v : GValue} {f : Nat} (hs : vsz v <= 2 ^ 20) (hf : v.L.length < f) (hG : ∀ x ∈ v.L, G x = some (((ptV x) : Nat) : Int)) : jD G f v = some (((ptV v) : Nat) : Int) := by
 have he := xT v
 have hl := yH v.L
 have loop : ∀ (d i m : Nat) (r : Int), i + d = v.L.length → d < m → 0 <= r → r <= 2 ^ 21 - w8 (v.L.drop i) → ∃ z, xc G v.L (v.L.length : Int) m r (i : Int) = some (r + w8 (v.L.drop i), z) := by
  intro d
  induction d with
  | zero =>
   intro i m r hi hm h0 h1
   obtain ⟨m, rfl, _⟩ := zg hm
   exact ⟨_, by rw [xc, if_neg (by omega), List.drop_eq_nil_of_le (by omega)]; simp [w8]; rfl⟩
  | succ d ih =>
   intro i m r hi hm h0 h1
   obtain ⟨m, rfl, hm'⟩ := zg hm
   have hil : i < v.L.length := by omega
   have hp : w8 (v.L.drop i) = ptV v.L[i] + w8 (v.L.drop (i + 1)) := by rw [xF hil]; simp only [w8]
   rw [hp] at h1 ⊢
   rw [xc, if_pos (by omega), zd, Option.bind_some, zl hil, Option.bind_some, hG _ (List.getElem_mem hil), Option.bind_some, zG (by omega), yj (by omega) (by omega)]
   obtain ⟨z, hz⟩ := ih (i + 1) m (r + ptV v.L[i]) (by omega) (by omega) (by omega) (by omega)
   exact ⟨z, by rw [hz]; congr 2; omega⟩
 have hle := PK v.L
 obtain ⟨z, hz⟩ := loop v.L.length 0 f 1 (by omega) (by omega) (by omega) (by rw [List.drop_zero]; omega)
 rw [show ((0 : Nat) : Int) = 0 from rfl, List.drop_zero] at hz
 unfold jD
 rw [hz, MI]
 simp only [Option.bind_some]
 congr 1
theorem Vm : ∀ (N : Nat) (v : GValue), vsz v < N → vsz v <= 2 ^ 20 → ∀ f : Nat, vsz v + 2 <= f → yM f v = some (((ptV v) : Nat) : Int) := by
 intro N
 induction N with
 | zero => intro v hv; omega
 | succ N ih =>
  intro v hv hs f hf
  obtain ⟨f, rfl, _⟩ := zg (show 0 < f by omega)
  have he := xT v
  have hl := yH v.L
  rw [yM]
  refine Vl hs (by omega) fun x hx => ?_
  have := wa hx
  exact ih x (by omega) (by omega) f (by omega)
def wq (a0 : GValue) : Option Int := if vsz a0 <= 2 ^ 20 then some (((ptV a0) : Nat) : Int) else none
theorem QP (a0 : GValue) (r : Int) (h : wq a0 = some r) : ∃ n, yM n a0 = some r := by
 unfold wq at h
 obtain ⟨ha, h⟩ := zE h
 exact ⟨vsz a0 + 2, by rw [<- h]; exact Vm _ a0 (Nat.lt_succ_self _) ha _ (Nat.le_refl _)⟩
theorem Kn : qy wq := by
 intro a0 r h
 obtain ⟨n, hn⟩ := QP a0 r h
 exact (J1 n) a0 r hn
def ja (a0 : GValue) : Option Bool :=
 (qD a0 5).bind fun r1 =>
 match r1 with
 | true =>
  (wq a0).bind fun r2 =>
  some (decide (r2 <= 40))
 | false =>
  some false
theorem Uq (a0 : GValue) : Oc (ja a0) 202 [] [.val true (zA a0)] fun r => (vb r, []) := tc (
 .cl (RZ a0 5) fun r1 =>
 .vM 0 r1 (
  .az 0 0 <|
  .cl (Kn a0) fun r2 =>
  .az 0 1 <|
  .gD r2 40 <|
  .az 0 1 <|
  .ret (decide (r2 <= 40))) <|
 .az 0 0 <|
 .az 0 0 <|
 .az 0 0 <|
 .ret false) (zf Tryz.func202)
def YD (a0 : GValue) : Option Bool :=
 if a0.Kind = 5 then
  (ja a0).bind fun r2 =>
  some r2
 else
 some false
theorem OP (a0 : GValue) : Oc (YD a0) 175 [] [.val true (zA a0)] fun r => (vb r, []) := tc (
 .eI a0.Kind 5 (fun c1 =>
  .cl (Uq a0) fun r2 =>
  .ret r2) fun c1 =>
 .ret false) (zf Tryz.func175)
def wD (F : GValue → Option Bool) : Prop := ∀ (a0 : GValue), Oc (F a0) 204 [] [.val true (zA a0)] fun r => (vb r, [])
def yv (F : (List GValue) → Option Int) : Prop := ∀ (a0 : (List GValue)), Oc (F a0) 224 [] [vq zh a0, .val false [.fn 204 []]] fun r => (vi r, [])
def ym (F : (List GValue) → Option Bool) : Prop := ∀ (a0 : (List GValue)), Oc (F a0) 203 [] [vq zh a0, .val false [.fn 204 []]] fun r => (vb r, [])
def jE (F : GValue → Option Bool) : Prop := ∀ (a0 : GValue), Oc (F a0) 176 [] [.val true (zA a0)] fun r => (vb r, [])
def kN (G_impl_Value_known : GValue → Option Bool) (a0 : GValue) : Option Bool :=
 (G_impl_Value_known a0).bind fun r1 =>
 some (!r1)
theorem J2 (G_impl_Value_known : GValue → Option Bool) (H_impl_Value_known : jE G_impl_Value_known) : wD (kN G_impl_Value_known) := fun a0 => tc (
 .cl (H_impl_Value_known a0) fun r1 =>
 .ret (!r1)) (zf Tryz.func204)
def zH (G_impl_Value_known_1 : GValue → Option Bool) (a0 : (List GValue)) (v1 : Int) : Nat → Int → Option (Int ⊕ Int)
  | 0, _ => none
  | m + 1, v2 =>
  if v2 < v1 then
   (zv v2).bind fun i2 =>
   (a0[i2]?).bind fun x3 =>
   (G_impl_Value_known_1 x3).bind fun r4 =>
   match r4 with
   | true =>
    some (.inl v2)
   | false =>
    zH G_impl_Value_known_1 a0 v1 m (w64 (v2 + 1))
  else
  some (.inr v2)
theorem kl (G_impl_Value_known_1 : GValue → Option Bool) (H_impl_Value_known_1 : wD G_impl_Value_known_1) (a0 : (List GValue)) (v1 : Int) (m : Nat) : ∀ (v2 : Int), Ol (zH G_impl_Value_known_1 a0 v1 m v2) 224 (zO Tryz.f224 0) ⟨[(0, vq zh a0), (1, .val false [.fn 204 []]), (7, vi v1), (8, vi v2)], [], 0⟩ fun o => match o with | .inl o_0 => (.ret, ⟨[(4, vi o_0)], [], 0⟩) | .inr (o_1) => (.exit 0, ⟨[(0, vq zh a0), (1, .val false [.fn 204 []]), (7, vi v1), (8, vi o_1), (9, vb false)], [], 0⟩) := by
  induction m with
  | zero => intro v2 o h; cases h
  | succ m ih => exact fun v2 => tlp (
   .lI v2 v1 (fun c1 =>
    .na v2 fun i2 =>
    .ix yp a0 i2 fun x3 =>
    .cl (H_impl_Value_known_1 x3) fun r4 =>
    .vM 0 r4 (
     .ret (.inl v2)) <|
    .go (ih (w64 (v2 + 1)))) fun c1 =>
   .ret (.inr v2))
def yw (G_impl_Value_known_1 : GValue → Option Bool) (n : Nat) (a0 : (List GValue)) : Option Int :=
 (zH G_impl_Value_known_1 a0 (a0.length : Int) n 0).bind fun o1 =>
 match o1 with
 | .inl o1_0 =>
  some o1_0
 | .inr (o1_1) =>
  some (-1)
theorem vu (G_impl_Value_known_1 : GValue → Option Bool) (H_impl_Value_known_1 : wD G_impl_Value_known_1) (n : Nat) : yv (yw G_impl_Value_known_1 n) := fun a0 => tc (
 .le zh a0 <|
 .l2 (kl G_impl_Value_known_1 H_impl_Value_known_1 a0 (a0.length : Int) n 0) (fun o1_0 =>
  .ret o1_0) fun o1_1 =>
 .ret (-1)) (zf Tryz.func224)
def yL (G_slices_IndexFunc_Value_Value_known_1 : (List GValue) → Option Int) (a0 : (List GValue)) : Option Bool :=
 (G_slices_IndexFunc_Value_Value_known_1 a0).bind fun r1 =>
 some (decide (0 <= r1))
theorem k8 (G_slices_IndexFunc_Value_Value_known_1 : (List GValue) → Option Int) (H_slices_IndexFunc_Value_Value_known_1 : yv G_slices_IndexFunc_Value_Value_known_1) : ym (yL G_slices_IndexFunc_Value_Value_known_1) := fun a0 => tc (
 .cl (H_slices_IndexFunc_Value_Value_known_1 a0) fun r1 =>
 .gD 0 r1 <|
 .ret (decide (0 <= r1))) (zf Tryz.func203)
def vZ (G_slices_ContainsFunc_Value_Value_known_1 : (List GValue) → Option Bool) (a0 : GValue) : Option Bool :=
 if a0.Kind = 6 then
  some false
 else
 (G_slices_ContainsFunc_Value_Value_known_1 a0.L).bind fun r2 =>
 some (!r2)
theorem Vn (G_slices_ContainsFunc_Value_Value_known_1 : (List GValue) → Option Bool) (H_slices_ContainsFunc_Value_Value_known_1 : ym G_slices_ContainsFunc_Value_Value_known_1) : jE (vZ G_slices_ContainsFunc_Value_Value_known_1) := fun a0 => tc (
 .eI a0.Kind 6 (fun c1 =>
  .ret false) fun c1 =>
 .cl (H_slices_ContainsFunc_Value_Value_known_1 a0.L) fun r2 =>
 .ret (!r2)) (zf Tryz.func176)
mutual
def y5 : Nat → GValue → Option Bool
 | 0, _ => none
 | n + 1, a0 => kN (yN n) a0
def zC : Nat → (List GValue) → Option Int
 | 0, _ => none
 | n + 1, a0 => yw (y5 n) n a0
def z6 : Nat → (List GValue) → Option Bool
 | 0, _ => none
 | n + 1, a0 => yL (zC n) a0
def yN : Nat → GValue → Option Bool
 | 0, _ => none
 | n + 1, a0 => vZ (z6 n) a0
end
theorem qq (n : Nat) : wD (y5 n) ∧ yv (zC n) ∧ ym (z6 n) ∧ jE (yN n) := by
 induction n with
 | zero => exact ⟨fun _ _ h => (by rw [y5] at h; cases h), fun _ _ h => (by rw [zC] at h; cases h), fun _ _ h => (by rw [z6] at h; cases h), fun _ _ h => (by rw [yN] at h; cases h)⟩
 | succ n ih =>
  obtain ⟨ih_impl_Value_known_1, ih_slices_IndexFunc_Value_Value_known_1, ih_slices_ContainsFunc_Value_Value_known_1, ih_impl_Value_known⟩ := ih
  exact ⟨fun a0 r h => J2 (yN n) ih_impl_Value_known a0 r (by rw [y5] at h; exact h),
   fun a0 r h => vu (y5 n) ih_impl_Value_known_1 n a0 r (by rw [zC] at h; exact h),
   fun a0 r h => k8 (zC n) ih_slices_IndexFunc_Value_Value_known_1 a0 r (by rw [z6] at h; exact h),
   fun a0 r h => Vn (z6 n) ih_slices_ContainsFunc_Value_Value_known_1 a0 r (by rw [yN] at h; exact h)⟩
def YE (a0 : GValue) : Option Bool := none
theorem WQ (a0 : GValue) (r : Bool) (h : YE a0 = some r) : ∃ n, y5 n a0 = some r := by cases h
def wR (a0 : (List GValue)) : Option Int := none
theorem k9 (a0 : (List GValue)) (r : Int) (h : wR a0 = some r) : ∃ n, zC n a0 = some r := by cases h
def w9 (a0 : (List GValue)) : Option Bool := none
theorem jM (a0 : (List GValue)) (r : Bool) (h : w9 a0 = some r) : ∃ n, z6 n a0 = some r := by cases h
theorem DF {G : GValue → Option Bool} {a : List GValue} {f : Nat} (ha : a.length <= 2 ^ 40) (hf : a.length < f) (hG : ∀ x ∈ a, G x = some (!knV x)) : ∃ r : Int, yw G f a = some r ∧ decide (0 <= r) = !(XL a) := by
 have loop : ∀ (l p : List GValue) (m : Nat), a = p ++ l → l.length < m → ∃ (q : Nat) (z : Int), zH G a (a.length : Int) m (p.length : Int) = some (if XL l = true then .inr z else .inl (q : Int)) := by
  intro l
  induction l with
  | nil =>
   intro p m he hm
   subst he
   obtain ⟨m, rfl, _⟩ := zg hm
   exact ⟨0, _, by rw [zH, if_neg (w4 p)]; rfl⟩
  | cons x l ih =>
   intro p m he hm
   obtain ⟨m, rfl, hm'⟩ := zg hm
   have hlen : a.length = p.length + (l.length + 1) := by rw [he]; simp
   rw [zH, if_pos (by omega), zd, Option.bind_some, show a[p.length]? = some x by rw [he]; exact zM p x l, Option.bind_some, hG x (by rw [he]; simp), Option.bind_some, yJ p x (by omega)]
   rw [show XL (x :: l) = (knV x && XL l) by simp only [XL]]
   by_cases hp : knV x = true
   ·obtain ⟨q, z, hz⟩ := ih (p ++ [x]) m (by rw [he]; simp) (by simp only [List.length_cons] at hm'; omega)
    exact ⟨q, z, by rw [hp, Bool.true_and]; exact hz⟩
   ·rw [Bool.eq_false_iff.2 hp]
    exact ⟨p.length, 0, rfl⟩
 obtain ⟨q, z, hz⟩ := loop a [] f rfl (by omega)
 simp only [List.length_nil, Int.natCast_zero] at hz
 unfold yw
 rw [hz, Option.bind_some]
 cases hp : XL a with
 | true => exact ⟨-1, rfl, rfl⟩
 | false => exact ⟨(q : Int), rfl, by simp⟩
theorem AZ : ∀ (N : Nat) (v : GValue), vsz v < N → vsz v <= 2 ^ 39 → ∀ f : Nat, 4 * vsz v + 5 <= f → yN f v = some (knV v) := by
 intro N
 induction N with
 | zero => intro v hv; omega
 | succ N ih =>
  intro v hv hs f hf
  have he := xT v
  have hl := yH v.L
  obtain ⟨f, rfl, _⟩ := zg (show 0 < f by omega)
  obtain ⟨f, rfl, _⟩ := zg (show 0 < f by omega)
  obtain ⟨f, rfl, _⟩ := zg (show 0 < f by omega)
  obtain ⟨f, rfl, _⟩ := zg (show 0 < f by omega)
  obtain ⟨r, hr, hd⟩ := DF (G := y5 (f + 1)) (a := v.L) (f := f + 1) (by omega) (by omega) (fun x hx => by
   have := wa hx
   rw [y5]
   unfold kN
   rw [ih x (by omega) (by omega) f (by omega), Option.bind_some])
  rw [yN]
  unfold vZ
  rw [z6]
  unfold yL
  rw [zC, hr, Option.bind_some, Option.bind_some, hd, E9]
  by_cases h6 : v.Kind = 6
  ·rw [if_pos h6, h6]; rfl
  ·rw [if_neg h6]; simp [h6]
def wr (a0 : GValue) : Option Bool := if vsz a0 <= 2 ^ 39 then some (knV a0) else none
theorem QQ (a0 : GValue) (r : Bool) (h : wr a0 = some r) : ∃ n, yN n a0 = some r := by
 unfold wr at h
 obtain ⟨ha, h⟩ := zE h
 exact ⟨4 * vsz a0 + 5, by rw [<- h]; exact AZ _ a0 (Nat.lt_succ_self _) ha _ (Nat.le_refl _)⟩
theorem NB : wD YE := by
 intro a0 r h
 obtain ⟨n, hn⟩ := WQ a0 r h
 exact (qq n).1 a0 r hn
theorem Kb : yv wR := by
 intro a0 r h
 obtain ⟨n, hn⟩ := k9 a0 r h
 exact (qq n).2.1 a0 r hn
theorem QR : ym w9 := by
 intro a0 r h
 obtain ⟨n, hn⟩ := jM a0 r h
 exact (qq n).2.2.1 a0 r hn
theorem Ko : jE wr := by
 intro a0 r h
 obtain ⟨n, hn⟩ := QQ a0 r h
 exact (qq n).2.2.2 a0 r hn
def yX (a0 : GValue) : Option Bool :=
 (YD a0).bind fun r1 =>
 match r1 with
 | true =>
  (wr a0).bind fun r2 =>
  some r2
 | false =>
  some false
theorem Za (a0 : GValue) : Oc (yX a0) 134 [] [.val true (zA a0)] fun r => (vb r, []) := tc (
 .cl (OP a0) fun r1 =>
 .vM 0 r1 (
  .az 0 0 <|
  .cl (Ko a0) fun r2 =>
  .az 0 1 <|
  .ret r2) <|
 .az 0 0 <|
 .az 0 0 <|
 .ret false) (zf Tryz.func134)
def Qs (F : (List (List UInt8)) → Option Bool) : Prop := ∀ (a0 : (List (List UInt8))), Oc (F a0) 135 [] [vq (zr za) a0] fun r => (vb r, [])
def xg (a0 : (List (List UInt8))) (v1 : Int) : Nat → Int → Option (Bool ⊕ Int)
  | 0, _ => none
  | m + 1, v2 =>
  if v2 < v1 then
   (zv v2).bind fun i2 =>
   (a0[i2]?).bind fun x3 =>
   (xl x3).bind fun r4 =>
   match r4 with
   | true =>
    if 0 < v2 then
     (zv (w64 (v2 - 1))).bind fun i6 =>
     (a0[i6]?).bind fun x7 =>
     (xI x7 x3).bind fun r8 =>
     if 0 <= r8 then
      some (.inl false)
     else
     xg a0 v1 m (w64 (v2 + 1))
    else
    xg a0 v1 m (w64 (v2 + 1))
   | false =>
    some (.inl false)
  else
  some (.inr v2)
theorem Kp (a0 : (List (List UInt8))) (v1 : Int) (m : Nat) : ∀ (v2 : Int), Ol (xg a0 v1 m v2) 135 (zO Tryz.f135 0) ⟨[(0, vq (zr za) a0), (5, vq (zr za) a0), (6, vi v1), (7, vi v2)], [], 0⟩ fun o => match o with | .inl o_0 => (.ret, ⟨[(2, vb o_0)], [], 0⟩) | .inr (o_1) => (.exit 0, ⟨[(0, vq (zr za) a0), (5, vq (zr za) a0), (6, vi v1), (7, vi o_1), (8, vb false)], [], 0⟩) := by
  induction m with
  | zero => intro v2 o h; cases h
  | succ m ih => exact fun v2 => tlp (
   .lI v2 v1 (fun c1 =>
    .na v2 fun i2 =>
    .ix0 (zr za) a0 i2 fun x3 =>
    .cl (qh x3) fun r4 =>
    .vN 0 r4 (
     .an 0 0 <|
     .lI 0 v2 (fun c5 =>
      .an 0 0 <|
      .na (w64 (v2 - 1)) fun i6 =>
      .ix0 (zr za) a0 i6 fun x7 =>
      .cl (kM x7 x3) fun r8 =>
      .gI 0 r8 (fun c9 =>
       .an 0 3 <|
       .an 1 3 <|
       .ret (.inl false)) fun c9 =>
      .an 0 3 <|
      .an 1 3 <|
      .go (ih (w64 (v2 + 1)))) fun c5 =>
     .an 0 0 <|
     .an 8 0 <|
     .an 1 0 <|
     .go (ih (w64 (v2 + 1)))) <|
    .an 0 0 <|
    .an 0 0 <|
    .an 0 0 <|
    .an 0 0 <|
    .ret (.inl false)) fun c1 =>
   .ret (.inr v2))
def YF (n : Nat) (a0 : (List (List UInt8))) : Option Bool :=
 (xg a0 (a0.length : Int) n 0).bind fun o1 =>
 match o1 with
 | .inl o1_0 =>
  some o1_0
 | .inr (o1_1) =>
  some (decide ((a0.length : Int) <= 8))
theorem Ur (n : Nat) : Qs (YF n) := fun a0 => tc (
 .le (zr za) a0 <|
 .l2 (Kp a0 (a0.length : Int) n 0) (fun o1_0 =>
  .ret o1_0) fun o1_1 =>
 .le (zr za) a0 <|
 .gD (a0.length : Int) 8 <|
 .ret (decide ((a0.length : Int) <= 8))) (zf Tryz.func135)
theorem Eh (c : UInt8) : ∀ b : List UInt8, Lib.indexByte b c = if b.dropWhile (fun x => decide (x ≠ c)) = [] then -1 else (((b.takeWhile fun x => decide (x ≠ c)).length : Nat) : Int)
 | [] => rfl
 | x :: b => by
  have ih := Eh c b
  rw [Lib.indexByte, List.dropWhile_cons, List.takeWhile_cons]
  by_cases h : x = c
  ·subst h; simp
  ·have hb : (x == c) = false := by simpa using h
   have hd : decide (x ≠ c) = true := decide_eq_true h
   rw [hb, if_neg (by simp), if_pos hd, if_pos hd, ih]
   by_cases hd : b.dropWhile (fun x => decide (x ≠ c)) = []
   ·rw [if_pos hd, if_pos hd]; rfl
   ·rw [if_neg hd, if_neg hd, if_neg (by simp), List.length_cons]; omega
theorem Ei (a : List UInt8) (c : UInt8) : kZ a [c] = some (Lib.indexByte a c) := by
 unfold kZ Z9 qn
 rw [if_neg (by simp), if_pos (by simp)]
 rfl
theorem zdl {a : List UInt8} (h : a.length <= 2 ^ 20) : Xw a [91] = some (vv a, (jN a).drop 1, decide (jN a ≠ [])) := by
 have hix : kZ a [91] = some (if jN a = [] then -1 else ((vv a).length : Int)) := by rw [Ei, Eh]; rfl
 unfold Xw
 have hlen := MN a
 by_cases hr : jN a = []
 ·have hn := UF a
  rw [hr, List.append_nil] at hn
  rw [hix, if_pos hr, Option.bind_some, if_neg (by omega), hr, hn]; rfl
 ·obtain ⟨t, ht⟩ := NS hr
  have e : w64 (((vv a).length : Int) + (([91] : List UInt8).length : Int)) = (((vv a).length + 1 : Nat) : Int) := by
   show w64 (((vv a).length : Int) + 1) = _
   exact zG (by omega)
  have hl2 := hlen
  rw [ht, List.length_cons] at hl2
  rw [hix, if_neg hr, Option.bind_some, if_pos (by omega), zd, Option.bind_some, UE (by omega), Option.bind_some, NQ, e, zd, Option.bind_some, JL (by omega), Option.bind_some, decide_eq_true hr, <- List.drop_drop, NR]
theorem zc2 (s : List UInt8) (c : UInt8) (h : s.length <= 2 ^ 20) : jS s [c] = some (decide (s.getLast? = some c)) := by
 unfold jS
 rw [show (([c] : List UInt8).length : Int) = 1 from rfl]
 rcases List.eq_nil_or_concat s with rfl | ⟨l, x, rfl⟩
 ·rw [if_neg (by simp)]; rfl
 ·simp only [List.concat_eq_append, List.length_append, List.length_cons, List.length_nil] at h ⊢
  rw [if_pos (by omega), show w64 (((l.length + (0 + 1) : Nat) : Int) - 1) = (l.length : Int) by rw [yj (by omega) (by omega)]; omega, zd, Option.bind_some, JL (by simp), Option.bind_some, List.drop_left]
  unfold xj
  rw [Option.bind_some, List.getLast?_concat]
  congr 1
  exact decide_eq_decide.2 (by simp)
theorem Vo (s : List UInt8) (c : UInt8) (h : s.length <= 2 ^ 20) : qM s [c] = some (if s.getLast? = some c then (s.dropLast, true) else (s, false)) := by
 unfold qM
 rw [zc2 s c h, Option.bind_some]
 by_cases hc : s.getLast? = some c
 ·rw [decide_eq_true hc, if_pos hc]
  dsimp only
  have h0 : 0 < s.length := by
   cases s with
   | nil => simp at hc
   | cons x s => simp
  rw [show (([c] : List UInt8).length : Int) = 1 from rfl, jL (by omega) h0, zd, Option.bind_some, UE (by omega), Option.bind_some, List.dropLast_eq_take]
 ·rw [decide_eq_false hc, if_neg hc]
theorem Ej (s : List UInt8) (c : UInt8) : jT s [c] = some (if s[0]? = some c then (s.drop 1, true) else (s, false)) := by
 unfold jT ZA xj
 rw [show (([c] : List UInt8).length : Int) = ((1 : Nat) : Int) from rfl]
 cases s with
 | nil => rw [if_neg (by simp)]; rfl
 | cons x s =>
  rw [if_pos (by simp; omega), zd, Option.bind_some, UE (by simp), Option.bind_some, Option.bind_some, Option.bind_some]
  show (match decide ([x] = [c]) with | true => _ | false => _) = _
  by_cases hc : x = c
  ·subst hc
   rw [decide_eq_true rfl]
   dsimp only
   rw [Option.bind_some, JL (by simp), Option.bind_some]
   simp
  ·rw [decide_eq_false (by simpa using hc), if_neg (by simpa using hc)]
theorem NC : ∀ n : Fin 100, kj ((n.val : Nat) : Int) = some (Q0 n.val) := by
 have h1 : ∀ n : Fin 100, jj ((n.val : Nat) : Int) = some (Q0 n.val) := by decide +kernel
 intro n
 unfold kj jv qg
 rw [if_pos rfl, if_pos (by omega), if_pos (by omega), h1]; rfl
theorem Ek : ∀ n : Fin 100, Lib.atoiAll (Q0 n.val) = .ok ((n.val : Nat) : Int) := by decide +kernel
theorem DG : ∀ n : Fin 100, JM (Q0 n.val) = true := by decide +kernel
theorem El {l : List UInt8} (h : JM l = true) : ∃ n : Fin 100, l = Q0 n.val := by
 unfold JM at h
 simp only [Bool.and_eq_true, Bool.not_eq_true', decide_eq_true_eq] at h
 obtain ⟨⟨⟨h1, h2⟩, h3⟩, h4⟩ := h
 match l, h1, h2 with
 | [x], _, _ =>
  simp only [List.all_cons, List.all_nil, Bool.and_true, inB, Bool.and_eq_true, decide_eq_true_eq] at h4
  refine ⟨⟨x.toNat - 48, by omega⟩, ?_⟩
  unfold Q0
  rw [if_pos (by simp only; omega)]
  simp only [List.cons.injEq, and_true]
  refine UInt8.toNat_inj.1 ?_
  rw [UInt8.toNat_ofNat_of_lt' (by show _ < 256; omega)]; omega
 | [x, y], _, _ =>
  simp only [List.all_cons, List.all_nil, Bool.and_true, inB, Bool.and_eq_true, decide_eq_true_eq] at h4
  have hx : x.toNat ≠ 48 := fun e => by
   have : x = 48 := UInt8.toNat_inj.1 e
   subst this
   simp at h3
  refine ⟨⟨(x.toNat - 48) * 10 + (y.toNat - 48), by omega⟩, ?_⟩
  unfold Q0
  rw [if_neg (by simp only; omega)]
  simp only [List.cons.injEq, and_true]
  constructor
  ·refine UInt8.toNat_inj.1 ?_
   rw [UInt8.toNat_ofNat_of_lt' (by show _ < 256; omega)]; omega
  ·refine UInt8.toNat_inj.1 ?_
   rw [UInt8.toNat_ofNat_of_lt' (by show _ < 256; omega)]; omega
theorem ND {a : List UInt8} (h : a.length <= 2 ^ 20) : wO a = some (jG a) := if_pos h
theorem GL {l : List UInt8} (hl : l.length <= 2 ^ 20) : ((jc l).bind fun ⟨n, e⟩ =>
  match e with
  | true => some false
  | false => (y4 n 0 99).bind fun r13 =>
   match r13 with
   | true => (kj n).bind fun r15 => some (decide (r15 = l))
   | false => some false) = some (JM l) := by
 unfold jc
 rw [if_pos (by omega), Option.bind_some]
 cases hd : JM l with
 | true =>
  obtain ⟨n, rfl⟩ := El hd
  have hr : y3 (Q0 n.val) = (((n.val : Nat) : Int), false) := by unfold y3; rw [Ek n]
  have hn := n.isLt
  rw [hr]
  dsimp only
  rw [Wk, Option.bind_some, decide_eq_true (show (0 : Int) <= ((n.val : Nat) : Int) ∧ ((n.val : Nat) : Int) <= 99 by omega)]
  dsimp only
  rw [NC n, Option.bind_some, decide_eq_true rfl]
 | false =>
  obtain ⟨n, e⟩ := y3 l
  cases e with
  | true => rfl
  | false =>
   dsimp only
   rw [Wk, Option.bind_some]
   by_cases hn : (0 : Int) <= n ∧ n <= 99
   ·rw [decide_eq_true hn]
    dsimp only
    have := NC ⟨n.toNat, by omega⟩
    rw [show (((⟨n.toNat, by omega⟩ : Fin 100).val : Nat) : Int) = n by simp only; omega] at this
    rw [this, Option.bind_some]
    congr 1
    refine decide_eq_false fun e => ?_
    rw [<- e, DG] at hd; cases hd
   ·rw [decide_eq_false hn]
theorem Zb {a : List UInt8} (h : a.length <= 2 ^ 20) : xl a = some (yb a) := by
 unfold xl
 have hlen := MN a
 rw [zdl h, Option.bind_some]
 dsimp only
 rw [ND (by omega), Option.bind_some]
 unfold yb
 cases hn : jG (vv a) with
 | false => rfl
 | true =>
  dsimp only
  by_cases hr : jN a = []
  ·rw [decide_eq_false (fun h => h hr), if_pos hr]; rfl
  rw [decide_eq_true hr, if_neg hr]
  dsimp only
  have ht : ((jN a).drop 1).length <= 2 ^ 20 := by rw [List.length_drop]; omega
  generalize (jN a).drop 1 = t at ht ⊢
  rw [Vo t 93 ht, Option.bind_some]
  by_cases h93 : t.getLast? = some 93
  ·rw [if_pos h93, if_pos h93]
   dsimp only
   have hl : t.dropLast.length <= 2 ^ 20 := by rw [List.length_dropLast]; omega
   generalize t.dropLast = l at hl ⊢
   rw [Ej, Option.bind_some]
   unfold GV
   by_cases h34 : l[0]? = some 34
   ·rw [if_pos h34, if_pos h34]
    dsimp only
    rw [Vo _ 34 (by rw [List.length_drop]; omega), Option.bind_some]
    by_cases h2 : (l.drop 1).getLast? = some 34
    ·rw [if_pos h2, if_pos h2]
     dsimp only
     rw [ND (by rw [List.length_dropLast, List.length_drop]; omega), Option.bind_some]; rfl
    ·rw [if_neg h2, if_neg h2]; rfl
   ·rw [if_neg h34, if_neg h34]
    dsimp only
    rw [Vo _ 34 hl, Option.bind_some]
    by_cases h2 : l.getLast? = some 34
    ·rw [if_pos h2]
     dsimp only
     have hd : JM l = false := by
      unfold JM
      have : l.all (inB 48 57) = false := by
       rcases List.eq_nil_or_concat l with rfl | ⟨k, x, rfl⟩
       ·simp at h2
       ·rw [List.concat_eq_append, List.getLast?_concat] at h2
        injection h2 with h2
        subst h2
        simp [inB]
      rw [this, Bool.and_false]
     rw [hd]; rfl
    ·rw [if_neg h2]
     dsimp only
     exact GL hl
  ·rw [if_neg h93, if_neg h93]
   dsimp only
   rw [Ej, Option.bind_some]
   by_cases h34 : t[0]? = some 34
   ·rw [if_pos h34]
    dsimp only
    rw [Vo _ 34 (by rw [List.length_drop]; omega), Option.bind_some]
    rfl
   ·rw [if_neg h34]
    dsimp only
    rw [Vo _ 34 ht, Option.bind_some]
    by_cases h2 : t.getLast? = some 34
    ·rw [if_pos h2]; rfl
    ·rw [if_neg h2]
     dsimp only
     unfold jc
     rw [if_pos (by omega), Option.bind_some]
     obtain ⟨n, e⟩ := y3 t
     cases e <;> rfl
theorem OQ {a : List (List UInt8)} (hs : ∀ x ∈ a, x.length <= 2 ^ 20) (ha : a.length <= 2 ^ 40) : ∀ (d i m : Nat), i + d = a.length → d < m → ∃ z, xg a (a.length : Int) m (i : Int) = some (if kz yb id a i d = true then .inr z else .inl false) := by
 intro d
 induction d with
 | zero =>
  intro i m hi hm
  obtain ⟨m, rfl, _⟩ := zg hm
  exact ⟨_, by rw [xg, if_neg (by omega)]; rfl⟩
 | succ d ih =>
  intro i m hi hm
  obtain ⟨m, rfl, hm'⟩ := zg hm
  have hil : i < a.length := by omega
  rw [xg, if_pos (by omega), zd, Option.bind_some, zl hil, Option.bind_some, Zb (hs _ (List.getElem_mem hil)), Option.bind_some, Q1]
  obtain ⟨z, hz⟩ := ih (i + 1) m (by omega) (by omega)
  cases hx : yb a[i] with
  | false =>
   refine ⟨0, ?_⟩
   have : gOk yb id a i = false := by
    unfold gOk; rw [zl hil]; simp [hx]
   rw [this]; rfl
  | true =>
   dsimp only
   by_cases h0 : 0 < i
   ·rw [if_pos (by omega), jL (by omega) h0, zd, Option.bind_some, zl (show i - 1 < a.length by omega), Option.bind_some, V6 hil h0, hx, Bool.true_and, zG (by omega), hz]
    unfold xI xX
    simp only [Option.bind_some]
    by_cases hl : Op.bytesLess a[i - 1] a[i] = true
    ·rw [if_neg (by rw [Xm]; exact fun h => h hl), show Op.bytesLess (id a[i - 1]) (id a[i]) = true from hl, Bool.true_and]; exact ⟨z, rfl⟩
    ·rw [if_pos (by rw [Xm]; exact hl), show Op.bytesLess (id a[i - 1]) (id a[i]) = false from Bool.eq_false_iff.2 hl]; exact ⟨z, rfl⟩
   ·obtain rfl : i = 0 := by omega
    rw [if_neg (by omega), JN hil, hx, Bool.true_and, zG (by omega), hz]
    exact ⟨z, rfl⟩
def xK (a0 : (List (List UInt8))) : Option Bool := if bsz a0 <= 2 ^ 20 then some (jH a0) else none
theorem Vp (a0 : (List (List UInt8))) (r : Bool) (h : xK a0 = some r) : ∃ n, YF n a0 = some r := by
 unfold xK at h
 obtain ⟨ha, h⟩ := zE h
 have hl := qk a0
 obtain ⟨z, hz⟩ := OQ (a := a0) (fun x hx => by have := Z6 hx; omega) (by omega) a0.length 0 (a0.length + 1) (by omega) (by omega)
 refine ⟨a0.length + 1, ?_⟩
 unfold YF
 rw [show ((0 : Nat) : Int) = 0 from rfl] at hz
 rw [<- h, hz, Option.bind_some]
 unfold jH
 cases kz yb id a0 0 a0.length
 ·rw [Bool.and_false]; rfl
 ·rw [Bool.and_true]
  show some (decide ((a0.length : Int) <= 8)) = _
  congr 1
  exact decide_eq_decide.2 (by omega)
theorem Yc : Qs xK := fun a0 r h => (Vp a0 r h).elim fun n hn => Ur n a0 r hn
def qr (a0 : GEntry) (a1 : (List UInt8)) : Option Int :=
 (xI a0.Addr a1).bind fun r1 =>
 some r1
theorem Z7 (a0 : GEntry) (a1 : (List UInt8)) : Oc (qr a0 a1) 163 [] [.val true (jp a0), vq za a1] fun r => (vi r, []) := tc (
 .cl (kM a0.Addr a1) fun r1 =>
 .ret r1) (zf Tryz.func163)
def xw (F : (List GEntry) → (List UInt8) → Option (Int × Bool)) : Prop := ∀ (a0 : (List GEntry)) (a1 : (List UInt8)), Oc (F a0 a1) 162 [] [vq zj a0, vq za a1, .val false [.fn 163 []]] fun r => (.tup [(false, [ci r.1]), (false, [.bool r.2])], [])
def zb (a0 : (List GEntry)) (a1 : (List UInt8)) (v2 : Int) : Nat → Int → Int → Option (Int × Int)
  | 0, _, _ => none
  | m + 1, v3, v4 =>
  if v3 < v4 then
   (zv (w64 (Wy .shr .u64 (IntKind.u64.wrap (w64 (v3 + v4))) 1))).bind fun i2 =>
   (a0[i2]?).bind fun x3 =>
   (qr x3 a1).bind fun r4 =>
   if r4 < 0 then
    zb a0 a1 v2 m (w64 ((w64 (Wy .shr .u64 (IntKind.u64.wrap (w64 (v3 + v4))) 1)) + 1)) v4
   else
   zb a0 a1 v2 m v3 (w64 (Wy .shr .u64 (IntKind.u64.wrap (w64 (v3 + v4))) 1))
  else
  some (v3, v4)
theorem qV (a0 : (List GEntry)) (a1 : (List UInt8)) (v2 : Int) (m : Nat) : ∀ (v3 : Int) (v4 : Int), Ol (zb a0 a1 v2 m v3 v4) 162 (zO Tryz.f162 0) ⟨[(0, vq zj a0), (1, vq za a1), (2, .val false [.fn 163 []]), (8, vi v2), (9, vi v3), (10, vi v4)], [], 0⟩ fun o => match o with | ⟨o_0, o_1⟩ => (.exit 0, ⟨[(0, vq zj a0), (1, vq za a1), (2, .val false [.fn 163 []]), (8, vi v2), (9, vi o_0), (10, vi o_1), (17, vb false)], [], 0⟩) := by
  induction m with
  | zero => intro v3 v4 o h; cases h
  | succ m ih => exact fun v3 v4 => tlp (
   .lI v3 v4 (fun c1 =>
    .q (.gTo 0 1 (by decide)) <|
    .cw (Wy .shr .u64 (IntKind.u64.wrap (w64 (v3 + v4))) 1) <|
    .na (w64 (Wy .shr .u64 (IntKind.u64.wrap (w64 (v3 + v4))) 1)) fun i2 =>
    .ix zT a0 i2 fun x3 =>
    .cl (Z7 x3 a1) fun r4 =>
    .lI r4 0 (fun c5 =>
     .go (ih (w64 ((w64 (Wy .shr .u64 (IntKind.u64.wrap (w64 (v3 + v4))) 1)) + 1)) v4)) fun c5 =>
    .go (ih v3 (w64 (Wy .shr .u64 (IntKind.u64.wrap (w64 (v3 + v4))) 1)))) fun c1 =>
   .ret (v3, v4))
def zN (n : Nat) (a0 : (List GEntry)) (a1 : (List UInt8)) : Option (Int × Bool) :=
 (zb a0 a1 (a0.length : Int) n 0 (a0.length : Int)).bind fun ⟨o1_0, o1_1⟩ =>
 if o1_0 < (a0.length : Int) then
  (zv o1_0).bind fun i3 =>
  (a0[i3]?).bind fun x4 =>
  (qr x4 a1).bind fun r5 =>
  some (o1_0, (decide (r5 = 0)))
 else
 some (o1_0, false)
theorem jw (n : Nat) : xw (zN n) := fun a0 a1 => tc (
 .le zj a0 <|
 .lp (qV a0 a1 (a0.length : Int) n 0 (a0.length : Int)) fun ⟨o1_0, o1_1⟩ =>
 .lI o1_0 (a0.length : Int) (fun c2 =>
  .na o1_0 fun i3 =>
  .ix zT a0 i3 fun x4 =>
  .cl (Z7 x4 a1) fun r5 =>
  .eD r5 0 <|
  .ret (o1_0, (decide (r5 = 0)))) fun c2 =>
 .ret (o1_0, false)) (zf Tryz.func162)
theorem VL (e : GEntry) (x : List UInt8) : qr e x = some (Lib.compareBytes e.Addr x) := rfl
theorem zaa {a : List GEntry} {x : List UInt8} {v2 : Int} (ha : a.length <= 2 ^ 40) : ∀ (d i j m : Nat), j - i <= d → i <= j → j <= a.length → d < m → ∃ c c' : Nat, c <= a.length ∧ zb a x v2 m (i : Int) (j : Int) = some ((c : Int), (c' : Int)) := by
 intro d
 induction d with
 | zero =>
  intro i j m hd h1 h3 hm
  obtain ⟨m, rfl, _⟩ := zg hm
  exact ⟨i, j, by omega, by rw [zb, if_neg (by omega)]⟩
 | succ d ih =>
  intro i j m hd h1 h3 hm
  obtain ⟨m, rfl, hm'⟩ := zg hm
  by_cases hij : i < j
  ·have hk : (i + j) / 2 < a.length := by omega
   rw [zb, if_pos (by omega), E8 (by omega), zd, Option.bind_some, zl hk, Option.bind_some, VL, Option.bind_some]
   split
   ·rw [zG (by omega)]
    exact ih _ _ m (by omega) (by omega) h3 (by omega)
   ·exact ih _ _ m (by omega) (by omega) (by omega) (by omega)
  ·exact ⟨i, j, by omega, by rw [zb, if_neg (by omega)]⟩
theorem DH {a : List GEntry} {x : List UInt8} {c : Nat} {v2 : Int} (hp : ku (a.map GEntry.Addr) x c) (ha : a.length <= 2 ^ 40) : ∀ (d i j m : Nat), j - i <= d → i <= c → c <= j → j <= a.length → d < m → zb a x v2 m (i : Int) (j : Int) = some ((c : Int), (c : Int)) := by
 intro d
 induction d with
 | zero =>
  intro i j m hd h1 h2 h3 hm
  obtain ⟨m, rfl, _⟩ := zg hm
  rw [zb, if_neg (by omega), show i = c by omega, show j = c by omega]
 | succ d ih =>
  intro i j m hd h1 h2 h3 hm
  obtain ⟨m, rfl, hm'⟩ := zg hm
  by_cases hij : i < j
  ·have hk : (i + j) / 2 < a.length := by omega
   rw [zb, if_pos (by omega), E8 (by omega), zd, Option.bind_some, zl hk, Option.bind_some, VL, Option.bind_some]
   have hq := hp.2 ((i + j) / 2) (by rw [List.length_map]; exact hk)
   rw [List.getElem_map] at hq
   by_cases hl : Op.bytesLess a[(i + j) / 2].Addr x = true
   ·rw [if_pos (by rw [NL]; exact hl), zG (by omega)]
    have := hq.2 hl
    exact ih _ _ m (by omega) (by omega) h2 h3 (by omega)
   ·rw [if_neg (by rw [NL]; exact hl)]
    have : ¬ (i + j) / 2 < c := fun h => hl (hq.1 h)
    exact ih _ _ m (by omega) h1 (by omega) (by omega) (by omega)
  ·rw [zb, if_neg (by omega), show i = c by omega, show j = c by omega]
def zu (a0 : (List GEntry)) (a1 : (List UInt8)) : Option (Int × Bool) := zN (a0.length + 5) a0 a1
theorem jb (a0 : (List GEntry)) (a1 : (List UInt8)) (r : (Int × Bool)) (h : zu a0 a1 = some r) : ∃ n, zN n a0 a1 = some r := ⟨_, h⟩
theorem zdy {a : List GEntry} {x : List UInt8} (ha : a.length <= 2 ^ 40) : ∃ (c : Nat) (b : Bool), zu a x = some ((c : Int), b) := by
 unfold zu zN
 obtain ⟨c, c', hc, hl⟩ := zaa (x := x) (v2 := (a.length : Int)) ha a.length 0 a.length (a.length + 5) (by omega) (by omega) (Nat.le_refl _) (by omega)
 rw [show ((0 : Nat) : Int) = 0 from rfl] at hl
 rw [hl, Option.bind_some]
 dsimp only
 by_cases h : c < a.length
 ·rw [if_pos (by omega), zd, Option.bind_some, zl h, Option.bind_some, VL, Option.bind_some]
  exact ⟨c, _, rfl⟩
 ·rw [if_neg (by omega)]
  exact ⟨c, _, rfl⟩
theorem Yd {l : List GEntry} {a : List UInt8} : yK l a = true ↔ a ∈ l.map GEntry.Addr := by
 unfold yK
 rw [List.any_eq_true, List.mem_map]
 constructor
 ·rintro ⟨e, he, h⟩; exact ⟨e, he, of_decide_eq_true h⟩
 ·rintro ⟨e, he, rfl⟩; exact ⟨e, he, decide_eq_true rfl⟩
theorem Em {a : List GEntry} {x : List UInt8} (ha : a.length <= 2 ^ 40) (h : Asc (a.map GEntry.Addr)) : ∃ c : Nat, ku (a.map GEntry.Addr) x c ∧ zu a x = some ((c : Int), yK a x) := by
 obtain ⟨c, hp⟩ := ku.of h x
 refine ⟨c, hp, ?_⟩
 have hm := ku.mem h hp
 have hcl : c <= a.length := by have := hp.1; rwa [List.length_map] at this
 unfold zu zN
 have hl := DH (v2 := (a.length : Int)) hp ha a.length 0 a.length (a.length + 5) (by omega) (by omega) hcl (Nat.le_refl _) (by omega)
 rw [show ((0 : Nat) : Int) = 0 from rfl] at hl
 rw [hl, Option.bind_some]
 dsimp only
 have hb : yK a x = decide ((a.map GEntry.Addr)[c]? = some x) := by
  cases hx : yK a x with
  | true => exact (decide_eq_true (hm.2 (Yd.1 hx))).symm
  | false => exact (decide_eq_false fun h' => by rw [Yd.2 (hm.1 h')] at hx; cases hx).symm
 rw [hb, List.getElem?_map]
 by_cases hc : c < a.length
 ·rw [if_pos (by omega), zd, Option.bind_some, zl hc, Option.bind_some, VL, Option.bind_some]
  congr 2
  exact decide_eq_decide.2 ((MJ _ _).trans (by simp))
 ·rw [if_neg (by omega), List.getElem?_eq_none (by omega)]
  simp
theorem ju : xw zu := fun a0 a1 r h => (jb a0 a1 r h).elim fun n hn => jw n a0 a1 r hn
def ye (a0 : GState) (a1 : (List UInt8)) : Option (Int × Bool) :=
 (zu a0.Entries a1).bind fun ⟨r1_0, r1_1⟩ =>
 some (r1_0, r1_1)
theorem qE (a0 : GState) (a1 : (List UInt8)) : Oc (ye a0 a1) 118 [] [.val true (zV a0), vq za a1] fun r => (.tup [(false, [ci r.1]), (false, [.bool r.2])], []) := tc (
 .cl (ju a0.Entries a1) fun ⟨r1_0, r1_1⟩ =>
 .ret (r1_0, r1_1)) (zf Tryz.func118)
def QS (F : GState → Option Bool) : Prop := ∀ (a0 : GState), Oc (F a0) 78 [] [.val true (zV a0)] fun r => (vb r, [])
def xz (v0 : (List GEntry)) (v1 : Int) (a0 : GState) : Nat → Int → Option (Bool ⊕ Int)
  | 0, _ => none
  | m + 1, v2 =>
  if v2 < v1 then
   (zv v2).bind fun i2 =>
   (v0[i2]?).bind fun x3 =>
   (xl x3.Addr).bind fun r4 =>
   match r4 with
   | true =>
    if 0 < v2 then
     (zv (w64 (v2 - 1))).bind fun i6 =>
     (a0.Entries[i6]?).bind fun x7 =>
     (xI x7.Addr x3.Addr).bind fun r8 =>
     if 0 <= r8 then
      some (.inl false)
     else
     (yX x3.Val).bind fun r10 =>
     match r10 with
     | true =>
      (xK x3.Deps).bind fun r11 =>
      match r11 with
      | true =>
       (y4 x3.Turned 1 a0.Serial).bind fun r12 =>
       match r12 with
       | true =>
        xz v0 v1 a0 m (w64 (v2 + 1))
       | false =>
        some (.inl false)
      | false =>
       some (.inl false)
     | false =>
      some (.inl false)
    else
    (yX x3.Val).bind fun r6 =>
    match r6 with
    | true =>
     (xK x3.Deps).bind fun r7 =>
     match r7 with
     | true =>
      (y4 x3.Turned 1 a0.Serial).bind fun r8 =>
      match r8 with
      | true =>
       xz v0 v1 a0 m (w64 (v2 + 1))
      | false =>
       some (.inl false)
     | false =>
      some (.inl false)
    | false =>
     some (.inl false)
   | false =>
    some (.inl false)
  else
  some (.inr v2)
theorem Vq (v0 : (List GEntry)) (v1 : Int) (a0 : GState) (m : Nat) : ∀ (v2 : Int), Ol (xz v0 v1 a0 m v2) 78 (zO Tryz.f78 0) ⟨[(1, vp 0 0), (18, vq zj v0), (19, vi v1), (20, vi v2)], [.var (zV a0)], 0⟩ fun o => match o with | .inl o_0 => (.ret, ⟨[(2, vb o_0)], [], 0⟩) | .inr (o_1) => (.exit 0, ⟨[(1, vp 0 0), (18, vq zj v0), (19, vi v1), (20, vi o_1), (21, vb false)], [.var (zV a0)], 0⟩) := by
  induction m with
  | zero => intro v2 o h; cases h
  | succ m ih => exact fun v2 => tlp (
   .lI v2 v1 (fun c1 =>
    .na v2 fun i2 =>
    .ix zT v0 i2 fun x3 =>
    .cl (qh x3.Addr) fun r4 =>
    .vN 0 r4 (
     .an 0 0 <|
     .lI 0 v2 (fun c5 =>
      .an 0 0 <|
      .na (w64 (v2 - 1)) fun i6 =>
      .ix zT a0.Entries i6 fun x7 =>
      .cl (kM x7.Addr x3.Addr) fun r8 =>
      .gI 0 r8 (fun c9 =>
       .an 0 3 <|
       .an 1 3 <|
       .ret (.inl false)) fun c9 =>
      .an 0 3 <|
      .an 1 3 <|
      .cl (Za x3.Val) fun r10 =>
      .vN 2 r10 (
       .an 0 0 <|
       .an 0 0 <|
       .cl (Yc x3.Deps) fun r11 =>
       .an 0 1 <|
       .an 0 1 <|
       .vN 0 r11 (
        .an 0 0 <|
        .an 0 0 <|
        .an 0 0 <|
        .an 0 0 <|
        .cl (wC x3.Turned 1 a0.Serial) fun r12 =>
        .an 0 1 <|
        .an 0 1 <|
        .vN 0 r12 (
         .go (ih (w64 (v2 + 1)))) <|
        .ret (.inl false)) <|
       .an 0 0 <|
       .an 0 0 <|
       .an 0 0 <|
       .an 0 0 <|
       .an 0 0 <|
       .an 0 0 <|
       .ret (.inl false)) <|
      .an 0 0 <|
      .an 0 0 <|
      .an 0 0 <|
      .an 0 0 <|
      .ret (.inl false)) fun c5 =>
     .an 0 0 <|
     .an 11 0 <|
     .an 1 0 <|
     .cl (Za x3.Val) fun r6 =>
     .vN 2 r6 (
      .an 0 0 <|
      .an 0 0 <|
      .cl (Yc x3.Deps) fun r7 =>
      .an 0 1 <|
      .an 0 1 <|
      .vN 0 r7 (
       .an 0 0 <|
       .an 0 0 <|
       .an 0 0 <|
       .an 0 0 <|
       .cl (wC x3.Turned 1 a0.Serial) fun r8 =>
       .an 0 1 <|
       .an 0 1 <|
       .vN 0 r8 (
        .go (ih (w64 (v2 + 1)))) <|
       .ret (.inl false)) <|
      .an 0 0 <|
      .an 0 0 <|
      .an 0 0 <|
      .an 0 0 <|
      .an 0 0 <|
      .an 0 0 <|
      .ret (.inl false)) <|
     .an 0 0 <|
     .an 0 0 <|
     .an 0 0 <|
     .an 0 0 <|
     .ret (.inl false)) <|
    .an 0 0 <|
    .an 0 0 <|
    .an 0 0 <|
    .an 0 0 <|
    .ret (.inl false)) fun c1 =>
   .ret (.inr v2))
def Z1 (n : Nat) (a0 : GState) : Option Bool :=
 (y4 a0.Serial 0 1000000).bind fun r1 =>
 match r1 with
 | true =>
  if 16 < (a0.Entries.length : Int) then
   some false
  else
  (xz a0.Entries (a0.Entries.length : Int) a0 n 0).bind fun o3 =>
  match o3 with
  | .inl o3_0 =>
   some o3_0
  | .inr (o3_1) =>
   if (a0.Pending.length : Int) = 0 then
    some (decide (a0.Act = 0))
   else
   (ye a0 a0.Pending).bind fun ⟨r5_0, r5_1⟩ =>
   match a0.Open with
   | true =>
    (xl a0.Pending).bind fun r6 =>
    match r6 with
    | true =>
     (y4 a0.Act 1 4).bind fun r7 =>
     match r7 with
     | true =>
      if r5_1 = true then
       if a0.Act = 1 then
        some false
       else
       some true
      else
      if a0.Act = 1 then
       some true
      else
      some false
     | false =>
      some false
    | false =>
     some false
   | false =>
    some false
 | false =>
  some false
theorem P6 (n : Nat) : QS (Z1 n) := fun a0 => tc (
 .cl (wC a0.Serial 0 1000000) fun r1 =>
 .vN 0 r1 (
  .an 0 0 <|
  .an 0 0 <|
  .le zj a0.Entries <|
  .an 0 0 <|
  .lI 16 (a0.Entries.length : Int) (fun c2 =>
   .an 0 0 <|
   .ret false) fun c2 =>
  .an 0 0 <|
  .le zj a0.Entries <|
  .l2 (Vq a0.Entries (a0.Entries.length : Int) a0 n 0) (fun o3_0 =>
   .ret o3_0) fun o3_1 =>
  .le za a0.Pending <|
  .eI (a0.Pending.length : Int) 0 (fun c4 =>
   .eD a0.Act 0 <|
   .ret (decide (a0.Act = 0))) fun c4 =>
  .cl (qE a0 a0.Pending) fun ⟨r5_0, r5_1⟩ =>
  .vM 0 a0.Open (
   .az 0 0 <|
   .az 0 0 <|
   .cl (qh a0.Pending) fun r6 =>
   .az 0 1 <|
   .vM 0 r6 (
    .az 0 0 <|
    .az 0 0 <|
    .cl (wC a0.Act 1 4) fun r7 =>
    .az 0 1 <|
    .vM 0 r7 (
     .az 0 0 <|
     .az 0 0 <|
     .az 0 0 <|
     .eD a0.Act 1 <|
     .az 0 0 <|
     .sp (r5_1 = true) (fun c8 =>
      .sp (a0.Act = 1) (fun c9 =>
       .eb c8 (nT (dT c9)) <|
       .az 0 0 <|
       .ret false) fun c9 =>
      .eb c8 (nF (dF c9)) <|
      .az 0 0 <|
      .ret true) fun c8 =>
     .sp (a0.Act = 1) (fun c9 =>
      .eb (bF c8) (nT (dT c9)) <|
      .az 0 0 <|
      .ret true) fun c9 =>
     .eb (bF c8) (nF (dF c9)) <|
     .az 0 0 <|
     .ret false) <|
    .az 0 0 <|
    .az 0 0 <|
    .az 0 0 <|
    .az 0 0 <|
    .az 0 0 <|
    .ret false) <|
   .az 0 0 <|
   .az 0 0 <|
   .az 0 0 <|
   .ret false) <|
  .az 0 0 <|
  .az 0 0 <|
  .az 0 0 <|
  .ret false) <|
 .an 0 0 <|
 .an 0 0 <|
 .an 0 0 <|
 .an 0 0 <|
 .ret false) (zf Tryz.func78)
theorem zdm {v : GValue} (h : vsz v <= 2 ^ 20) : ja v = some (ZL v) := by
 unfold ja qD wq ZL
 rw [if_pos ⟨h, by decide, by decide⟩, Option.bind_some]
 rw [show (5 : Int).toNat = 5 from rfl]
 cases hs : shV 5 v
 ·simp
 ·dsimp only
  rw [if_pos h, Option.bind_some]
  simp
theorem En {v : GValue} (h : vsz v <= 2 ^ 20) : yX v = some (jV v) := by
 unfold yX YD jV
 by_cases h5 : v.Kind = 5
 ·rw [if_pos h5, zdm h, Option.bind_some, decide_eq_true h5, Bool.true_and]
  cases hv : ZL v with
  | false => rfl
  | true =>
   simp only [Bool.true_and]
   unfold wr
   rw [if_pos (by omega)]; rfl
 ·rw [if_neg h5, decide_eq_false h5]; rfl
theorem GM {l : List (List UInt8)} (h : bsz l <= 2 ^ 20) : xK l = some (jH l) := if_pos h
theorem Mx {s : GState} (hs : zY s.Entries <= 2 ^ 20) : ∀ (d i m : Nat), i + d = s.Entries.length → d < m → ∃ z, xz s.Entries (s.Entries.length : Int) s m (i : Int) = some (if kz (WO s.Serial) GEntry.Addr s.Entries i d = true then .inr z else .inl false) := by
 have hlen := ql s.Entries
 intro d
 induction d with
 | zero =>
  intro i m hi hm
  obtain ⟨m, rfl, _⟩ := zg hm
  exact ⟨_, by rw [xz, if_neg (by omega)]; rfl⟩
 | succ d ih =>
  intro i m hi hm
  obtain ⟨m, rfl, hm'⟩ := zg hm
  have hil : i < s.Entries.length := by omega
  have hz0 := Xn (List.getElem_mem hil)
  obtain ⟨z, hz⟩ := ih (i + 1) m (by omega) (by omega)
  rw [xz, if_pos (by omega), zd, Option.bind_some, zl hil, Option.bind_some, Q1]
  unfold esz at hz0
  rw [Zb (by omega), Option.bind_some, En (by omega), Option.bind_some, GM (by omega), Option.bind_some, Wk, Option.bind_some, zG (by omega), hz]
  generalize kz _ GEntry.Addr s.Entries (i + 1) d = g
  by_cases h0 : 0 < i
  ·rw [V6 hil h0]
   unfold WO
   cases yb s.Entries[i].Addr with
   | false => exact ⟨0, rfl⟩
   | true =>
    dsimp only
    rw [if_pos (by omega), jL (by omega) h0, zd, Option.bind_some, zl (show i - 1 < s.Entries.length by omega), Option.bind_some]
    unfold xI xX
    simp only [Option.bind_some]
    have hc := Xm s.Entries[i - 1].Addr s.Entries[i].Addr
    generalize Lib.compareBytes s.Entries[i - 1].Addr s.Entries[i].Addr = q at hc ⊢
    generalize Op.bytesLess s.Entries[i - 1].Addr s.Entries[i].Addr = b at hc ⊢
    refine ⟨z, ?_⟩
    cases b with
    | true =>
     rw [if_neg (by rw [hc]; exact fun h => h rfl)]
     cases jV s.Entries[i].Val <;> cases jH s.Entries[i].Deps <;> cases decide (1 <= s.Entries[i].Turned ∧ s.Entries[i].Turned <= s.Serial) <;> simp
    | false =>
     rw [if_pos (by rw [hc]; simp)]
     simp
  ·obtain rfl : i = 0 := by omega
   rw [JN hil]
   unfold WO
   cases yb s.Entries[0].Addr with
   | false => exact ⟨0, rfl⟩
   | true =>
    dsimp only
    rw [if_neg (by omega)]
    refine ⟨z, ?_⟩
    cases jV s.Entries[0].Val <;> cases jH s.Entries[0].Deps <;> cases decide (1 <= s.Entries[0].Turned ∧ s.Entries[0].Turned <= s.Serial) <;> simp
def km (a0 : GState) : Option Bool := if ssz a0 <= 2 ^ 20 then some (stB a0) else none
theorem Eo {s : GState} (h : ssz s <= 2 ^ 20) : km s = some (stB s) := if_pos h
theorem Nq {s : GState} (h : ssz s <= 2 ^ 20) : Z1 (s.Entries.length + 1) s = some (stB s) := by
 have hlen := ql s.Entries
 unfold ssz at h
 obtain ⟨z, hz⟩ := Mx (s := s) (by omega) s.Entries.length 0 (s.Entries.length + 1) (by omega) (by omega)
 rw [show ((0 : Nat) : Int) = 0 from rfl] at hz
 unfold Z1
 rw [Wk, Option.bind_some]
 unfold stB
 by_cases h1 : (0 : Int) <= s.Serial ∧ s.Serial <= 1000000
 ·rw [decide_eq_true h1]
  dsimp only
  by_cases h2 : (16 : Int) < (s.Entries.length : Int)
  ·rw [if_pos h2, decide_eq_false (p := 0 <= s.Serial ∧ s.Serial <= 1000000 ∧ s.Entries.length <= 16) (by omega)]; rfl
  rw [if_neg h2, hz, decide_eq_true (p := 0 <= s.Serial ∧ s.Serial <= 1000000 ∧ s.Entries.length <= 16) (by omega), Bool.true_and]
  have he : Lo s = kz (WO s.Serial) GEntry.Addr s.Entries 0 s.Entries.length := rfl
  cases hg : kz (WO s.Serial) GEntry.Addr s.Entries 0 s.Entries.length with
  | false => rw [he, hg]; rfl
  | true =>
   rw [he, hg, Bool.true_and]
   simp only [if_true, Option.bind_some]
   unfold Ln
   by_cases hp : s.Pending = []
   ·rw [if_pos (by rw [hp]; rfl), if_pos hp]
   ·have hp0 : ¬ (s.Pending.length : Int) = 0 := fun e => hp (List.eq_nil_of_length_eq_zero (by omega))
    rw [if_neg hp0, if_neg hp]
    unfold ye
    obtain ⟨c, _, hc⟩ := Em (x := s.Pending) (a := s.Entries) (by omega) (MO hg)
    rw [hc, Option.bind_some, Option.bind_some]
    dsimp only
    rw [Zb (by omega), Option.bind_some, Wk, Option.bind_some]
    cases s.Open
    ·rfl
    cases yb s.Pending
    ·rfl
    by_cases ha : (1 : Int) <= s.Act ∧ s.Act <= 4
    ·rw [decide_eq_true ha]
     by_cases h1 : s.Act = 1 <;> cases yK s.Entries s.Pending <;> simp [h1]
    ·rw [decide_eq_false ha]; rfl
 ·rw [decide_eq_false h1, decide_eq_false (p := 0 <= s.Serial ∧ s.Serial <= 1000000 ∧ s.Entries.length <= 16) (fun h => h1 ⟨h.1, h.2.1⟩)]; rfl
theorem Rj (a0 : GState) (r : Bool) (h : km a0 = some r) : ∃ n, Z1 n a0 = some r := by
 unfold km at h
 obtain ⟨ha, h⟩ := zE h
 exact ⟨_, by rw [<- h]; exact Nq ha⟩
theorem Us : QS km := fun a0 r h => (Rj a0 r h).elim fun n hn => P6 n a0 r hn
def zU (a0 : (List UInt8)) : Option (List UInt8) :=
 if yr 1 (0 + a0.length) then
 some a0
 else none
theorem xA (a0 : (List UInt8)) : Oc (zU a0) 119 [] [vq za a0] fun r => (.val false [.own 1 (eL za r)], []) := tc (
 .ap 1 zF [] a0 fun n1 =>
 .ret a0) (zf Tryz.func119)
def WE (F : (List (List UInt8)) → Option (List (List UInt8))) : Prop := ∀ (a0 : (List (List UInt8))), Oc (F a0) 139 [] [vq (zr za) a0] fun r => (.val false [.own 1 (eL (y0 1 za) r)], [])
def xM (a0 : (List (List UInt8))) (v1 : Int) : Nat → Int → (List (List UInt8)) → Option (Int × (List (List UInt8)))
  | 0, _, _ => none
  | m + 1, v2, v3 =>
  if v2 < v1 then
   (zv v2).bind fun i2 =>
   (a0[i2]?).bind fun x3 =>
   (zU x3).bind fun r4 =>
   if yr 24 (v3.length + [r4].length) then
   xM a0 v1 m (w64 (v2 + 1)) (v3 ++ [r4])
   else none
  else
  some (v2, v3)
theorem J3 (a0 : (List (List UInt8))) (v1 : Int) (m : Nat) : ∀ (v2 : Int) (v3 : (List (List UInt8))), Ol (xM a0 v1 m v2 v3) 139 (zO Tryz.f139 0) ⟨[(3, vr 0), (7, vq (zr za) a0), (8, vi v1), (9, vi v2)], [.obj 1 (eL (y0 1 za) v3)], 0⟩ fun o => match o with | ⟨o_0, o_1⟩ => (.exit 0, ⟨[(3, vr 0), (7, vq (zr za) a0), (8, vi v1), (9, vi o_0), (10, vb false)], [.obj 1 (eL (y0 1 za) o_1)], 0⟩) := by
  induction m with
  | zero => intro v2 v3 o h; cases h
  | succ m ih => exact fun v2 v3 => tlp (
   .lI v2 v1 (fun c1 =>
    .na v2 fun i2 =>
    .ix0 (zr za) a0 i2 fun x3 =>
    .cl (xA x3) fun r4 =>
    .ao 24 (Jv 1 jg) v3 [r4] fun n5 =>
    .go (ih (w64 (v2 + 1)) (v3 ++ [r4]))) fun c1 =>
   .ret (v2, v3))
def Ye (n : Nat) (a0 : (List (List UInt8))) : Option (List (List UInt8)) :=
 (xM a0 (a0.length : Int) n 0 []).bind fun ⟨o1_0, o1_1⟩ =>
 some o1_1
theorem Ta (n : Nat) : WE (Ye n) := fun a0 => tc (
 .le (zr za) a0 <|
 .lp (J3 a0 (a0.length : Int) n 0 []) fun ⟨o1_0, o1_1⟩ =>
 .ret o1_1) (zf Tryz.func139)
theorem Vr {a : List UInt8} (h : a.length <= 2 ^ 39) : zU a = some a := if_pos (w5 (by decide) (by omega))
theorem P7 {a : List (List UInt8)} (ha : bsz a <= 2 ^ 39) : ∀ (l p : List (List UInt8)) (m : Nat), a = p ++ l → l.length < m → ∃ z, xM a (a.length : Int) m (p.length : Int) p = some (z, a) := by
 have hl := qk a
 intro l
 induction l with
 | nil =>
  intro p m he hm
  subst he
  obtain ⟨m, rfl, _⟩ := zg hm
  exact ⟨_, by rw [xM, if_neg (w4 p)]; simp; rfl⟩
 | cons x l ih =>
  intro p m he hm
  obtain ⟨m, rfl, hm'⟩ := zg hm
  have hx : 1 + x.length <= bsz a := Z6 (by rw [he]; simp)
  have hlen : a.length = p.length + (l.length + 1) := by rw [he]; simp
  obtain ⟨z, hz⟩ := ih (p ++ [x]) m (by rw [he]; simp) (by simp only [List.length_cons] at hm'; omega)
  refine ⟨z, ?_⟩
  rw [xM, if_pos (by omega), zd, Option.bind_some, show a[p.length]? = some x by rw [he]; exact zM p x l, Option.bind_some, Vr (by omega), Option.bind_some, if_pos (w5 (by decide) (by simp only [List.length_cons, List.length_nil]; omega)), yJ p x (by omega), hz]
def yO (a0 : (List (List UInt8))) : Option (List (List UInt8)) := if bsz a0 <= 2 ^ 39 then some a0 else none
theorem My {a : List (List UInt8)} (h : bsz a <= 2 ^ 39) : yO a = some a := if_pos h
theorem Kq (a0 : (List (List UInt8))) (r : (List (List UInt8))) (h : yO a0 = some r) : ∃ n, Ye n a0 = some r := by
 unfold yO at h
 obtain ⟨ha, h⟩ := zE h
 obtain ⟨z, hz⟩ := P7 ha a0 [] (a0.length + 1) rfl (by omega)
 refine ⟨a0.length + 1, ?_⟩
 unfold Ye
 simp only [List.length_nil, Int.natCast_zero] at hz
 rw [hz]; exact h
theorem ZC : WE yO := fun a0 r h => (Kq a0 r h).elim fun n hn => Ta n a0 r hn
def jk (F : GValue → Option GValue) : Prop := ∀ (a0 : GValue), Oc (F a0) 138 [] [.val true (zA a0)] fun r => (.val true (xi r), [])
def xN (G_impl_copyValue : GValue → Option GValue) (v0 : (List GValue)) (v1 : Int) (v3 : Int) (v4 : Int) (v5 : Int) (v6 : Int) (v7 : (List UInt8)) (v8 : (List (List UInt8))) (v9 : (List GValue)) (v10 : (List UInt8)) (v11 : (List (List UInt8))) : Nat → Int → (List GValue) → Option (Int × (List GValue))
  | 0, _, _ => none
  | m + 1, v2, v12 =>
  if v2 < v1 then
   (zv v2).bind fun i2 =>
   (v0[i2]?).bind fun x3 =>
   (G_impl_copyValue x3).bind fun r4 =>
   if yr 88 (v12.length + [r4].length) then
   xN G_impl_copyValue v0 v1 v3 v4 v5 v6 v7 v8 v9 v10 v11 m (w64 (v2 + 1)) (v12 ++ [r4])
   else none
  else
  some (v2, v12)
theorem J4 (G_impl_copyValue : GValue → Option GValue) (H_impl_copyValue : jk G_impl_copyValue) (v0 : (List GValue)) (v1 : Int) (v3 : Int) (v4 : Int) (v5 : Int) (v6 : Int) (v7 : (List UInt8)) (v8 : (List (List UInt8))) (v9 : (List GValue)) (v10 : (List UInt8)) (v11 : (List (List UInt8))) (m : Nat) : ∀ (v2 : Int) (v12 : (List GValue)), Ol (xN G_impl_copyValue v0 v1 v3 v4 v5 v6 v7 v8 v9 v10 v11 m v2 v12) 138 (zO Tryz.f138 0) ⟨[(2, vp 0 0), (3, vp 1 0), (18, vq zh v0), (19, vi v1), (20, vi v2)], [.var [ci v3, ci v4, .ref 2, .ref 3, .ref 4], .var [ci v5, ci v6, .ref 5, .ref 6, .ref 7], .obj 1 (eL za v7), .obj 1 (eL (y0 1 za) v8), .obj 5 (eL zt v9), .obj 1 (eL za v10), .obj 1 (eL (y0 1 za) v11), .obj 5 (eL zt v12)], 0⟩ fun o => match o with | ⟨o_0, o_1⟩ => (.exit 0, ⟨[(2, vp 0 0), (3, vp 1 0), (18, vq zh v0), (19, vi v1), (20, vi o_0), (21, vb false)], [.var [ci v3, ci v4, .ref 2, .ref 3, .ref 4], .var [ci v5, ci v6, .ref 5, .ref 6, .ref 7], .obj 1 (eL za v7), .obj 1 (eL (y0 1 za) v8), .obj 5 (eL zt v9), .obj 1 (eL za v10), .obj 1 (eL (y0 1 za) v11), .obj 5 (eL zt o_1)], 0⟩) := by
  induction m with
  | zero => intro v2 v12 o h; cases h
  | succ m ih => exact fun v2 v12 => tlp (
   .lI v2 v1 (fun c1 =>
    .na v2 fun i2 =>
    .ix yp v0 i2 fun x3 =>
    .cl (H_impl_copyValue x3) fun r4 =>
    .nd (yr 88 (v12.length + [r4].length)) fun n5 =>
    .q ⟨.room 88 (eL zt v12) ([(xi r4)] : List (List C)), .b true, by rw [(show ([(xi r4)] : List (List C)) = eL zt [r4] from (Xk (yl r4) Wu))]; exact (A.room n5)⟩ <|
    .q ⟨.uni 5 ([(xi r4)] : List (List C)), .b true, by rw [(show ([(xi r4)] : List (List C)) = eL zt [r4] from (Xk (yl r4) Wu))]; exact (A.uniO Xl)⟩ <|
    .q ⟨.app (eL zt v12) ([(xi r4)] : List (List C)), .l (eL zt (v12 ++ [r4])), by rw [(show ([(xi r4)] : List (List C)) = eL zt [r4] from (Xk (yl r4) Wu))]; exact A.app⟩ <|
    .go (ih (w64 (v2 + 1)) (v12 ++ [r4]))) fun c1 =>
   .ret (v2, v12))
def Yf (G_impl_copyValue : GValue → Option GValue) (n : Nat) (a0 : GValue) : Option GValue :=
 (zU a0.S).bind fun r1 =>
 (yO a0.K).bind fun r2 =>
 (xN G_impl_copyValue a0.L (a0.L.length : Int) 0 0 a0.Kind a0.N [] [] [] r1 r2 n 0 []).bind fun ⟨o3_0, o3_1⟩ =>
 some (GValue.mk a0.Kind a0.N r1 r2 o3_1)
theorem Tb (G_impl_copyValue : GValue → Option GValue) (H_impl_copyValue : jk G_impl_copyValue) (n : Nat) : jk (Yf G_impl_copyValue n) := fun a0 => tc (
 .cl (xA a0.S) fun r1 =>
 .cl (ZC a0.K) fun r2 =>
 .le zh a0.L <|
 .lp (J4 G_impl_copyValue H_impl_copyValue a0.L (a0.L.length : Int) 0 0 a0.Kind a0.N [] [] [] r1 r2 n 0 []) fun ⟨o3_0, o3_1⟩ =>
 .ret (GValue.mk a0.Kind a0.N r1 r2 o3_1)) (zf Tryz.func138)
def yP : Nat → GValue → Option GValue
 | 0, _ => none
 | n + 1, a0 => Yf (yP n) n a0
theorem Vs (n : Nat) : jk (yP n) := by
 induction n with
 | zero => exact fun _ _ h => (by rw [yP] at h; cases h)
 | succ n ih =>
  have ih_impl_copyValue := ih
  exact fun a0 r h => Tb (yP n) ih_impl_copyValue n a0 r (by rw [yP] at h; exact h)
theorem P8 {G : GValue → Option GValue} {a : List GValue} {v3 v4 v5 v6 : Int} {v7 : List UInt8} {v8 : List (List UInt8)} {v9 : List GValue} {v10 : List UInt8} {v11 : List (List UInt8)} (ha : a.length <= 2 ^ 39) : ∀ (l p : List GValue) (m : Nat), a = p ++ l → (∀ x ∈ l, G x = some x) → l.length < m → ∃ z, xN G a (a.length : Int) v3 v4 v5 v6 v7 v8 v9 v10 v11 m (p.length : Int) p = some (z, a) := by
 intro l
 induction l with
 | nil =>
  intro p m he _ hm
  subst he
  obtain ⟨m, rfl, _⟩ := zg hm
  exact ⟨_, by rw [xN, if_neg (w4 p)]; simp; rfl⟩
 | cons x l ih =>
  intro p m he hG hm
  obtain ⟨m, rfl, hm'⟩ := zg hm
  have hlen : a.length = p.length + (l.length + 1) := by rw [he]; simp
  obtain ⟨z, hz⟩ := ih (p ++ [x]) m (by rw [he]; simp) (fun y hy => hG y (List.mem_cons_of_mem _ hy)) (by simp only [List.length_cons] at hm'; omega)
  refine ⟨z, ?_⟩
  rw [xN, if_pos (by omega), zd, Option.bind_some, show a[p.length]? = some x by rw [he]; exact zM p x l, Option.bind_some, hG x List.mem_cons_self, Option.bind_some, if_pos (w5 (by decide) (by simp only [List.length_cons, List.length_nil]; omega)), yJ p x (by omega), hz]
theorem Nr : ∀ (N : Nat) (v : GValue), vsz v < N → vsz v <= 2 ^ 39 → ∀ f : Nat, vsz v + 2 <= f → yP f v = some v := by
 intro N
 induction N with
 | zero => intro v hv; omega
 | succ N ih =>
  intro v hv hs f hf
  obtain ⟨f, rfl, _⟩ := zg (show 0 < f by omega)
  have he := xT v
  have hl := yH v.L
  rw [yP]
  unfold Yf
  rw [Vr (by omega), My (by omega)]
  simp only [Option.bind_some]
  obtain ⟨z, hz⟩ := P8 (G := yP f) (a := v.L) (v3 := 0) (v4 := 0) (v5 := v.Kind) (v6 := v.N) (v7 := []) (v8 := []) (v9 := []) (v10 := v.S) (v11 := v.K) (by omega) v.L [] f rfl (fun x hx => by
   have := wa hx
   exact ih x (by omega) (by omega) f (by omega)) (by omega)
  simp only [List.length_nil, Int.natCast_zero] at hz
  rw [hz]
  exact congrArg some (GValue.eta v)
def xY (a0 : GValue) : Option GValue := if vsz a0 <= 2 ^ 39 then some a0 else none
theorem Kr (a0 : GValue) (r : GValue) (h : xY a0 = some r) : ∃ n, yP n a0 = some r := by
 unfold xY at h
 obtain ⟨ha, h⟩ := zE h
 exact ⟨vsz a0 + 2, by rw [<- h]; exact Nr _ a0 (Nat.lt_succ_self _) ha _ (Nat.le_refl _)⟩
theorem XQ : jk xY := by
 intro a0 r h
 obtain ⟨n, hn⟩ := Kr a0 r h
 exact (Vs n) a0 r hn
def kO (a0 : GEntry) : Option GEntry :=
 (zU a0.Addr).bind fun r1 =>
 (xY a0.Val).bind fun r2 =>
 (yO a0.Deps).bind fun r3 =>
 some (GEntry.mk r1 r2 r3 a0.Taint a0.Turned)
theorem Rk (a0 : GEntry) : Oc (kO a0) 177 [] [.val true (jp a0)] fun r => (.val true (JI r), []) := tc (
 .cl (xA a0.Addr) fun r1 =>
 .cl (XQ a0.Val) fun r2 =>
 .cl (ZC a0.Deps) fun r3 =>
 .ret (GEntry.mk r1 r2 r3 a0.Taint a0.Turned)) (zf Tryz.func177)
def WF (F : GState → Option GState) : Prop := ∀ (a0 : GState), Oc (F a0) 137 [] [.val true (zV a0)] fun r => (.val true (Zf r), [])
def xO (v0 : (List GEntry)) (v1 : Int) (v3 : Int) (v4 : Bool) (v5 : Int) (v6 : Int) (v7 : Bool) (v8 : Int) (v9 : (List UInt8)) (v10 : (List GEntry)) (v11 : (List UInt8)) : Nat → Int → (List GEntry) → Option (Int × (List GEntry))
  | 0, _, _ => none
  | m + 1, v2, v12 =>
  if v2 < v1 then
   (zv v2).bind fun i2 =>
   (v0[i2]?).bind fun x3 =>
   (kO x3).bind fun r4 =>
   if yr 152 (v12.length + [r4].length) then
   xO v0 v1 v3 v4 v5 v6 v7 v8 v9 v10 v11 m (w64 (v2 + 1)) (v12 ++ [r4])
   else none
  else
  some (v2, v12)
theorem J5 (v0 : (List GEntry)) (v1 : Int) (v3 : Int) (v4 : Bool) (v5 : Int) (v6 : Int) (v7 : Bool) (v8 : Int) (v9 : (List UInt8)) (v10 : (List GEntry)) (v11 : (List UInt8)) (m : Nat) : ∀ (v2 : Int) (v12 : (List GEntry)), Ol (xO v0 v1 v3 v4 v5 v6 v7 v8 v9 v10 v11 m v2 v12) 137 (zO Tryz.f137 0) ⟨[(2, vp 0 0), (3, vp 1 0), (17, vq zj v0), (18, vi v1), (19, vi v2)], [.var [ci v3, .bool v4, .ref 2, ci v5, .ref 3], .var [ci v6, .bool v7, .ref 4, ci v8, .ref 5], .obj 1 (eL za v9), .obj 9 (eL zz v10), .obj 1 (eL za v11), .obj 9 (eL zz v12)], 0⟩ fun o => match o with | ⟨o_0, o_1⟩ => (.exit 0, ⟨[(2, vp 0 0), (3, vp 1 0), (17, vq zj v0), (18, vi v1), (19, vi o_0), (20, vb false)], [.var [ci v3, .bool v4, .ref 2, ci v5, .ref 3], .var [ci v6, .bool v7, .ref 4, ci v8, .ref 5], .obj 1 (eL za v9), .obj 9 (eL zz v10), .obj 1 (eL za v11), .obj 9 (eL zz o_1)], 0⟩) := by
  induction m with
  | zero => intro v2 v12 o h; cases h
  | succ m ih => exact fun v2 v12 => tlp (
   .lI v2 v1 (fun c1 =>
    .na v2 fun i2 =>
    .ix zT v0 i2 fun x3 =>
    .cl (Rk x3) fun r4 =>
    .ao 152 zL v12 [r4] fun n5 =>
    .go (ih (w64 (v2 + 1)) (v12 ++ [r4]))) fun c1 =>
   .ret (v2, v12))
def Yg (n : Nat) (a0 : GState) : Option GState :=
 (zU a0.Pending).bind fun r1 =>
 (xO a0.Entries (a0.Entries.length : Int) 0 false 0 a0.Serial a0.Open a0.Act [] [] r1 n 0 []).bind fun ⟨o2_0, o2_1⟩ =>
 some (GState.mk a0.Serial a0.Open r1 a0.Act o2_1)
theorem Td (n : Nat) : WF (Yg n) := fun a0 => tc (
 .cl (xA a0.Pending) fun r1 =>
 .le zj a0.Entries <|
 .lp (J5 a0.Entries (a0.Entries.length : Int) 0 false 0 a0.Serial a0.Open a0.Act [] [] r1 n 0 []) fun ⟨o2_0, o2_1⟩ =>
 .ret (GState.mk a0.Serial a0.Open r1 a0.Act o2_1)) (zf Tryz.func137)
theorem Ep {e : GEntry} (h : esz e <= 2 ^ 38) : kO e = some e := by
 unfold esz at h
 unfold kO zU xY yO
 rw [if_pos (w5 (by decide) (by omega)), Option.bind_some, if_pos (by omega), Option.bind_some, if_pos (by omega), Option.bind_some]
 cases e; rfl
theorem GN {a : List GEntry} {v3 : Int} {v4 : Bool} {v5 v6 : Int} {v7 : Bool} {v8 : Int} {v9 : List UInt8} {v10 : List GEntry} {v11 : List UInt8} (ha : zY a <= 2 ^ 38) : ∀ (l p : List GEntry) (m : Nat), a = p ++ l → l.length < m → ∃ z, xO a (a.length : Int) v3 v4 v5 v6 v7 v8 v9 v10 v11 m (p.length : Int) p = some (z, a) := by
 have hl := ql a
 intro l
 induction l with
 | nil =>
  intro p m he hm
  obtain ⟨m, rfl, _⟩ := zg hm
  exact ⟨_, by rw [xO, he, List.append_nil, if_neg (by omega)]⟩
 | cons x l ih =>
  intro p m he hm
  obtain ⟨m, rfl, hm'⟩ := zg hm
  have hx : 1 + esz x <= zY a := Xn (by rw [he]; simp)
  have hlen : a.length = p.length + (l.length + 1) := by rw [he]; simp
  obtain ⟨z, hz⟩ := ih (p ++ [x]) m (by rw [he]; simp) (by simp only [List.length_cons] at hm'; omega)
  refine ⟨z, ?_⟩
  rw [xO, if_pos (by omega), zd, Option.bind_some, show a[p.length]? = some x by rw [he]; exact zM p x l, Option.bind_some, Ep (by omega), Option.bind_some, if_pos (vh (by simp only [List.length_cons, List.length_nil]; omega)), yJ p x (by omega), hz]
def xh (a0 : GState) : Option GState := if ssz a0 <= 2 ^ 38 then some a0 else none
theorem Ks (a0 : GState) (r : GState) (h : xh a0 = some r) : ∃ n, Yg n a0 = some r := by
 unfold xh at h
 obtain ⟨ha, h⟩ := zE h
 unfold ssz at ha
 refine ⟨a0.Entries.length + 1, ?_⟩
 unfold Yg zU
 obtain ⟨z, hz⟩ := GN (a := a0.Entries) (v3 := 0) (v4 := false) (v5 := 0) (v6 := a0.Serial) (v7 := a0.Open) (v8 := a0.Act) (v9 := []) (v10 := []) (v11 := a0.Pending) (by omega) a0.Entries [] (a0.Entries.length + 1) rfl (by omega)
 simp only [List.length_nil, Int.natCast_zero] at hz
 rw [if_pos (w5 (by decide) (by omega)), Option.bind_some, hz, <- h]
 cases a0; rfl
theorem XR : WF xh := fun a0 r h => (Ks a0 r h).elim fun n hn => Td n a0 r hn
def ZW (a0 : GValue) : Option Bool :=
 if a0.Kind = 0 then
  if a0.N = 0 then
   if (a0.S.length : Int) = 0 then
    if (a0.K.length : Int) = 0 then
     some (decide ((a0.L.length : Int) = 0))
    else
    some false
   else
   some false
  else
  some false
 else
 some false
theorem P9 (a0 : GValue) : Oc (ZW a0) 136 [] [.val true (zA a0)] fun r => (vb r, []) := tc (
 .eI a0.Kind 0 (fun c1 =>
  .eI a0.N 0 (fun c2 =>
   .le za a0.S <|
   .eI (a0.S.length : Int) 0 (fun c3 =>
    .le (zr za) a0.K <|
    .eI (a0.K.length : Int) 0 (fun c4 =>
     .le zh a0.L <|
     .eD (a0.L.length : Int) 0 <|
     .ret (decide ((a0.L.length : Int) = 0))) fun c4 =>
    .ret false) fun c3 =>
   .ret false) fun c2 =>
  .ret false) fun c1 =>
 .ret false) (zf Tryz.func136)
def Z2 (a0 : GEvent) : Option Bool :=
 if a0.Kind = 2 then
  (xl a0.Addr).bind fun r2 =>
  match r2 with
  | true =>
   if a0.Act = 0 then
    (yX a0.Val).bind fun r4 =>
    match r4 with
    | true =>
     (xK a0.Deps).bind fun r5 =>
     some r5
    | false =>
     some false
   else
   some false
  | false =>
   some false
 else
 (ZW a0.Val).bind fun r2 =>
 match r2 with
 | true =>
  if 0 < (a0.Deps.length : Int) then
   some false
  else
  if a0.Kind = 0 then
   if (a0.Addr.length : Int) = 0 then
    some (decide (a0.Act = 0))
   else
   some false
  else
  if a0.Kind = 5 then
   if (a0.Addr.length : Int) = 0 then
    some (decide (a0.Act = 0))
   else
   some false
  else
  if a0.Kind = 6 then
   if (a0.Addr.length : Int) = 0 then
    some (decide (a0.Act = 0))
   else
   some false
  else
  if a0.Kind = 1 then
   (xl a0.Addr).bind fun r8 =>
   match r8 with
   | true =>
    (y4 a0.Act 1 4).bind fun r9 =>
    some r9
   | false =>
    some false
  else
  if a0.Kind = 3 then
   (xl a0.Addr).bind fun r9 =>
   match r9 with
   | true =>
    some (decide (a0.Act = 0))
   | false =>
    some false
  else
  if a0.Kind = 4 then
   (xl a0.Addr).bind fun r10 =>
   match r10 with
   | true =>
    some (decide (a0.Act = 0))
   | false =>
    some false
  else
  some false
 | false =>
  some false
theorem Ut (a0 : GEvent) : Oc (Z2 a0) 79 [] [.val true (jq a0)] fun r => (vb r, []) := tc (
 .eI a0.Kind 2 (fun c1 =>
  .cl (qh a0.Addr) fun r2 =>
  .vM 0 r2 (
   .az 0 0 <|
   .az 0 0 <|
   .eD a0.Act 0 <|
   .az 0 0 <|
   .cI 0 (a0.Act = 0) (fun c3 =>
    .kT 0 (dT c3) <|
    .kT 0 (dT c3) <|
    .cl (Za a0.Val) fun r4 =>
    .kT 0 (dT c3) <|
    .vM 0 r4 (
     .az 0 0 <|
     .az 0 0 <|
     .cl (Yc a0.Deps) fun r5 =>
     .az 0 1 <|
     .ret r5) <|
    .az 0 0 <|
    .az 0 0 <|
    .az 0 0 <|
    .ret false) fun c3 =>
   .kF 0 (dF c3) <|
   .kF 0 (dF c3) <|
   .kF 0 (dF c3) <|
   .ret false) <|
  .az 0 0 <|
  .az 0 0 <|
  .az 0 0 <|
  .ret false) fun c1 =>
 .cl (P9 a0.Val) fun r2 =>
 .vN 0 r2 (
  .an 0 0 <|
  .an 0 0 <|
  .le (zr za) a0.Deps <|
  .an 0 0 <|
  .lI 0 (a0.Deps.length : Int) (fun c3 =>
   .an 0 0 <|
   .ret false) fun c3 =>
  .an 0 0 <|
  .eI a0.Kind 0 (fun c4 =>
   .le za a0.Addr <|
   .eI (a0.Addr.length : Int) 0 (fun c5 =>
    .eD a0.Act 0 <|
    .ret (decide (a0.Act = 0))) fun c5 =>
   .ret false) fun c4 =>
  .eI a0.Kind 5 (fun c5 =>
   .le za a0.Addr <|
   .eI (a0.Addr.length : Int) 0 (fun c6 =>
    .eD a0.Act 0 <|
    .ret (decide (a0.Act = 0))) fun c6 =>
   .ret false) fun c5 =>
  .eI a0.Kind 6 (fun c6 =>
   .le za a0.Addr <|
   .eI (a0.Addr.length : Int) 0 (fun c7 =>
    .eD a0.Act 0 <|
    .ret (decide (a0.Act = 0))) fun c7 =>
   .ret false) fun c6 =>
  .eI a0.Kind 1 (fun c7 =>
   .cl (qh a0.Addr) fun r8 =>
   .vM 0 r8 (
    .az 0 0 <|
    .az 0 0 <|
    .cl (wC a0.Act 1 4) fun r9 =>
    .az 0 1 <|
    .ret r9) <|
   .az 0 0 <|
   .az 0 0 <|
   .az 0 0 <|
   .ret false) fun c7 =>
  .eI a0.Kind 3 (fun c8 =>
   .cl (qh a0.Addr) fun r9 =>
   .vM 0 r9 (
    .az 0 0 <|
    .az 0 0 <|
    .eD a0.Act 0 <|
    .az 0 0 <|
    .ret (decide (a0.Act = 0))) <|
   .az 0 0 <|
   .az 0 0 <|
   .az 0 0 <|
   .ret false) fun c8 =>
  .eI a0.Kind 4 (fun c9 =>
   .cl (qh a0.Addr) fun r10 =>
   .vM 0 r10 (
    .az 0 0 <|
    .az 0 0 <|
    .eD a0.Act 0 <|
    .az 0 0 <|
    .ret (decide (a0.Act = 0))) <|
   .az 0 0 <|
   .az 0 0 <|
   .az 0 0 <|
   .ret false) fun c9 =>
  .ret false) <|
 .an 0 0 <|
 .an 0 0 <|
 .an 0 0 <|
 .an 0 0 <|
 .ret false) (zf Tryz.func79)
def jU (a0 : GState) (a1 : GEvent) : Option Bool :=
 (ye a0 a1.Addr).bind fun ⟨r1_0, r1_1⟩ =>
 if a0.Serial = 1000000 then
  some false
 else
 if a1.Kind = 0 then
  some (!a0.Open)
 else
 if a1.Kind = 1 then
  match a0.Open with
  | true =>
   if (a0.Pending.length : Int) = 0 then
    if r1_1 = true then
     if a1.Act = 1 then
      some false
     else
     some true
    else
    if a1.Act = 1 then
     some (decide ((a0.Entries.length : Int) < 16))
    else
    some false
   else
   some false
  | false =>
   some false
 else
 if a1.Kind = 2 then
  (xj a0.Pending a1.Addr).bind fun r6 =>
  match r6 with
  | true =>
   some (!(decide (a0.Act = 4)))
  | false =>
   some false
 else
 if a1.Kind = 3 then
  (xj a0.Pending a1.Addr).bind fun r7 =>
  match r7 with
  | true =>
   some (decide (a0.Act = 4))
  | false =>
   some false
 else
 if a1.Kind = 4 then
  (xj a0.Pending a1.Addr).bind fun r8 =>
  some r8
 else
 if a1.Kind = 5 then
  match a0.Open with
  | true =>
   some (decide ((a0.Pending.length : Int) = 0))
  | false =>
   some false
 else
 some a0.Open
theorem Vt (a0 : GState) (a1 : GEvent) : Oc (jU a0 a1) 103 [] [.val true (zV a0), .val true (jq a1)] fun r => (vb r, []) := tc (
 .cl (qE a0 a1.Addr) fun ⟨r1_0, r1_1⟩ =>
 .eI a0.Serial 1000000 (fun c2 =>
  .ret false) fun c2 =>
 .eI a1.Kind 0 (fun c3 =>
  .ret (!a0.Open)) fun c3 =>
 .eI a1.Kind 1 (fun c4 =>
  .vM 1 a0.Open (
   .az 0 0 <|
   .az 0 0 <|
   .le za a0.Pending <|
   .az 0 0 <|
   .eD (a0.Pending.length : Int) 0 <|
   .az 0 0 <|
   .cI 0 ((a0.Pending.length : Int) = 0) (fun c5 =>
    .kT 0 (dT c5) <|
    .kT 0 (dT c5) <|
    .kT 0 (dT c5) <|
    .eD a1.Act 1 <|
    .kT 0 (dT c5) <|
    .sp (r1_1 = true) (fun c6 =>
     .sp (a1.Act = 1) (fun c7 =>
      .eb c6 (nT (dT c7)) <|
      .kT 0 (dT c5) <|
      .ret false) fun c7 =>
     .eb c6 (nF (dF c7)) <|
     .kT 0 (dT c5) <|
     .kT 2 c6 <|
     .kT 0 c6 <|
     .kT 0 c6 <|
     .kT 0 c6 <|
     .kT 1 c6 <|
     .ret true) fun c6 =>
    .sp (a1.Act = 1) (fun c7 =>
     .eb (bF c6) (nT (dT c7)) <|
     .kT 0 (dT c5) <|
     .kF 2 (bF c6) <|
     .kF 0 (bF c6) <|
     .kF 0 (bF c6) <|
     .le zj a0.Entries <|
     .kF 0 (bF c6) <|
     .lD (a0.Entries.length : Int) 16 <|
     .kF 1 (bF c6) <|
     .ret (decide ((a0.Entries.length : Int) < 16))) fun c7 =>
    .eb (bF c6) (nF (dF c7)) <|
    .kT 0 (dT c5) <|
    .ret false) fun c5 =>
   .kF 0 (dF c5) <|
   .kF 0 (dF c5) <|
   .kF 0 (dF c5) <|
   .kF 0 (dF c5) <|
   .kF 0 (dF c5) <|
   .ret false) <|
  .az 0 0 <|
  .az 0 0 <|
  .az 0 0 <|
  .az 0 0 <|
  .ret false) fun c4 =>
 .eI a1.Kind 2 (fun c5 =>
  .cl (qZ a0.Pending a1.Addr) fun r6 =>
  .vM 0 r6 (
   .az 0 0 <|
   .az 0 0 <|
   .eD a0.Act 4 <|
   .az 0 0 <|
   .ret (!(decide (a0.Act = 4)))) <|
  .az 0 0 <|
  .az 0 0 <|
  .az 0 0 <|
  .ret false) fun c5 =>
 .eI a1.Kind 3 (fun c6 =>
  .cl (qZ a0.Pending a1.Addr) fun r7 =>
  .vM 0 r7 (
   .az 0 0 <|
   .az 0 0 <|
   .eD a0.Act 4 <|
   .az 0 0 <|
   .ret (decide (a0.Act = 4))) <|
  .az 0 0 <|
  .az 0 0 <|
  .az 0 0 <|
  .ret false) fun c6 =>
 .eI a1.Kind 4 (fun c7 =>
  .cl (qZ a0.Pending a1.Addr) fun r8 =>
  .ret r8) fun c7 =>
 .eI a1.Kind 5 (fun c8 =>
  .vM 1 a0.Open (
   .az 0 0 <|
   .az 0 0 <|
   .le za a0.Pending <|
   .az 0 0 <|
   .eD (a0.Pending.length : Int) 0 <|
   .az 0 0 <|
   .ret (decide ((a0.Pending.length : Int) = 0))) <|
  .az 0 0 <|
  .az 0 0 <|
  .az 0 0 <|
  .az 0 0 <|
  .ret false) fun c8 =>
 .ret a0.Open) (zf Tryz.func103)
def qz (a0 : Bool) (e0_0 : Int) (e0_1 : Bool) (e0_3 : Int) (e1 : (List UInt8)) (e2 : (List GEntry)) : Option GState :=
 if (e1.length : Int) = 0 then
  some (GState.mk e0_0 e0_1 e1 e0_3 e2)
 else
 (ye (GState.mk e0_0 e0_1 e1 e0_3 e2) e1).bind fun ⟨r2_0, r2_1⟩ =>
 match r2_1 with
 | true =>
  (zv r2_0).bind fun i3 =>
  (e2[i3]?).bind fun x4 =>
  ((e2.set i3 (GEntry.mk x4.Addr x4.Val x4.Deps true x4.Turned))[i3]?).bind fun x5 =>
  some (GState.mk e0_0 e0_1 e1 e0_3 ((e2.set i3 (GEntry.mk x4.Addr x4.Val x4.Deps true x4.Turned)).set i3 (GEntry.mk x5.Addr x5.Val x5.Deps x5.Taint e0_0)))
 | false =>
  match a0 with
  | true =>
   (zU e1).bind fun r3 =>
   (w6 r2_0 e2 [(GEntry.mk r3 (GValue.mk 5 0 [] [] []) [] false 0)]).bind fun r4 =>
   (zv r2_0).bind fun i5 =>
   (r4[i5]?).bind fun x6 =>
   ((r4.set i5 (GEntry.mk x6.Addr x6.Val x6.Deps true x6.Turned))[i5]?).bind fun x7 =>
   some (GState.mk e0_0 e0_1 e1 e0_3 ((r4.set i5 (GEntry.mk x6.Addr x6.Val x6.Deps true x6.Turned)).set i5 (GEntry.mk x7.Addr x7.Val x7.Deps x7.Taint e0_0)))
  | false =>
   some (GState.mk e0_0 e0_1 e1 e0_3 e2)
theorem YQ (a0 : Bool) (e0_0 : Int) (e0_1 : Bool) (e0_3 : Int) (e1 : (List UInt8)) (e2 : (List GEntry)) : Oc (qz a0 e0_0 e0_1 e0_3 e1 e2) 142 [.var [ci e0_0, .bool e0_1, .ref 1, ci e0_3, .ref 2], .obj 1 (eL za e1), .obj 9 (eL zz e2)] [vp 0 0, vb a0] fun r => (.tup [], [.var (Zf r), .dead, .dead]) := tc (
 .le za e1 <|
 .eI (e1.length : Int) 0 (fun c1 =>
  .ret (GState.mk e0_0 e0_1 e1 e0_3 e2)) fun c1 =>
 .vw zF e1 <|
 .vo zL e2 <|
 .vw zF e1 <|
 .cl (qE (GState.mk e0_0 e0_1 e1 e0_3 e2) e1) fun ⟨r2_0, r2_1⟩ =>
 .vN 0 r2_1 (
  .na r2_0 fun i3 =>
  .ix z7 e2 i3 fun x4 =>
  .ag 0 <|
  .sl (z7 (GEntry.mk x4.Addr x4.Val x4.Deps true x4.Turned)) e2 i3 <|
  .ag 1 <|
  .ix z7 (e2.set i3 (GEntry.mk x4.Addr x4.Val x4.Deps true x4.Turned)) i3 fun x5 =>
  .ag 0 <|
  .sl (z7 (GEntry.mk x5.Addr x5.Val x5.Deps x5.Taint e0_0)) (e2.set i3 (GEntry.mk x4.Addr x4.Val x4.Deps true x4.Turned)) i3 <|
  .ret (GState.mk e0_0 e0_1 e1 e0_3 ((e2.set i3 (GEntry.mk x4.Addr x4.Val x4.Deps true x4.Turned)).set i3 (GEntry.mk x5.Addr x5.Val x5.Deps x5.Taint e0_0)))) <|
 .vN 0 a0 (
  .vw zF e1 <|
  .cl (xA e1) fun r3 =>
  .cn jg r3 <|
  .cl (ZQ r2_0 e2 [(GEntry.mk r3 (GValue.mk 5 0 [] [] []) [] false 0)]) fun r4 =>
  .na r2_0 fun i5 =>
  .ix z7 r4 i5 fun x6 =>
  .ag 0 <|
  .sl (z7 (GEntry.mk x6.Addr x6.Val x6.Deps true x6.Turned)) r4 i5 <|
  .ag 1 <|
  .ix z7 (r4.set i5 (GEntry.mk x6.Addr x6.Val x6.Deps true x6.Turned)) i5 fun x7 =>
  .ag 0 <|
  .sl (z7 (GEntry.mk x7.Addr x7.Val x7.Deps x7.Taint e0_0)) (r4.set i5 (GEntry.mk x6.Addr x6.Val x6.Deps true x6.Turned)) i5 <|
  .ret (GState.mk e0_0 e0_1 e1 e0_3 ((r4.set i5 (GEntry.mk x6.Addr x6.Val x6.Deps true x6.Turned)).set i5 (GEntry.mk x7.Addr x7.Val x7.Deps x7.Taint e0_0)))) <|
 .ret (GState.mk e0_0 e0_1 e1 e0_3 e2)) (zf Tryz.func142)
end
end Go.Am.Try
