
/- The functions of the program in plain Lean, and that the machine answers as they do; conditions at each theorem. -/
import Derived.Test.YtjmhaigcaidloaaGreatDoorWG2
set_option linter.unusedVariables false
set_option linter.unusedSimpArgs false
namespace Go.Am.Try
open Go.Am Go.Proofs
set_option linter.unusedVariables false
set_option maxRecDepth 20000
set_option maxHeartbeats 2000000
noncomputable section
def qR (F : GValue → Int → Option Bool) : Prop := ∀ (a0 : GValue) (e0 : Int), Oc (F a0 e0) 237 [.var [ci e0]] [.val true (z6 a0), vp 0 0] fun r => (vb r, [.var [ci e0]])
def yA (F : (List GValue) → Int → Option Int) : Prop := ∀ (a0 : (List GValue)) (e0 : Int), Oc (F a0 e0) 224 [.var [ci e0]] [vq zg a0, .val false [.fn 237 [.ptr 0 0]]] fun r => (vi r, [.var [ci e0]])
def yb (F : (List GValue) → Int → Option Bool) : Prop := ∀ (a0 : (List GValue)) (e0 : Int), Oc (F a0 e0) 203 [.var [ci e0]] [vq zg a0, .val false [.fn 237 [.ptr 0 0]]] fun r => (vb r, [.var [ci e0]])
def vQ (F : GValue → Int → Option Bool) : Prop := ∀ (a0 : GValue) (a1 : Int), Oc (F a0 a1) 222 [] [.val true (z6 a0), vi a1] fun r => (vb r, [])
def ZH (G_impl_isShaped : GValue → Int → Option Bool) (a0 : GValue) (e0 : Int) : Option Bool :=
 (G_impl_isShaped a0 (w64 (e0 - 1))).bind fun r1 =>
 some (!r1)
theorem Rv (G_impl_isShaped : GValue → Int → Option Bool) (H_impl_isShaped : vQ G_impl_isShaped) : qR (ZH G_impl_isShaped) := fun a0 e0 => tc (
 .cl (H_impl_isShaped a0 (w64 (e0 - 1))) fun r1 =>
 .ret (!r1)) (ze Tryz.func237)
def zO (G_impl_isShaped_1 : GValue → Int → Option Bool) (a0 : (List GValue)) (v1 : Int) (e0 : Int) : Nat → Int → Option (Int ⊕ Int)
  | 0, _ => none
  | m + 1, v2 =>
  if v2 < v1 then
   (zw v2).bind fun i2 =>
   (a0[i2]?).bind fun x3 =>
   (G_impl_isShaped_1 x3 e0).bind fun r4 =>
   match r4 with
   | true =>
    some (.inl v2)
   | false =>
    zO G_impl_isShaped_1 a0 v1 e0 m (w64 (v2 + 1))
  else
  some (.inr v2)
theorem vl (G_impl_isShaped_1 : GValue → Int → Option Bool) (H_impl_isShaped_1 : qR G_impl_isShaped_1) (a0 : (List GValue)) (v1 : Int) (e0 : Int) (m : Nat) : ∀ (v2 : Int), Ol (zO G_impl_isShaped_1 a0 v1 e0 m v2) 224 (zG Tryz.f224 0) ⟨[(0, vq zg a0), (1, .val false [.fn 237 [.ptr 0 0]]), (7, vi v1), (8, vi v2)], [.var [ci e0]], 1⟩ fun o => match o with | .inl o_0 => (.ret, ⟨[(4, vi o_0)], [.var [ci e0]], 1⟩) | .inr (o_1) => (.exit 0, ⟨[(0, vq zg a0), (1, .val false [.fn 237 [.ptr 0 0]]), (7, vi v1), (8, vi o_1), (9, vb false)], [.var [ci e0]], 1⟩) := by
  induction m with
  | zero => intro v2 o h; cases h
  | succ m ih => exact fun v2 => tlp (
   .lI v2 v1 (fun c1 =>
    .na v2 fun i2 =>
    .ix yn a0 i2 fun x3 =>
    .cl (H_impl_isShaped_1 x3 e0) fun r4 =>
    .vM 0 r4 (
     .ret (.inl v2)) <|
    .go (ih (w64 (v2 + 1)))) fun c1 =>
   .ret (.inr v2))
def yB (G_impl_isShaped_1 : GValue → Int → Option Bool) (n : Nat) (a0 : (List GValue)) (e0 : Int) : Option Int :=
 (zO G_impl_isShaped_1 a0 (a0.length : Int) e0 n 0).bind fun o1 =>
 match o1 with
 | .inl o1_0 =>
  some o1_0
 | .inr (o1_1) =>
  some (-1)
theorem Z7 (G_impl_isShaped_1 : GValue → Int → Option Bool) (H_impl_isShaped_1 : qR G_impl_isShaped_1) (n : Nat) : yA (yB G_impl_isShaped_1 n) := fun a0 e0 => tc (
 .le zg a0 <|
 .l2 (vl G_impl_isShaped_1 H_impl_isShaped_1 a0 (a0.length : Int) e0 n 0) (fun o1_0 =>
  .ret o1_0) fun o1_1 =>
 .ret (-1)) (ze Tryz.func224)
def yZ (G_slices_IndexFunc_Value_isShaped_1 : (List GValue) → Int → Option Int) (a0 : (List GValue)) (e0 : Int) : Option Bool :=
 (G_slices_IndexFunc_Value_isShaped_1 a0 e0).bind fun r1 =>
 some (decide (0 <= r1))
theorem vA (G_slices_IndexFunc_Value_isShaped_1 : (List GValue) → Int → Option Int) (H_slices_IndexFunc_Value_isShaped_1 : yA G_slices_IndexFunc_Value_isShaped_1) : yb (yZ G_slices_IndexFunc_Value_isShaped_1) := fun a0 e0 => tc (
 .cl (H_slices_IndexFunc_Value_isShaped_1 a0 e0) fun r1 =>
 .gD 0 r1 <|
 .ret (decide (0 <= r1))) (ze Tryz.func203)
def xh (G_slices_ContainsFunc_Value_isShaped_1 : (List GValue) → Int → Option Bool) (v0 : Bool) (v1 : Bool) (v2 : (List (List UInt8))) (v3 : Int) (a0 : GValue) (a1 : Int) : Nat → Int → Option (Bool ⊕ Int)
  | 0, _ => none
  | m + 1, v4 =>
  if v4 < v3 then
   (zw v4).bind fun i2 =>
   (v2[i2]?).bind fun x3 =>
   (wT x3).bind fun r4 =>
   match r4 with
   | true =>
    if 0 < v4 then
     (zw (w64 (v4 - 1))).bind fun i6 =>
     (a0.K[i6]?).bind fun x7 =>
     (xM x7 x3).bind fun r8 =>
     if 0 <= r8 then
      some (.inl false)
     else
     xh G_slices_ContainsFunc_Value_isShaped_1 v0 v1 v2 v3 a0 a1 m (w64 (v4 + 1))
    else
    xh G_slices_ContainsFunc_Value_isShaped_1 v0 v1 v2 v3 a0 a1 m (w64 (v4 + 1))
   | false =>
    some (.inl false)
  else
  some (.inr v4)
theorem Kt (G_slices_ContainsFunc_Value_isShaped_1 : (List GValue) → Int → Option Bool) (H_slices_ContainsFunc_Value_isShaped_1 : yb G_slices_ContainsFunc_Value_isShaped_1) (v0 : Bool) (v1 : Bool) (v2 : (List (List UInt8))) (v3 : Int) (a0 : GValue) (a1 : Int) (m : Nat) : ∀ (v4 : Int), Ol (xh G_slices_ContainsFunc_Value_isShaped_1 v0 v1 v2 v3 a0 a1 m v4) 222 (zG Tryz.f222 0) ⟨[(2, vp 0 0), (3, vp 1 0), (5, vb v0), (6, vb v1), (99, vq (zt za) v2), (100, vi v3), (101, vi v4)], [.var (z6 a0), .var [ci a1]], 0⟩ fun o => match o with | .inl o_0 => (.ret, ⟨[(4, vb o_0)], [], 0⟩) | .inr (o_1) => (.exit 1, ⟨[(2, vp 0 0), (3, vp 1 0), (5, vb v0), (6, vb v1), (99, vq (zt za) v2), (100, vi v3), (101, vi o_1), (102, vb false)], [.var (z6 a0), .var [ci a1]], 0⟩) := by
  induction m with
  | zero => intro v4 o h; cases h
  | succ m ih => exact fun v4 => tlp (
   .lI v4 v3 (fun c1 =>
    .na v4 fun i2 =>
    .ix0 (zt za) v2 i2 fun x3 =>
    .cl (Xq x3) fun r4 =>
    .vN 0 r4 (
     .an 0 0 <|
     .lI 0 v4 (fun c5 =>
      .an 0 0 <|
      .na (w64 (v4 - 1)) fun i6 =>
      .ix0 (zt za) a0.K i6 fun x7 =>
      .cl (kV x7 x3) fun r8 =>
      .gI 0 r8 (fun c9 =>
       .an 0 3 <|
       .an 1 3 <|
       .ret (.inl false)) fun c9 =>
      .an 0 3 <|
      .an 1 3 <|
      .go (ih (w64 (v4 + 1)))) fun c5 =>
     .an 0 0 <|
     .an 9 0 <|
     .an 1 0 <|
     .go (ih (w64 (v4 + 1)))) <|
    .an 0 0 <|
    .an 0 0 <|
    .an 0 0 <|
    .an 0 0 <|
    .ret (.inl false)) fun c1 =>
   .ret (.inr v4))
def jG (G_slices_ContainsFunc_Value_isShaped_1 : (List GValue) → Int → Option Bool) (n : Nat) (a0 : GValue) (a1 : Int) : Option Bool :=
 if a1 = 0 then
  some false
 else
 if a0.Kind = 0 then
  if a0.N = 0 then
   if (a0.S.length : Int) = 0 then
    if (a0.K.length : Int) = 0 then
     some (decide ((a0.L.length : Int) = 0))
    else
    some false
   else
   some false
  else
  some false
 else
 if a0.Kind = 6 then
  if a0.N = 0 then
   if (a0.S.length : Int) = 0 then
    if (a0.K.length : Int) = 0 then
     some (decide ((a0.L.length : Int) = 0))
    else
    some false
   else
   some false
  else
  some false
 else
 if a0.Kind = 1 then
  (yD a0.N 0 1).bind fun r5 =>
  match r5 with
  | true =>
   if (a0.S.length : Int) = 0 then
    if (a0.K.length : Int) = 0 then
     some (decide ((a0.L.length : Int) = 0))
    else
    some false
   else
   some false
  | false =>
   some false
 else
 if a0.Kind = 2 then
  (yD a0.N (-1000000000000) 1000000000000).bind fun r6 =>
  match r6 with
  | true =>
   if (a0.S.length : Int) = 0 then
    if (a0.K.length : Int) = 0 then
     some (decide ((a0.L.length : Int) = 0))
    else
    some false
   else
   some false
  | false =>
   some false
 else
 if a0.Kind = 3 then
  (vk a0.S).bind fun r7 =>
  match r7 with
  | true =>
   if a0.N = 0 then
    if (a0.K.length : Int) = 0 then
     some (decide ((a0.L.length : Int) = 0))
    else
    some false
   else
   some false
  | false =>
   some false
 else
 if a0.Kind = 4 then
  if (a0.K.length : Int) = 0 then
   if a0.N = 0 then
    if (a0.S.length : Int) = 0 then
     if (a0.L.length : Int) <= 40 then
      (G_slices_ContainsFunc_Value_isShaped_1 a0.L a1).bind fun r12 =>
      some (!r12)
     else
     some false
    else
    some false
   else
   some false
  else
  some false
 else
 if a0.Kind = 5 then
  if (a0.K.length : Int) = (a0.L.length : Int) then
   (xh G_slices_ContainsFunc_Value_isShaped_1 (decide (a0.N = 0)) (decide ((a0.S.length : Int) = 0)) a0.K (a0.K.length : Int) a0 a1 n 0).bind fun o10 =>
   match o10 with
   | .inl o10_0 =>
    some o10_0
   | .inr (o10_1) =>
    if a0.N = 0 then
     if (a0.S.length : Int) = 0 then
      if (a0.L.length : Int) <= 40 then
       (G_slices_ContainsFunc_Value_isShaped_1 a0.L a1).bind fun r14 =>
       some (!r14)
      else
      some false
     else
     some false
    else
    some false
  else
  some false
 else
 some false
theorem U9 (G_slices_ContainsFunc_Value_isShaped_1 : (List GValue) → Int → Option Bool) (H_slices_ContainsFunc_Value_isShaped_1 : yb G_slices_ContainsFunc_Value_isShaped_1) (n : Nat) : vQ (jG G_slices_ContainsFunc_Value_isShaped_1 n) := fun a0 a1 => tc (
 .eI a1 0 (fun c1 =>
  .ret false) fun c1 =>
 .eD a0.N 0 <|
 .le za a0.S <|
 .eD (a0.S.length : Int) 0 <|
 .le (zt za) a0.K <|
 .eD (a0.K.length : Int) 0 <|
 .le zg a0.L <|
 .eD (a0.L.length : Int) 0 <|
 .eI a0.Kind 0 (fun c2 =>
  .cI 2 (a0.N = 0) (fun c3 =>
   .kT 0 (dT c3) <|
   .cI 0 ((a0.S.length : Int) = 0) (fun c4 =>
    .kT 0 (dT c4) <|
    .cI 0 ((a0.K.length : Int) = 0) (fun c5 =>
     .kT 0 (dT c5) <|
     .ret (decide ((a0.L.length : Int) = 0))) fun c5 =>
    .kF 0 (dF c5) <|
    .ret false) fun c4 =>
   .kF 0 (dF c4) <|
   .ret false) fun c3 =>
  .kF 0 (dF c3) <|
  .ret false) fun c2 =>
 .eI a0.Kind 6 (fun c3 =>
  .cI 1 (a0.N = 0) (fun c4 =>
   .kT 0 (dT c4) <|
   .cI 0 ((a0.S.length : Int) = 0) (fun c5 =>
    .kT 0 (dT c5) <|
    .cI 0 ((a0.K.length : Int) = 0) (fun c6 =>
     .kT 0 (dT c6) <|
     .ret (decide ((a0.L.length : Int) = 0))) fun c6 =>
    .kF 0 (dF c6) <|
    .ret false) fun c5 =>
   .kF 0 (dF c5) <|
   .ret false) fun c4 =>
  .kF 0 (dF c4) <|
  .ret false) fun c3 =>
 .eI a0.Kind 1 (fun c4 =>
  .cl (wd a0.N 0 1) fun r5 =>
  .vM 0 r5 (
   .az 0 0 <|
   .cI 0 ((a0.S.length : Int) = 0) (fun c6 =>
    .kT 0 (dT c6) <|
    .cI 0 ((a0.K.length : Int) = 0) (fun c7 =>
     .kT 0 (dT c7) <|
     .ret (decide ((a0.L.length : Int) = 0))) fun c7 =>
    .kF 0 (dF c7) <|
    .ret false) fun c6 =>
   .kF 0 (dF c6) <|
   .ret false) <|
  .az 0 0 <|
  .ret false) fun c4 =>
 .eI a0.Kind 2 (fun c5 =>
  .cl (wd a0.N (-1000000000000) 1000000000000) fun r6 =>
  .vM 0 r6 (
   .az 0 0 <|
   .cI 0 ((a0.S.length : Int) = 0) (fun c7 =>
    .kT 0 (dT c7) <|
    .cI 0 ((a0.K.length : Int) = 0) (fun c8 =>
     .kT 0 (dT c8) <|
     .ret (decide ((a0.L.length : Int) = 0))) fun c8 =>
    .kF 0 (dF c8) <|
    .ret false) fun c7 =>
   .kF 0 (dF c7) <|
   .ret false) <|
  .az 0 0 <|
  .ret false) fun c5 =>
 .eI a0.Kind 3 (fun c6 =>
  .cl (PO a0.S) fun r7 =>
  .vM 0 r7 (
   .az 0 0 <|
   .cI 0 (a0.N = 0) (fun c8 =>
    .kT 0 (dT c8) <|
    .cI 0 ((a0.K.length : Int) = 0) (fun c9 =>
     .kT 0 (dT c9) <|
     .ret (decide ((a0.L.length : Int) = 0))) fun c9 =>
    .kF 0 (dF c9) <|
    .ret false) fun c8 =>
   .kF 0 (dF c8) <|
   .ret false) <|
  .az 0 0 <|
  .ret false) fun c6 =>
 .eI a0.Kind 4 (fun c7 =>
  .cN 1 ((a0.K.length : Int) = 0) (fun c8 =>
   .cI 0 (a0.N = 0) (fun c9 =>
    .kT 0 (dT c9) <|
    .cI 0 ((a0.S.length : Int) = 0) (fun c10 =>
     .kT 0 (dT c10) <|
     .kT 0 (dT c10) <|
     .le zg a0.L <|
     .kT 0 (dT c10) <|
     .gI (a0.L.length : Int) 40 (fun c11 =>
      .kT 0 (dT c10) <|
      .cl (H_slices_ContainsFunc_Value_isShaped_1 a0.L a1) fun r12 =>
      .ret (!r12)) fun c11 =>
     .kT 0 (dT c10) <|
     .ret false) fun c10 =>
    .kF 0 (dF c10) <|
    .kF 0 (dF c10) <|
    .kF 0 (dF c10) <|
    .kF 0 (dF c10) <|
    .ret false) fun c9 =>
   .kF 0 (dF c9) <|
   .ret false) fun c8 =>
  .ret false) fun c7 =>
 .eI a0.Kind 5 (fun c8 =>
  .le (zt za) a0.K <|
  .le zg a0.L <|
  .eI (a0.K.length : Int) (a0.L.length : Int) (fun c9 =>
   .le (zt za) a0.K <|
   .l2 (Kt G_slices_ContainsFunc_Value_isShaped_1 H_slices_ContainsFunc_Value_isShaped_1 (decide (a0.N = 0)) (decide ((a0.S.length : Int) = 0)) a0.K (a0.K.length : Int) a0 a1 n 0) (fun o10_0 =>
    .ret o10_0) fun o10_1 =>
   .cI 0 (a0.N = 0) (fun c11 =>
    .kT 0 (dT c11) <|
    .cI 0 ((a0.S.length : Int) = 0) (fun c12 =>
     .kT 0 (dT c12) <|
     .kT 0 (dT c12) <|
     .le zg a0.L <|
     .kT 0 (dT c12) <|
     .gI (a0.L.length : Int) 40 (fun c13 =>
      .kT 0 (dT c12) <|
      .cl (H_slices_ContainsFunc_Value_isShaped_1 a0.L a1) fun r14 =>
      .ret (!r14)) fun c13 =>
     .kT 0 (dT c12) <|
     .ret false) fun c12 =>
    .kF 0 (dF c12) <|
    .kF 0 (dF c12) <|
    .kF 0 (dF c12) <|
    .kF 0 (dF c12) <|
    .ret false) fun c11 =>
   .kF 0 (dF c11) <|
   .ret false) fun c9 =>
  .ret false) fun c8 =>
 .ret false) (ze Tryz.func222)
mutual
def yW : Nat → GValue → Int → Option Bool
 | 0, _, _ => none
 | n + 1, a0, e0 => ZH (xN n) a0 e0
def zK : Nat → (List GValue) → Int → Option Int
 | 0, _, _ => none
 | n + 1, a0, e0 => yB (yW n) n a0 e0
def zD : Nat → (List GValue) → Int → Option Bool
 | 0, _, _ => none
 | n + 1, a0, e0 => yZ (zK n) a0 e0
def xN : Nat → GValue → Int → Option Bool
 | 0, _, _ => none
 | n + 1, a0, a1 => jG (zD n) n a0 a1
end
theorem jw (n : Nat) : qR (yW n) ∧ yA (zK n) ∧ yb (zD n) ∧ vQ (xN n) := by
 induction n with
 | zero => exact ⟨fun _ _ _ h => (by rw [yW] at h; cases h), fun _ _ _ h => (by rw [zK] at h; cases h), fun _ _ _ h => (by rw [zD] at h; cases h), fun _ _ _ h => (by rw [xN] at h; cases h)⟩
 | succ n ih =>
  obtain ⟨ih_impl_isShaped_1, ih_slices_IndexFunc_Value_isShaped_1, ih_slices_ContainsFunc_Value_isShaped_1, ih_impl_isShaped⟩ := ih
  exact ⟨fun a0 e0 r h => Rv (xN n) ih_impl_isShaped a0 e0 r (by rw [yW] at h; exact h),
   fun a0 e0 r h => Z7 (yW n) ih_impl_isShaped_1 n a0 e0 r (by rw [zK] at h; exact h),
   fun a0 e0 r h => vA (zK n) ih_slices_IndexFunc_Value_isShaped_1 a0 e0 r (by rw [zD] at h; exact h),
   fun a0 a1 r h => U9 (zD n) ih_slices_ContainsFunc_Value_isShaped_1 n a0 a1 r (by rw [xN] at h; exact h)⟩
theorem AZ (a b : List UInt8) : xM a b = some (Lib.compareBytes a b) := rfl
theorem Ee {a : List UInt8} (h : a.length <= 2 ^ 20) : wT a = some (jK a) := if_pos h
theorem Ef {a : List UInt8} (h : a.length <= 2 ^ 20) : vk a = some (YY a) := if_pos h
theorem vB {G : GValue → Int → Option Bool} {a : List GValue} {f : Nat} {e : Int} {p : GValue → Bool} (ha : a.length <= 2 ^ 20) (hf : a.length < f) (hG : ∀ x ∈ a, G x e = some (!p x)) : ∃ r : Int, yB G f a e = some r ∧ decide (0 <= r) = !(a.all p) := by
 have loop : ∀ (d i m : Nat), i + d = a.length → d < m → ∃ (q : Nat) (z : Int), zO G a (a.length : Int) e m (i : Int) = some (if (a.drop i).all p = true then .inr z else .inl (q : Int)) := by
  intro d
  induction d with
  | zero =>
   intro i m hi hm
   obtain ⟨m, rfl, _⟩ := zh hm
   exact ⟨0, _, by rw [zO, if_neg (by omega), List.drop_eq_nil_of_le (by omega)]; rfl⟩
  | succ d ih =>
   intro i m hi hm
   obtain ⟨m, rfl, hm'⟩ := zh hm
   have hil : i < a.length := by omega
   rw [zO, if_pos (by omega), zf, Option.bind_some, zk hil, Option.bind_some, hG _ (List.getElem_mem hil), Option.bind_some, zC (by omega), xI hil, List.all_cons]
   cases hp : p a[i] with
   | false => exact ⟨i, 0, rfl⟩
   | true =>
    obtain ⟨q, z, hz⟩ := ih (i + 1) m (by omega) (by omega)
    exact ⟨q, z, by rw [Bool.true_and]; exact hz⟩
 obtain ⟨q, z, hz⟩ := loop a.length 0 f (by omega) (by omega)
 rw [show ((0 : Nat) : Int) = 0 from rfl, List.drop_zero] at hz
 unfold yB
 rw [hz, Option.bind_some]
 cases hp : a.all p with
 | true => exact ⟨-1, rfl, rfl⟩
 | false => exact ⟨(q : Int), rfl, by simp⟩
theorem Lh {G : List GValue → Int → Option Bool} {v : GValue} {v0 v1 : Bool} {a1 : Int} (hs : vsz v <= 2 ^ 20) : ∀ (d i m : Nat), i + d = v.K.length → d < m → ∃ z, xh G v0 v1 v.K (v.K.length : Int) v a1 m (i : Int) = some (if va v.K i d = true then .inr z else .inl false) := by
 have he := qI v
 have hl := kD v.K
 intro d
 induction d with
 | zero =>
  intro i m hi hm
  obtain ⟨m, rfl, _⟩ := zh hm
  exact ⟨_, by rw [xh, if_neg (by omega)]; rfl⟩
 | succ d ih =>
  intro i m hi hm
  obtain ⟨m, rfl, hm'⟩ := zh hm
  have hil : i < v.K.length := by omega
  have hx := Xw (List.getElem_mem hil)
  rw [xh, if_pos (by omega), zf, Option.bind_some, zk hil, Option.bind_some, Ee (by omega), Option.bind_some, zC (by omega), Q9]
  obtain ⟨z, hz⟩ := ih (i + 1) m (by omega) (by omega)
  cases hnm : jK v.K[i] with
  | false =>
   refine ⟨0, ?_⟩
   have : kOk v.K i = false := by
    by_cases h0 : i = 0
    ·subst h0; rw [JP hil, hnm]
    ·rw [Jh hil (by omega), hnm]; rfl
   rw [this]; rfl
  | true =>
   dsimp only
   by_cases h0 : 0 < i
   ·rw [if_pos (by omega), jR (by omega) h0, zf, Option.bind_some, zk (show i - 1 < v.K.length by omega), Option.bind_some, AZ, Option.bind_some]
    by_cases hb : Op.bytesLess (v.K[i - 1]'(by omega)) v.K[i] = true
    ·rw [if_neg (by rw [Xx]; exact fun h => h hb), Jh hil h0, hnm, hb]
     exact ⟨z, hz⟩
    ·rw [if_pos (by rw [Xx]; exact hb), Jh hil h0, hnm, show Op.bytesLess (v.K[i - 1]'(by omega)) v.K[i] = false by simpa using hb]
     exact ⟨0, rfl⟩
   ·have : i = 0 := by omega
    subst this
    rw [if_neg (by omega), JP hil, hnm]
    exact ⟨z, hz⟩
theorem GP {G : List GValue → Int → Option Bool} {v : GValue} {f d : Nat} (hs : vsz v <= 2 ^ 20) (hf : v.K.length < f) (hd : 0 < d) (hG : G v.L (d : Int) = some (!(v.L.all (shV (d - 1))))) : jG G f v (d : Int) = some (shV d v) := by
 obtain ⟨e, rfl⟩ : ∃ e, d = e + 1 := ⟨d - 1, by omega⟩
 have he := qI v
 have hl := xn v.L
 have hb := kD v.K
 rw [show e + 1 - 1 = e by omega] at hG
 unfold jG
 rw [if_neg (by omega)]
 simp only [shV]
 have nil : v.L.length = 0 → v.L.all (shV e) = true := fun h => by rw [List.eq_nil_of_length_eq_zero h]; rfl
 have c0 : ∀ n : Nat, (((n : Nat) : Int) = 0) = (n = 0) := fun n => by simp
 simp only [c0]
 have leaf : ∀ {b : Bool}, y7 v = (b && decide (v.L.length = 0)) → b = true → some (decide (v.L.length = 0)) = some (y7 v && v.L.all (shV e)) := fun h hb' => by
  rw [h, hb', Bool.true_and]
  by_cases hz : v.L.length = 0
  ·rw [decide_eq_true hz, nil hz]; rfl
  ·rw [decide_eq_false hz]; rfl
 have no : y7 v = false → some false = some (y7 v && v.L.all (shV e)) := fun h => by rw [h]; rfl
 have four : ∀ {p : Prop} [Decidable p], y7 v = decide (p ∧ v.S.length = 0 ∧ v.K.length = 0 ∧ v.L.length = 0) → p → (if v.S.length = 0 then if v.K.length = 0 then some (decide (v.L.length = 0)) else some false else some false) = some (y7 v && v.L.all (shV e)) := fun h hp => by
  by_cases h1 : v.S.length = 0
  ·rw [if_pos h1]
   by_cases h2 : v.K.length = 0
   ·rw [if_pos h2]
    exact leaf (b := true) (by rw [h]; simp [hp, h1, h2]) rfl
   ·rw [if_neg h2]; exact no (by rw [h, decide_eq_false (fun h => h2 h.2.2.1)])
  ·rw [if_neg h1]; exact no (by rw [h, decide_eq_false (fun h => h1 h.2.1)])
 by_cases k0 : v.Kind = 0
 ·rw [if_pos k0]
  have hv : y7 v = decide (v.N = 0 ∧ v.S.length = 0 ∧ v.K.length = 0 ∧ v.L.length = 0) := by unfold y7; rw [if_pos (.inl k0)]
  by_cases a1 : v.N = 0
  ·rw [if_pos a1]; exact four hv a1
  ·rw [if_neg a1]; exact no (by rw [hv, decide_eq_false (fun h => a1 h.1)])
 rw [if_neg k0]
 by_cases k6 : v.Kind = 6
 ·rw [if_pos k6]
  have hv : y7 v = decide (v.N = 0 ∧ v.S.length = 0 ∧ v.K.length = 0 ∧ v.L.length = 0) := by unfold y7; rw [if_pos (.inr k6)]
  by_cases a1 : v.N = 0
  ·rw [if_pos a1]; exact four hv a1
  ·rw [if_neg a1]; exact no (by rw [hv, decide_eq_false (fun h => a1 h.1)])
 rw [if_neg k6]
 have n06 : ¬ (v.Kind = 0 ∨ v.Kind = 6) := by omega
 by_cases k1 : v.Kind = 1
 ·rw [if_pos k1, X7, Option.bind_some]
  have hv : y7 v = decide ((0 <= v.N ∧ v.N <= 1) ∧ v.S.length = 0 ∧ v.K.length = 0 ∧ v.L.length = 0) := by unfold y7; rw [if_neg n06, if_pos k1]
  by_cases a1 : 0 <= v.N ∧ v.N <= 1
  ·rw [decide_eq_true a1]; exact four hv a1
  ·rw [decide_eq_false a1]; exact no (by rw [hv, decide_eq_false (fun h => a1 h.1)])
 rw [if_neg k1]
 by_cases k2 : v.Kind = 2
 ·rw [if_pos k2, X7, Option.bind_some]
  have hv : y7 v = decide ((-1000000000000 <= v.N ∧ v.N <= 1000000000000) ∧ v.S.length = 0 ∧ v.K.length = 0 ∧ v.L.length = 0) := by unfold y7; rw [if_neg n06, if_neg k1, if_pos k2]
  by_cases a1 : -1000000000000 <= v.N ∧ v.N <= 1000000000000
  ·rw [decide_eq_true a1]; exact four hv a1
  ·rw [decide_eq_false a1]; exact no (by rw [hv, decide_eq_false (fun h => a1 h.1)])
 rw [if_neg k2]
 by_cases k3 : v.Kind = 3
 ·rw [if_pos k3, Ef (by omega), Option.bind_some]
  have hv : y7 v = (YY v.S && decide (v.N = 0 ∧ v.K.length = 0 ∧ v.L.length = 0)) := by unfold y7; rw [if_neg n06, if_neg k1, if_neg k2, if_pos k3]
  cases ht : YY v.S with
  | false => exact no (by rw [hv, ht]; rfl)
  | true =>
   rw [ht, Bool.true_and] at hv
   dsimp only
   by_cases a1 : v.N = 0
   ·rw [if_pos a1]
    by_cases a2 : v.K.length = 0
    ·rw [if_pos a2]; exact leaf (b := true) (by rw [hv]; simp [a1, a2]) rfl
    ·rw [if_neg a2]; exact no (by rw [hv, decide_eq_false (fun h => a2 h.2.1)])
   ·rw [if_neg a1]; exact no (by rw [hv, decide_eq_false (fun h => a1 h.1)])
 rw [if_neg k3]
 have ends : ∀ {b : Bool}, y7 v = (b && decide (v.L.length <= 40)) → b = true → (if (v.L.length : Int) <= 40 then (G v.L ((e + 1 : Nat) : Int)).bind fun r12 => some (!r12) else some false) = some (y7 v && v.L.all (shV e)) := fun h hb' => by
  by_cases h4 : v.L.length <= 40
  ·rw [if_pos (by omega), hG, Option.bind_some, h, hb', decide_eq_true h4, Bool.not_not]; rfl
  ·rw [if_neg (by omega)]; exact no (by rw [h, decide_eq_false h4, Bool.and_false])
 by_cases k4 : v.Kind = 4
 ·rw [if_pos k4]
  have hv : y7 v = decide (v.N = 0 ∧ v.S.length = 0 ∧ v.K.length = 0 ∧ v.L.length <= 40) := by unfold y7; rw [if_neg n06, if_neg k1, if_neg k2, if_neg k3, if_pos k4]
  by_cases a1 : v.K.length = 0
  ·rw [if_pos a1]
   by_cases a2 : v.N = 0
   ·rw [if_pos a2]
    by_cases a3 : v.S.length = 0
    ·rw [if_pos a3]; exact ends (b := true) (by rw [hv]; simp [a1, a2, a3]) rfl
    ·rw [if_neg a3]; exact no (by rw [hv, decide_eq_false (fun h => a3 h.2.1)])
   ·rw [if_neg a2]; exact no (by rw [hv, decide_eq_false (fun h => a2 h.1)])
  ·rw [if_neg a1]; exact no (by rw [hv, decide_eq_false (fun h => a1 h.2.2.1)])
 rw [if_neg k4]
 by_cases k5 : v.Kind = 5
 ·rw [if_pos k5]
  have hv : y7 v = (decide (v.K.length = v.L.length ∧ v.N = 0 ∧ v.S.length = 0 ∧ v.L.length <= 40) && va v.K 0 v.K.length) := by unfold y7; rw [if_neg n06, if_neg k1, if_neg k2, if_neg k3, if_neg k4, if_pos k5]
  by_cases a1 : (v.K.length : Int) = (v.L.length : Int)
  ·rw [if_pos a1]
   have keys := fun (v0 v1 : Bool) => Lh (G := G) (v0 := v0) (v1 := v1) (a1 := ((e + 1 : Nat) : Int)) hs v.K.length 0 f (by omega) (by omega)
   simp only [show ((0 : Nat) : Int) = 0 from rfl] at keys
   obtain ⟨z, hz⟩ := keys (decide (v.N = 0)) (decide (v.S.length = 0))
   rw [hz, Option.bind_some]
   cases hk : va v.K 0 v.K.length with
   | false => exact no (by rw [hv, hk, Bool.and_false])
   | true =>
    rw [if_pos rfl]
    dsimp only
    by_cases a2 : v.N = 0
    ·rw [if_pos a2]
     by_cases a3 : v.S.length = 0
     ·rw [if_pos a3]
      exact ends (b := true) (by rw [hv, hk]; simp [a2, a3, show v.K.length = v.L.length by omega]) rfl
     ·rw [if_neg a3]
      exact no (by rw [hv, decide_eq_false (fun h => a3 h.2.2.1)]; rfl)
    ·rw [if_neg a2]
     exact no (by rw [hv, decide_eq_false (fun h => a2 h.2.1)]; rfl)
  ·rw [if_neg a1]; exact no (by rw [hv, decide_eq_false (fun h => a1 (by omega))]; rfl)
 rw [if_neg k5]
 exact no (by unfold y7; simp only [k0, k1, k2, k3, k4, k5, k6, or_self, if_false])
theorem GQ : ∀ (N : Nat) (v : GValue), vsz v < N → vsz v <= 2 ^ 20 → ∀ (f d : Nat), 4 * vsz v + 6 <= f → d <= 2 ^ 20 → xN f v (d : Int) = some (shV d v) := by
 intro N
 induction N with
 | zero => intro v hv; omega
 | succ N ih =>
  intro v hv hs f d hf hd
  have he := qI v
  have hl := xn v.L
  have hb := kD v.K
  obtain ⟨f, rfl, _⟩ := zh (show 0 < f by omega)
  rw [xN]
  by_cases h0 : d = 0
  ·subst h0; unfold jG; rw [if_pos (show ((0 : Nat) : Int) = 0 from rfl)]; rfl
  refine GP hs (by omega) (by omega) ?_
  obtain ⟨f, rfl, _⟩ := zh (show 0 < f by omega)
  obtain ⟨f, rfl, _⟩ := zh (show 0 < f by omega)
  obtain ⟨f, rfl, _⟩ := zh (show 0 < f by omega)
  rw [zD]
  unfold yZ
  rw [zK]
  obtain ⟨r, hr, hr2⟩ := vB (G := yW (f + 1)) (a := v.L) (f := f + 1) (e := (d : Int)) (p := shV (d - 1)) (by omega) (by omega) fun x hx => by
   have := qw hx
   rw [yW]
   unfold ZH
   rw [jR (by omega) (by omega), ih x (by omega) (by omega) f (d - 1) (by omega) (by omega)]
   rfl
  rw [hr, Option.bind_some, hr2]
def XZ (a0 : GValue) (e0 : Int) : Option Bool := none
theorem J5 (a0 : GValue) (e0 : Int) (r : Bool) (h : XZ a0 e0 = some r) : ∃ n, yW n a0 e0 = some r := by cases h
def qL (a0 : (List GValue)) (e0 : Int) : Option Int := none
theorem vC (a0 : (List GValue)) (e0 : Int) (r : Int) (h : qL a0 e0 = some r) : ∃ n, zK n a0 e0 = some r := by cases h
def wV (a0 : (List GValue)) (e0 : Int) : Option Bool := none
theorem kI (a0 : (List GValue)) (e0 : Int) (r : Bool) (h : wV a0 e0 = some r) : ∃ n, zD n a0 e0 = some r := by cases h
def qM (a0 : GValue) (a1 : Int) : Option Bool := if vsz a0 <= 2 ^ 20 ∧ 0 <= a1 ∧ a1 <= 2 ^ 20 then some (shV a1.toNat a0) else none
theorem Vp (a0 : GValue) (a1 : Int) (r : Bool) (h : qM a0 a1 = some r) : ∃ n, xN n a0 a1 = some r := by
 unfold qM at h
 obtain ⟨⟨hs, h0, h1⟩, h⟩ := zR h
 refine ⟨4 * vsz a0 + 6, ?_⟩
 have := GQ _ a0 (Nat.lt_succ_self _) hs _ a1.toNat (Nat.le_refl _) (by omega)
 rw [show ((a1.toNat : Nat) : Int) = a1 by omega] at this
 rw [this]; exact h
theorem Eg : qR XZ := by
 intro a0 e0 r h
 obtain ⟨n, hn⟩ := J5 a0 e0 r h
 exact (jw n).1 a0 e0 r hn
theorem Vq : yA qL := by
 intro a0 e0 r h
 obtain ⟨n, hn⟩ := vC a0 e0 r h
 exact (jw n).2.1 a0 e0 r hn
theorem Kg : yb wV := by
 intro a0 e0 r h
 obtain ⟨n, hn⟩ := kI a0 e0 r h
 exact (jw n).2.2.1 a0 e0 r hn
theorem Ts : vQ qM := by
 intro a0 a1 r h
 obtain ⟨n, hn⟩ := Vp a0 a1 r h
 exact (jw n).2.2.2 a0 a1 r hn
def qA (F : GValue → Option Int) : Prop := ∀ (a0 : GValue), Oc (F a0) 223 [] [.val true (z6 a0)] fun r => (vi r, [])
def xe (G_impl_Value_parts : GValue → Option Int) (v1 : (List GValue)) (v2 : Int) : Nat → Int → Int → Option (Int × Int)
  | 0, _, _ => none
  | m + 1, v0, v3 =>
  if v3 < v2 then
   (zw v3).bind fun i2 =>
   (v1[i2]?).bind fun x3 =>
   (G_impl_Value_parts x3).bind fun r4 =>
   xe G_impl_Value_parts v1 v2 m (w64 (v0 + r4)) (w64 (v3 + 1))
  else
  some (v0, v3)
theorem QH (G_impl_Value_parts : GValue → Option Int) (H_impl_Value_parts : qA G_impl_Value_parts) (v1 : (List GValue)) (v2 : Int) (m : Nat) : ∀ (v0 : Int) (v3 : Int), Ol (xe G_impl_Value_parts v1 v2 m v0 v3) 223 (zG Tryz.f223 0) ⟨[(3, vi v0), (7, vq zg v1), (8, vi v2), (9, vi v3)], [], 0⟩ fun o => match o with | ⟨o_0, o_1⟩ => (.exit 0, ⟨[(3, vi o_0), (7, vq zg v1), (8, vi v2), (9, vi o_1), (10, vb false)], [], 0⟩) := by
  induction m with
  | zero => intro v0 v3 o h; cases h
  | succ m ih => exact fun v0 v3 => tlp (
   .lI v3 v2 (fun c1 =>
    .na v3 fun i2 =>
    .ix yn v1 i2 fun x3 =>
    .cl (H_impl_Value_parts x3) fun r4 =>
    .go (ih (w64 (v0 + r4)) (w64 (v3 + 1)))) fun c1 =>
   .ret (v0, v3))
def jH (G_impl_Value_parts : GValue → Option Int) (n : Nat) (a0 : GValue) : Option Int :=
 (xe G_impl_Value_parts a0.L (a0.L.length : Int) n 1 0).bind fun ⟨o1_0, o1_1⟩ =>
 some o1_0
theorem Vr (G_impl_Value_parts : GValue → Option Int) (H_impl_Value_parts : qA G_impl_Value_parts) (n : Nat) : qA (jH G_impl_Value_parts n) := fun a0 => tc (
 .le zg a0.L <|
 .lp (QH G_impl_Value_parts H_impl_Value_parts a0.L (a0.L.length : Int) n 1 0) fun ⟨o1_0, o1_1⟩ =>
 .ret o1_0) (ze Tryz.func223)
def yN : Nat → GValue → Option Int
 | 0, _ => none
 | n + 1, a0 => jH (yN n) n a0
theorem J6 (n : Nat) : qA (yN n) := by
 induction n with
 | zero => exact fun _ _ h => (by rw [yN] at h; cases h)
 | succ n ih =>
  have ih_impl_Value_parts := ih
  exact fun a0 r h => Vr (yN n) ih_impl_Value_parts n a0 r (by rw [yN] at h; exact h)
theorem Vs {G : GValue → Option Int} {v : GValue} {f : Nat} (hs : vsz v <= 2 ^ 20) (hf : v.L.length < f) (hG : ∀ x ∈ v.L, G x = some (((ptV x) : Nat) : Int)) : jH G f v = some (((ptV v) : Nat) : Int) := by
 have he := qI v
 have hl := xn v.L
 have loop : ∀ (d i m : Nat) (r : Int), i + d = v.L.length → d < m → 0 <= r → r <= 2 ^ 21 - xx (v.L.drop i) → ∃ z, xe G v.L (v.L.length : Int) m r (i : Int) = some (r + xx (v.L.drop i), z) := by
  intro d
  induction d with
  | zero =>
   intro i m r hi hm h0 h1
   obtain ⟨m, rfl, _⟩ := zh hm
   exact ⟨_, by rw [xe, if_neg (by omega), List.drop_eq_nil_of_le (by omega)]; simp [xx]; rfl⟩
  | succ d ih =>
   intro i m r hi hm h0 h1
   obtain ⟨m, rfl, hm'⟩ := zh hm
   have hil : i < v.L.length := by omega
   have hp : xx (v.L.drop i) = ptV v.L[i] + xx (v.L.drop (i + 1)) := by rw [xI hil]; simp only [xx]
   rw [hp] at h1 ⊢
   rw [xe, if_pos (by omega), zf, Option.bind_some, zk hil, Option.bind_some, hG _ (List.getElem_mem hil), Option.bind_some, zC (by omega), yC (by omega) (by omega)]
   obtain ⟨z, hz⟩ := ih (i + 1) m (r + ptV v.L[i]) (by omega) (by omega) (by omega) (by omega)
   exact ⟨z, by rw [hz]; congr 2; omega⟩
 have hle := Of v.L
 obtain ⟨z, hz⟩ := loop v.L.length 0 f 1 (by omega) (by omega) (by omega) (by rw [List.drop_zero]; omega)
 rw [show ((0 : Nat) : Int) = 0 from rfl, List.drop_zero] at hz
 unfold jH
 rw [hz, VF]
 simp only [Option.bind_some]
 congr 1
theorem Vt : ∀ (N : Nat) (v : GValue), vsz v < N → vsz v <= 2 ^ 20 → ∀ f : Nat, vsz v + 2 <= f → yN f v = some (((ptV v) : Nat) : Int) := by
 intro N
 induction N with
 | zero => intro v hv; omega
 | succ N ih =>
  intro v hv hs f hf
  obtain ⟨f, rfl, _⟩ := zh (show 0 < f by omega)
  have he := qI v
  have hl := xn v.L
  rw [yN]
  refine Vs hs (by omega) fun x hx => ?_
  have := qw hx
  exact ih x (by omega) (by omega) f (by omega)
def wx (a0 : GValue) : Option Int := if vsz a0 <= 2 ^ 20 then some (((ptV a0) : Nat) : Int) else none
theorem QW (a0 : GValue) (r : Int) (h : wx a0 = some r) : ∃ n, yN n a0 = some r := by
 unfold wx at h
 obtain ⟨ha, h⟩ := zR h
 exact ⟨vsz a0 + 2, by rw [<- h]; exact Vt _ a0 (Nat.lt_succ_self _) ha _ (Nat.le_refl _)⟩
theorem Ku : qA wx := by
 intro a0 r h
 obtain ⟨n, hn⟩ := QW a0 r h
 exact (J6 n) a0 r hn
def jc (a0 : GValue) : Option Bool :=
 (qM a0 5).bind fun r1 =>
 match r1 with
 | true =>
  (wx a0).bind fun r2 =>
  some (decide (r2 <= 40))
 | false =>
  some false
theorem UA (a0 : GValue) : Oc (jc a0) 202 [] [.val true (z6 a0)] fun r => (vb r, []) := tc (
 .cl (Ts a0 5) fun r1 =>
 .vM 0 r1 (
  .az 0 0 <|
  .cl (Ku a0) fun r2 =>
  .az 0 1 <|
  .gD r2 40 <|
  .az 0 1 <|
  .ret (decide (r2 <= 40))) <|
 .az 0 0 <|
 .az 0 0 <|
 .az 0 0 <|
 .ret false) (ze Tryz.func202)
def YO (a0 : GValue) : Option Bool :=
 if a0.Kind = 5 then
  (jc a0).bind fun r2 =>
  some r2
 else
 some false
theorem Li (a0 : GValue) : Oc (YO a0) 175 [] [.val true (z6 a0)] fun r => (vb r, []) := tc (
 .eI a0.Kind 5 (fun c1 =>
  .cl (UA a0) fun r2 =>
  .ret r2) fun c1 =>
 .ret false) (ze Tryz.func175)
def wG (F : GValue → Option Bool) : Prop := ∀ (a0 : GValue), Oc (F a0) 204 [] [.val true (z6 a0)] fun r => (vb r, [])
def yw (F : (List GValue) → Option Int) : Prop := ∀ (a0 : (List GValue)), Oc (F a0) 224 [] [vq zg a0, .val false [.fn 204 []]] fun r => (vi r, [])
def yp (F : (List GValue) → Option Bool) : Prop := ∀ (a0 : (List GValue)), Oc (F a0) 203 [] [vq zg a0, .val false [.fn 204 []]] fun r => (vb r, [])
def jI (F : GValue → Option Bool) : Prop := ∀ (a0 : GValue), Oc (F a0) 176 [] [.val true (z6 a0)] fun r => (vb r, [])
def kW (G_impl_Value_known : GValue → Option Bool) (a0 : GValue) : Option Bool :=
 (G_impl_Value_known a0).bind fun r1 =>
 some (!r1)
theorem J7 (G_impl_Value_known : GValue → Option Bool) (H_impl_Value_known : jI G_impl_Value_known) : wG (kW G_impl_Value_known) := fun a0 => tc (
 .cl (H_impl_Value_known a0) fun r1 =>
 .ret (!r1)) (ze Tryz.func204)
def zH (G_impl_Value_known_1 : GValue → Option Bool) (a0 : (List GValue)) (v1 : Int) : Nat → Int → Option (Int ⊕ Int)
  | 0, _ => none
  | m + 1, v2 =>
  if v2 < v1 then
   (zw v2).bind fun i2 =>
   (a0[i2]?).bind fun x3 =>
   (G_impl_Value_known_1 x3).bind fun r4 =>
   match r4 with
   | true =>
    some (.inl v2)
   | false =>
    zH G_impl_Value_known_1 a0 v1 m (w64 (v2 + 1))
  else
  some (.inr v2)
theorem kz (G_impl_Value_known_1 : GValue → Option Bool) (H_impl_Value_known_1 : wG G_impl_Value_known_1) (a0 : (List GValue)) (v1 : Int) (m : Nat) : ∀ (v2 : Int), Ol (zH G_impl_Value_known_1 a0 v1 m v2) 224 (zG Tryz.f224 0) ⟨[(0, vq zg a0), (1, .val false [.fn 204 []]), (7, vi v1), (8, vi v2)], [], 0⟩ fun o => match o with | .inl o_0 => (.ret, ⟨[(4, vi o_0)], [], 0⟩) | .inr (o_1) => (.exit 0, ⟨[(0, vq zg a0), (1, .val false [.fn 204 []]), (7, vi v1), (8, vi o_1), (9, vb false)], [], 0⟩) := by
  induction m with
  | zero => intro v2 o h; cases h
  | succ m ih => exact fun v2 => tlp (
   .lI v2 v1 (fun c1 =>
    .na v2 fun i2 =>
    .ix yn a0 i2 fun x3 =>
    .cl (H_impl_Value_known_1 x3) fun r4 =>
    .vM 0 r4 (
     .ret (.inl v2)) <|
    .go (ih (w64 (v2 + 1)))) fun c1 =>
   .ret (.inr v2))
def yx (G_impl_Value_known_1 : GValue → Option Bool) (n : Nat) (a0 : (List GValue)) : Option Int :=
 (zH G_impl_Value_known_1 a0 (a0.length : Int) n 0).bind fun o1 =>
 match o1 with
 | .inl o1_0 =>
  some o1_0
 | .inr (o1_1) =>
  some (-1)
theorem vD (G_impl_Value_known_1 : GValue → Option Bool) (H_impl_Value_known_1 : wG G_impl_Value_known_1) (n : Nat) : yw (yx G_impl_Value_known_1 n) := fun a0 => tc (
 .le zg a0 <|
 .l2 (kz G_impl_Value_known_1 H_impl_Value_known_1 a0 (a0.length : Int) n 0) (fun o1_0 =>
  .ret o1_0) fun o1_1 =>
 .ret (-1)) (ze Tryz.func224)
def yM (G_slices_IndexFunc_Value_Value_known_1 : (List GValue) → Option Int) (a0 : (List GValue)) : Option Bool :=
 (G_slices_IndexFunc_Value_Value_known_1 a0).bind fun r1 =>
 some (decide (0 <= r1))
theorem kJ (G_slices_IndexFunc_Value_Value_known_1 : (List GValue) → Option Int) (H_slices_IndexFunc_Value_Value_known_1 : yw G_slices_IndexFunc_Value_Value_known_1) : yp (yM G_slices_IndexFunc_Value_Value_known_1) := fun a0 => tc (
 .cl (H_slices_IndexFunc_Value_Value_known_1 a0) fun r1 =>
 .gD 0 r1 <|
 .ret (decide (0 <= r1))) (ze Tryz.func203)
def Zi (G_slices_ContainsFunc_Value_Value_known_1 : (List GValue) → Option Bool) (a0 : GValue) : Option Bool :=
 if a0.Kind = 6 then
  some false
 else
 (G_slices_ContainsFunc_Value_Value_known_1 a0.L).bind fun r2 =>
 some (!r2)
theorem Vu (G_slices_ContainsFunc_Value_Value_known_1 : (List GValue) → Option Bool) (H_slices_ContainsFunc_Value_Value_known_1 : yp G_slices_ContainsFunc_Value_Value_known_1) : jI (Zi G_slices_ContainsFunc_Value_Value_known_1) := fun a0 => tc (
 .eI a0.Kind 6 (fun c1 =>
  .ret false) fun c1 =>
 .cl (H_slices_ContainsFunc_Value_Value_known_1 a0.L) fun r2 =>
 .ret (!r2)) (ze Tryz.func176)
mutual
def y5 : Nat → GValue → Option Bool
 | 0, _ => none
 | n + 1, a0 => kW (yO n) a0
def zE : Nat → (List GValue) → Option Int
 | 0, _ => none
 | n + 1, a0 => yx (y5 n) n a0
def zz : Nat → (List GValue) → Option Bool
 | 0, _ => none
 | n + 1, a0 => yM (zE n) a0
def yO : Nat → GValue → Option Bool
 | 0, _ => none
 | n + 1, a0 => Zi (zz n) a0
end
theorem q4 (n : Nat) : wG (y5 n) ∧ yw (zE n) ∧ yp (zz n) ∧ jI (yO n) := by
 induction n with
 | zero => exact ⟨fun _ _ h => (by rw [y5] at h; cases h), fun _ _ h => (by rw [zE] at h; cases h), fun _ _ h => (by rw [zz] at h; cases h), fun _ _ h => (by rw [yO] at h; cases h)⟩
 | succ n ih =>
  obtain ⟨ih_impl_Value_known_1, ih_slices_IndexFunc_Value_Value_known_1, ih_slices_ContainsFunc_Value_Value_known_1, ih_impl_Value_known⟩ := ih
  exact ⟨fun a0 r h => J7 (yO n) ih_impl_Value_known a0 r (by rw [y5] at h; exact h),
   fun a0 r h => vD (y5 n) ih_impl_Value_known_1 n a0 r (by rw [zE] at h; exact h),
   fun a0 r h => kJ (zE n) ih_slices_IndexFunc_Value_Value_known_1 a0 r (by rw [zz] at h; exact h),
   fun a0 r h => Vu (zz n) ih_slices_ContainsFunc_Value_Value_known_1 a0 r (by rw [yO] at h; exact h)⟩
def YP (a0 : GValue) : Option Bool := none
theorem Qc (a0 : GValue) (r : Bool) (h : YP a0 = some r) : ∃ n, y5 n a0 = some r := by cases h
def wW (a0 : (List GValue)) : Option Int := none
theorem kK (a0 : (List GValue)) (r : Int) (h : wW a0 = some r) : ∃ n, zE n a0 = some r := by cases h
def wD (a0 : (List GValue)) : Option Bool := none
theorem jS (a0 : (List GValue)) (r : Bool) (h : wD a0 = some r) : ∃ n, zz n a0 = some r := by cases h
theorem DD {G : GValue → Option Bool} {a : List GValue} {f : Nat} (ha : a.length <= 2 ^ 40) (hf : a.length < f) (hG : ∀ x ∈ a, G x = some (!knV x)) : ∃ r : Int, yx G f a = some r ∧ decide (0 <= r) = !(XW a) := by
 have loop : ∀ (l p : List GValue) (m : Nat), a = p ++ l → l.length < m → ∃ (q : Nat) (z : Int), zH G a (a.length : Int) m (p.length : Int) = some (if XW l = true then .inr z else .inl (q : Int)) := by
  intro l
  induction l with
  | nil =>
   intro p m he hm
   subst he
   obtain ⟨m, rfl, _⟩ := zh hm
   exact ⟨0, _, by rw [zH, if_neg (kG p)]; rfl⟩
  | cons x l ih =>
   intro p m he hm
   obtain ⟨m, rfl, hm'⟩ := zh hm
   have hlen : a.length = p.length + (l.length + 1) := by rw [he]; simp
   rw [zH, if_pos (by omega), zf, Option.bind_some, show a[p.length]? = some x by rw [he]; exact zW p x l, Option.bind_some, hG x (by rw [he]; simp), Option.bind_some, xX p x (by omega)]
   rw [show XW (x :: l) = (knV x && XW l) by simp only [XW]]
   by_cases hp : knV x = true
   ·obtain ⟨q, z, hz⟩ := ih (p ++ [x]) m (by rw [he]; simp) (by simp only [List.length_cons] at hm'; omega)
    exact ⟨q, z, by rw [hp, Bool.true_and]; exact hz⟩
   ·rw [Bool.eq_false_iff.2 hp]
    exact ⟨p.length, 0, rfl⟩
 obtain ⟨q, z, hz⟩ := loop a [] f rfl (by omega)
 simp only [List.length_nil, Int.natCast_zero] at hz
 unfold yx
 rw [hz, Option.bind_some]
 cases hp : XW a with
 | true => exact ⟨-1, rfl, rfl⟩
 | false => exact ⟨(q : Int), rfl, by simp⟩
theorem zaa : ∀ (N : Nat) (v : GValue), vsz v < N → vsz v <= 2 ^ 39 → ∀ f : Nat, 4 * vsz v + 5 <= f → yO f v = some (knV v) := by
 intro N
 induction N with
 | zero => intro v hv; omega
 | succ N ih =>
  intro v hv hs f hf
  have he := qI v
  have hl := xn v.L
  obtain ⟨f, rfl, _⟩ := zh (show 0 < f by omega)
  obtain ⟨f, rfl, _⟩ := zh (show 0 < f by omega)
  obtain ⟨f, rfl, _⟩ := zh (show 0 < f by omega)
  obtain ⟨f, rfl, _⟩ := zh (show 0 < f by omega)
  obtain ⟨r, hr, hd⟩ := DD (G := y5 (f + 1)) (a := v.L) (f := f + 1) (by omega) (by omega) (fun x hx => by
   have := qw hx
   rw [y5]
   unfold kW
   rw [ih x (by omega) (by omega) f (by omega), Option.bind_some])
  rw [yO]
  unfold Zi
  rw [zz]
  unfold yM
  rw [zE, hr, Option.bind_some, Option.bind_some, hd, E6]
  by_cases h6 : v.Kind = 6
  ·rw [if_pos h6, h6]; rfl
  ·rw [if_neg h6]; simp [h6]
def wy (a0 : GValue) : Option Bool := if vsz a0 <= 2 ^ 39 then some (knV a0) else none
theorem QX (a0 : GValue) (r : Bool) (h : wy a0 = some r) : ∃ n, yO n a0 = some r := by
 unfold wy at h
 obtain ⟨ha, h⟩ := zR h
 exact ⟨4 * vsz a0 + 5, by rw [<- h]; exact zaa _ a0 (Nat.lt_succ_self _) ha _ (Nat.le_refl _)⟩
theorem NL : wG YP := by
 intro a0 r h
 obtain ⟨n, hn⟩ := Qc a0 r h
 exact (q4 n).1 a0 r hn
theorem Kh : yw wW := by
 intro a0 r h
 obtain ⟨n, hn⟩ := kK a0 r h
 exact (q4 n).2.1 a0 r hn
theorem QY : yp wD := by
 intro a0 r h
 obtain ⟨n, hn⟩ := jS a0 r h
 exact (q4 n).2.2.1 a0 r hn
theorem Kv : jI wy := by
 intro a0 r h
 obtain ⟨n, hn⟩ := QX a0 r h
 exact (q4 n).2.2.2 a0 r hn
def yX (a0 : GValue) : Option Bool :=
 (YO a0).bind fun r1 =>
 match r1 with
 | true =>
  (wy a0).bind fun r2 =>
  some r2
 | false =>
  some false
theorem Zj (a0 : GValue) : Oc (yX a0) 134 [] [.val true (z6 a0)] fun r => (vb r, []) := tc (
 .cl (Li a0) fun r1 =>
 .vM 0 r1 (
  .az 0 0 <|
  .cl (Kv a0) fun r2 =>
  .az 0 1 <|
  .ret r2) <|
 .az 0 0 <|
 .az 0 0 <|
 .ret false) (ze Tryz.func134)
def Q3 (F : (List (List UInt8)) → Option Bool) : Prop := ∀ (a0 : (List (List UInt8))), Oc (F a0) 135 [] [vq (zt za) a0] fun r => (vb r, [])
def xi (a0 : (List (List UInt8))) (v1 : Int) : Nat → Int → Option (Bool ⊕ Int)
  | 0, _ => none
  | m + 1, v2 =>
  if v2 < v1 then
   (zw v2).bind fun i2 =>
   (a0[i2]?).bind fun x3 =>
   (xp x3).bind fun r4 =>
   match r4 with
   | true =>
    if 0 < v2 then
     (zw (w64 (v2 - 1))).bind fun i6 =>
     (a0[i6]?).bind fun x7 =>
     (xM x7 x3).bind fun r8 =>
     if 0 <= r8 then
      some (.inl false)
     else
     xi a0 v1 m (w64 (v2 + 1))
    else
    xi a0 v1 m (w64 (v2 + 1))
   | false =>
    some (.inl false)
  else
  some (.inr v2)
theorem Kw (a0 : (List (List UInt8))) (v1 : Int) (m : Nat) : ∀ (v2 : Int), Ol (xi a0 v1 m v2) 135 (zG Tryz.f135 0) ⟨[(0, vq (zt za) a0), (5, vq (zt za) a0), (6, vi v1), (7, vi v2)], [], 0⟩ fun o => match o with | .inl o_0 => (.ret, ⟨[(2, vb o_0)], [], 0⟩) | .inr (o_1) => (.exit 0, ⟨[(0, vq (zt za) a0), (5, vq (zt za) a0), (6, vi v1), (7, vi o_1), (8, vb false)], [], 0⟩) := by
  induction m with
  | zero => intro v2 o h; cases h
  | succ m ih => exact fun v2 => tlp (
   .lI v2 v1 (fun c1 =>
    .na v2 fun i2 =>
    .ix0 (zt za) a0 i2 fun x3 =>
    .cl (qn x3) fun r4 =>
    .vN 0 r4 (
     .an 0 0 <|
     .lI 0 v2 (fun c5 =>
      .an 0 0 <|
      .na (w64 (v2 - 1)) fun i6 =>
      .ix0 (zt za) a0 i6 fun x7 =>
      .cl (kV x7 x3) fun r8 =>
      .gI 0 r8 (fun c9 =>
       .an 0 3 <|
       .an 1 3 <|
       .ret (.inl false)) fun c9 =>
      .an 0 3 <|
      .an 1 3 <|
      .go (ih (w64 (v2 + 1)))) fun c5 =>
     .an 0 0 <|
     .an 8 0 <|
     .an 1 0 <|
     .go (ih (w64 (v2 + 1)))) <|
    .an 0 0 <|
    .an 0 0 <|
    .an 0 0 <|
    .an 0 0 <|
    .ret (.inl false)) fun c1 =>
   .ret (.inr v2))
def YQ (n : Nat) (a0 : (List (List UInt8))) : Option Bool :=
 (xi a0 (a0.length : Int) n 0).bind fun o1 =>
 match o1 with
 | .inl o1_0 =>
  some o1_0
 | .inr (o1_1) =>
  some (decide ((a0.length : Int) <= 8))
theorem UB (n : Nat) : Q3 (YQ n) := fun a0 => tc (
 .le (zt za) a0 <|
 .l2 (Kw a0 (a0.length : Int) n 0) (fun o1_0 =>
  .ret o1_0) fun o1_1 =>
 .le (zt za) a0 <|
 .gD (a0.length : Int) 8 <|
 .ret (decide ((a0.length : Int) <= 8))) (ze Tryz.func135)
theorem Eh (c : UInt8) : ∀ b : List UInt8, Lib.indexByte b c = if b.dropWhile (fun x => decide (x ≠ c)) = [] then -1 else (((b.takeWhile fun x => decide (x ≠ c)).length : Nat) : Int)
 | [] => rfl
 | x :: b => by
  have ih := Eh c b
  rw [Lib.indexByte, List.dropWhile_cons, List.takeWhile_cons]
  by_cases h : x = c
  ·subst h; simp
  ·have hb : (x == c) = false := by simpa using h
   have hd : decide (x ≠ c) = true := decide_eq_true h
   rw [hb, if_neg (by simp), if_pos hd, if_pos hd, ih]
   by_cases hd : b.dropWhile (fun x => decide (x ≠ c)) = []
   ·rw [if_pos hd, if_pos hd]; rfl
   ·rw [if_neg hd, if_neg hd, if_neg (by simp), List.length_cons]; omega
theorem Ei (a : List UInt8) (c : UInt8) : vj a [c] = some (Lib.indexByte a c) := by
 unfold vj ZF qy
 rw [if_neg (by simp), if_pos (by simp)]
 rfl
theorem zds {a : List UInt8} (h : a.length <= 2 ^ 20) : X6 a [91] = some (vE a, (jV a).drop 1, decide (jV a ≠ [])) := by
 have hix : vj a [91] = some (if jV a = [] then -1 else ((vE a).length : Int)) := by rw [Ei, Eh]; rfl
 unfold X6
 have hlen := Na a
 by_cases hr : jV a = []
 ·have hn := UX a
  rw [hr, List.append_nil] at hn
  rw [hix, if_pos hr, Option.bind_some, if_neg (by omega), hr, hn]; rfl
 ·obtain ⟨t, ht⟩ := NZ hr
  have e : w64 (((vE a).length : Int) + (([91] : List UInt8).length : Int)) = (((vE a).length + 1 : Nat) : Int) := by
   show w64 (((vE a).length : Int) + 1) = _
   exact zC (by omega)
  have hl2 := hlen
  rw [ht, List.length_cons] at hl2
  rw [hix, if_neg hr, Option.bind_some, if_pos (by omega), zf, Option.bind_some, UW (by omega), Option.bind_some, NX, e, zf, Option.bind_some, JQ (by omega), Option.bind_some, decide_eq_true hr, <- List.drop_drop, NY]
theorem zc6 (s : List UInt8) (c : UInt8) (h : s.length <= 2 ^ 20) : jZ s [c] = some (decide (s.getLast? = some c)) := by
 unfold jZ
 rw [show (([c] : List UInt8).length : Int) = 1 from rfl]
 rcases List.eq_nil_or_concat s with rfl | ⟨l, x, rfl⟩
 ·rw [if_neg (by simp)]; rfl
 ·simp only [List.concat_eq_append, List.length_append, List.length_cons, List.length_nil] at h ⊢
  rw [if_pos (by omega), show w64 (((l.length + (0 + 1) : Nat) : Int) - 1) = (l.length : Int) by rw [yC (by omega) (by omega)]; omega, zf, Option.bind_some, JQ (by simp), Option.bind_some, List.drop_left]
  unfold xo
  rw [Option.bind_some, List.getLast?_concat]
  congr 1
  exact decide_eq_decide.2 (by simp)
theorem Vv (s : List UInt8) (c : UInt8) (h : s.length <= 2 ^ 20) : qQ s [c] = some (if s.getLast? = some c then (s.dropLast, true) else (s, false)) := by
 unfold qQ
 rw [zc6 s c h, Option.bind_some]
 by_cases hc : s.getLast? = some c
 ·rw [decide_eq_true hc, if_pos hc]
  dsimp only
  have h0 : 0 < s.length := by
   cases s with
   | nil => simp at hc
   | cons x s => simp
  rw [show (([c] : List UInt8).length : Int) = 1 from rfl, jR (by omega) h0, zf, Option.bind_some, UW (by omega), Option.bind_some, List.dropLast_eq_take]
 ·rw [decide_eq_false hc, if_neg hc]
theorem Ej (s : List UInt8) (c : UInt8) : ka s [c] = some (if s[0]? = some c then (s.drop 1, true) else (s, false)) := by
 unfold ka ZG xo
 rw [show (([c] : List UInt8).length : Int) = ((1 : Nat) : Int) from rfl]
 cases s with
 | nil => rw [if_neg (by simp)]; rfl
 | cons x s =>
  rw [if_pos (by simp; omega), zf, Option.bind_some, UW (by simp), Option.bind_some, Option.bind_some, Option.bind_some]
  show (match decide ([x] = [c]) with | true => _ | false => _) = _
  by_cases hc : x = c
  ·subst hc
   rw [decide_eq_true rfl]
   dsimp only
   rw [Option.bind_some, JQ (by simp), Option.bind_some]
   simp
  ·rw [decide_eq_false (by simpa using hc), if_neg (by simpa using hc)]
theorem NM : ∀ n : Fin 100, kw ((n.val : Nat) : Int) = some (QA n.val) := by
 have h1 : ∀ n : Fin 100, jn ((n.val : Nat) : Int) = some (QA n.val) := by decide +kernel
 intro n
 unfold kw jy qm
 rw [if_pos rfl, if_pos (by omega), if_pos (by omega), h1]; rfl
theorem Ek : ∀ n : Fin 100, Lib.atoiAll (QA n.val) = .ok ((n.val : Nat) : Int) := by decide +kernel
theorem DE : ∀ n : Fin 100, JR (QA n.val) = true := by decide +kernel
theorem El {l : List UInt8} (h : JR l = true) : ∃ n : Fin 100, l = QA n.val := by
 unfold JR at h
 simp only [Bool.and_eq_true, Bool.not_eq_true', decide_eq_true_eq] at h
 obtain ⟨⟨⟨h1, h2⟩, h3⟩, h4⟩ := h
 match l, h1, h2 with
 | [x], _, _ =>
  simp only [List.all_cons, List.all_nil, Bool.and_true, inB, Bool.and_eq_true, decide_eq_true_eq] at h4
  refine ⟨⟨x.toNat - 48, by omega⟩, ?_⟩
  unfold QA
  rw [if_pos (by simp only; omega)]
  simp only [List.cons.injEq, and_true]
  refine UInt8.toNat_inj.1 ?_
  rw [UInt8.toNat_ofNat_of_lt' (by show _ < 256; omega)]; omega
 | [x, y], _, _ =>
  simp only [List.all_cons, List.all_nil, Bool.and_true, inB, Bool.and_eq_true, decide_eq_true_eq] at h4
  have hx : x.toNat ≠ 48 := fun e => by
   have : x = 48 := UInt8.toNat_inj.1 e
   subst this
   simp at h3
  refine ⟨⟨(x.toNat - 48) * 10 + (y.toNat - 48), by omega⟩, ?_⟩
  unfold QA
  rw [if_neg (by simp only; omega)]
  simp only [List.cons.injEq, and_true]
  constructor
  ·refine UInt8.toNat_inj.1 ?_
   rw [UInt8.toNat_ofNat_of_lt' (by show _ < 256; omega)]; omega
  ·refine UInt8.toNat_inj.1 ?_
   rw [UInt8.toNat_ofNat_of_lt' (by show _ < 256; omega)]; omega
theorem NN {a : List UInt8} (h : a.length <= 2 ^ 20) : wT a = some (jK a) := if_pos h
theorem GR {l : List UInt8} (hl : l.length <= 2 ^ 20) : ((je l).bind fun ⟨n, e⟩ =>
  match e with
  | true => some false
  | false => (yD n 0 99).bind fun r13 =>
   match r13 with
   | true => (kw n).bind fun r15 => some (decide (r15 = l))
   | false => some false) = some (JR l) := by
 unfold je
 rw [if_pos (by omega), Option.bind_some]
 cases hd : JR l with
 | true =>
  obtain ⟨n, rfl⟩ := El hd
  have hr : y4 (QA n.val) = (((n.val : Nat) : Int), false) := by unfold y4; rw [Ek n]
  have hn := n.isLt
  rw [hr]
  dsimp only
  rw [X7, Option.bind_some, decide_eq_true (show (0 : Int) <= ((n.val : Nat) : Int) ∧ ((n.val : Nat) : Int) <= 99 by omega)]
  dsimp only
  rw [NM n, Option.bind_some, decide_eq_true rfl]
 | false =>
  obtain ⟨n, e⟩ := y4 l
  cases e with
  | true => rfl
  | false =>
   dsimp only
   rw [X7, Option.bind_some]
   by_cases hn : (0 : Int) <= n ∧ n <= 99
   ·rw [decide_eq_true hn]
    dsimp only
    have := NM ⟨n.toNat, by omega⟩
    rw [show (((⟨n.toNat, by omega⟩ : Fin 100).val : Nat) : Int) = n by simp only; omega] at this
    rw [this, Option.bind_some]
    congr 1
    refine decide_eq_false fun e => ?_
    rw [<- e, DE] at hd; cases hd
   ·rw [decide_eq_false hn]
theorem Zk {a : List UInt8} (h : a.length <= 2 ^ 20) : xp a = some (yd a) := by
 unfold xp
 have hlen := Na a
 rw [zds h, Option.bind_some]
 dsimp only
 rw [NN (by omega), Option.bind_some]
 unfold yd
 cases hn : jK (vE a) with
 | false => rfl
 | true =>
  dsimp only
  by_cases hr : jV a = []
  ·rw [decide_eq_false (fun h => h hr), if_pos hr]; rfl
  rw [decide_eq_true hr, if_neg hr]
  dsimp only
  have ht : ((jV a).drop 1).length <= 2 ^ 20 := by rw [List.length_drop]; omega
  generalize (jV a).drop 1 = t at ht ⊢
  rw [Vv t 93 ht, Option.bind_some]
  by_cases h93 : t.getLast? = some 93
  ·rw [if_pos h93, if_pos h93]
   dsimp only
   have hl : t.dropLast.length <= 2 ^ 20 := by rw [List.length_dropLast]; omega
   generalize t.dropLast = l at hl ⊢
   rw [Ej, Option.bind_some]
   unfold GZ
   by_cases h34 : l[0]? = some 34
   ·rw [if_pos h34, if_pos h34]
    dsimp only
    rw [Vv _ 34 (by rw [List.length_drop]; omega), Option.bind_some]
    by_cases h2 : (l.drop 1).getLast? = some 34
    ·rw [if_pos h2, if_pos h2]
     dsimp only
     rw [NN (by rw [List.length_dropLast, List.length_drop]; omega), Option.bind_some]; rfl
    ·rw [if_neg h2, if_neg h2]; rfl
   ·rw [if_neg h34, if_neg h34]
    dsimp only
    rw [Vv _ 34 hl, Option.bind_some]
    by_cases h2 : l.getLast? = some 34
    ·rw [if_pos h2]
     dsimp only
     have hd : JR l = false := by
      unfold JR
      have : l.all (inB 48 57) = false := by
       rcases List.eq_nil_or_concat l with rfl | ⟨k, x, rfl⟩
       ·simp at h2
       ·rw [List.concat_eq_append, List.getLast?_concat] at h2
        injection h2 with h2
        subst h2
        simp [inB]
      rw [this, Bool.and_false]
     rw [hd]; rfl
    ·rw [if_neg h2]
     dsimp only
     exact GR hl
  ·rw [if_neg h93, if_neg h93]
   dsimp only
   rw [Ej, Option.bind_some]
   by_cases h34 : t[0]? = some 34
   ·rw [if_pos h34]
    dsimp only
    rw [Vv _ 34 (by rw [List.length_drop]; omega), Option.bind_some]
    rfl
   ·rw [if_neg h34]
    dsimp only
    rw [Vv _ 34 ht, Option.bind_some]
    by_cases h2 : t.getLast? = some 34
    ·rw [if_pos h2]; rfl
    ·rw [if_neg h2]
     dsimp only
     unfold je
     rw [if_pos (by omega), Option.bind_some]
     obtain ⟨n, e⟩ := y4 t
     cases e <;> rfl
theorem Lj {a : List (List UInt8)} (hs : ∀ x ∈ a, x.length <= 2 ^ 20) (ha : a.length <= 2 ^ 40) : ∀ (d i m : Nat), i + d = a.length → d < m → ∃ z, xi a (a.length : Int) m (i : Int) = some (if kH yd id a i d = true then .inr z else .inl false) := by
 intro d
 induction d with
 | zero =>
  intro i m hi hm
  obtain ⟨m, rfl, _⟩ := zh hm
  exact ⟨_, by rw [xi, if_neg (by omega)]; rfl⟩
 | succ d ih =>
  intro i m hi hm
  obtain ⟨m, rfl, hm'⟩ := zh hm
  have hil : i < a.length := by omega
  rw [xi, if_pos (by omega), zf, Option.bind_some, zk hil, Option.bind_some, Zk (hs _ (List.getElem_mem hil)), Option.bind_some, QB]
  obtain ⟨z, hz⟩ := ih (i + 1) m (by omega) (by omega)
  cases hx : yd a[i] with
  | false =>
   refine ⟨0, ?_⟩
   have : gOk yd id a i = false := by
    unfold gOk; rw [zk hil]; simp [hx]
   rw [this]; rfl
  | true =>
   dsimp only
   by_cases h0 : 0 < i
   ·rw [if_pos (by omega), jR (by omega) h0, zf, Option.bind_some, zk (show i - 1 < a.length by omega), Option.bind_some, VH hil h0, hx, Bool.true_and, zC (by omega), hz]
    unfold xM wg
    simp only [Option.bind_some]
    by_cases hl : Op.bytesLess a[i - 1] a[i] = true
    ·rw [if_neg (by rw [Xx]; exact fun h => h hl), show Op.bytesLess (id a[i - 1]) (id a[i]) = true from hl, Bool.true_and]; exact ⟨z, rfl⟩
    ·rw [if_pos (by rw [Xx]; exact hl), show Op.bytesLess (id a[i - 1]) (id a[i]) = false from Bool.eq_false_iff.2 hl]; exact ⟨z, rfl⟩
   ·obtain rfl : i = 0 := by omega
    rw [if_neg (by omega), JS hil, hx, Bool.true_and, zC (by omega), hz]
    exact ⟨z, rfl⟩
def xO (a0 : (List (List UInt8))) : Option Bool := if bsz a0 <= 2 ^ 20 then some (js a0) else none
theorem Vw (a0 : (List (List UInt8))) (r : Bool) (h : xO a0 = some r) : ∃ n, YQ n a0 = some r := by
 unfold xO at h
 obtain ⟨ha, h⟩ := zR h
 have hl := kD a0
 obtain ⟨z, hz⟩ := Lj (a := a0) (fun x hx => by have := Xw hx; omega) (by omega) a0.length 0 (a0.length + 1) (by omega) (by omega)
 refine ⟨a0.length + 1, ?_⟩
 unfold YQ
 rw [show ((0 : Nat) : Int) = 0 from rfl] at hz
 rw [<- h, hz, Option.bind_some]
 unfold js
 cases kH yd id a0 0 a0.length
 ·rw [Bool.and_false]; rfl
 ·rw [Bool.and_true]
  show some (decide ((a0.length : Int) <= 8)) = _
  congr 1
  exact decide_eq_decide.2 (by omega)
theorem Yh : Q3 xO := fun a0 r h => (Vw a0 r h).elim fun n hn => UB n a0 r hn
def q5 (a0 : GEntry) (a1 : (List UInt8)) : Option Int :=
 (xM a0.Addr a1).bind fun r1 =>
 some r1
theorem ZE (a0 : GEntry) (a1 : (List UInt8)) : Oc (q5 a0 a1) 163 [] [.val true (jU a0), vq za a1] fun r => (vi r, []) := tc (
 .cl (kV a0.Addr a1) fun r1 =>
 .ret r1) (ze Tryz.func163)
def xy (F : (List GEntry) → (List UInt8) → Option (Int × Bool)) : Prop := ∀ (a0 : (List GEntry)) (a1 : (List UInt8)), Oc (F a0 a1) 162 [] [vq zl a0, vq za a1, .val false [.fn 163 []]] fun r => (.tup [(false, [ci r.1]), (false, [.bool r.2])], [])
def zb (a0 : (List GEntry)) (a1 : (List UInt8)) (v2 : Int) : Nat → Int → Int → Option (Int × Int)
  | 0, _, _ => none
  | m + 1, v3, v4 =>
  if v3 < v4 then
   (zw (w64 (W7 .shr .u64 (IntKind.u64.wrap (w64 (v3 + v4))) 1))).bind fun i2 =>
   (a0[i2]?).bind fun x3 =>
   (q5 x3 a1).bind fun r4 =>
   if r4 < 0 then
    zb a0 a1 v2 m (w64 ((w64 (W7 .shr .u64 (IntKind.u64.wrap (w64 (v3 + v4))) 1)) + 1)) v4
   else
   zb a0 a1 v2 m v3 (w64 (W7 .shr .u64 (IntKind.u64.wrap (w64 (v3 + v4))) 1))
  else
  some (v3, v4)
theorem qW (a0 : (List GEntry)) (a1 : (List UInt8)) (v2 : Int) (m : Nat) : ∀ (v3 : Int) (v4 : Int), Ol (zb a0 a1 v2 m v3 v4) 162 (zG Tryz.f162 0) ⟨[(0, vq zl a0), (1, vq za a1), (2, .val false [.fn 163 []]), (8, vi v2), (9, vi v3), (10, vi v4)], [], 0⟩ fun o => match o with | ⟨o_0, o_1⟩ => (.exit 0, ⟨[(0, vq zl a0), (1, vq za a1), (2, .val false [.fn 163 []]), (8, vi v2), (9, vi o_0), (10, vi o_1), (17, vb false)], [], 0⟩) := by
  induction m with
  | zero => intro v3 v4 o h; cases h
  | succ m ih => exact fun v3 v4 => tlp (
   .lI v3 v4 (fun c1 =>
    .q (.gTo 0 1 (by decide)) <|
    .cw (W7 .shr .u64 (IntKind.u64.wrap (w64 (v3 + v4))) 1) <|
    .na (w64 (W7 .shr .u64 (IntKind.u64.wrap (w64 (v3 + v4))) 1)) fun i2 =>
    .ix zZ a0 i2 fun x3 =>
    .cl (ZE x3 a1) fun r4 =>
    .lI r4 0 (fun c5 =>
     .go (ih (w64 ((w64 (W7 .shr .u64 (IntKind.u64.wrap (w64 (v3 + v4))) 1)) + 1)) v4)) fun c5 =>
    .go (ih v3 (w64 (W7 .shr .u64 (IntKind.u64.wrap (w64 (v3 + v4))) 1)))) fun c1 =>
   .ret (v3, v4))
def zL (n : Nat) (a0 : (List GEntry)) (a1 : (List UInt8)) : Option (Int × Bool) :=
 (zb a0 a1 (a0.length : Int) n 0 (a0.length : Int)).bind fun ⟨o1_0, o1_1⟩ =>
 if o1_0 < (a0.length : Int) then
  (zw o1_0).bind fun i3 =>
  (a0[i3]?).bind fun x4 =>
  (q5 x4 a1).bind fun r5 =>
  some (o1_0, (decide (r5 = 0)))
 else
 some (o1_0, false)
theorem jz (n : Nat) : xy (zL n) := fun a0 a1 => tc (
 .le zl a0 <|
 .lp (qW a0 a1 (a0.length : Int) n 0 (a0.length : Int)) fun ⟨o1_0, o1_1⟩ =>
 .lI o1_0 (a0.length : Int) (fun c2 =>
  .na o1_0 fun i3 =>
  .ix zZ a0 i3 fun x4 =>
  .cl (ZE x4 a1) fun r5 =>
  .eD r5 0 <|
  .ret (o1_0, (decide (r5 = 0)))) fun c2 =>
 .ret (o1_0, false)) (ze Tryz.func162)
theorem VW (e : GEntry) (x : List UInt8) : q5 e x = some (Lib.compareBytes e.Addr x) := rfl
theorem zab {a : List GEntry} {x : List UInt8} {v2 : Int} (ha : a.length <= 2 ^ 40) : ∀ (d i j m : Nat), j - i <= d → i <= j → j <= a.length → d < m → ∃ c c' : Nat, c <= a.length ∧ zb a x v2 m (i : Int) (j : Int) = some ((c : Int), (c' : Int)) := by
 intro d
 induction d with
 | zero =>
  intro i j m hd h1 h3 hm
  obtain ⟨m, rfl, _⟩ := zh hm
  exact ⟨i, j, by omega, by rw [zb, if_neg (by omega)]⟩
 | succ d ih =>
  intro i j m hd h1 h3 hm
  obtain ⟨m, rfl, hm'⟩ := zh hm
  by_cases hij : i < j
  ·have hk : (i + j) / 2 < a.length := by omega
   rw [zb, if_pos (by omega), E5 (by omega), zf, Option.bind_some, zk hk, Option.bind_some, VW, Option.bind_some]
   split
   ·rw [zC (by omega)]
    exact ih _ _ m (by omega) (by omega) h3 (by omega)
   ·exact ih _ _ m (by omega) (by omega) (by omega) (by omega)
  ·exact ⟨i, j, by omega, by rw [zb, if_neg (by omega)]⟩
theorem DF {a : List GEntry} {x : List UInt8} {c : Nat} {v2 : Int} (hp : kE (a.map GEntry.Addr) x c) (ha : a.length <= 2 ^ 40) : ∀ (d i j m : Nat), j - i <= d → i <= c → c <= j → j <= a.length → d < m → zb a x v2 m (i : Int) (j : Int) = some ((c : Int), (c : Int)) := by
 intro d
 induction d with
 | zero =>
  intro i j m hd h1 h2 h3 hm
  obtain ⟨m, rfl, _⟩ := zh hm
  rw [zb, if_neg (by omega), show i = c by omega, show j = c by omega]
 | succ d ih =>
  intro i j m hd h1 h2 h3 hm
  obtain ⟨m, rfl, hm'⟩ := zh hm
  by_cases hij : i < j
  ·have hk : (i + j) / 2 < a.length := by omega
   rw [zb, if_pos (by omega), E5 (by omega), zf, Option.bind_some, zk hk, Option.bind_some, VW, Option.bind_some]
   have hq := hp.2 ((i + j) / 2) (by rw [List.length_map]; exact hk)
   rw [List.getElem_map] at hq
   by_cases hl : Op.bytesLess a[(i + j) / 2].Addr x = true
   ·rw [if_pos (by rw [NV]; exact hl), zC (by omega)]
    have := hq.2 hl
    exact ih _ _ m (by omega) (by omega) h2 h3 (by omega)
   ·rw [if_neg (by rw [NV]; exact hl)]
    have : ¬ (i + j) / 2 < c := fun h => hl (hq.1 h)
    exact ih _ _ m (by omega) h1 (by omega) (by omega) (by omega)
  ·rw [zb, if_neg (by omega), show i = c by omega, show j = c by omega]
def zu (a0 : (List GEntry)) (a1 : (List UInt8)) : Option (Int × Bool) := zL (a0.length + 5) a0 a1
theorem jd (a0 : (List GEntry)) (a1 : (List UInt8)) (r : (Int × Bool)) (h : zu a0 a1 = some r) : ∃ n, zL n a0 a1 = some r := ⟨_, h⟩
theorem zd5 {a : List GEntry} {x : List UInt8} (ha : a.length <= 2 ^ 40) : ∃ (c : Nat) (b : Bool), zu a x = some ((c : Int), b) := by
 unfold zu zL
 obtain ⟨c, c', hc, hl⟩ := zab (x := x) (v2 := (a.length : Int)) ha a.length 0 a.length (a.length + 5) (by omega) (by omega) (Nat.le_refl _) (by omega)
 rw [show ((0 : Nat) : Int) = 0 from rfl] at hl
 rw [hl, Option.bind_some]
 dsimp only
 by_cases h : c < a.length
 ·rw [if_pos (by omega), zf, Option.bind_some, zk h, Option.bind_some, VW, Option.bind_some]
  exact ⟨c, _, rfl⟩
 ·rw [if_neg (by omega)]
  exact ⟨c, _, rfl⟩
theorem Yi {l : List GEntry} {a : List UInt8} : yK l a = true ↔ a ∈ l.map GEntry.Addr := by
 unfold yK
 rw [List.any_eq_true, List.mem_map]
 constructor
 ·rintro ⟨e, he, h⟩; exact ⟨e, he, of_decide_eq_true h⟩
 ·rintro ⟨e, he, rfl⟩; exact ⟨e, he, decide_eq_true rfl⟩
theorem Em {a : List GEntry} {x : List UInt8} (ha : a.length <= 2 ^ 40) (h : Asc (a.map GEntry.Addr)) : ∃ c : Nat, kE (a.map GEntry.Addr) x c ∧ zu a x = some ((c : Int), yK a x) := by
 obtain ⟨c, hp⟩ := kE.of h x
 refine ⟨c, hp, ?_⟩
 have hm := kE.mem h hp
 have hcl : c <= a.length := by have := hp.1; rwa [List.length_map] at this
 unfold zu zL
 have hl := DF (v2 := (a.length : Int)) hp ha a.length 0 a.length (a.length + 5) (by omega) (by omega) hcl (Nat.le_refl _) (by omega)
 rw [show ((0 : Nat) : Int) = 0 from rfl] at hl
 rw [hl, Option.bind_some]
 dsimp only
 have hb : yK a x = decide ((a.map GEntry.Addr)[c]? = some x) := by
  cases hx : yK a x with
  | true => exact (decide_eq_true (hm.2 (Yi.1 hx))).symm
  | false => exact (decide_eq_false fun h' => by rw [Yi.2 (hm.1 h')] at hx; cases hx).symm
 rw [hb, List.getElem?_map]
 by_cases hc : c < a.length
 ·rw [if_pos (by omega), zf, Option.bind_some, zk hc, Option.bind_some, VW, Option.bind_some]
  congr 2
  exact decide_eq_decide.2 ((MW _ _).trans (by simp))
 ·rw [if_neg (by omega), List.getElem?_eq_none (by omega)]
  simp
theorem jx : xy zu := fun a0 a1 r h => (jd a0 a1 r h).elim fun n hn => jz n a0 a1 r hn
def yi (a0 : GState) (a1 : (List UInt8)) : Option (Int × Bool) :=
 (zu a0.Entries a1).bind fun ⟨r1_0, r1_1⟩ =>
 some (r1_0, r1_1)
theorem qN (a0 : GState) (a1 : (List UInt8)) : Oc (yi a0 a1) 118 [] [.val true (ym a0), vq za a1] fun r => (.tup [(false, [ci r.1]), (false, [.bool r.2])], []) := tc (
 .cl (jx a0.Entries a1) fun ⟨r1_0, r1_1⟩ =>
 .ret (r1_0, r1_1)) (ze Tryz.func118)
def QZ (F : GState → Option Bool) : Prop := ∀ (a0 : GState), Oc (F a0) 78 [] [.val true (ym a0)] fun r => (vb r, [])
def xD (v0 : (List GEntry)) (v1 : Int) (a0 : GState) : Nat → Int → Option (Bool ⊕ Int)
  | 0, _ => none
  | m + 1, v2 =>
  if v2 < v1 then
   (zw v2).bind fun i2 =>
   (v0[i2]?).bind fun x3 =>
   (xp x3.Addr).bind fun r4 =>
   match r4 with
   | true =>
    if 0 < v2 then
     (zw (w64 (v2 - 1))).bind fun i6 =>
     (a0.Entries[i6]?).bind fun x7 =>
     (xM x7.Addr x3.Addr).bind fun r8 =>
     if 0 <= r8 then
      some (.inl false)
     else
     (yX x3.Val).bind fun r10 =>
     match r10 with
     | true =>
      (xO x3.Deps).bind fun r11 =>
      match r11 with
      | true =>
       (yD x3.Turned 1 a0.Serial).bind fun r12 =>
       match r12 with
       | true =>
        xD v0 v1 a0 m (w64 (v2 + 1))
       | false =>
        some (.inl false)
      | false =>
       some (.inl false)
     | false =>
      some (.inl false)
    else
    (yX x3.Val).bind fun r6 =>
    match r6 with
    | true =>
     (xO x3.Deps).bind fun r7 =>
     match r7 with
     | true =>
      (yD x3.Turned 1 a0.Serial).bind fun r8 =>
      match r8 with
      | true =>
       xD v0 v1 a0 m (w64 (v2 + 1))
      | false =>
       some (.inl false)
     | false =>
      some (.inl false)
    | false =>
     some (.inl false)
   | false =>
    some (.inl false)
  else
  some (.inr v2)
theorem Vx (v0 : (List GEntry)) (v1 : Int) (a0 : GState) (m : Nat) : ∀ (v2 : Int), Ol (xD v0 v1 a0 m v2) 78 (zG Tryz.f78 0) ⟨[(1, vp 0 0), (18, vq zl v0), (19, vi v1), (20, vi v2)], [.var (ym a0)], 0⟩ fun o => match o with | .inl o_0 => (.ret, ⟨[(2, vb o_0)], [], 0⟩) | .inr (o_1) => (.exit 0, ⟨[(1, vp 0 0), (18, vq zl v0), (19, vi v1), (20, vi o_1), (21, vb false)], [.var (ym a0)], 0⟩) := by
  induction m with
  | zero => intro v2 o h; cases h
  | succ m ih => exact fun v2 => tlp (
   .lI v2 v1 (fun c1 =>
    .na v2 fun i2 =>
    .ix zZ v0 i2 fun x3 =>
    .cl (qn x3.Addr) fun r4 =>
    .vN 0 r4 (
     .an 0 0 <|
     .lI 0 v2 (fun c5 =>
      .an 0 0 <|
      .na (w64 (v2 - 1)) fun i6 =>
      .ix zZ a0.Entries i6 fun x7 =>
      .cl (kV x7.Addr x3.Addr) fun r8 =>
      .gI 0 r8 (fun c9 =>
       .an 0 3 <|
       .an 1 3 <|
       .ret (.inl false)) fun c9 =>
      .an 0 3 <|
      .an 1 3 <|
      .cl (Zj x3.Val) fun r10 =>
      .vN 2 r10 (
       .an 0 0 <|
       .an 0 0 <|
       .cl (Yh x3.Deps) fun r11 =>
       .an 0 1 <|
       .an 0 1 <|
       .vN 0 r11 (
        .an 0 0 <|
        .an 0 0 <|
        .an 0 0 <|
        .an 0 0 <|
        .cl (wd x3.Turned 1 a0.Serial) fun r12 =>
        .an 0 1 <|
        .an 0 1 <|
        .vN 0 r12 (
         .go (ih (w64 (v2 + 1)))) <|
        .ret (.inl false)) <|
       .an 0 0 <|
       .an 0 0 <|
       .an 0 0 <|
       .an 0 0 <|
       .an 0 0 <|
       .an 0 0 <|
       .ret (.inl false)) <|
      .an 0 0 <|
      .an 0 0 <|
      .an 0 0 <|
      .an 0 0 <|
      .ret (.inl false)) fun c5 =>
     .an 0 0 <|
     .an 11 0 <|
     .an 1 0 <|
     .cl (Zj x3.Val) fun r6 =>
     .vN 2 r6 (
      .an 0 0 <|
      .an 0 0 <|
      .cl (Yh x3.Deps) fun r7 =>
      .an 0 1 <|
      .an 0 1 <|
      .vN 0 r7 (
       .an 0 0 <|
       .an 0 0 <|
       .an 0 0 <|
       .an 0 0 <|
       .cl (wd x3.Turned 1 a0.Serial) fun r8 =>
       .an 0 1 <|
       .an 0 1 <|
       .vN 0 r8 (
        .go (ih (w64 (v2 + 1)))) <|
       .ret (.inl false)) <|
      .an 0 0 <|
      .an 0 0 <|
      .an 0 0 <|
      .an 0 0 <|
      .an 0 0 <|
      .an 0 0 <|
      .ret (.inl false)) <|
     .an 0 0 <|
     .an 0 0 <|
     .an 0 0 <|
     .an 0 0 <|
     .ret (.inl false)) <|
    .an 0 0 <|
    .an 0 0 <|
    .an 0 0 <|
    .an 0 0 <|
    .ret (.inl false)) fun c1 =>
   .ret (.inr v2))
def Z8 (n : Nat) (a0 : GState) : Option Bool :=
 (yD a0.Serial 0 1000000).bind fun r1 =>
 match r1 with
 | true =>
  if 16 < (a0.Entries.length : Int) then
   some false
  else
  (xD a0.Entries (a0.Entries.length : Int) a0 n 0).bind fun o3 =>
  match o3 with
  | .inl o3_0 =>
   some o3_0
  | .inr (o3_1) =>
   if (a0.Pending.length : Int) = 0 then
    some (decide (a0.Act = 0))
   else
   (yi a0 a0.Pending).bind fun ⟨r5_0, r5_1⟩ =>
   match a0.Open with
   | true =>
    (xp a0.Pending).bind fun r6 =>
    match r6 with
    | true =>
     (yD a0.Act 1 4).bind fun r7 =>
     match r7 with
     | true =>
      if r5_1 = true then
       if a0.Act = 1 then
        some false
       else
       some true
      else
      if a0.Act = 1 then
       some true
      else
      some false
     | false =>
      some false
    | false =>
     some false
   | false =>
    some false
 | false =>
  some false
theorem PP (n : Nat) : QZ (Z8 n) := fun a0 => tc (
 .cl (wd a0.Serial 0 1000000) fun r1 =>
 .vN 0 r1 (
  .an 0 0 <|
  .an 0 0 <|
  .le zl a0.Entries <|
  .an 0 0 <|
  .lI 16 (a0.Entries.length : Int) (fun c2 =>
   .an 0 0 <|
   .ret false) fun c2 =>
  .an 0 0 <|
  .le zl a0.Entries <|
  .l2 (Vx a0.Entries (a0.Entries.length : Int) a0 n 0) (fun o3_0 =>
   .ret o3_0) fun o3_1 =>
  .le za a0.Pending <|
  .eI (a0.Pending.length : Int) 0 (fun c4 =>
   .eD a0.Act 0 <|
   .ret (decide (a0.Act = 0))) fun c4 =>
  .cl (qN a0 a0.Pending) fun ⟨r5_0, r5_1⟩ =>
  .vM 0 a0.Open (
   .az 0 0 <|
   .az 0 0 <|
   .cl (qn a0.Pending) fun r6 =>
   .az 0 1 <|
   .vM 0 r6 (
    .az 0 0 <|
    .az 0 0 <|
    .cl (wd a0.Act 1 4) fun r7 =>
    .az 0 1 <|
    .vM 0 r7 (
     .az 0 0 <|
     .az 0 0 <|
     .az 0 0 <|
     .eD a0.Act 1 <|
     .az 0 0 <|
     .sp (r5_1 = true) (fun c8 =>
      .sp (a0.Act = 1) (fun c9 =>
       .eb c8 (nT (dT c9)) <|
       .az 0 0 <|
       .ret false) fun c9 =>
      .eb c8 (nF (dF c9)) <|
      .az 0 0 <|
      .ret true) fun c8 =>
     .sp (a0.Act = 1) (fun c9 =>
      .eb (bF c8) (nT (dT c9)) <|
      .az 0 0 <|
      .ret true) fun c9 =>
     .eb (bF c8) (nF (dF c9)) <|
     .az 0 0 <|
     .ret false) <|
    .az 0 0 <|
    .az 0 0 <|
    .az 0 0 <|
    .az 0 0 <|
    .az 0 0 <|
    .ret false) <|
   .az 0 0 <|
   .az 0 0 <|
   .az 0 0 <|
   .ret false) <|
  .az 0 0 <|
  .az 0 0 <|
  .az 0 0 <|
  .ret false) <|
 .an 0 0 <|
 .an 0 0 <|
 .an 0 0 <|
 .an 0 0 <|
 .ret false) (ze Tryz.func78)
theorem zdt {v : GValue} (h : vsz v <= 2 ^ 20) : jc v = some (ZN v) := by
 unfold jc qM wx ZN
 rw [if_pos ⟨h, by decide, by decide⟩, Option.bind_some]
 rw [show (5 : Int).toNat = 5 from rfl]
 cases hs : shV 5 v
 ·simp
 ·dsimp only
  rw [if_pos h, Option.bind_some]
  simp
theorem En {v : GValue} (h : vsz v <= 2 ^ 20) : yX v = some (jL v) := by
 unfold yX YO jL
 by_cases h5 : v.Kind = 5
 ·rw [if_pos h5, zdt h, Option.bind_some, decide_eq_true h5, Bool.true_and]
  cases hv : ZN v with
  | false => rfl
  | true =>
   simp only [Bool.true_and]
   unfold wy
   rw [if_pos (by omega)]; rfl
 ·rw [if_neg h5, decide_eq_false h5]; rfl
theorem GS {l : List (List UInt8)} (h : bsz l <= 2 ^ 20) : xO l = some (js l) := if_pos h
theorem MC {s : GState} (hs : yu s.Entries <= 2 ^ 20) : ∀ (d i m : Nat), i + d = s.Entries.length → d < m → ∃ z, xD s.Entries (s.Entries.length : Int) s m (i : Int) = some (if kH (Qa s.Serial) GEntry.Addr s.Entries i d = true then .inr z else .inl false) := by
 have hlen := jt s.Entries
 intro d
 induction d with
 | zero =>
  intro i m hi hm
  obtain ⟨m, rfl, _⟩ := zh hm
  exact ⟨_, by rw [xD, if_neg (by omega)]; rfl⟩
 | succ d ih =>
  intro i m hi hm
  obtain ⟨m, rfl, hm'⟩ := zh hm
  have hil : i < s.Entries.length := by omega
  have hz0 := WZ (List.getElem_mem hil)
  obtain ⟨z, hz⟩ := ih (i + 1) m (by omega) (by omega)
  rw [xD, if_pos (by omega), zf, Option.bind_some, zk hil, Option.bind_some, QB]
  unfold esz at hz0
  rw [Zk (by omega), Option.bind_some, En (by omega), Option.bind_some, GS (by omega), Option.bind_some, X7, Option.bind_some, zC (by omega), hz]
  generalize kH _ GEntry.Addr s.Entries (i + 1) d = g
  by_cases h0 : 0 < i
  ·rw [VH hil h0]
   unfold Qa
   cases yd s.Entries[i].Addr with
   | false => exact ⟨0, rfl⟩
   | true =>
    dsimp only
    rw [if_pos (by omega), jR (by omega) h0, zf, Option.bind_some, zk (show i - 1 < s.Entries.length by omega), Option.bind_some]
    unfold xM wg
    simp only [Option.bind_some]
    have hc := Xx s.Entries[i - 1].Addr s.Entries[i].Addr
    generalize Lib.compareBytes s.Entries[i - 1].Addr s.Entries[i].Addr = q at hc ⊢
    generalize Op.bytesLess s.Entries[i - 1].Addr s.Entries[i].Addr = b at hc ⊢
    refine ⟨z, ?_⟩
    cases b with
    | true =>
     rw [if_neg (by rw [hc]; exact fun h => h rfl)]
     cases jL s.Entries[i].Val <;> cases js s.Entries[i].Deps <;> cases decide (1 <= s.Entries[i].Turned ∧ s.Entries[i].Turned <= s.Serial) <;> simp
    | false =>
     rw [if_pos (by rw [hc]; simp)]
     simp
  ·obtain rfl : i = 0 := by omega
   rw [JS hil]
   unfold Qa
   cases yd s.Entries[0].Addr with
   | false => exact ⟨0, rfl⟩
   | true =>
    dsimp only
    rw [if_neg (by omega)]
    refine ⟨z, ?_⟩
    cases jL s.Entries[0].Val <;> cases js s.Entries[0].Deps <;> cases decide (1 <= s.Entries[0].Turned ∧ s.Entries[0].Turned <= s.Serial) <;> simp
def k7 (a0 : GState) : Option Bool := if ssz a0 <= 2 ^ 20 then some (stB a0) else none
theorem Eo {s : GState} (h : ssz s <= 2 ^ 20) : k7 s = some (stB s) := if_pos h
theorem Nz {s : GState} (h : ssz s <= 2 ^ 20) : Z8 (s.Entries.length + 1) s = some (stB s) := by
 have hlen := jt s.Entries
 unfold ssz at h
 obtain ⟨z, hz⟩ := MC (s := s) (by omega) s.Entries.length 0 (s.Entries.length + 1) (by omega) (by omega)
 rw [show ((0 : Nat) : Int) = 0 from rfl] at hz
 unfold Z8
 rw [X7, Option.bind_some]
 unfold stB
 by_cases h1 : (0 : Int) <= s.Serial ∧ s.Serial <= 1000000
 ·rw [decide_eq_true h1]
  dsimp only
  by_cases h2 : (16 : Int) < (s.Entries.length : Int)
  ·rw [if_pos h2, decide_eq_false (p := 0 <= s.Serial ∧ s.Serial <= 1000000 ∧ s.Entries.length <= 16) (by omega)]; rfl
  rw [if_neg h2, hz, decide_eq_true (p := 0 <= s.Serial ∧ s.Serial <= 1000000 ∧ s.Entries.length <= 16) (by omega), Bool.true_and]
  have he : L6 s = kH (Qa s.Serial) GEntry.Addr s.Entries 0 s.Entries.length := rfl
  cases hg : kH (Qa s.Serial) GEntry.Addr s.Entries 0 s.Entries.length with
  | false => rw [he, hg]; rfl
  | true =>
   rw [he, hg, Bool.true_and]
   simp only [if_true, Option.bind_some]
   unfold L5
   by_cases hp : s.Pending = []
   ·rw [if_pos (by rw [hp]; rfl), if_pos hp]
   ·have hp0 : ¬ (s.Pending.length : Int) = 0 := fun e => hp (List.eq_nil_of_length_eq_zero (by omega))
    rw [if_neg hp0, if_neg hp]
    unfold yi
    obtain ⟨c, _, hc⟩ := Em (x := s.Pending) (a := s.Entries) (by omega) (Nb hg)
    rw [hc, Option.bind_some, Option.bind_some]
    dsimp only
    rw [Zk (by omega), Option.bind_some, X7, Option.bind_some]
    cases s.Open
    ·rfl
    cases yd s.Pending
    ·rfl
    by_cases ha : (1 : Int) <= s.Act ∧ s.Act <= 4
    ·rw [decide_eq_true ha]
     by_cases h1 : s.Act = 1 <;> cases yK s.Entries s.Pending <;> simp [h1]
    ·rw [decide_eq_false ha]; rfl
 ·rw [decide_eq_false h1, decide_eq_false (p := 0 <= s.Serial ∧ s.Serial <= 1000000 ∧ s.Entries.length <= 16) (fun h => h1 ⟨h.1, h.2.1⟩)]; rfl
theorem Rw (a0 : GState) (r : Bool) (h : k7 a0 = some r) : ∃ n, Z8 n a0 = some r := by
 unfold k7 at h
 obtain ⟨ha, h⟩ := zR h
 exact ⟨_, by rw [<- h]; exact Nz ha⟩
theorem UC : QZ k7 := fun a0 r h => (Rw a0 r h).elim fun n hn => PP n a0 r hn
def zU (a0 : (List UInt8)) : Option (List UInt8) :=
 if zY 1 (0 + a0.length) then
 some a0
 else none
theorem xE (a0 : (List UInt8)) : Oc (zU a0) 119 [] [vq za a0] fun r => (.val false [.own 1 (eL za r)], []) := tc (
 .ap 1 zn [] a0 fun n1 =>
 .ret a0) (ze Tryz.func119)
def WM (F : (List (List UInt8)) → Option (List (List UInt8))) : Prop := ∀ (a0 : (List (List UInt8))), Oc (F a0) 139 [] [vq (zt za) a0] fun r => (.val false [.own 1 (eL (xz 1 za) r)], [])
def xR (a0 : (List (List UInt8))) (v1 : Int) : Nat → Int → (List (List UInt8)) → Option (Int × (List (List UInt8)))
  | 0, _, _ => none
  | m + 1, v2, v3 =>
  if v2 < v1 then
   (zw v2).bind fun i2 =>
   (a0[i2]?).bind fun x3 =>
   (zU x3).bind fun r4 =>
   if zY 24 (v3.length + [r4].length) then
   xR a0 v1 m (w64 (v2 + 1)) (v3 ++ [r4])
   else none
  else
  some (v2, v3)
theorem J8 (a0 : (List (List UInt8))) (v1 : Int) (m : Nat) : ∀ (v2 : Int) (v3 : (List (List UInt8))), Ol (xR a0 v1 m v2 v3) 139 (zG Tryz.f139 0) ⟨[(3, vr 0), (7, vq (zt za) a0), (8, vi v1), (9, vi v2)], [.obj 1 (eL (xz 1 za) v3)], 0⟩ fun o => match o with | ⟨o_0, o_1⟩ => (.exit 0, ⟨[(3, vr 0), (7, vq (zt za) a0), (8, vi v1), (9, vi o_0), (10, vb false)], [.obj 1 (eL (xz 1 za) o_1)], 0⟩) := by
  induction m with
  | zero => intro v2 v3 o h; cases h
  | succ m ih => exact fun v2 v3 => tlp (
   .lI v2 v1 (fun c1 =>
    .na v2 fun i2 =>
    .ix0 (zt za) a0 i2 fun x3 =>
    .cl (xE x3) fun r4 =>
    .ao 24 (RS 1 yY) v3 [r4] fun n5 =>
    .go (ih (w64 (v2 + 1)) (v3 ++ [r4]))) fun c1 =>
   .ret (v2, v3))
def Yj (n : Nat) (a0 : (List (List UInt8))) : Option (List (List UInt8)) :=
 (xR a0 (a0.length : Int) n 0 []).bind fun ⟨o1_0, o1_1⟩ =>
 some o1_1
theorem Tt (n : Nat) : WM (Yj n) := fun a0 => tc (
 .le (zt za) a0 <|
 .lp (J8 a0 (a0.length : Int) n 0 []) fun ⟨o1_0, o1_1⟩ =>
 .ret o1_1) (ze Tryz.func139)
theorem Vy {a : List UInt8} (h : a.length <= 2 ^ 39) : zU a = some a := if_pos (wA (by decide) (by omega))
theorem PQ {a : List (List UInt8)} (ha : bsz a <= 2 ^ 39) : ∀ (l p : List (List UInt8)) (m : Nat), a = p ++ l → l.length < m → ∃ z, xR a (a.length : Int) m (p.length : Int) p = some (z, a) := by
 have hl := kD a
 intro l
 induction l with
 | nil =>
  intro p m he hm
  subst he
  obtain ⟨m, rfl, _⟩ := zh hm
  exact ⟨_, by rw [xR, if_neg (kG p)]; simp; rfl⟩
 | cons x l ih =>
  intro p m he hm
  obtain ⟨m, rfl, hm'⟩ := zh hm
  have hx : 1 + x.length <= bsz a := Xw (by rw [he]; simp)
  have hlen : a.length = p.length + (l.length + 1) := by rw [he]; simp
  obtain ⟨z, hz⟩ := ih (p ++ [x]) m (by rw [he]; simp) (by simp only [List.length_cons] at hm'; omega)
  refine ⟨z, ?_⟩
  rw [xR, if_pos (by omega), zf, Option.bind_some, show a[p.length]? = some x by rw [he]; exact zW p x l, Option.bind_some, Vy (by omega), Option.bind_some, if_pos (wA (by decide) (by simp only [List.length_cons, List.length_nil]; omega)), xX p x (by omega), hz]
def yP (a0 : (List (List UInt8))) : Option (List (List UInt8)) := if bsz a0 <= 2 ^ 39 then some a0 else none
theorem MD {a : List (List UInt8)} (h : bsz a <= 2 ^ 39) : yP a = some a := if_pos h
theorem Kx (a0 : (List (List UInt8))) (r : (List (List UInt8))) (h : yP a0 = some r) : ∃ n, Yj n a0 = some r := by
 unfold yP at h
 obtain ⟨ha, h⟩ := zR h
 obtain ⟨z, hz⟩ := PQ ha a0 [] (a0.length + 1) rfl (by omega)
 refine ⟨a0.length + 1, ?_⟩
 unfold Yj
 simp only [List.length_nil, Int.natCast_zero] at hz
 rw [hz]; exact h
theorem ZI : WM yP := fun a0 r h => (Kx a0 r h).elim fun n hn => Tt n a0 r hn
def jo (F : GValue → Option GValue) : Prop := ∀ (a0 : GValue), Oc (F a0) 138 [] [.val true (z6 a0)] fun r => (.val true (jT r), [])
def xS (G_impl_copyValue : GValue → Option GValue) (v0 : (List GValue)) (v1 : Int) (v3 : Int) (v4 : Int) (v5 : Int) (v6 : Int) (v7 : (List UInt8)) (v8 : (List (List UInt8))) (v9 : (List GValue)) (v10 : (List UInt8)) (v11 : (List (List UInt8))) : Nat → Int → (List GValue) → Option (Int × (List GValue))
  | 0, _, _ => none
  | m + 1, v2, v12 =>
  if v2 < v1 then
   (zw v2).bind fun i2 =>
   (v0[i2]?).bind fun x3 =>
   (G_impl_copyValue x3).bind fun r4 =>
   if zY 88 (v12.length + [r4].length) then
   xS G_impl_copyValue v0 v1 v3 v4 v5 v6 v7 v8 v9 v10 v11 m (w64 (v2 + 1)) (v12 ++ [r4])
   else none
  else
  some (v2, v12)
theorem J9 (G_impl_copyValue : GValue → Option GValue) (H_impl_copyValue : jo G_impl_copyValue) (v0 : (List GValue)) (v1 : Int) (v3 : Int) (v4 : Int) (v5 : Int) (v6 : Int) (v7 : (List UInt8)) (v8 : (List (List UInt8))) (v9 : (List GValue)) (v10 : (List UInt8)) (v11 : (List (List UInt8))) (m : Nat) : ∀ (v2 : Int) (v12 : (List GValue)), Ol (xS G_impl_copyValue v0 v1 v3 v4 v5 v6 v7 v8 v9 v10 v11 m v2 v12) 138 (zG Tryz.f138 0) ⟨[(2, vp 0 0), (3, vp 1 0), (18, vq zg v0), (19, vi v1), (20, vi v2)], [.var [ci v3, ci v4, .ref 2, .ref 3, .ref 4], .var [ci v5, ci v6, .ref 5, .ref 6, .ref 7], .obj 1 (eL za v7), .obj 1 (eL (xz 1 za) v8), .obj 5 (eL zN v9), .obj 1 (eL za v10), .obj 1 (eL (xz 1 za) v11), .obj 5 (eL zN v12)], 0⟩ fun o => match o with | ⟨o_0, o_1⟩ => (.exit 0, ⟨[(2, vp 0 0), (3, vp 1 0), (18, vq zg v0), (19, vi v1), (20, vi o_0), (21, vb false)], [.var [ci v3, ci v4, .ref 2, .ref 3, .ref 4], .var [ci v5, ci v6, .ref 5, .ref 6, .ref 7], .obj 1 (eL za v7), .obj 1 (eL (xz 1 za) v8), .obj 5 (eL zN v9), .obj 1 (eL za v10), .obj 1 (eL (xz 1 za) v11), .obj 5 (eL zN o_1)], 0⟩) := by
  induction m with
  | zero => intro v2 v12 o h; cases h
  | succ m ih => exact fun v2 v12 => tlp (
   .lI v2 v1 (fun c1 =>
    .na v2 fun i2 =>
    .ix yn v0 i2 fun x3 =>
    .cl (H_impl_copyValue x3) fun r4 =>
    .nd (zY 88 (v12.length + [r4].length)) fun n5 =>
    .q ⟨.room 88 (eL zN v12) ([(jT r4)] : List (List C)), .b true, by rw [(show ([(jT r4)] : List (List C)) = eL zN [r4] from (T6 (y6 r4) Oe))]; exact (A.room n5)⟩ <|
    .q ⟨.uni 5 ([(jT r4)] : List (List C)), .b true, by rw [(show ([(jT r4)] : List (List C)) = eL zN [r4] from (T6 (y6 r4) Oe))]; exact (A.uniO WW)⟩ <|
    .q ⟨.app (eL zN v12) ([(jT r4)] : List (List C)), .l (eL zN (v12 ++ [r4])), by rw [(show ([(jT r4)] : List (List C)) = eL zN [r4] from (T6 (y6 r4) Oe))]; exact A.app⟩ <|
    .go (ih (w64 (v2 + 1)) (v12 ++ [r4]))) fun c1 =>
   .ret (v2, v12))
def Yk (G_impl_copyValue : GValue → Option GValue) (n : Nat) (a0 : GValue) : Option GValue :=
 (zU a0.S).bind fun r1 =>
 (yP a0.K).bind fun r2 =>
 (xS G_impl_copyValue a0.L (a0.L.length : Int) 0 0 a0.Kind a0.N [] [] [] r1 r2 n 0 []).bind fun ⟨o3_0, o3_1⟩ =>
 some (GValue.mk a0.Kind a0.N r1 r2 o3_1)
theorem Tu (G_impl_copyValue : GValue → Option GValue) (H_impl_copyValue : jo G_impl_copyValue) (n : Nat) : jo (Yk G_impl_copyValue n) := fun a0 => tc (
 .cl (xE a0.S) fun r1 =>
 .cl (ZI a0.K) fun r2 =>
 .le zg a0.L <|
 .lp (J9 G_impl_copyValue H_impl_copyValue a0.L (a0.L.length : Int) 0 0 a0.Kind a0.N [] [] [] r1 r2 n 0 []) fun ⟨o3_0, o3_1⟩ =>
 .ret (GValue.mk a0.Kind a0.N r1 r2 o3_1)) (ze Tryz.func138)
def yQ : Nat → GValue → Option GValue
 | 0, _ => none
 | n + 1, a0 => Yk (yQ n) n a0
theorem Vz (n : Nat) : jo (yQ n) := by
 induction n with
 | zero => exact fun _ _ h => (by rw [yQ] at h; cases h)
 | succ n ih =>
  have ih_impl_copyValue := ih
  exact fun a0 r h => Tu (yQ n) ih_impl_copyValue n a0 r (by rw [yQ] at h; exact h)
theorem PR {G : GValue → Option GValue} {a : List GValue} {v3 v4 v5 v6 : Int} {v7 : List UInt8} {v8 : List (List UInt8)} {v9 : List GValue} {v10 : List UInt8} {v11 : List (List UInt8)} (ha : a.length <= 2 ^ 39) : ∀ (l p : List GValue) (m : Nat), a = p ++ l → (∀ x ∈ l, G x = some x) → l.length < m → ∃ z, xS G a (a.length : Int) v3 v4 v5 v6 v7 v8 v9 v10 v11 m (p.length : Int) p = some (z, a) := by
 intro l
 induction l with
 | nil =>
  intro p m he _ hm
  subst he
  obtain ⟨m, rfl, _⟩ := zh hm
  exact ⟨_, by rw [xS, if_neg (kG p)]; simp; rfl⟩
 | cons x l ih =>
  intro p m he hG hm
  obtain ⟨m, rfl, hm'⟩ := zh hm
  have hlen : a.length = p.length + (l.length + 1) := by rw [he]; simp
  obtain ⟨z, hz⟩ := ih (p ++ [x]) m (by rw [he]; simp) (fun y hy => hG y (List.mem_cons_of_mem _ hy)) (by simp only [List.length_cons] at hm'; omega)
  refine ⟨z, ?_⟩
  rw [xS, if_pos (by omega), zf, Option.bind_some, show a[p.length]? = some x by rw [he]; exact zW p x l, Option.bind_some, hG x List.mem_cons_self, Option.bind_some, if_pos (wA (by decide) (by simp only [List.length_cons, List.length_nil]; omega)), xX p x (by omega), hz]
theorem N0 : ∀ (N : Nat) (v : GValue), vsz v < N → vsz v <= 2 ^ 39 → ∀ f : Nat, vsz v + 2 <= f → yQ f v = some v := by
 intro N
 induction N with
 | zero => intro v hv; omega
 | succ N ih =>
  intro v hv hs f hf
  obtain ⟨f, rfl, _⟩ := zh (show 0 < f by omega)
  have he := qI v
  have hl := xn v.L
  rw [yQ]
  unfold Yk
  rw [Vy (by omega), MD (by omega)]
  simp only [Option.bind_some]
  obtain ⟨z, hz⟩ := PR (G := yQ f) (a := v.L) (v3 := 0) (v4 := 0) (v5 := v.Kind) (v6 := v.N) (v7 := []) (v8 := []) (v9 := []) (v10 := v.S) (v11 := v.K) (by omega) v.L [] f rfl (fun x hx => by
   have := qw hx
   exact ih x (by omega) (by omega) f (by omega)) (by omega)
  simp only [List.length_nil, Int.natCast_zero] at hz
  rw [hz]
  exact congrArg some (GValue.eta v)
def wh (a0 : GValue) : Option GValue := if vsz a0 <= 2 ^ 39 then some a0 else none
theorem Ky (a0 : GValue) (r : GValue) (h : wh a0 = some r) : ∃ n, yQ n a0 = some r := by
 unfold wh at h
 obtain ⟨ha, h⟩ := zR h
 exact ⟨vsz a0 + 2, by rw [<- h]; exact N0 _ a0 (Nat.lt_succ_self _) ha _ (Nat.le_refl _)⟩
theorem Wa : jo wh := by
 intro a0 r h
 obtain ⟨n, hn⟩ := Ky a0 r h
 exact (Vz n) a0 r hn
def kX (a0 : GEntry) : Option GEntry :=
 (zU a0.Addr).bind fun r1 =>
 (wh a0.Val).bind fun r2 =>
 (yP a0.Deps).bind fun r3 =>
 some (GEntry.mk r1 r2 r3 a0.Taint a0.Turned)
theorem Rx (a0 : GEntry) : Oc (kX a0) 177 [] [.val true (jU a0)] fun r => (.val true (T7 r), []) := tc (
 .cl (xE a0.Addr) fun r1 =>
 .cl (Wa a0.Val) fun r2 =>
 .cl (ZI a0.Deps) fun r3 =>
 .ret (GEntry.mk r1 r2 r3 a0.Taint a0.Turned)) (ze Tryz.func177)
def WN (F : GState → Option GState) : Prop := ∀ (a0 : GState), Oc (F a0) 137 [] [.val true (ym a0)] fun r => (.val true (JO r), [])
def xT (v0 : (List GEntry)) (v1 : Int) (v3 : Int) (v4 : Bool) (v5 : Int) (v6 : Int) (v7 : Bool) (v8 : Int) (v9 : (List UInt8)) (v10 : (List GEntry)) (v11 : (List UInt8)) : Nat → Int → (List GEntry) → Option (Int × (List GEntry))
  | 0, _, _ => none
  | m + 1, v2, v12 =>
  if v2 < v1 then
   (zw v2).bind fun i2 =>
   (v0[i2]?).bind fun x3 =>
   (kX x3).bind fun r4 =>
   if zY 152 (v12.length + [r4].length) then
   xT v0 v1 v3 v4 v5 v6 v7 v8 v9 v10 v11 m (w64 (v2 + 1)) (v12 ++ [r4])
   else none
  else
  some (v2, v12)
theorem JA (v0 : (List GEntry)) (v1 : Int) (v3 : Int) (v4 : Bool) (v5 : Int) (v6 : Int) (v7 : Bool) (v8 : Int) (v9 : (List UInt8)) (v10 : (List GEntry)) (v11 : (List UInt8)) (m : Nat) : ∀ (v2 : Int) (v12 : (List GEntry)), Ol (xT v0 v1 v3 v4 v5 v6 v7 v8 v9 v10 v11 m v2 v12) 137 (zG Tryz.f137 0) ⟨[(2, vp 0 0), (3, vp 1 0), (17, vq zl v0), (18, vi v1), (19, vi v2)], [.var [ci v3, .bool v4, .ref 2, ci v5, .ref 3], .var [ci v6, .bool v7, .ref 4, ci v8, .ref 5], .obj 1 (eL za v9), .obj 9 (eL zF v10), .obj 1 (eL za v11), .obj 9 (eL zF v12)], 0⟩ fun o => match o with | ⟨o_0, o_1⟩ => (.exit 0, ⟨[(2, vp 0 0), (3, vp 1 0), (17, vq zl v0), (18, vi v1), (19, vi o_0), (20, vb false)], [.var [ci v3, .bool v4, .ref 2, ci v5, .ref 3], .var [ci v6, .bool v7, .ref 4, ci v8, .ref 5], .obj 1 (eL za v9), .obj 9 (eL zF v10), .obj 1 (eL za v11), .obj 9 (eL zF o_1)], 0⟩) := by
  induction m with
  | zero => intro v2 v12 o h; cases h
  | succ m ih => exact fun v2 v12 => tlp (
   .lI v2 v1 (fun c1 =>
    .na v2 fun i2 =>
    .ix zZ v0 i2 fun x3 =>
    .cl (Rx x3) fun r4 =>
    .ao 152 qv v12 [r4] fun n5 =>
    .go (ih (w64 (v2 + 1)) (v12 ++ [r4]))) fun c1 =>
   .ret (v2, v12))
def Yl (n : Nat) (a0 : GState) : Option GState :=
 (zU a0.Pending).bind fun r1 =>
 (xT a0.Entries (a0.Entries.length : Int) 0 false 0 a0.Serial a0.Open a0.Act [] [] r1 n 0 []).bind fun ⟨o2_0, o2_1⟩ =>
 some (GState.mk a0.Serial a0.Open r1 a0.Act o2_1)
theorem Tv (n : Nat) : WN (Yl n) := fun a0 => tc (
 .cl (xE a0.Pending) fun r1 =>
 .le zl a0.Entries <|
 .lp (JA a0.Entries (a0.Entries.length : Int) 0 false 0 a0.Serial a0.Open a0.Act [] [] r1 n 0 []) fun ⟨o2_0, o2_1⟩ =>
 .ret (GState.mk a0.Serial a0.Open r1 a0.Act o2_1)) (ze Tryz.func137)
theorem Ep {e : GEntry} (h : esz e <= 2 ^ 38) : kX e = some e := by
 unfold esz at h
 unfold kX zU wh yP
 rw [if_pos (wA (by decide) (by omega)), Option.bind_some, if_pos (by omega), Option.bind_some, if_pos (by omega), Option.bind_some]
 cases e; rfl
theorem GT {a : List GEntry} {v3 : Int} {v4 : Bool} {v5 v6 : Int} {v7 : Bool} {v8 : Int} {v9 : List UInt8} {v10 : List GEntry} {v11 : List UInt8} (ha : yu a <= 2 ^ 38) : ∀ (l p : List GEntry) (m : Nat), a = p ++ l → l.length < m → ∃ z, xT a (a.length : Int) v3 v4 v5 v6 v7 v8 v9 v10 v11 m (p.length : Int) p = some (z, a) := by
 have hl := jt a
 intro l
 induction l with
 | nil =>
  intro p m he hm
  obtain ⟨m, rfl, _⟩ := zh hm
  exact ⟨_, by rw [xT, he, List.append_nil, if_neg (by omega)]⟩
 | cons x l ih =>
  intro p m he hm
  obtain ⟨m, rfl, hm'⟩ := zh hm
  have hx : 1 + esz x <= yu a := WZ (by rw [he]; simp)
  have hlen : a.length = p.length + (l.length + 1) := by rw [he]; simp
  obtain ⟨z, hz⟩ := ih (p ++ [x]) m (by rw [he]; simp) (by simp only [List.length_cons] at hm'; omega)
  refine ⟨z, ?_⟩
  rw [xT, if_pos (by omega), zf, Option.bind_some, show a[p.length]? = some x by rw [he]; exact zW p x l, Option.bind_some, Ep (by omega), Option.bind_some, if_pos (Z5 (by simp only [List.length_cons, List.length_nil]; omega)), xX p x (by omega), hz]
def xj (a0 : GState) : Option GState := if ssz a0 <= 2 ^ 38 then some a0 else none
theorem Kz (a0 : GState) (r : GState) (h : xj a0 = some r) : ∃ n, Yl n a0 = some r := by
 unfold xj at h
 obtain ⟨ha, h⟩ := zR h
 unfold ssz at ha
 refine ⟨a0.Entries.length + 1, ?_⟩
 unfold Yl zU
 obtain ⟨z, hz⟩ := GT (a := a0.Entries) (v3 := 0) (v4 := false) (v5 := 0) (v6 := a0.Serial) (v7 := a0.Open) (v8 := a0.Act) (v9 := []) (v10 := []) (v11 := a0.Pending) (by omega) a0.Entries [] (a0.Entries.length + 1) rfl (by omega)
 simp only [List.length_nil, Int.natCast_zero] at hz
 rw [if_pos (wA (by decide) (by omega)), Option.bind_some, hz, <- h]
 cases a0; rfl
theorem Wb : WN xj := fun a0 r h => (Kz a0 r h).elim fun n hn => Tv n a0 r hn
def Yb (a0 : GValue) : Option Bool :=
 if a0.Kind = 0 then
  if a0.N = 0 then
   if (a0.S.length : Int) = 0 then
    if (a0.K.length : Int) = 0 then
     some (decide ((a0.L.length : Int) = 0))
    else
    some false
   else
   some false
  else
  some false
 else
 some false
theorem PS (a0 : GValue) : Oc (Yb a0) 136 [] [.val true (z6 a0)] fun r => (vb r, []) := tc (
 .eI a0.Kind 0 (fun c1 =>
  .eI a0.N 0 (fun c2 =>
   .le za a0.S <|
   .eI (a0.S.length : Int) 0 (fun c3 =>
    .le (zt za) a0.K <|
    .eI (a0.K.length : Int) 0 (fun c4 =>
     .le zg a0.L <|
     .eD (a0.L.length : Int) 0 <|
     .ret (decide ((a0.L.length : Int) = 0))) fun c4 =>
    .ret false) fun c3 =>
   .ret false) fun c2 =>
  .ret false) fun c1 =>
 .ret false) (ze Tryz.func136)
def Z9 (a0 : GEvent) : Option Bool :=
 if a0.Kind = 2 then
  (xp a0.Addr).bind fun r2 =>
  match r2 with
  | true =>
   if a0.Act = 0 then
    (yX a0.Val).bind fun r4 =>
    match r4 with
    | true =>
     (xO a0.Deps).bind fun r5 =>
     some r5
    | false =>
     some false
   else
   some false
  | false =>
   some false
 else
 (Yb a0.Val).bind fun r2 =>
 match r2 with
 | true =>
  if 0 < (a0.Deps.length : Int) then
   some false
  else
  if a0.Kind = 0 then
   if (a0.Addr.length : Int) = 0 then
    some (decide (a0.Act = 0))
   else
   some false
  else
  if a0.Kind = 5 then
   if (a0.Addr.length : Int) = 0 then
    some (decide (a0.Act = 0))
   else
   some false
  else
  if a0.Kind = 6 then
   if (a0.Addr.length : Int) = 0 then
    some (decide (a0.Act = 0))
   else
   some false
  else
  if a0.Kind = 1 then
   (xp a0.Addr).bind fun r8 =>
   match r8 with
   | true =>
    (yD a0.Act 1 4).bind fun r9 =>
    some r9
   | false =>
    some false
  else
  if a0.Kind = 3 then
   (xp a0.Addr).bind fun r9 =>
   match r9 with
   | true =>
    some (decide (a0.Act = 0))
   | false =>
    some false
  else
  if a0.Kind = 4 then
   (xp a0.Addr).bind fun r10 =>
   match r10 with
   | true =>
    some (decide (a0.Act = 0))
   | false =>
    some false
  else
  some false
 | false =>
  some false
theorem UD (a0 : GEvent) : Oc (Z9 a0) 79 [] [.val true (xl a0)] fun r => (vb r, []) := tc (
 .eI a0.Kind 2 (fun c1 =>
  .cl (qn a0.Addr) fun r2 =>
  .vM 0 r2 (
   .az 0 0 <|
   .az 0 0 <|
   .eD a0.Act 0 <|
   .az 0 0 <|
   .cI 0 (a0.Act = 0) (fun c3 =>
    .kT 0 (dT c3) <|
    .kT 0 (dT c3) <|
    .cl (Zj a0.Val) fun r4 =>
    .kT 0 (dT c3) <|
    .vM 0 r4 (
     .az 0 0 <|
     .az 0 0 <|
     .cl (Yh a0.Deps) fun r5 =>
     .az 0 1 <|
     .ret r5) <|
    .az 0 0 <|
    .az 0 0 <|
    .az 0 0 <|
    .ret false) fun c3 =>
   .kF 0 (dF c3) <|
   .kF 0 (dF c3) <|
   .kF 0 (dF c3) <|
   .ret false) <|
  .az 0 0 <|
  .az 0 0 <|
  .az 0 0 <|
  .ret false) fun c1 =>
 .cl (PS a0.Val) fun r2 =>
 .vN 0 r2 (
  .an 0 0 <|
  .an 0 0 <|
  .le (zt za) a0.Deps <|
  .an 0 0 <|
  .lI 0 (a0.Deps.length : Int) (fun c3 =>
   .an 0 0 <|
   .ret false) fun c3 =>
  .an 0 0 <|
  .eI a0.Kind 0 (fun c4 =>
   .le za a0.Addr <|
   .eI (a0.Addr.length : Int) 0 (fun c5 =>
    .eD a0.Act 0 <|
    .ret (decide (a0.Act = 0))) fun c5 =>
   .ret false) fun c4 =>
  .eI a0.Kind 5 (fun c5 =>
   .le za a0.Addr <|
   .eI (a0.Addr.length : Int) 0 (fun c6 =>
    .eD a0.Act 0 <|
    .ret (decide (a0.Act = 0))) fun c6 =>
   .ret false) fun c5 =>
  .eI a0.Kind 6 (fun c6 =>
   .le za a0.Addr <|
   .eI (a0.Addr.length : Int) 0 (fun c7 =>
    .eD a0.Act 0 <|
    .ret (decide (a0.Act = 0))) fun c7 =>
   .ret false) fun c6 =>
  .eI a0.Kind 1 (fun c7 =>
   .cl (qn a0.Addr) fun r8 =>
   .vM 0 r8 (
    .az 0 0 <|
    .az 0 0 <|
    .cl (wd a0.Act 1 4) fun r9 =>
    .az 0 1 <|
    .ret r9) <|
   .az 0 0 <|
   .az 0 0 <|
   .az 0 0 <|
   .ret false) fun c7 =>
  .eI a0.Kind 3 (fun c8 =>
   .cl (qn a0.Addr) fun r9 =>
   .vM 0 r9 (
    .az 0 0 <|
    .az 0 0 <|
    .eD a0.Act 0 <|
    .az 0 0 <|
    .ret (decide (a0.Act = 0))) <|
   .az 0 0 <|
   .az 0 0 <|
   .az 0 0 <|
   .ret false) fun c8 =>
  .eI a0.Kind 4 (fun c9 =>
   .cl (qn a0.Addr) fun r10 =>
   .vM 0 r10 (
    .az 0 0 <|
    .az 0 0 <|
    .eD a0.Act 0 <|
    .az 0 0 <|
    .ret (decide (a0.Act = 0))) <|
   .az 0 0 <|
   .az 0 0 <|
   .az 0 0 <|
   .ret false) fun c9 =>
  .ret false) <|
 .an 0 0 <|
 .an 0 0 <|
 .an 0 0 <|
 .an 0 0 <|
 .ret false) (ze Tryz.func79)
def kb (a0 : GState) (a1 : GEvent) : Option Bool :=
 (yi a0 a1.Addr).bind fun ⟨r1_0, r1_1⟩ =>
 if a0.Serial = 1000000 then
  some false
 else
 if a1.Kind = 0 then
  some (!a0.Open)
 else
 if a1.Kind = 1 then
  match a0.Open with
  | true =>
   if (a0.Pending.length : Int) = 0 then
    if r1_1 = true then
     if a1.Act = 1 then
      some false
     else
     some true
    else
    if a1.Act = 1 then
     some (decide ((a0.Entries.length : Int) < 16))
    else
    some false
   else
   some false
  | false =>
   some false
 else
 if a1.Kind = 2 then
  (xo a0.Pending a1.Addr).bind fun r6 =>
  match r6 with
  | true =>
   some (!(decide (a0.Act = 4)))
  | false =>
   some false
 else
 if a1.Kind = 3 then
  (xo a0.Pending a1.Addr).bind fun r7 =>
  match r7 with
  | true =>
   some (decide (a0.Act = 4))
  | false =>
   some false
 else
 if a1.Kind = 4 then
  (xo a0.Pending a1.Addr).bind fun r8 =>
  some r8
 else
 if a1.Kind = 5 then
  match a0.Open with
  | true =>
   some (decide ((a0.Pending.length : Int) = 0))
  | false =>
   some false
 else
 some a0.Open
theorem V0 (a0 : GState) (a1 : GEvent) : Oc (kb a0 a1) 103 [] [.val true (ym a0), .val true (xl a1)] fun r => (vb r, []) := tc (
 .cl (qN a0 a1.Addr) fun ⟨r1_0, r1_1⟩ =>
 .eI a0.Serial 1000000 (fun c2 =>
  .ret false) fun c2 =>
 .eI a1.Kind 0 (fun c3 =>
  .ret (!a0.Open)) fun c3 =>
 .eI a1.Kind 1 (fun c4 =>
  .vM 1 a0.Open (
   .az 0 0 <|
   .az 0 0 <|
   .le za a0.Pending <|
   .az 0 0 <|
   .eD (a0.Pending.length : Int) 0 <|
   .az 0 0 <|
   .cI 0 ((a0.Pending.length : Int) = 0) (fun c5 =>
    .kT 0 (dT c5) <|
    .kT 0 (dT c5) <|
    .kT 0 (dT c5) <|
    .eD a1.Act 1 <|
    .kT 0 (dT c5) <|
    .sp (r1_1 = true) (fun c6 =>
     .sp (a1.Act = 1) (fun c7 =>
      .eb c6 (nT (dT c7)) <|
      .kT 0 (dT c5) <|
      .ret false) fun c7 =>
     .eb c6 (nF (dF c7)) <|
     .kT 0 (dT c5) <|
     .kT 2 c6 <|
     .kT 0 c6 <|
     .kT 0 c6 <|
     .kT 0 c6 <|
     .kT 1 c6 <|
     .ret true) fun c6 =>
    .sp (a1.Act = 1) (fun c7 =>
     .eb (bF c6) (nT (dT c7)) <|
     .kT 0 (dT c5) <|
     .kF 2 (bF c6) <|
     .kF 0 (bF c6) <|
     .kF 0 (bF c6) <|
     .le zl a0.Entries <|
     .kF 0 (bF c6) <|
     .lD (a0.Entries.length : Int) 16 <|
     .kF 1 (bF c6) <|
     .ret (decide ((a0.Entries.length : Int) < 16))) fun c7 =>
    .eb (bF c6) (nF (dF c7)) <|
    .kT 0 (dT c5) <|
    .ret false) fun c5 =>
   .kF 0 (dF c5) <|
   .kF 0 (dF c5) <|
   .kF 0 (dF c5) <|
   .kF 0 (dF c5) <|
   .kF 0 (dF c5) <|
   .ret false) <|
  .az 0 0 <|
  .az 0 0 <|
  .az 0 0 <|
  .az 0 0 <|
  .ret false) fun c4 =>
 .eI a1.Kind 2 (fun c5 =>
  .cl (jb a0.Pending a1.Addr) fun r6 =>
  .vM 0 r6 (
   .az 0 0 <|
   .az 0 0 <|
   .eD a0.Act 4 <|
   .az 0 0 <|
   .ret (!(decide (a0.Act = 4)))) <|
  .az 0 0 <|
  .az 0 0 <|
  .az 0 0 <|
  .ret false) fun c5 =>
 .eI a1.Kind 3 (fun c6 =>
  .cl (jb a0.Pending a1.Addr) fun r7 =>
  .vM 0 r7 (
   .az 0 0 <|
   .az 0 0 <|
   .eD a0.Act 4 <|
   .az 0 0 <|
   .ret (decide (a0.Act = 4))) <|
  .az 0 0 <|
  .az 0 0 <|
  .az 0 0 <|
  .ret false) fun c6 =>
 .eI a1.Kind 4 (fun c7 =>
  .cl (jb a0.Pending a1.Addr) fun r8 =>
  .ret r8) fun c7 =>
 .eI a1.Kind 5 (fun c8 =>
  .vM 1 a0.Open (
   .az 0 0 <|
   .az 0 0 <|
   .le za a0.Pending <|
   .az 0 0 <|
   .eD (a0.Pending.length : Int) 0 <|
   .az 0 0 <|
   .ret (decide ((a0.Pending.length : Int) = 0))) <|
  .az 0 0 <|
  .az 0 0 <|
  .az 0 0 <|
  .az 0 0 <|
  .ret false) fun c8 =>
 .ret a0.Open) (ze Tryz.func103)
def qB (a0 : Bool) (e0_0 : Int) (e0_1 : Bool) (e0_3 : Int) (e1 : (List UInt8)) (e2 : (List GEntry)) : Option GState :=
 if (e1.length : Int) = 0 then
  some (GState.mk e0_0 e0_1 e1 e0_3 e2)
 else
 (yi (GState.mk e0_0 e0_1 e1 e0_3 e2) e1).bind fun ⟨r2_0, r2_1⟩ =>
 match r2_1 with
 | true =>
  (zw r2_0).bind fun i3 =>
  (e2[i3]?).bind fun x4 =>
  ((e2.set i3 (GEntry.mk x4.Addr x4.Val x4.Deps true x4.Turned))[i3]?).bind fun x5 =>
  some (GState.mk e0_0 e0_1 e1 e0_3 ((e2.set i3 (GEntry.mk x4.Addr x4.Val x4.Deps true x4.Turned)).set i3 (GEntry.mk x5.Addr x5.Val x5.Deps x5.Taint e0_0)))
 | false =>
  match a0 with
  | true =>
   (zU e1).bind fun r3 =>
   (wB r2_0 e2 [(GEntry.mk r3 (GValue.mk 5 0 [] [] []) [] false 0)]).bind fun r4 =>
   (zw r2_0).bind fun i5 =>
   (r4[i5]?).bind fun x6 =>
   ((r4.set i5 (GEntry.mk x6.Addr x6.Val x6.Deps true x6.Turned))[i5]?).bind fun x7 =>
   some (GState.mk e0_0 e0_1 e1 e0_3 ((r4.set i5 (GEntry.mk x6.Addr x6.Val x6.Deps true x6.Turned)).set i5 (GEntry.mk x7.Addr x7.Val x7.Deps x7.Taint e0_0)))
  | false =>
   some (GState.mk e0_0 e0_1 e1 e0_3 e2)
theorem Xb (a0 : Bool) (e0_0 : Int) (e0_1 : Bool) (e0_3 : Int) (e1 : (List UInt8)) (e2 : (List GEntry)) : Oc (qB a0 e0_0 e0_1 e0_3 e1 e2) 142 [.var [ci e0_0, .bool e0_1, .ref 1, ci e0_3, .ref 2], .obj 1 (eL za e1), .obj 9 (eL zF e2)] [vp 0 0, vb a0] fun r => (.tup [], [.var (JO r), .dead, .dead]) := tc (
 .le za e1 <|
 .eI (e1.length : Int) 0 (fun c1 =>
  .ret (GState.mk e0_0 e0_1 e1 e0_3 e2)) fun c1 =>
 .vw zn e1 <|
 .vo qv e2 <|
 .vw zn e1 <|
 .cl (qN (GState.mk e0_0 e0_1 e1 e0_3 e2) e1) fun ⟨r2_0, r2_1⟩ =>
 .vN 0 r2_1 (
  .na r2_0 fun i3 =>
  .ix z7 e2 i3 fun x4 =>
  .ag 0 <|
  .sl (z7 (GEntry.mk x4.Addr x4.Val x4.Deps true x4.Turned)) e2 i3 <|
  .ag 1 <|
  .ix z7 (e2.set i3 (GEntry.mk x4.Addr x4.Val x4.Deps true x4.Turned)) i3 fun x5 =>
  .ag 0 <|
  .sl (z7 (GEntry.mk x5.Addr x5.Val x5.Deps x5.Taint e0_0)) (e2.set i3 (GEntry.mk x4.Addr x4.Val x4.Deps true x4.Turned)) i3 <|
  .ret (GState.mk e0_0 e0_1 e1 e0_3 ((e2.set i3 (GEntry.mk x4.Addr x4.Val x4.Deps true x4.Turned)).set i3 (GEntry.mk x5.Addr x5.Val x5.Deps x5.Taint e0_0)))) <|
 .vN 0 a0 (
  .vw zn e1 <|
  .cl (xE e1) fun r3 =>
  .cn yY r3 <|
  .cl (ZT r2_0 e2 [(GEntry.mk r3 (GValue.mk 5 0 [] [] []) [] false 0)]) fun r4 =>
  .na r2_0 fun i5 =>
  .ix z7 r4 i5 fun x6 =>
  .ag 0 <|
  .sl (z7 (GEntry.mk x6.Addr x6.Val x6.Deps true x6.Turned)) r4 i5 <|
  .ag 1 <|
  .ix z7 (r4.set i5 (GEntry.mk x6.Addr x6.Val x6.Deps true x6.Turned)) i5 fun x7 =>
  .ag 0 <|
  .sl (z7 (GEntry.mk x7.Addr x7.Val x7.Deps x7.Taint e0_0)) (r4.set i5 (GEntry.mk x6.Addr x6.Val x6.Deps true x6.Turned)) i5 <|
  .ret (GState.mk e0_0 e0_1 e1 e0_3 ((r4.set i5 (GEntry.mk x6.Addr x6.Val x6.Deps true x6.Turned)).set i5 (GEntry.mk x7.Addr x7.Val x7.Deps x7.Taint e0_0)))) <|
 .ret (GState.mk e0_0 e0_1 e1 e0_3 e2)) (ze Tryz.func142)
end
end Go.Am.Try
