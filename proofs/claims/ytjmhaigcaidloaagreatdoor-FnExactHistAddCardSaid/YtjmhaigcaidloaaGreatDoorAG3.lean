
/- The functions of the program in plain Lean, and that the machine answers as they do; conditions at each theorem. -/
import Derived.Test.YtjmhaigcaidloaaGreatDoorAG2
set_option linter.unusedVariables false
set_option linter.unusedSimpArgs false
namespace Go.Am.Try
open Go.Am Go.Proofs
set_option linter.unusedVariables false
set_option maxRecDepth 20000
set_option maxHeartbeats 2000000
noncomputable section
def je (F : GValue → Int → Option Bool) : Prop := ∀ (a0 : GValue) (e0 : Int), Oc (F a0 e0) 237 [.var [ci e0]] [.val true (zD a0), vp 0 0] fun r => (vb r, [.var [ci e0]])
def yI (F : (List GValue) → Int → Option Int) : Prop := ∀ (a0 : (List GValue)) (e0 : Int), Oc (F a0 e0) 224 [.var [ci e0]] [vq zh a0, .val false [.fn 237 [.ptr 0 0]]] fun r => (vi r, [.var [ci e0]])
def yd (F : (List GValue) → Int → Option Bool) : Prop := ∀ (a0 : (List GValue)) (e0 : Int), Oc (F a0 e0) 203 [.var [ci e0]] [vq zh a0, .val false [.fn 237 [.ptr 0 0]]] fun r => (vb r, [.var [ci e0]])
def Ze (F : GValue → Int → Option Bool) : Prop := ∀ (a0 : GValue) (a1 : Int), Oc (F a0 a1) 222 [] [.val true (zD a0), vi a1] fun r => (vb r, [])
def ZY (G_impl_isShaped : GValue → Int → Option Bool) (a0 : GValue) (e0 : Int) : Option Bool :=
 (G_impl_isShaped a0 (w64 (e0 - 1))).bind fun r1 =>
 some (!r1)
theorem RI (G_impl_isShaped : GValue → Int → Option Bool) (H_impl_isShaped : Ze G_impl_isShaped) : je (ZY G_impl_isShaped) := fun a0 e0 => tc (
 .cl (H_impl_isShaped a0 (w64 (e0 - 1))) fun r1 =>
 .ret (!r1)) (zf Tryz.func237)
def zP (G_impl_isShaped_1 : GValue → Int → Option Bool) (a0 : (List GValue)) (v1 : Int) (e0 : Int) : Nat → Int → Option (Int ⊕ Int)
  | 0, _ => none
  | m + 1, v2 =>
  if v2 < v1 then
   (zv v2).bind fun i2 =>
   (a0[i2]?).bind fun x3 =>
   (G_impl_isShaped_1 x3 e0).bind fun r4 =>
   match r4 with
   | true =>
    some (.inl v2)
   | false =>
    zP G_impl_isShaped_1 a0 v1 e0 m (w64 (v2 + 1))
  else
  some (.inr v2)
theorem vG (G_impl_isShaped_1 : GValue → Int → Option Bool) (H_impl_isShaped_1 : je G_impl_isShaped_1) (a0 : (List GValue)) (v1 : Int) (e0 : Int) (m : Nat) : ∀ (v2 : Int), Ol (zP G_impl_isShaped_1 a0 v1 e0 m v2) 224 (zJ Tryz.f224 0) ⟨[(0, vq zh a0), (1, .val false [.fn 237 [.ptr 0 0]]), (7, vi v1), (8, vi v2)], [.var [ci e0]], 1⟩ fun o => match o with | .inl o_0 => (.ret, ⟨[(4, vi o_0)], [.var [ci e0]], 1⟩) | .inr (o_1) => (.exit 0, ⟨[(0, vq zh a0), (1, .val false [.fn 237 [.ptr 0 0]]), (7, vi v1), (8, vi o_1), (9, vb false)], [.var [ci e0]], 1⟩) := by
  induction m with
  | zero => intro v2 o h; cases h
  | succ m ih => exact fun v2 => tlp (
   .lI v2 v1 (fun c1 =>
    .na v2 fun i2 =>
    .ix yz a0 i2 fun x3 =>
    .cl (H_impl_isShaped_1 x3 e0) fun r4 =>
    .vM 0 r4 (
     .ret (.inl v2)) <|
    .go (ih (w64 (v2 + 1)))) fun c1 =>
   .ret (.inr v2))
def yJ (G_impl_isShaped_1 : GValue → Int → Option Bool) (n : Nat) (a0 : (List GValue)) (e0 : Int) : Option Int :=
 (zP G_impl_isShaped_1 a0 (a0.length : Int) e0 n 0).bind fun o1 =>
 match o1 with
 | .inl o1_0 =>
  some o1_0
 | .inr (o1_1) =>
  some (-1)
theorem ZM (G_impl_isShaped_1 : GValue → Int → Option Bool) (H_impl_isShaped_1 : je G_impl_isShaped_1) (n : Nat) : yI (yJ G_impl_isShaped_1 n) := fun a0 e0 => tc (
 .le zh a0 <|
 .l2 (vG G_impl_isShaped_1 H_impl_isShaped_1 a0 (a0.length : Int) e0 n 0) (fun o1_0 =>
  .ret o1_0) fun o1_1 =>
 .ret (-1)) (zf Tryz.func224)
def xl (G_slices_IndexFunc_Value_isShaped_1 : (List GValue) → Int → Option Int) (a0 : (List GValue)) (e0 : Int) : Option Bool :=
 (G_slices_IndexFunc_Value_isShaped_1 a0 e0).bind fun r1 =>
 some (decide (0 <= r1))
theorem vQ (G_slices_IndexFunc_Value_isShaped_1 : (List GValue) → Int → Option Int) (H_slices_IndexFunc_Value_isShaped_1 : yI G_slices_IndexFunc_Value_isShaped_1) : yd (xl G_slices_IndexFunc_Value_isShaped_1) := fun a0 e0 => tc (
 .cl (H_slices_IndexFunc_Value_isShaped_1 a0 e0) fun r1 =>
 .gD 0 r1 <|
 .ret (decide (0 <= r1))) (zf Tryz.func203)
def xr (G_slices_ContainsFunc_Value_isShaped_1 : (List GValue) → Int → Option Bool) (v0 : Bool) (v1 : Bool) (v2 : (List (List UInt8))) (v3 : Int) (a0 : GValue) (a1 : Int) : Nat → Int → Option (Bool ⊕ Int)
  | 0, _ => none
  | m + 1, v4 =>
  if v4 < v3 then
   (zv v4).bind fun i2 =>
   (v2[i2]?).bind fun x3 =>
   (qh x3).bind fun r4 =>
   match r4 with
   | true =>
    if 0 < v4 then
     (zv (w64 (v4 - 1))).bind fun i6 =>
     (a0.K[i6]?).bind fun x7 =>
     (xX x7 x3).bind fun r8 =>
     if 0 <= r8 then
      some (.inl false)
     else
     xr G_slices_ContainsFunc_Value_isShaped_1 v0 v1 v2 v3 a0 a1 m (w64 (v4 + 1))
    else
    xr G_slices_ContainsFunc_Value_isShaped_1 v0 v1 v2 v3 a0 a1 m (w64 (v4 + 1))
   | false =>
    some (.inl false)
  else
  some (.inr v4)
theorem KO (G_slices_ContainsFunc_Value_isShaped_1 : (List GValue) → Int → Option Bool) (H_slices_ContainsFunc_Value_isShaped_1 : yd G_slices_ContainsFunc_Value_isShaped_1) (v0 : Bool) (v1 : Bool) (v2 : (List (List UInt8))) (v3 : Int) (a0 : GValue) (a1 : Int) (m : Nat) : ∀ (v4 : Int), Ol (xr G_slices_ContainsFunc_Value_isShaped_1 v0 v1 v2 v3 a0 a1 m v4) 222 (zJ Tryz.f222 0) ⟨[(2, vp 0 0), (3, vp 1 0), (5, vb v0), (6, vb v1), (99, vq (zu za) v2), (100, vi v3), (101, vi v4)], [.var (zD a0), .var [ci a1]], 0⟩ fun o => match o with | .inl o_0 => (.ret, ⟨[(4, vb o_0)], [], 0⟩) | .inr (o_1) => (.exit 1, ⟨[(2, vp 0 0), (3, vp 1 0), (5, vb v0), (6, vb v1), (99, vq (zu za) v2), (100, vi v3), (101, vi o_1), (102, vb false)], [.var (zD a0), .var [ci a1]], 0⟩) := by
  induction m with
  | zero => intro v4 o h; cases h
  | succ m ih => exact fun v4 => tlp (
   .lI v4 v3 (fun c1 =>
    .na v4 fun i2 =>
    .ix0 (zu za) v2 i2 fun x3 =>
    .cl (X1 x3) fun r4 =>
    .vN 0 r4 (
     .an 0 0 <|
     .lI 0 v4 (fun c5 =>
      .an 0 0 <|
      .na (w64 (v4 - 1)) fun i6 =>
      .ix0 (zu za) a0.K i6 fun x7 =>
      .cl (vk x7 x3) fun r8 =>
      .gI 0 r8 (fun c9 =>
       .an 0 3 <|
       .an 1 3 <|
       .ret (.inl false)) fun c9 =>
      .an 0 3 <|
      .an 1 3 <|
      .go (ih (w64 (v4 + 1)))) fun c5 =>
     .an 0 0 <|
     .an 9 0 <|
     .an 1 0 <|
     .go (ih (w64 (v4 + 1)))) <|
    .an 0 0 <|
    .an 0 0 <|
    .an 0 0 <|
    .an 0 0 <|
    .ret (.inl false)) fun c1 =>
   .ret (.inr v4))
def jU (G_slices_ContainsFunc_Value_isShaped_1 : (List GValue) → Int → Option Bool) (n : Nat) (a0 : GValue) (a1 : Int) : Option Bool :=
 if a1 = 0 then
  some false
 else
 if a0.Kind = 0 then
  if a0.N = 0 then
   if (a0.S.length : Int) = 0 then
    if (a0.K.length : Int) = 0 then
     some (decide ((a0.L.length : Int) = 0))
    else
    some false
   else
   some false
  else
  some false
 else
 if a0.Kind = 6 then
  if a0.N = 0 then
   if (a0.S.length : Int) = 0 then
    if (a0.K.length : Int) = 0 then
     some (decide ((a0.L.length : Int) = 0))
    else
    some false
   else
   some false
  else
  some false
 else
 if a0.Kind = 1 then
  (xg a0.N 0 1).bind fun r5 =>
  match r5 with
  | true =>
   if (a0.S.length : Int) = 0 then
    if (a0.K.length : Int) = 0 then
     some (decide ((a0.L.length : Int) = 0))
    else
    some false
   else
   some false
  | false =>
   some false
 else
 if a0.Kind = 2 then
  (xg a0.N (-1000000000000) 1000000000000).bind fun r6 =>
  match r6 with
  | true =>
   if (a0.S.length : Int) = 0 then
    if (a0.K.length : Int) = 0 then
     some (decide ((a0.L.length : Int) = 0))
    else
    some false
   else
   some false
  | false =>
   some false
 else
 if a0.Kind = 3 then
  (vF a0.S).bind fun r7 =>
  match r7 with
  | true =>
   if a0.N = 0 then
    if (a0.K.length : Int) = 0 then
     some (decide ((a0.L.length : Int) = 0))
    else
    some false
   else
   some false
  | false =>
   some false
 else
 if a0.Kind = 4 then
  if (a0.K.length : Int) = 0 then
   if a0.N = 0 then
    if (a0.S.length : Int) = 0 then
     if (a0.L.length : Int) <= 40 then
      (G_slices_ContainsFunc_Value_isShaped_1 a0.L a1).bind fun r12 =>
      some (!r12)
     else
     some false
    else
    some false
   else
   some false
  else
  some false
 else
 if a0.Kind = 5 then
  if (a0.K.length : Int) = (a0.L.length : Int) then
   (xr G_slices_ContainsFunc_Value_isShaped_1 (decide (a0.N = 0)) (decide ((a0.S.length : Int) = 0)) a0.K (a0.K.length : Int) a0 a1 n 0).bind fun o10 =>
   match o10 with
   | .inl o10_0 =>
    some o10_0
   | .inr (o10_1) =>
    if a0.N = 0 then
     if (a0.S.length : Int) = 0 then
      if (a0.L.length : Int) <= 40 then
       (G_slices_ContainsFunc_Value_isShaped_1 a0.L a1).bind fun r14 =>
       some (!r14)
      else
      some false
     else
     some false
    else
    some false
  else
  some false
 else
 some false
theorem UV (G_slices_ContainsFunc_Value_isShaped_1 : (List GValue) → Int → Option Bool) (H_slices_ContainsFunc_Value_isShaped_1 : yd G_slices_ContainsFunc_Value_isShaped_1) (n : Nat) : Ze (jU G_slices_ContainsFunc_Value_isShaped_1 n) := fun a0 a1 => tc (
 .eI a1 0 (fun c1 =>
  .ret false) fun c1 =>
 .eD a0.N 0 <|
 .le za a0.S <|
 .eD (a0.S.length : Int) 0 <|
 .le (zu za) a0.K <|
 .eD (a0.K.length : Int) 0 <|
 .le zh a0.L <|
 .eD (a0.L.length : Int) 0 <|
 .eI a0.Kind 0 (fun c2 =>
  .cI 2 (a0.N = 0) (fun c3 =>
   .kT 0 (dT c3) <|
   .cI 0 ((a0.S.length : Int) = 0) (fun c4 =>
    .kT 0 (dT c4) <|
    .cI 0 ((a0.K.length : Int) = 0) (fun c5 =>
     .kT 0 (dT c5) <|
     .ret (decide ((a0.L.length : Int) = 0))) fun c5 =>
    .kF 0 (dF c5) <|
    .ret false) fun c4 =>
   .kF 0 (dF c4) <|
   .ret false) fun c3 =>
  .kF 0 (dF c3) <|
  .ret false) fun c2 =>
 .eI a0.Kind 6 (fun c3 =>
  .cI 1 (a0.N = 0) (fun c4 =>
   .kT 0 (dT c4) <|
   .cI 0 ((a0.S.length : Int) = 0) (fun c5 =>
    .kT 0 (dT c5) <|
    .cI 0 ((a0.K.length : Int) = 0) (fun c6 =>
     .kT 0 (dT c6) <|
     .ret (decide ((a0.L.length : Int) = 0))) fun c6 =>
    .kF 0 (dF c6) <|
    .ret false) fun c5 =>
   .kF 0 (dF c5) <|
   .ret false) fun c4 =>
  .kF 0 (dF c4) <|
  .ret false) fun c3 =>
 .eI a0.Kind 1 (fun c4 =>
  .cl (qA a0.N 0 1) fun r5 =>
  .vM 0 r5 (
   .az 0 0 <|
   .cI 0 ((a0.S.length : Int) = 0) (fun c6 =>
    .kT 0 (dT c6) <|
    .cI 0 ((a0.K.length : Int) = 0) (fun c7 =>
     .kT 0 (dT c7) <|
     .ret (decide ((a0.L.length : Int) = 0))) fun c7 =>
    .kF 0 (dF c7) <|
    .ret false) fun c6 =>
   .kF 0 (dF c6) <|
   .ret false) <|
  .az 0 0 <|
  .ret false) fun c4 =>
 .eI a0.Kind 2 (fun c5 =>
  .cl (qA a0.N (-1000000000000) 1000000000000) fun r6 =>
  .vM 0 r6 (
   .az 0 0 <|
   .cI 0 ((a0.S.length : Int) = 0) (fun c7 =>
    .kT 0 (dT c7) <|
    .cI 0 ((a0.K.length : Int) = 0) (fun c8 =>
     .kT 0 (dT c8) <|
     .ret (decide ((a0.L.length : Int) = 0))) fun c8 =>
    .kF 0 (dF c8) <|
    .ret false) fun c7 =>
   .kF 0 (dF c7) <|
   .ret false) <|
  .az 0 0 <|
  .ret false) fun c5 =>
 .eI a0.Kind 3 (fun c6 =>
  .cl (Ot a0.S) fun r7 =>
  .vM 0 r7 (
   .az 0 0 <|
   .cI 0 (a0.N = 0) (fun c8 =>
    .kT 0 (dT c8) <|
    .cI 0 ((a0.K.length : Int) = 0) (fun c9 =>
     .kT 0 (dT c9) <|
     .ret (decide ((a0.L.length : Int) = 0))) fun c9 =>
    .kF 0 (dF c9) <|
    .ret false) fun c8 =>
   .kF 0 (dF c8) <|
   .ret false) <|
  .az 0 0 <|
  .ret false) fun c6 =>
 .eI a0.Kind 4 (fun c7 =>
  .cN 1 ((a0.K.length : Int) = 0) (fun c8 =>
   .cI 0 (a0.N = 0) (fun c9 =>
    .kT 0 (dT c9) <|
    .cI 0 ((a0.S.length : Int) = 0) (fun c10 =>
     .kT 0 (dT c10) <|
     .kT 0 (dT c10) <|
     .le zh a0.L <|
     .kT 0 (dT c10) <|
     .gI (a0.L.length : Int) 40 (fun c11 =>
      .kT 0 (dT c10) <|
      .cl (H_slices_ContainsFunc_Value_isShaped_1 a0.L a1) fun r12 =>
      .ret (!r12)) fun c11 =>
     .kT 0 (dT c10) <|
     .ret false) fun c10 =>
    .kF 0 (dF c10) <|
    .kF 0 (dF c10) <|
    .kF 0 (dF c10) <|
    .kF 0 (dF c10) <|
    .ret false) fun c9 =>
   .kF 0 (dF c9) <|
   .ret false) fun c8 =>
  .ret false) fun c7 =>
 .eI a0.Kind 5 (fun c8 =>
  .le (zu za) a0.K <|
  .le zh a0.L <|
  .eI (a0.K.length : Int) (a0.L.length : Int) (fun c9 =>
   .le (zu za) a0.K <|
   .l2 (KO G_slices_ContainsFunc_Value_isShaped_1 H_slices_ContainsFunc_Value_isShaped_1 (decide (a0.N = 0)) (decide ((a0.S.length : Int) = 0)) a0.K (a0.K.length : Int) a0 a1 n 0) (fun o10_0 =>
    .ret o10_0) fun o10_1 =>
   .cI 0 (a0.N = 0) (fun c11 =>
    .kT 0 (dT c11) <|
    .cI 0 ((a0.S.length : Int) = 0) (fun c12 =>
     .kT 0 (dT c12) <|
     .kT 0 (dT c12) <|
     .le zh a0.L <|
     .kT 0 (dT c12) <|
     .gI (a0.L.length : Int) 40 (fun c13 =>
      .kT 0 (dT c12) <|
      .cl (H_slices_ContainsFunc_Value_isShaped_1 a0.L a1) fun r14 =>
      .ret (!r14)) fun c13 =>
     .kT 0 (dT c12) <|
     .ret false) fun c12 =>
    .kF 0 (dF c12) <|
    .kF 0 (dF c12) <|
    .kF 0 (dF c12) <|
    .kF 0 (dF c12) <|
    .ret false) fun c11 =>
   .kF 0 (dF c11) <|
   .ret false) fun c9 =>
  .ret false) fun c8 =>
 .ret false) (zf Tryz.func222)
mutual
def xh : Nat → GValue → Int → Option Bool
 | 0, _, _ => none
 | n + 1, a0, e0 => ZY (xY n) a0 e0
def zM : Nat → (List GValue) → Int → Option Int
 | 0, _, _ => none
 | n + 1, a0, e0 => yJ (xh n) n a0 e0
def zE : Nat → (List GValue) → Int → Option Bool
 | 0, _, _ => none
 | n + 1, a0, e0 => xl (zM n) a0 e0
def xY : Nat → GValue → Int → Option Bool
 | 0, _, _ => none
 | n + 1, a0, a1 => jU (zE n) n a0 a1
end
theorem jC (n : Nat) : je (xh n) ∧ yI (zM n) ∧ yd (zE n) ∧ Ze (xY n) := by
 induction n with
 | zero => exact ⟨fun _ _ _ h => (by rw [xh] at h; cases h), fun _ _ _ h => (by rw [zM] at h; cases h), fun _ _ _ h => (by rw [zE] at h; cases h), fun _ _ _ h => (by rw [xY] at h; cases h)⟩
 | succ n ih =>
  obtain ⟨ih_impl_isShaped_1, ih_slices_IndexFunc_Value_isShaped_1, ih_slices_ContainsFunc_Value_isShaped_1, ih_impl_isShaped⟩ := ih
  exact ⟨fun a0 e0 r h => RI (xY n) ih_impl_isShaped a0 e0 r (by rw [xh] at h; exact h),
   fun a0 e0 r h => ZM (xh n) ih_impl_isShaped_1 n a0 e0 r (by rw [zM] at h; exact h),
   fun a0 e0 r h => vQ (zM n) ih_slices_IndexFunc_Value_isShaped_1 a0 e0 r (by rw [zE] at h; exact h),
   fun a0 a1 r h => UV (zE n) ih_slices_ContainsFunc_Value_isShaped_1 n a0 a1 r (by rw [xY] at h; exact h)⟩
theorem zbe (a b : List UInt8) : xX a b = some (Lib.compareBytes a b) := rfl
theorem EO {a : List UInt8} (h : a.length <= 2 ^ 20) : qh a = some (jY a) := if_pos h
theorem EP {a : List UInt8} (h : a.length <= 2 ^ 20) : vF a = some (Xj a) := if_pos h
theorem vR {G : GValue → Int → Option Bool} {a : List GValue} {f : Nat} {e : Int} {p : GValue → Bool} (ha : a.length <= 2 ^ 20) (hf : a.length < f) (hG : ∀ x ∈ a, G x e = some (!p x)) : ∃ r : Int, yJ G f a e = some r ∧ decide (0 <= r) = !(a.all p) := by
 have loop : ∀ (d i m : Nat), i + d = a.length → d < m → ∃ (q : Nat) (z : Int), zP G a (a.length : Int) e m (i : Int) = some (if (a.drop i).all p = true then .inr z else .inl (q : Int)) := by
  intro d
  induction d with
  | zero =>
   intro i m hi hm
   obtain ⟨m, rfl, _⟩ := zg hm
   exact ⟨0, _, by rw [zP, if_neg (by omega), List.drop_eq_nil_of_le (by omega)]; rfl⟩
  | succ d ih =>
   intro i m hi hm
   obtain ⟨m, rfl, hm'⟩ := zg hm
   have hil : i < a.length := by omega
   rw [zP, if_pos (by omega), zb, oB, zl hil, oB, hG _ (List.getElem_mem hil), oB, zH (by omega), xU hil, List.all_cons]
   cases hp : p a[i] with
   | false => exact ⟨i, 0, rfl⟩
   | true =>
    obtain ⟨q, z, hz⟩ := ih (i + 1) m (by omega) (by omega)
    exact ⟨q, z, by rw [Bool.true_and]; exact hz⟩
 obtain ⟨q, z, hz⟩ := loop a.length 0 f (by omega) (by omega)
 rw [show ((0 : Nat) : Int) = 0 from rfl, List.drop_zero] at hz
 unfold yJ
 rw [hz, oB]
 cases hp : a.all p with
 | true => exact ⟨-1, rfl, rfl⟩
 | false => exact ⟨(q : Int), rfl, by simp⟩
theorem LC {G : List GValue → Int → Option Bool} {v : GValue} {v0 v1 : Bool} {a1 : Int} (hs : vsz v <= 2 ^ 20) : ∀ (d i m : Nat), i + d = v.K.length → d < m → ∃ z, xr G v0 v1 v.K (v.K.length : Int) v a1 m (i : Int) = some (if vv v.K i d = true then .inr z else .inl false) := by
 have he := xw v
 have hl := q7 v.K
 intro d
 induction d with
 | zero =>
  intro i m hi hm
  obtain ⟨m, rfl, _⟩ := zg hm
  exact ⟨_, by rw [xr, if_neg (by omega)]; rfl⟩
 | succ d ih =>
  intro i m hi hm
  obtain ⟨m, rfl, hm'⟩ := zg hm
  have hil : i < v.K.length := by omega
  have hx := ZT (List.getElem_mem hil)
  rw [xr, if_pos (by omega), zb, oB, zl hil, oB, EO (by omega), oB, zH (by omega), QU]
  obtain ⟨z, hz⟩ := ih (i + 1) m (by omega) (by omega)
  cases hnm : jY v.K[i] with
  | false =>
   refine ⟨0, ?_⟩
   have : kOk v.K i = false := by
    by_cases h0 : i = 0
    ·subst h0; rw [Kr hil, hnm]
    ·rw [J9 hil (by omega), hnm]; rfl
   rw [this]; rfl
  | true =>
   dsimp only
   by_cases h0 : 0 < i
   ·rw [if_pos (by omega), kh (by omega) h0, zb, oB, zl (show i - 1 < v.K.length by omega), oB, zbe, oB]
    by_cases hb : Op.bytesLess (v.K[i - 1]'(by omega)) v.K[i] = true
    ·rw [if_neg (by rw [X8]; exact fun h => h hb), J9 hil h0, hnm, hb]
     exact ⟨z, hz⟩
    ·rw [if_pos (by rw [X8]; exact hb), J9 hil h0, hnm, show Op.bytesLess (v.K[i - 1]'(by omega)) v.K[i] = false by simpa using hb]
     exact ⟨0, rfl⟩
   ·have : i = 0 := by omega
    subst this
    rw [if_neg (by omega), Kr hil, hnm]
    exact ⟨z, hz⟩
theorem H1 {G : List GValue → Int → Option Bool} {v : GValue} {f d : Nat} (hs : vsz v <= 2 ^ 20) (hf : v.K.length < f) (hd : 0 < d) (hG : G v.L (d : Int) = some (!(v.L.all (shV (d - 1))))) : jU G f v (d : Int) = some (shV d v) := by
 obtain ⟨e, rfl⟩ : ∃ e, d = e + 1 := ⟨d - 1, by omega⟩
 have he := xw v
 have hl := yR v.L
 have hb := q7 v.K
 rw [show e + 1 - 1 = e by omega] at hG
 unfold jU
 rw [if_neg (by omega)]
 simp only [shV]
 have nil : v.L.length = 0 → v.L.all (shV e) = true := fun h => by rw [List.eq_nil_of_length_eq_zero h]; rfl
 have c0 : ∀ n : Nat, (((n : Nat) : Int) = 0) = (n = 0) := fun n => by simp
 simp only [c0]
 have leaf : ∀ {b : Bool}, yS v = (b && decide (v.L.length = 0)) → b = true → some (decide (v.L.length = 0)) = some (yS v && v.L.all (shV e)) := fun h hb' => by
  rw [h, hb', Bool.true_and]
  by_cases hz : v.L.length = 0
  ·rw [decide_eq_true hz, nil hz]; rfl
  ·rw [decide_eq_false hz]; rfl
 have no : yS v = false → some false = some (yS v && v.L.all (shV e)) := fun h => by rw [h]; rfl
 have four : ∀ {p : Prop} [Decidable p], yS v = decide (p ∧ v.S.length = 0 ∧ v.K.length = 0 ∧ v.L.length = 0) → p → (if v.S.length = 0 then if v.K.length = 0 then some (decide (v.L.length = 0)) else some false else some false) = some (yS v && v.L.all (shV e)) := fun h hp => by
  by_cases h1 : v.S.length = 0
  ·rw [if_pos h1]
   by_cases h2 : v.K.length = 0
   ·rw [if_pos h2]
    exact leaf (b := true) (by rw [h]; simp [hp, h1, h2]) rfl
   ·rw [if_neg h2]; exact no (by rw [h, decide_eq_false (fun h => h2 h.2.2.1)])
  ·rw [if_neg h1]; exact no (by rw [h, decide_eq_false (fun h => h1 h.2.1)])
 by_cases k0 : v.Kind = 0
 ·rw [if_pos k0]
  have hv : yS v = decide (v.N = 0 ∧ v.S.length = 0 ∧ v.K.length = 0 ∧ v.L.length = 0) := by unfold yS; rw [if_pos (.inl k0)]
  by_cases a1 : v.N = 0
  ·rw [if_pos a1]; exact four hv a1
  ·rw [if_neg a1]; exact no (by rw [hv, decide_eq_false (fun h => a1 h.1)])
 rw [if_neg k0]
 by_cases k6 : v.Kind = 6
 ·rw [if_pos k6]
  have hv : yS v = decide (v.N = 0 ∧ v.S.length = 0 ∧ v.K.length = 0 ∧ v.L.length = 0) := by unfold yS; rw [if_pos (.inr k6)]
  by_cases a1 : v.N = 0
  ·rw [if_pos a1]; exact four hv a1
  ·rw [if_neg a1]; exact no (by rw [hv, decide_eq_false (fun h => a1 h.1)])
 rw [if_neg k6]
 have n06 : ¬ (v.Kind = 0 ∨ v.Kind = 6) := by omega
 by_cases k1 : v.Kind = 1
 ·rw [if_pos k1, WD, oB]
  have hv : yS v = decide ((0 <= v.N ∧ v.N <= 1) ∧ v.S.length = 0 ∧ v.K.length = 0 ∧ v.L.length = 0) := by unfold yS; rw [if_neg n06, if_pos k1]
  by_cases a1 : 0 <= v.N ∧ v.N <= 1
  ·rw [decide_eq_true a1]; exact four hv a1
  ·rw [decide_eq_false a1]; exact no (by rw [hv, decide_eq_false (fun h => a1 h.1)])
 rw [if_neg k1]
 by_cases k2 : v.Kind = 2
 ·rw [if_pos k2, WD, oB]
  have hv : yS v = decide ((-1000000000000 <= v.N ∧ v.N <= 1000000000000) ∧ v.S.length = 0 ∧ v.K.length = 0 ∧ v.L.length = 0) := by unfold yS; rw [if_neg n06, if_neg k1, if_pos k2]
  by_cases a1 : -1000000000000 <= v.N ∧ v.N <= 1000000000000
  ·rw [decide_eq_true a1]; exact four hv a1
  ·rw [decide_eq_false a1]; exact no (by rw [hv, decide_eq_false (fun h => a1 h.1)])
 rw [if_neg k2]
 by_cases k3 : v.Kind = 3
 ·rw [if_pos k3, EP (by omega), oB]
  have hv : yS v = (Xj v.S && decide (v.N = 0 ∧ v.K.length = 0 ∧ v.L.length = 0)) := by unfold yS; rw [if_neg n06, if_neg k1, if_neg k2, if_pos k3]
  cases ht : Xj v.S with
  | false => exact no (by rw [hv, ht]; rfl)
  | true =>
   rw [ht, Bool.true_and] at hv
   dsimp only
   by_cases a1 : v.N = 0
   ·rw [if_pos a1]
    by_cases a2 : v.K.length = 0
    ·rw [if_pos a2]; exact leaf (b := true) (by rw [hv]; simp [a1, a2]) rfl
    ·rw [if_neg a2]; exact no (by rw [hv, decide_eq_false (fun h => a2 h.2.1)])
   ·rw [if_neg a1]; exact no (by rw [hv, decide_eq_false (fun h => a1 h.1)])
 rw [if_neg k3]
 have ends : ∀ {b : Bool}, yS v = (b && decide (v.L.length <= 40)) → b = true → (if (v.L.length : Int) <= 40 then (G v.L ((e + 1 : Nat) : Int)).bind fun r12 => some (!r12) else some false) = some (yS v && v.L.all (shV e)) := fun h hb' => by
  by_cases h4 : v.L.length <= 40
  ·rw [if_pos (by omega), hG, oB, h, hb', decide_eq_true h4, Bool.not_not]; rfl
  ·rw [if_neg (by omega)]; exact no (by rw [h, decide_eq_false h4, Bool.and_false])
 by_cases k4 : v.Kind = 4
 ·rw [if_pos k4]
  have hv : yS v = decide (v.N = 0 ∧ v.S.length = 0 ∧ v.K.length = 0 ∧ v.L.length <= 40) := by unfold yS; rw [if_neg n06, if_neg k1, if_neg k2, if_neg k3, if_pos k4]
  by_cases a1 : v.K.length = 0
  ·rw [if_pos a1]
   by_cases a2 : v.N = 0
   ·rw [if_pos a2]
    by_cases a3 : v.S.length = 0
    ·rw [if_pos a3]; exact ends (b := true) (by rw [hv]; simp [a1, a2, a3]) rfl
    ·rw [if_neg a3]; exact no (by rw [hv, decide_eq_false (fun h => a3 h.2.1)])
   ·rw [if_neg a2]; exact no (by rw [hv, decide_eq_false (fun h => a2 h.1)])
  ·rw [if_neg a1]; exact no (by rw [hv, decide_eq_false (fun h => a1 h.2.2.1)])
 rw [if_neg k4]
 by_cases k5 : v.Kind = 5
 ·rw [if_pos k5]
  have hv : yS v = (decide (v.K.length = v.L.length ∧ v.N = 0 ∧ v.S.length = 0 ∧ v.L.length <= 40) && vv v.K 0 v.K.length) := by unfold yS; rw [if_neg n06, if_neg k1, if_neg k2, if_neg k3, if_neg k4, if_pos k5]
  by_cases a1 : (v.K.length : Int) = (v.L.length : Int)
  ·rw [if_pos a1]
   have keys := fun (v0 v1 : Bool) => LC (G := G) (v0 := v0) (v1 := v1) (a1 := ((e + 1 : Nat) : Int)) hs v.K.length 0 f (by omega) (by omega)
   simp only [show ((0 : Nat) : Int) = 0 from rfl] at keys
   obtain ⟨z, hz⟩ := keys (decide (v.N = 0)) (decide (v.S.length = 0))
   rw [hz, oB]
   cases hk : vv v.K 0 v.K.length with
   | false => exact no (by rw [hv, hk, Bool.and_false])
   | true =>
    rw [if_pos rfl]
    dsimp only
    by_cases a2 : v.N = 0
    ·rw [if_pos a2]
     by_cases a3 : v.S.length = 0
     ·rw [if_pos a3]
      exact ends (b := true) (by rw [hv, hk]; simp [a2, a3, show v.K.length = v.L.length by omega]) rfl
     ·rw [if_neg a3]
      exact no (by rw [hv, decide_eq_false (fun h => a3 h.2.2.1)]; rfl)
    ·rw [if_neg a2]
     exact no (by rw [hv, decide_eq_false (fun h => a2 h.2.1)]; rfl)
  ·rw [if_neg a1]; exact no (by rw [hv, decide_eq_false (fun h => a1 (by omega))]; rfl)
 rw [if_neg k5]
 exact no (by unfold yS; simp only [k0, k1, k2, k3, k4, k5, k6, or_self, if_false])
theorem H2 : ∀ (N : Nat) (v : GValue), vsz v < N → vsz v <= 2 ^ 20 → ∀ (f d : Nat), 4 * vsz v + 6 <= f → d <= 2 ^ 20 → xY f v (d : Int) = some (shV d v) := by
 intro N
 induction N with
 | zero => intro v hv; omega
 | succ N ih =>
  intro v hv hs f d hf hd
  have he := xw v
  have hl := yR v.L
  have hb := q7 v.K
  obtain ⟨f, rfl, _⟩ := zg (show 0 < f by omega)
  rw [xY]
  by_cases h0 : d = 0
  ·subst h0; unfold jU; rw [if_pos (show ((0 : Nat) : Int) = 0 from rfl)]; rfl
  refine H1 hs (by omega) (by omega) ?_
  obtain ⟨f, rfl, _⟩ := zg (show 0 < f by omega)
  obtain ⟨f, rfl, _⟩ := zg (show 0 < f by omega)
  obtain ⟨f, rfl, _⟩ := zg (show 0 < f by omega)
  rw [zE]
  unfold xl
  rw [zM]
  obtain ⟨r, hr, hr2⟩ := vR (G := xh (f + 1)) (a := v.L) (f := f + 1) (e := (d : Int)) (p := shV (d - 1)) (by omega) (by omega) fun x hx => by
   have := wr hx
   rw [xh]
   unfold ZY
   rw [kh (by omega) (by omega), ih x (by omega) (by omega) f (d - 1) (by omega) (by omega)]
   rfl
  rw [hr, oB, hr2]
def Wt (a0 : GValue) (e0 : Int) : Option Bool := none
theorem JX (a0 : GValue) (e0 : Int) (r : Bool) (h : Wt a0 e0 = some r) : ∃ n, xh n a0 e0 = some r := by cases h
def qT (a0 : (List GValue)) (e0 : Int) : Option Int := none
theorem vS (a0 : (List GValue)) (e0 : Int) (r : Int) (h : qT a0 e0 = some r) : ∃ n, zM n a0 e0 = some r := by cases h
def qj (a0 : (List GValue)) (e0 : Int) : Option Bool := none
theorem kW (a0 : (List GValue)) (e0 : Int) (r : Bool) (h : qj a0 e0 = some r) : ∃ n, zE n a0 e0 = some r := by cases h
def qU (a0 : GValue) (a1 : Int) : Option Bool := if vsz a0 <= 2 ^ 20 ∧ 0 <= a1 ∧ a1 <= 2 ^ 20 then some (shV a1.toNat a0) else none
theorem VJ (a0 : GValue) (a1 : Int) (r : Bool) (h : qU a0 a1 = some r) : ∃ n, xY n a0 a1 = some r := by
 unfold qU at h
 obtain ⟨⟨hs, h0, h1⟩, h⟩ := zC h
 refine ⟨4 * vsz a0 + 6, ?_⟩
 have := H2 _ a0 (Nat.lt_succ_self _) hs _ a1.toNat (Nat.le_refl _) (by omega)
 rw [show ((a1.toNat : Nat) : Int) = a1 by omega] at this
 rw [this]; exact h
theorem EQ : je Wt := by
 intro a0 e0 r h
 obtain ⟨n, hn⟩ := JX a0 e0 r h
 exact (jC n).1 a0 e0 r hn
theorem VK : yI qT := by
 intro a0 e0 r h
 obtain ⟨n, hn⟩ := vS a0 e0 r h
 exact (jC n).2.1 a0 e0 r hn
theorem KA : yd qj := by
 intro a0 e0 r h
 obtain ⟨n, hn⟩ := kW a0 e0 r h
 exact (jC n).2.2.1 a0 e0 r hn
theorem TM : Ze qU := by
 intro a0 a1 r h
 obtain ⟨n, hn⟩ := VJ a0 a1 r h
 exact (jC n).2.2.2 a0 a1 r hn
def qH (F : GValue → Option Int) : Prop := ∀ (a0 : GValue), Oc (F a0) 223 [] [.val true (zD a0)] fun r => (vi r, [])
def xn (G_impl_Value_parts : GValue → Option Int) (v1 : (List GValue)) (v2 : Int) : Nat → Int → Int → Option (Int × Int)
  | 0, _, _ => none
  | m + 1, v0, v3 =>
  if v3 < v2 then
   (zv v3).bind fun i2 =>
   (v1[i2]?).bind fun x3 =>
   (G_impl_Value_parts x3).bind fun r4 =>
   xn G_impl_Value_parts v1 v2 m (w64 (v0 + r4)) (w64 (v3 + 1))
  else
  some (v0, v3)
theorem Jc (G_impl_Value_parts : GValue → Option Int) (H_impl_Value_parts : qH G_impl_Value_parts) (v1 : (List GValue)) (v2 : Int) (m : Nat) : ∀ (v0 : Int) (v3 : Int), Ol (xn G_impl_Value_parts v1 v2 m v0 v3) 223 (zJ Tryz.f223 0) ⟨[(3, vi v0), (7, vq zh v1), (8, vi v2), (9, vi v3)], [], 0⟩ fun o => match o with | ⟨o_0, o_1⟩ => (.exit 0, ⟨[(3, vi o_0), (7, vq zh v1), (8, vi v2), (9, vi o_1), (10, vb false)], [], 0⟩) := by
  induction m with
  | zero => intro v0 v3 o h; cases h
  | succ m ih => exact fun v0 v3 => tlp (
   .lI v3 v2 (fun c1 =>
    .na v3 fun i2 =>
    .ix yz v1 i2 fun x3 =>
    .cl (H_impl_Value_parts x3) fun r4 =>
    .go (ih (w64 (v0 + r4)) (w64 (v3 + 1)))) fun c1 =>
   .ret (v0, v3))
def jV (G_impl_Value_parts : GValue → Option Int) (n : Nat) (a0 : GValue) : Option Int :=
 (xn G_impl_Value_parts a0.L (a0.L.length : Int) n 1 0).bind fun ⟨o1_0, o1_1⟩ =>
 some o1_0
theorem VL (G_impl_Value_parts : GValue → Option Int) (H_impl_Value_parts : qH G_impl_Value_parts) (n : Nat) : qH (jV G_impl_Value_parts n) := fun a0 => tc (
 .le zh a0.L <|
 .lp (Jc G_impl_Value_parts H_impl_Value_parts a0.L (a0.L.length : Int) n 1 0) fun ⟨o1_0, o1_1⟩ =>
 .ret o1_0) (zf Tryz.func223)
def yY : Nat → GValue → Option Int
 | 0, _ => none
 | n + 1, a0 => jV (yY n) n a0
theorem JY (n : Nat) : qH (yY n) := by
 induction n with
 | zero => exact fun _ _ h => (by rw [yY] at h; cases h)
 | succ n ih =>
  have ih_impl_Value_parts := ih
  exact fun a0 r h => VL (yY n) ih_impl_Value_parts n a0 r (by rw [yY] at h; exact h)
theorem VM {G : GValue → Option Int} {v : GValue} {f : Nat} (hs : vsz v <= 2 ^ 20) (hf : v.L.length < f) (hG : ∀ x ∈ v.L, G x = some (((ptV x) : Nat) : Int)) : jV G f v = some (((ptV v) : Nat) : Int) := by
 have he := xw v
 have hl := yR v.L
 have loop : ∀ (d i m : Nat) (r : Int), i + d = v.L.length → d < m → 0 <= r → r <= 2 ^ 21 - wP (v.L.drop i) → ∃ z, xn G v.L (v.L.length : Int) m r (i : Int) = some (r + wP (v.L.drop i), z) := by
  intro d
  induction d with
  | zero =>
   intro i m r hi hm h0 h1
   obtain ⟨m, rfl, _⟩ := zg hm
   exact ⟨_, by rw [xn, if_neg (by omega), List.drop_eq_nil_of_le (by omega)]; simp [wP]; rfl⟩
  | succ d ih =>
   intro i m r hi hm h0 h1
   obtain ⟨m, rfl, hm'⟩ := zg hm
   have hil : i < v.L.length := by omega
   have hp : wP (v.L.drop i) = ptV v.L[i] + wP (v.L.drop (i + 1)) := by rw [xU hil]; simp only [wP]
   rw [hp] at h1 ⊢
   rw [xn, if_pos (by omega), zb, oB, zl hil, oB, hG _ (List.getElem_mem hil), oB, zH (by omega), yc (by omega) (by omega)]
   obtain ⟨z, hz⟩ := ih (i + 1) m (r + ptV v.L[i]) (by omega) (by omega) (by omega) (by omega)
   exact ⟨z, by rw [hz]; congr 2; omega⟩
 have hle := O7 v.L
 obtain ⟨z, hz⟩ := loop v.L.length 0 f 1 (by omega) (by omega) (by omega) (by rw [List.drop_zero]; omega)
 rw [show ((0 : Nat) : Int) = 0 from rfl, List.drop_zero] at hz
 unfold jV
 rw [hz, N2]
 simp only [oB]
 congr 1
theorem VN : ∀ (N : Nat) (v : GValue), vsz v < N → vsz v <= 2 ^ 20 → ∀ f : Nat, vsz v + 2 <= f → yY f v = some (((ptV v) : Nat) : Int) := by
 intro N
 induction N with
 | zero => intro v hv; omega
 | succ N ih =>
  intro v hv hs f hf
  obtain ⟨f, rfl, _⟩ := zg (show 0 < f by omega)
  have he := xw v
  have hl := yR v.L
  rw [yY]
  refine VM hs (by omega) fun x hx => ?_
  have := wr hx
  exact ih x (by omega) (by omega) f (by omega)
def wD (a0 : GValue) : Option Int := if vsz a0 <= 2 ^ 20 then some (((ptV a0) : Nat) : Int) else none
theorem Ju (a0 : GValue) (r : Int) (h : wD a0 = some r) : ∃ n, yY n a0 = some r := by
 unfold wD at h
 obtain ⟨ha, h⟩ := zC h
 exact ⟨vsz a0 + 2, by rw [<- h]; exact VN _ a0 (Nat.lt_succ_self _) ha _ (Nat.le_refl _)⟩
theorem KP : qH wD := by
 intro a0 r h
 obtain ⟨n, hn⟩ := Ju a0 r h
 exact (JY n) a0 r hn
def jt (a0 : GValue) : Option Bool :=
 (qU a0 5).bind fun r1 =>
 match r1 with
 | true =>
  (wD a0).bind fun r2 =>
  some (decide (r2 <= 40))
 | false =>
  some false
theorem UW (a0 : GValue) : Oc (jt a0) 202 [] [.val true (zD a0)] fun r => (vb r, []) := tc (
 .cl (TM a0 5) fun r1 =>
 .vM 0 r1 (
  .az 0 0 <|
  .cl (KP a0) fun r2 =>
  .az 0 1 <|
  .gD r2 40 <|
  .az 0 1 <|
  .ret (decide (r2 <= 40))) <|
 .az 0 0 <|
 .az 0 0 <|
 .az 0 0 <|
 .ret false) (zf Tryz.func202)
def YZ (a0 : GValue) : Option Bool :=
 if a0.Kind = 5 then
  (jt a0).bind fun r2 =>
  some r2
 else
 some false
theorem LD (a0 : GValue) : Oc (YZ a0) 175 [] [.val true (zD a0)] fun r => (vb r, []) := tc (
 .eI a0.Kind 5 (fun c1 =>
  .cl (UW a0) fun r2 =>
  .ret r2) fun c1 =>
 .ret false) (zf Tryz.func175)
def wT (F : GValue → Option Bool) : Prop := ∀ (a0 : GValue), Oc (F a0) 204 [] [.val true (zD a0)] fun r => (vb r, [])
def y6 (F : (List GValue) → Option Int) : Prop := ∀ (a0 : (List GValue)), Oc (F a0) 224 [] [vq zh a0, .val false [.fn 204 []]] fun r => (vi r, [])
def yt (F : (List GValue) → Option Bool) : Prop := ∀ (a0 : (List GValue)), Oc (F a0) 203 [] [vq zh a0, .val false [.fn 204 []]] fun r => (vb r, [])
def jW (F : GValue → Option Bool) : Prop := ∀ (a0 : GValue), Oc (F a0) 176 [] [.val true (zD a0)] fun r => (vb r, [])
def vl (G_impl_Value_known : GValue → Option Bool) (a0 : GValue) : Option Bool :=
 (G_impl_Value_known a0).bind fun r1 =>
 some (!r1)
theorem JZ (G_impl_Value_known : GValue → Option Bool) (H_impl_Value_known : jW G_impl_Value_known) : wT (vl G_impl_Value_known) := fun a0 => tc (
 .cl (H_impl_Value_known a0) fun r1 =>
 .ret (!r1)) (zf Tryz.func204)
def zI (G_impl_Value_known_1 : GValue → Option Bool) (a0 : (List GValue)) (v1 : Int) : Nat → Int → Option (Int ⊕ Int)
  | 0, _ => none
  | m + 1, v2 =>
  if v2 < v1 then
   (zv v2).bind fun i2 =>
   (a0[i2]?).bind fun x3 =>
   (G_impl_Value_known_1 x3).bind fun r4 =>
   match r4 with
   | true =>
    some (.inl v2)
   | false =>
    zI G_impl_Value_known_1 a0 v1 m (w64 (v2 + 1))
  else
  some (.inr v2)
theorem kM (G_impl_Value_known_1 : GValue → Option Bool) (H_impl_Value_known_1 : wT G_impl_Value_known_1) (a0 : (List GValue)) (v1 : Int) (m : Nat) : ∀ (v2 : Int), Ol (zI G_impl_Value_known_1 a0 v1 m v2) 224 (zJ Tryz.f224 0) ⟨[(0, vq zh a0), (1, .val false [.fn 204 []]), (7, vi v1), (8, vi v2)], [], 0⟩ fun o => match o with | .inl o_0 => (.ret, ⟨[(4, vi o_0)], [], 0⟩) | .inr (o_1) => (.exit 0, ⟨[(0, vq zh a0), (1, .val false [.fn 204 []]), (7, vi v1), (8, vi o_1), (9, vb false)], [], 0⟩) := by
  induction m with
  | zero => intro v2 o h; cases h
  | succ m ih => exact fun v2 => tlp (
   .lI v2 v1 (fun c1 =>
    .na v2 fun i2 =>
    .ix yz a0 i2 fun x3 =>
    .cl (H_impl_Value_known_1 x3) fun r4 =>
    .vM 0 r4 (
     .ret (.inl v2)) <|
    .go (ih (w64 (v2 + 1)))) fun c1 =>
   .ret (.inr v2))
def y7 (G_impl_Value_known_1 : GValue → Option Bool) (n : Nat) (a0 : (List GValue)) : Option Int :=
 (zI G_impl_Value_known_1 a0 (a0.length : Int) n 0).bind fun o1 =>
 match o1 with
 | .inl o1_0 =>
  some o1_0
 | .inr (o1_1) =>
  some (-1)
theorem vT (G_impl_Value_known_1 : GValue → Option Bool) (H_impl_Value_known_1 : wT G_impl_Value_known_1) (n : Nat) : y6 (y7 G_impl_Value_known_1 n) := fun a0 => tc (
 .le zh a0 <|
 .l2 (kM G_impl_Value_known_1 H_impl_Value_known_1 a0 (a0.length : Int) n 0) (fun o1_0 =>
  .ret o1_0) fun o1_1 =>
 .ret (-1)) (zf Tryz.func224)
def yX (G_slices_IndexFunc_Value_Value_known_1 : (List GValue) → Option Int) (a0 : (List GValue)) : Option Bool :=
 (G_slices_IndexFunc_Value_Value_known_1 a0).bind fun r1 =>
 some (decide (0 <= r1))
theorem kX (G_slices_IndexFunc_Value_Value_known_1 : (List GValue) → Option Int) (H_slices_IndexFunc_Value_Value_known_1 : y6 G_slices_IndexFunc_Value_Value_known_1) : yt (yX G_slices_IndexFunc_Value_Value_known_1) := fun a0 => tc (
 .cl (H_slices_IndexFunc_Value_Value_known_1 a0) fun r1 =>
 .gD 0 r1 <|
 .ret (decide (0 <= r1))) (zf Tryz.func203)
def Zw (G_slices_ContainsFunc_Value_Value_known_1 : (List GValue) → Option Bool) (a0 : GValue) : Option Bool :=
 if a0.Kind = 6 then
  some false
 else
 (G_slices_ContainsFunc_Value_Value_known_1 a0.L).bind fun r2 =>
 some (!r2)
theorem VO (G_slices_ContainsFunc_Value_Value_known_1 : (List GValue) → Option Bool) (H_slices_ContainsFunc_Value_Value_known_1 : yt G_slices_ContainsFunc_Value_Value_known_1) : jW (Zw G_slices_ContainsFunc_Value_Value_known_1) := fun a0 => tc (
 .eI a0.Kind 6 (fun c1 =>
  .ret false) fun c1 =>
 .cl (H_slices_ContainsFunc_Value_Value_known_1 a0.L) fun r2 =>
 .ret (!r2)) (zf Tryz.func176)
mutual
def yD : Nat → GValue → Option Bool
 | 0, _ => none
 | n + 1, a0 => vl (yZ n) a0
def zF : Nat → (List GValue) → Option Int
 | 0, _ => none
 | n + 1, a0 => y7 (yD n) n a0
def z8 : Nat → (List GValue) → Option Bool
 | 0, _ => none
 | n + 1, a0 => yX (zF n) a0
def yZ : Nat → GValue → Option Bool
 | 0, _ => none
 | n + 1, a0 => Zw (z8 n) a0
end
theorem qB (n : Nat) : wT (yD n) ∧ y6 (zF n) ∧ yt (z8 n) ∧ jW (yZ n) := by
 induction n with
 | zero => exact ⟨fun _ _ h => (by rw [yD] at h; cases h), fun _ _ h => (by rw [zF] at h; cases h), fun _ _ h => (by rw [z8] at h; cases h), fun _ _ h => (by rw [yZ] at h; cases h)⟩
 | succ n ih =>
  obtain ⟨ih_impl_Value_known_1, ih_slices_IndexFunc_Value_Value_known_1, ih_slices_ContainsFunc_Value_Value_known_1, ih_impl_Value_known⟩ := ih
  exact ⟨fun a0 r h => JZ (yZ n) ih_impl_Value_known a0 r (by rw [yD] at h; exact h),
   fun a0 r h => vT (yD n) ih_impl_Value_known_1 n a0 r (by rw [zF] at h; exact h),
   fun a0 r h => kX (zF n) ih_slices_IndexFunc_Value_Value_known_1 a0 r (by rw [z8] at h; exact h),
   fun a0 r h => VO (z8 n) ih_slices_ContainsFunc_Value_Value_known_1 a0 r (by rw [yZ] at h; exact h)⟩
def Xa (a0 : GValue) : Option Bool := none
theorem Qu (a0 : GValue) (r : Bool) (h : Xa a0 = some r) : ∃ n, yD n a0 = some r := by cases h
def qk (a0 : (List GValue)) : Option Int := none
theorem kY (a0 : (List GValue)) (r : Int) (h : qk a0 = some r) : ∃ n, zF n a0 = some r := by cases h
def wQ (a0 : (List GValue)) : Option Bool := none
theorem ki (a0 : (List GValue)) (r : Bool) (h : wQ a0 = some r) : ∃ n, z8 n a0 = some r := by cases h
theorem Br {G : GValue → Option Bool} {a : List GValue} {f : Nat} (ha : a.length <= 2 ^ 40) (hf : a.length < f) (hG : ∀ x ∈ a, G x = some (!knV x)) : ∃ r : Int, y7 G f a = some r ∧ decide (0 <= r) = !(Wp a) := by
 have loop : ∀ (l p : List GValue) (m : Nat), a = p ++ l → l.length < m → ∃ (q : Nat) (z : Int), zI G a (a.length : Int) m (p.length : Int) = some (if Wp l = true then .inr z else .inl (q : Int)) := by
  intro l
  induction l with
  | nil =>
   intro p m he hm
   subst he
   obtain ⟨m, rfl, _⟩ := zg hm
   exact ⟨0, _, by rw [zI, if_neg (wh p)]; rfl⟩
  | cons x l ih =>
   intro p m he hm
   obtain ⟨m, rfl, hm'⟩ := zg hm
   have hlen : a.length = p.length + (l.length + 1) := by rw [he]; simp
   rw [zI, if_pos (by omega), zb, oB, show a[p.length]? = some x by rw [he]; exact zG p x l, oB, hG x (by rw [he]; simp), oB, y8 p x (by omega)]
   rw [show Wp (x :: l) = (knV x && Wp l) by simp only [Wp]]
   by_cases hp : knV x = true
   ·obtain ⟨q, z, hz⟩ := ih (p ++ [x]) m (by rw [he]; simp) (by simp only [List.length_cons] at hm'; omega)
    exact ⟨q, z, by rw [hp, Bool.true_and]; exact hz⟩
   ·rw [Bool.eq_false_iff.2 hp]
    exact ⟨p.length, 0, rfl⟩
 obtain ⟨q, z, hz⟩ := loop a [] f rfl (by omega)
 simp only [List.length_nil, Int.natCast_zero] at hz
 unfold y7
 rw [hz, oB]
 cases hp : Wp a with
 | true => exact ⟨-1, rfl, rfl⟩
 | false => exact ⟨(q : Int), rfl, by simp⟩
theorem zbf : ∀ (N : Nat) (v : GValue), vsz v < N → vsz v <= 2 ^ 39 → ∀ f : Nat, 4 * vsz v + 5 <= f → yZ f v = some (knV v) := by
 intro N
 induction N with
 | zero => intro v hv; omega
 | succ N ih =>
  intro v hv hs f hf
  have he := xw v
  have hl := yR v.L
  obtain ⟨f, rfl, _⟩ := zg (show 0 < f by omega)
  obtain ⟨f, rfl, _⟩ := zg (show 0 < f by omega)
  obtain ⟨f, rfl, _⟩ := zg (show 0 < f by omega)
  obtain ⟨f, rfl, _⟩ := zg (show 0 < f by omega)
  obtain ⟨r, hr, hd⟩ := Br (G := yD (f + 1)) (a := v.L) (f := f + 1) (by omega) (by omega) (fun x hx => by
   have := wr hx
   rw [yD]
   unfold vl
   rw [ih x (by omega) (by omega) f (by omega), oB])
  rw [yZ]
  unfold Zw
  rw [z8]
  unfold yX
  rw [zF, hr, oB, oB, hd, Dm]
  by_cases h6 : v.Kind = 6
  ·rw [if_pos h6, h6]; rfl
  ·rw [if_neg h6]; simp [h6]
def wE (a0 : GValue) : Option Bool := if vsz a0 <= 2 ^ 39 then some (knV a0) else none
theorem Jv (a0 : GValue) (r : Bool) (h : wE a0 = some r) : ∃ n, yZ n a0 = some r := by
 unfold wE at h
 obtain ⟨ha, h⟩ := zC h
 exact ⟨4 * vsz a0 + 5, by rw [<- h]; exact zbf _ a0 (Nat.lt_succ_self _) ha _ (Nat.le_refl _)⟩
theorem Gv : wT Xa := by
 intro a0 r h
 obtain ⟨n, hn⟩ := Qu a0 r h
 exact (qB n).1 a0 r hn
theorem KB : y6 qk := by
 intro a0 r h
 obtain ⟨n, hn⟩ := kY a0 r h
 exact (qB n).2.1 a0 r hn
theorem Jw : yt wQ := by
 intro a0 r h
 obtain ⟨n, hn⟩ := ki a0 r h
 exact (qB n).2.2.1 a0 r hn
theorem KQ : jW wE := by
 intro a0 r h
 obtain ⟨n, hn⟩ := Jv a0 r h
 exact (qB n).2.2.2 a0 r hn
def xi (a0 : GValue) : Option Bool :=
 (YZ a0).bind fun r1 =>
 match r1 with
 | true =>
  (wE a0).bind fun r2 =>
  some r2
 | false =>
  some false
theorem Zx (a0 : GValue) : Oc (xi a0) 134 [] [.val true (zD a0)] fun r => (vb r, []) := tc (
 .cl (LD a0) fun r1 =>
 .vM 0 r1 (
  .az 0 0 <|
  .cl (KQ a0) fun r2 =>
  .az 0 1 <|
  .ret r2) <|
 .az 0 0 <|
 .az 0 0 <|
 .ret false) (zf Tryz.func134)
def QO (F : (List (List UInt8)) → Option Bool) : Prop := ∀ (a0 : (List (List UInt8))), Oc (F a0) 135 [] [vq (zu za) a0] fun r => (vb r, [])
def xt (a0 : (List (List UInt8))) (v1 : Int) : Nat → Int → Option (Bool ⊕ Int)
  | 0, _ => none
  | m + 1, v2 =>
  if v2 < v1 then
   (zv v2).bind fun i2 =>
   (a0[i2]?).bind fun x3 =>
   (xy x3).bind fun r4 =>
   match r4 with
   | true =>
    if 0 < v2 then
     (zv (w64 (v2 - 1))).bind fun i6 =>
     (a0[i6]?).bind fun x7 =>
     (xX x7 x3).bind fun r8 =>
     if 0 <= r8 then
      some (.inl false)
     else
     xt a0 v1 m (w64 (v2 + 1))
    else
    xt a0 v1 m (w64 (v2 + 1))
   | false =>
    some (.inl false)
  else
  some (.inr v2)
theorem KR (a0 : (List (List UInt8))) (v1 : Int) (m : Nat) : ∀ (v2 : Int), Ol (xt a0 v1 m v2) 135 (zJ Tryz.f135 0) ⟨[(0, vq (zu za) a0), (5, vq (zu za) a0), (6, vi v1), (7, vi v2)], [], 0⟩ fun o => match o with | .inl o_0 => (.ret, ⟨[(2, vb o_0)], [], 0⟩) | .inr (o_1) => (.exit 0, ⟨[(0, vq (zu za) a0), (5, vq (zu za) a0), (6, vi v1), (7, vi o_1), (8, vb false)], [], 0⟩) := by
  induction m with
  | zero => intro v2 o h; cases h
  | succ m ih => exact fun v2 => tlp (
   .lI v2 v1 (fun c1 =>
    .na v2 fun i2 =>
    .ix0 (zu za) a0 i2 fun x3 =>
    .cl (q4 x3) fun r4 =>
    .vN 0 r4 (
     .an 0 0 <|
     .lI 0 v2 (fun c5 =>
      .an 0 0 <|
      .na (w64 (v2 - 1)) fun i6 =>
      .ix0 (zu za) a0 i6 fun x7 =>
      .cl (vk x7 x3) fun r8 =>
      .gI 0 r8 (fun c9 =>
       .an 0 3 <|
       .an 1 3 <|
       .ret (.inl false)) fun c9 =>
      .an 0 3 <|
      .an 1 3 <|
      .go (ih (w64 (v2 + 1)))) fun c5 =>
     .an 0 0 <|
     .an 8 0 <|
     .an 1 0 <|
     .go (ih (w64 (v2 + 1)))) <|
    .an 0 0 <|
    .an 0 0 <|
    .an 0 0 <|
    .an 0 0 <|
    .ret (.inl false)) fun c1 =>
   .ret (.inr v2))
def Xb (n : Nat) (a0 : (List (List UInt8))) : Option Bool :=
 (xt a0 (a0.length : Int) n 0).bind fun o1 =>
 match o1 with
 | .inl o1_0 =>
  some o1_0
 | .inr (o1_1) =>
  some (decide ((a0.length : Int) <= 8))
theorem UX (n : Nat) : QO (Xb n) := fun a0 => tc (
 .le (zu za) a0 <|
 .l2 (KR a0 (a0.length : Int) n 0) (fun o1_0 =>
  .ret o1_0) fun o1_1 =>
 .le (zu za) a0 <|
 .gD (a0.length : Int) 8 <|
 .ret (decide ((a0.length : Int) <= 8))) (zf Tryz.func135)
theorem ER (c : UInt8) : ∀ b : List UInt8, Lib.indexByte b c = if b.dropWhile (fun x => decide (x ≠ c)) = [] then -1 else (((b.takeWhile fun x => decide (x ≠ c)).length : Nat) : Int)
 | [] => rfl
 | x :: b => by
  have ih := ER c b
  rw [Lib.indexByte, List.dropWhile_cons, List.takeWhile_cons]
  by_cases h : x = c
  ·subst h; simp
  ·have hb : (x == c) = false := by simpa using h
   have hd : decide (x ≠ c) = true := decide_eq_true h
   rw [hb, if_neg (by simp), if_pos hd, if_pos hd, ih]
   by_cases hd : b.dropWhile (fun x => decide (x ≠ c)) = []
   ·rw [if_pos hd, if_pos hd]; rfl
   ·rw [if_neg hd, if_neg hd, if_neg (by simp), List.length_cons]; omega
theorem ES (a : List UInt8) (c : UInt8) : vE a [c] = some (Lib.indexByte a c) := by
 unfold vE ZW q8
 rw [if_neg (by simp), if_pos (by simp)]
 rfl
theorem ze2 {a : List UInt8} (h : a.length <= 2 ^ 20) : XI a [91] = some (vU a, (kj a).drop 1, decide (kj a ≠ [])) := by
 have hix : vE a [91] = some (if kj a = [] then -1 else ((vU a).length : Int)) := by rw [ES, ER]; rfl
 unfold XI
 have hlen := N6 a
 by_cases hr : kj a = []
 ·have hn := Pz a
  rw [hr, List.append_nil] at hn
  rw [hix, if_pos hr, oB, if_neg (by omega), hr, hn]; rfl
 ·obtain ⟨t, ht⟩ := GB hr
  have e : w64 (((vU a).length : Int) + (([91] : List UInt8).length : Int)) = (((vU a).length + 1 : Nat) : Int) := by
   show w64 (((vU a).length : Int) + 1) = _
   exact zH (by omega)
  have hl2 := hlen
  rw [ht, List.length_cons] at hl2
  rw [hix, if_neg hr, oB, if_pos (by omega), zb, oB, Py (by omega), oB, G9, e, zb, oB, Ks (by omega), oB, decide_eq_true hr, <- List.drop_drop, GA]
theorem zeg (s : List UInt8) (c : UInt8) (h : s.length <= 2 ^ 20) : kr s [c] = some (decide (s.getLast? = some c)) := by
 unfold kr
 rw [show (([c] : List UInt8).length : Int) = 1 from rfl]
 rcases List.eq_nil_or_concat s with rfl | ⟨l, x, rfl⟩
 ·rw [if_neg (by simp)]; rfl
 ·simp only [List.concat_eq_append, List.length_append, List.length_cons, List.length_nil] at h ⊢
  rw [if_pos (by omega), show w64 (((l.length + (0 + 1) : Nat) : Int) - 1) = (l.length : Int) by rw [yc (by omega) (by omega)]; omega, zb, oB, Ks (by simp), oB, List.drop_left]
  unfold xx
  rw [oB, List.getLast?_concat]
  congr 1
  exact decide_eq_decide.2 (by simp)
theorem VP (s : List UInt8) (c : UInt8) (h : s.length <= 2 ^ 20) : jd s [c] = some (if s.getLast? = some c then (s.dropLast, true) else (s, false)) := by
 unfold jd
 rw [zeg s c h, oB]
 by_cases hc : s.getLast? = some c
 ·rw [decide_eq_true hc, if_pos hc]
  dsimp only
  have h0 : 0 < s.length := by
   cases s with
   | nil => simp at hc
   | cons x s => simp
  rw [show (([c] : List UInt8).length : Int) = 1 from rfl, kh (by omega) h0, zb, oB, Py (by omega), oB, List.dropLast_eq_take]
 ·rw [decide_eq_false hc, if_neg hc]
theorem ET (s : List UInt8) (c : UInt8) : ku s [c] = some (if s[0]? = some c then (s.drop 1, true) else (s, false)) := by
 unfold ku ZX xx
 rw [show (([c] : List UInt8).length : Int) = ((1 : Nat) : Int) from rfl]
 cases s with
 | nil => rw [if_neg (by simp)]; rfl
 | cons x s =>
  rw [if_pos (by simp; omega), zb, oB, Py (by simp), oB, oB, oB]
  show (match decide ([x] = [c]) with | true => _ | false => _) = _
  by_cases hc : x = c
  ·subst hc
   rw [decide_eq_true rfl]
   dsimp only
   rw [oB, Ks (by simp), oB]
   simp
  ·rw [decide_eq_false (by simpa using hc), if_neg (by simpa using hc)]
theorem Gw : ∀ n : Fin 100, kL ((n.val : Nat) : Int) = some (QV n.val) := by
 have h1 : ∀ n : Fin 100, j4 ((n.val : Nat) : Int) = some (QV n.val) := by decide +kernel
 intro n
 unfold kL jF qz
 rw [if_pos rfl, if_pos (by omega), if_pos (by omega), h1]; rfl
theorem EU : ∀ n : Fin 100, Lib.atoiAll (QV n.val) = .ok ((n.val : Nat) : Int) := by decide +kernel
theorem Bs : ∀ n : Fin 100, Kt (QV n.val) = true := by decide +kernel
theorem EV {l : List UInt8} (h : Kt l = true) : ∃ n : Fin 100, l = QV n.val := by
 unfold Kt at h
 simp only [Bool.and_eq_true, Bool.not_eq_true', decide_eq_true_eq] at h
 obtain ⟨⟨⟨h1, h2⟩, h3⟩, h4⟩ := h
 match l, h1, h2 with
 | [x], _, _ =>
  simp only [List.all_cons, List.all_nil, Bool.and_true, inB, Bool.and_eq_true, decide_eq_true_eq] at h4
  refine ⟨⟨x.toNat - 48, by omega⟩, ?_⟩
  unfold QV
  rw [if_pos (by simp only; omega)]
  simp only [List.cons.injEq, and_true]
  refine UInt8.toNat_inj.1 ?_
  rw [UInt8.toNat_ofNat_of_lt' (by show _ < 256; omega)]; omega
 | [x, y], _, _ =>
  simp only [List.all_cons, List.all_nil, Bool.and_true, inB, Bool.and_eq_true, decide_eq_true_eq] at h4
  have hx : x.toNat ≠ 48 := fun e => by
   have : x = 48 := UInt8.toNat_inj.1 e
   subst this
   simp at h3
  refine ⟨⟨(x.toNat - 48) * 10 + (y.toNat - 48), by omega⟩, ?_⟩
  unfold QV
  rw [if_neg (by simp only; omega)]
  simp only [List.cons.injEq, and_true]
  constructor
  ·refine UInt8.toNat_inj.1 ?_
   rw [UInt8.toNat_ofNat_of_lt' (by show _ < 256; omega)]; omega
  ·refine UInt8.toNat_inj.1 ?_
   rw [UInt8.toNat_ofNat_of_lt' (by show _ < 256; omega)]; omega
theorem Gx {a : List UInt8} (h : a.length <= 2 ^ 20) : qh a = some (jY a) := if_pos h
theorem H3 {l : List UInt8} (hl : l.length <= 2 ^ 20) : ((jv l).bind fun ⟨n, e⟩ =>
  match e with
  | true => some false
  | false => (xg n 0 99).bind fun r13 =>
   match r13 with
   | true => (kL n).bind fun r15 => some (decide (r15 = l))
   | false => some false) = some (Kt l) := by
 unfold jv
 rw [if_pos (by omega), oB]
 cases hd : Kt l with
 | true =>
  obtain ⟨n, rfl⟩ := EV hd
  have hr : yC (QV n.val) = (((n.val : Nat) : Int), false) := by unfold yC; rw [EU n]
  have hn := n.isLt
  rw [hr]
  dsimp only
  rw [WD, oB, decide_eq_true (show (0 : Int) <= ((n.val : Nat) : Int) ∧ ((n.val : Nat) : Int) <= 99 by omega)]
  dsimp only
  rw [Gw n, oB, decide_eq_true rfl]
 | false =>
  obtain ⟨n, e⟩ := yC l
  cases e with
  | true => rfl
  | false =>
   dsimp only
   rw [WD, oB]
   by_cases hn : (0 : Int) <= n ∧ n <= 99
   ·rw [decide_eq_true hn]
    dsimp only
    have := Gw ⟨n.toNat, by omega⟩
    rw [show (((⟨n.toNat, by omega⟩ : Fin 100).val : Nat) : Int) = n by simp only; omega] at this
    rw [this, oB]
    congr 1
    refine decide_eq_false fun e => ?_
    rw [<- e, Bs] at hd; cases hd
   ·rw [decide_eq_false hn]
theorem Zy {a : List UInt8} (h : a.length <= 2 ^ 20) : xy a = some (ye a) := by
 unfold xy
 have hlen := N6 a
 rw [ze2 h, oB]
 dsimp only
 rw [Gx (by omega), oB]
 unfold ye
 cases hn : jY (vU a) with
 | false => rfl
 | true =>
  dsimp only
  by_cases hr : kj a = []
  ·rw [decide_eq_false (fun h => h hr), if_pos hr]; rfl
  rw [decide_eq_true hr, if_neg hr]
  dsimp only
  have ht : ((kj a).drop 1).length <= 2 ^ 20 := by rw [List.length_drop]; omega
  generalize (kj a).drop 1 = t at ht ⊢
  rw [VP t 93 ht, oB]
  by_cases h93 : t.getLast? = some 93
  ·rw [if_pos h93, if_pos h93]
   dsimp only
   have hl : t.dropLast.length <= 2 ^ 20 := by rw [List.length_dropLast]; omega
   generalize t.dropLast = l at hl ⊢
   rw [ET, oB]
   unfold HD
   by_cases h34 : l[0]? = some 34
   ·rw [if_pos h34, if_pos h34]
    dsimp only
    rw [VP _ 34 (by rw [List.length_drop]; omega), oB]
    by_cases h2 : (l.drop 1).getLast? = some 34
    ·rw [if_pos h2, if_pos h2]
     dsimp only
     rw [Gx (by rw [List.length_dropLast, List.length_drop]; omega), oB]; rfl
    ·rw [if_neg h2, if_neg h2]; rfl
   ·rw [if_neg h34, if_neg h34]
    dsimp only
    rw [VP _ 34 hl, oB]
    by_cases h2 : l.getLast? = some 34
    ·rw [if_pos h2]
     dsimp only
     have hd : Kt l = false := by
      unfold Kt
      have : l.all (inB 48 57) = false := by
       rcases List.eq_nil_or_concat l with rfl | ⟨k, x, rfl⟩
       ·simp at h2
       ·rw [List.concat_eq_append, List.getLast?_concat] at h2
        injection h2 with h2
        subst h2
        simp [inB]
      rw [this, Bool.and_false]
     rw [hd]; rfl
    ·rw [if_neg h2]
     dsimp only
     exact H3 hl
  ·rw [if_neg h93, if_neg h93]
   dsimp only
   rw [ET, oB]
   by_cases h34 : t[0]? = some 34
   ·rw [if_pos h34]
    dsimp only
    rw [VP _ 34 (by rw [List.length_drop]; omega), oB]
    rfl
   ·rw [if_neg h34]
    dsimp only
    rw [VP _ 34 ht, oB]
    by_cases h2 : t.getLast? = some 34
    ·rw [if_pos h2]; rfl
    ·rw [if_neg h2]
     dsimp only
     unfold jv
     rw [if_pos (by omega), oB]
     obtain ⟨n, e⟩ := yC t
     cases e <;> rfl
theorem LE {a : List (List UInt8)} (hs : ∀ x ∈ a, x.length <= 2 ^ 20) (ha : a.length <= 2 ^ 40) : ∀ (d i m : Nat), i + d = a.length → d < m → ∃ z, xt a (a.length : Int) m (i : Int) = some (if kV ye id a i d = true then .inr z else .inl false) := by
 intro d
 induction d with
 | zero =>
  intro i m hi hm
  obtain ⟨m, rfl, _⟩ := zg hm
  exact ⟨_, by rw [xt, if_neg (by omega)]; rfl⟩
 | succ d ih =>
  intro i m hi hm
  obtain ⟨m, rfl, hm'⟩ := zg hm
  have hil : i < a.length := by omega
  rw [xt, if_pos (by omega), zb, oB, zl hil, oB, Zy (hs _ (List.getElem_mem hil)), oB, QW]
  obtain ⟨z, hz⟩ := ih (i + 1) m (by omega) (by omega)
  cases hx : ye a[i] with
  | false =>
   refine ⟨0, ?_⟩
   have : gOk ye id a i = false := by
    unfold gOk; rw [zl hil]; simp [hx]
   rw [this]; rfl
  | true =>
   dsimp only
   by_cases h0 : 0 < i
   ·rw [if_pos (by omega), kh (by omega) h0, zb, oB, zl (show i - 1 < a.length by omega), oB, Rj hil h0, hx, Bool.true_and, zH (by omega), hz]
    unfold xX wq
    simp only [oB]
    by_cases hl : Op.bytesLess a[i - 1] a[i] = true
    ·rw [if_neg (by rw [X8]; exact fun h => h hl), show Op.bytesLess (id a[i - 1]) (id a[i]) = true from hl, Bool.true_and]; exact ⟨z, rfl⟩
    ·rw [if_pos (by rw [X8]; exact hl), show Op.bytesLess (id a[i - 1]) (id a[i]) = false from Bool.eq_false_iff.2 hl]; exact ⟨z, rfl⟩
   ·obtain rfl : i = 0 := by omega
    rw [if_neg (by omega), Ku hil, hx, Bool.true_and, zH (by omega), hz]
    exact ⟨z, rfl⟩
def xZ (a0 : (List (List UInt8))) : Option Bool := if bsz a0 <= 2 ^ 20 then some (jZ a0) else none
theorem VQ (a0 : (List (List UInt8))) (r : Bool) (h : xZ a0 = some r) : ∃ n, Xb n a0 = some r := by
 unfold xZ at h
 obtain ⟨ha, h⟩ := zC h
 have hl := q7 a0
 obtain ⟨z, hz⟩ := LE (a := a0) (fun x hx => by have := ZT hx; omega) (by omega) a0.length 0 (a0.length + 1) (by omega) (by omega)
 refine ⟨a0.length + 1, ?_⟩
 unfold Xb
 rw [show ((0 : Nat) : Int) = 0 from rfl] at hz
 rw [<- h, hz, oB]
 unfold jZ
 cases kV ye id a0 0 a0.length
 ·rw [Bool.and_false]; rfl
 ·rw [Bool.and_true]
  show some (decide ((a0.length : Int) <= 8)) = _
  congr 1
  exact decide_eq_decide.2 (by omega)
theorem Yy : QO xZ := fun a0 r h => (VQ a0 r h).elim fun n hn => UX n a0 r hn
def qC (a0 : GEntry) (a1 : (List UInt8)) : Option Int :=
 (xX a0.Addr a1).bind fun r1 =>
 some r1
theorem ZU (a0 : GEntry) (a1 : (List UInt8)) : Oc (qC a0 a1) 163 [] [.val true (j9 a0), vq za a1] fun r => (vi r, []) := tc (
 .cl (vk a0.Addr a1) fun r1 =>
 .ret r1) (zf Tryz.func163)
def xL (F : (List GEntry) → (List UInt8) → Option (Int × Bool)) : Prop := ∀ (a0 : (List GEntry)) (a1 : (List UInt8)), Oc (F a0 a1) 162 [] [vq zj a0, vq za a1, .val false [.fn 163 []]] fun r => (.tup [(false, [ci r.1]), (false, [.bool r.2])], [])
def zd (a0 : (List GEntry)) (a1 : (List UInt8)) (v2 : Int) : Nat → Int → Int → Option (Int × Int)
  | 0, _, _ => none
  | m + 1, v3, v4 =>
  if v3 < v4 then
   (zv (w64 (WS .shr .u64 (IntKind.u64.wrap (w64 (v3 + v4))) 1))).bind fun i2 =>
   (a0[i2]?).bind fun x3 =>
   (qC x3 a1).bind fun r4 =>
   if r4 < 0 then
    zd a0 a1 v2 m (w64 ((w64 (WS .shr .u64 (IntKind.u64.wrap (w64 (v3 + v4))) 1)) + 1)) v4
   else
   zd a0 a1 v2 m v3 (w64 (WS .shr .u64 (IntKind.u64.wrap (w64 (v3 + v4))) 1))
  else
  some (v3, v4)
theorem jm (a0 : (List GEntry)) (a1 : (List UInt8)) (v2 : Int) (m : Nat) : ∀ (v3 : Int) (v4 : Int), Ol (zd a0 a1 v2 m v3 v4) 162 (zJ Tryz.f162 0) ⟨[(0, vq zj a0), (1, vq za a1), (2, .val false [.fn 163 []]), (8, vi v2), (9, vi v3), (10, vi v4)], [], 0⟩ fun o => match o with | ⟨o_0, o_1⟩ => (.exit 0, ⟨[(0, vq zj a0), (1, vq za a1), (2, .val false [.fn 163 []]), (8, vi v2), (9, vi o_0), (10, vi o_1), (17, vb false)], [], 0⟩) := by
  induction m with
  | zero => intro v3 v4 o h; cases h
  | succ m ih => exact fun v3 v4 => tlp (
   .lI v3 v4 (fun c1 =>
    .q (.gTo 0 1 (by decide)) <|
    .cw (WS .shr .u64 (IntKind.u64.wrap (w64 (v3 + v4))) 1) <|
    .na (w64 (WS .shr .u64 (IntKind.u64.wrap (w64 (v3 + v4))) 1)) fun i2 =>
    .ix zV a0 i2 fun x3 =>
    .cl (ZU x3 a1) fun r4 =>
    .lI r4 0 (fun c5 =>
     .go (ih (w64 ((w64 (WS .shr .u64 (IntKind.u64.wrap (w64 (v3 + v4))) 1)) + 1)) v4)) fun c5 =>
    .go (ih v3 (w64 (WS .shr .u64 (IntKind.u64.wrap (w64 (v3 + v4))) 1)))) fun c1 =>
   .ret (v3, v4))
def zN (n : Nat) (a0 : (List GEntry)) (a1 : (List UInt8)) : Option (Int × Bool) :=
 (zd a0 a1 (a0.length : Int) n 0 (a0.length : Int)).bind fun ⟨o1_0, o1_1⟩ =>
 if o1_0 < (a0.length : Int) then
  (zv o1_0).bind fun i3 =>
  (a0[i3]?).bind fun x4 =>
  (qC x4 a1).bind fun r5 =>
  some (o1_0, (decide (r5 = 0)))
 else
 some (o1_0, false)
theorem jG (n : Nat) : xL (zN n) := fun a0 a1 => tc (
 .le zj a0 <|
 .lp (jm a0 a1 (a0.length : Int) n 0 (a0.length : Int)) fun ⟨o1_0, o1_1⟩ =>
 .lI o1_0 (a0.length : Int) (fun c2 =>
  .na o1_0 fun i3 =>
  .ix zV a0 i3 fun x4 =>
  .cl (ZU x4 a1) fun r5 =>
  .eD r5 0 <|
  .ret (o1_0, (decide (r5 = 0)))) fun c2 =>
 .ret (o1_0, false)) (zf Tryz.func162)
theorem Rx (e : GEntry) (x : List UInt8) : qC e x = some (Lib.compareBytes e.Addr x) := rfl
theorem zbg {a : List GEntry} {x : List UInt8} {v2 : Int} (ha : a.length <= 2 ^ 40) : ∀ (d i j m : Nat), j - i <= d → i <= j → j <= a.length → d < m → ∃ c c' : Nat, c <= a.length ∧ zd a x v2 m (i : Int) (j : Int) = some ((c : Int), (c' : Int)) := by
 intro d
 induction d with
 | zero =>
  intro i j m hd h1 h3 hm
  obtain ⟨m, rfl, _⟩ := zg hm
  exact ⟨i, j, by omega, by rw [zd, if_neg (by omega)]⟩
 | succ d ih =>
  intro i j m hd h1 h3 hm
  obtain ⟨m, rfl, hm'⟩ := zg hm
  by_cases hij : i < j
  ·have hk : (i + j) / 2 < a.length := by omega
   rw [zd, if_pos (by omega), Dl (by omega), zb, oB, zl hk, oB, Rx, oB]
   split
   ·rw [zH (by omega)]
    exact ih _ _ m (by omega) (by omega) h3 (by omega)
   ·exact ih _ _ m (by omega) (by omega) (by omega) (by omega)
  ·exact ⟨i, j, by omega, by rw [zd, if_neg (by omega)]⟩
theorem Bt {a : List GEntry} {x : List UInt8} {c : Nat} {v2 : Int} (hp : kS (a.map GEntry.Addr) x c) (ha : a.length <= 2 ^ 40) : ∀ (d i j m : Nat), j - i <= d → i <= c → c <= j → j <= a.length → d < m → zd a x v2 m (i : Int) (j : Int) = some ((c : Int), (c : Int)) := by
 intro d
 induction d with
 | zero =>
  intro i j m hd h1 h2 h3 hm
  obtain ⟨m, rfl, _⟩ := zg hm
  rw [zd, if_neg (by omega), show i = c by omega, show j = c by omega]
 | succ d ih =>
  intro i j m hd h1 h2 h3 hm
  obtain ⟨m, rfl, hm'⟩ := zg hm
  by_cases hij : i < j
  ·have hk : (i + j) / 2 < a.length := by omega
   rw [zd, if_pos (by omega), Dl (by omega), zb, oB, zl hk, oB, Rx, oB]
   have hq := hp.2 ((i + j) / 2) (by rw [List.length_map]; exact hk)
   rw [List.getElem_map] at hq
   by_cases hl : Op.bytesLess a[(i + j) / 2].Addr x = true
   ·rw [if_pos (by rw [G6]; exact hl), zH (by omega)]
    have := hq.2 hl
    exact ih _ _ m (by omega) (by omega) h2 h3 (by omega)
   ·rw [if_neg (by rw [G6]; exact hl)]
    have : ¬ (i + j) / 2 < c := fun h => hl (hq.1 h)
    exact ih _ _ m (by omega) h1 (by omega) (by omega) (by omega)
  ·rw [zd, if_neg (by omega), show i = c by omega, show j = c by omega]
def zx (a0 : (List GEntry)) (a1 : (List UInt8)) : Option (Int × Bool) := zN (a0.length + 5) a0 a1
theorem ju (a0 : (List GEntry)) (a1 : (List UInt8)) (r : (Int × Bool)) (h : zx a0 a1 = some r) : ∃ n, zN n a0 a1 = some r := ⟨_, h⟩
theorem zff {a : List GEntry} {x : List UInt8} (ha : a.length <= 2 ^ 40) : ∃ (c : Nat) (b : Bool), zx a x = some ((c : Int), b) := by
 unfold zx zN
 obtain ⟨c, c', hc, hl⟩ := zbg (x := x) (v2 := (a.length : Int)) ha a.length 0 a.length (a.length + 5) (by omega) (by omega) (Nat.le_refl _) (by omega)
 rw [show ((0 : Nat) : Int) = 0 from rfl] at hl
 rw [hl, oB]
 dsimp only
 by_cases h : c < a.length
 ·rw [if_pos (by omega), zb, oB, zl h, oB, Rx, oB]
  exact ⟨c, _, rfl⟩
 ·rw [if_neg (by omega)]
  exact ⟨c, _, rfl⟩
theorem Yz {l : List GEntry} {a : List UInt8} : yT l a = true ↔ a ∈ l.map GEntry.Addr := by
 unfold yT
 rw [List.any_eq_true, List.mem_map]
 constructor
 ·rintro ⟨e, he, h⟩; exact ⟨e, he, of_decide_eq_true h⟩
 ·rintro ⟨e, he, rfl⟩; exact ⟨e, he, decide_eq_true rfl⟩
theorem EW {a : List GEntry} {x : List UInt8} (ha : a.length <= 2 ^ 40) (h : Asc (a.map GEntry.Addr)) : ∃ c : Nat, kS (a.map GEntry.Addr) x c ∧ zx a x = some ((c : Int), yT a x) := by
 obtain ⟨c, hp⟩ := kS.of h x
 refine ⟨c, hp, ?_⟩
 have hm := kS.mem h hp
 have hcl : c <= a.length := by have := hp.1; rwa [List.length_map] at this
 unfold zx zN
 have hl := Bt (v2 := (a.length : Int)) hp ha a.length 0 a.length (a.length + 5) (by omega) (by omega) hcl (Nat.le_refl _) (by omega)
 rw [show ((0 : Nat) : Int) = 0 from rfl] at hl
 rw [hl, oB]
 dsimp only
 have hb : yT a x = decide ((a.map GEntry.Addr)[c]? = some x) := by
  cases hx : yT a x with
  | true => exact (decide_eq_true (hm.2 (Yz.1 hx))).symm
  | false => exact (decide_eq_false fun h' => by rw [Yz.2 (hm.1 h')] at hx; cases hx).symm
 rw [hb, List.getElem?_map]
 by_cases hc : c < a.length
 ·rw [if_pos (by omega), zb, oB, zl hc, oB, Rx, oB]
  congr 2
  exact decide_eq_decide.2 ((N3 _ _).trans (by simp))
 ·rw [if_neg (by omega), List.getElem?_eq_none (by omega)]
  simp
theorem jE : xL zx := fun a0 a1 r h => (ju a0 a1 r h).elim fun n hn => jG n a0 a1 r hn
def yk (a0 : GState) (a1 : (List UInt8)) : Option (Int × Bool) :=
 (zx a0.Entries a1).bind fun ⟨r1_0, r1_1⟩ =>
 some (r1_0, r1_1)
theorem qV (a0 : GState) (a1 : (List UInt8)) : Oc (yk a0 a1) 118 [] [.val true (zX a0), vq za a1] fun r => (.tup [(false, [ci r.1]), (false, [.bool r.2])], []) := tc (
 .cl (jE a0.Entries a1) fun ⟨r1_0, r1_1⟩ =>
 .ret (r1_0, r1_1)) (zf Tryz.func118)
def Jx (F : GState → Option Bool) : Prop := ∀ (a0 : GState), Oc (F a0) 78 [] [.val true (zX a0)] fun r => (vb r, [])
def xP (v0 : (List GEntry)) (v1 : Int) (a0 : GState) : Nat → Int → Option (Bool ⊕ Int)
  | 0, _ => none
  | m + 1, v2 =>
  if v2 < v1 then
   (zv v2).bind fun i2 =>
   (v0[i2]?).bind fun x3 =>
   (xy x3.Addr).bind fun r4 =>
   match r4 with
   | true =>
    if 0 < v2 then
     (zv (w64 (v2 - 1))).bind fun i6 =>
     (a0.Entries[i6]?).bind fun x7 =>
     (xX x7.Addr x3.Addr).bind fun r8 =>
     if 0 <= r8 then
      some (.inl false)
     else
     (xi x3.Val).bind fun r10 =>
     match r10 with
     | true =>
      (xZ x3.Deps).bind fun r11 =>
      match r11 with
      | true =>
       (xg x3.Turned 1 a0.Serial).bind fun r12 =>
       match r12 with
       | true =>
        xP v0 v1 a0 m (w64 (v2 + 1))
       | false =>
        some (.inl false)
      | false =>
       some (.inl false)
     | false =>
      some (.inl false)
    else
    (xi x3.Val).bind fun r6 =>
    match r6 with
    | true =>
     (xZ x3.Deps).bind fun r7 =>
     match r7 with
     | true =>
      (xg x3.Turned 1 a0.Serial).bind fun r8 =>
      match r8 with
      | true =>
       xP v0 v1 a0 m (w64 (v2 + 1))
      | false =>
       some (.inl false)
     | false =>
      some (.inl false)
    | false =>
     some (.inl false)
   | false =>
    some (.inl false)
  else
  some (.inr v2)
theorem VR (v0 : (List GEntry)) (v1 : Int) (a0 : GState) (m : Nat) : ∀ (v2 : Int), Ol (xP v0 v1 a0 m v2) 78 (zJ Tryz.f78 0) ⟨[(1, vp 0 0), (18, vq zj v0), (19, vi v1), (20, vi v2)], [.var (zX a0)], 0⟩ fun o => match o with | .inl o_0 => (.ret, ⟨[(2, vb o_0)], [], 0⟩) | .inr (o_1) => (.exit 0, ⟨[(1, vp 0 0), (18, vq zj v0), (19, vi v1), (20, vi o_1), (21, vb false)], [.var (zX a0)], 0⟩) := by
  induction m with
  | zero => intro v2 o h; cases h
  | succ m ih => exact fun v2 => tlp (
   .lI v2 v1 (fun c1 =>
    .na v2 fun i2 =>
    .ix zV v0 i2 fun x3 =>
    .cl (q4 x3.Addr) fun r4 =>
    .vN 0 r4 (
     .an 0 0 <|
     .lI 0 v2 (fun c5 =>
      .an 0 0 <|
      .na (w64 (v2 - 1)) fun i6 =>
      .ix zV a0.Entries i6 fun x7 =>
      .cl (vk x7.Addr x3.Addr) fun r8 =>
      .gI 0 r8 (fun c9 =>
       .an 0 3 <|
       .an 1 3 <|
       .ret (.inl false)) fun c9 =>
      .an 0 3 <|
      .an 1 3 <|
      .cl (Zx x3.Val) fun r10 =>
      .vN 2 r10 (
       .an 0 0 <|
       .an 0 0 <|
       .cl (Yy x3.Deps) fun r11 =>
       .an 0 1 <|
       .an 0 1 <|
       .vN 0 r11 (
        .an 0 0 <|
        .an 0 0 <|
        .an 0 0 <|
        .an 0 0 <|
        .cl (qA x3.Turned 1 a0.Serial) fun r12 =>
        .an 0 1 <|
        .an 0 1 <|
        .vN 0 r12 (
         .go (ih (w64 (v2 + 1)))) <|
        .ret (.inl false)) <|
       .an 0 0 <|
       .an 0 0 <|
       .an 0 0 <|
       .an 0 0 <|
       .an 0 0 <|
       .an 0 0 <|
       .ret (.inl false)) <|
      .an 0 0 <|
      .an 0 0 <|
      .an 0 0 <|
      .an 0 0 <|
      .ret (.inl false)) fun c5 =>
     .an 0 0 <|
     .an 11 0 <|
     .an 1 0 <|
     .cl (Zx x3.Val) fun r6 =>
     .vN 2 r6 (
      .an 0 0 <|
      .an 0 0 <|
      .cl (Yy x3.Deps) fun r7 =>
      .an 0 1 <|
      .an 0 1 <|
      .vN 0 r7 (
       .an 0 0 <|
       .an 0 0 <|
       .an 0 0 <|
       .an 0 0 <|
       .cl (qA x3.Turned 1 a0.Serial) fun r8 =>
       .an 0 1 <|
       .an 0 1 <|
       .vN 0 r8 (
        .go (ih (w64 (v2 + 1)))) <|
       .ret (.inl false)) <|
      .an 0 0 <|
      .an 0 0 <|
      .an 0 0 <|
      .an 0 0 <|
      .an 0 0 <|
      .an 0 0 <|
      .ret (.inl false)) <|
     .an 0 0 <|
     .an 0 0 <|
     .an 0 0 <|
     .an 0 0 <|
     .ret (.inl false)) <|
    .an 0 0 <|
    .an 0 0 <|
    .an 0 0 <|
    .an 0 0 <|
    .ret (.inl false)) fun c1 =>
   .ret (.inr v2))
def ZN (n : Nat) (a0 : GState) : Option Bool :=
 (xg a0.Serial 0 1000000).bind fun r1 =>
 match r1 with
 | true =>
  if 16 < (a0.Entries.length : Int) then
   some false
  else
  (xP a0.Entries (a0.Entries.length : Int) a0 n 0).bind fun o3 =>
  match o3 with
  | .inl o3_0 =>
   some o3_0
  | .inr (o3_1) =>
   if (a0.Pending.length : Int) = 0 then
    some (decide (a0.Act = 0))
   else
   (yk a0 a0.Pending).bind fun ⟨r5_0, r5_1⟩ =>
   match a0.Open with
   | true =>
    (xy a0.Pending).bind fun r6 =>
    match r6 with
    | true =>
     (xg a0.Act 1 4).bind fun r7 =>
     match r7 with
     | true =>
      if r5_1 = true then
       if a0.Act = 1 then
        some false
       else
       some true
      else
      if a0.Act = 1 then
       some true
      else
      some false
     | false =>
      some false
    | false =>
     some false
   | false =>
    some false
 | false =>
  some false
theorem Ou (n : Nat) : Jx (ZN n) := fun a0 => tc (
 .cl (qA a0.Serial 0 1000000) fun r1 =>
 .vN 0 r1 (
  .an 0 0 <|
  .an 0 0 <|
  .le zj a0.Entries <|
  .an 0 0 <|
  .lI 16 (a0.Entries.length : Int) (fun c2 =>
   .an 0 0 <|
   .ret false) fun c2 =>
  .an 0 0 <|
  .le zj a0.Entries <|
  .l2 (VR a0.Entries (a0.Entries.length : Int) a0 n 0) (fun o3_0 =>
   .ret o3_0) fun o3_1 =>
  .le za a0.Pending <|
  .eI (a0.Pending.length : Int) 0 (fun c4 =>
   .eD a0.Act 0 <|
   .ret (decide (a0.Act = 0))) fun c4 =>
  .cl (qV a0 a0.Pending) fun ⟨r5_0, r5_1⟩ =>
  .vM 0 a0.Open (
   .az 0 0 <|
   .az 0 0 <|
   .cl (q4 a0.Pending) fun r6 =>
   .az 0 1 <|
   .vM 0 r6 (
    .az 0 0 <|
    .az 0 0 <|
    .cl (qA a0.Act 1 4) fun r7 =>
    .az 0 1 <|
    .vM 0 r7 (
     .az 0 0 <|
     .az 0 0 <|
     .az 0 0 <|
     .eD a0.Act 1 <|
     .az 0 0 <|
     .sp (r5_1 = true) (fun c8 =>
      .sp (a0.Act = 1) (fun c9 =>
       .eb c8 (nT (dT c9)) <|
       .az 0 0 <|
       .ret false) fun c9 =>
      .eb c8 (nF (dF c9)) <|
      .az 0 0 <|
      .ret true) fun c8 =>
     .sp (a0.Act = 1) (fun c9 =>
      .eb (bF c8) (nT (dT c9)) <|
      .az 0 0 <|
      .ret true) fun c9 =>
     .eb (bF c8) (nF (dF c9)) <|
     .az 0 0 <|
     .ret false) <|
    .az 0 0 <|
    .az 0 0 <|
    .az 0 0 <|
    .az 0 0 <|
    .az 0 0 <|
    .ret false) <|
   .az 0 0 <|
   .az 0 0 <|
   .az 0 0 <|
   .ret false) <|
  .az 0 0 <|
  .az 0 0 <|
  .az 0 0 <|
  .ret false) <|
 .an 0 0 <|
 .an 0 0 <|
 .an 0 0 <|
 .an 0 0 <|
 .ret false) (zf Tryz.func78)
theorem ze3 {v : GValue} (h : vsz v <= 2 ^ 20) : jt v = some (Yk v) := by
 unfold jt qU wD Yk
 rw [if_pos ⟨h, by decide, by decide⟩, oB]
 rw [show (5 : Int).toNat = 5 from rfl]
 cases hs : shV 5 v
 ·simp
 ·dsimp only
  rw [if_pos h, oB]
  simp
theorem EX {v : GValue} (h : vsz v <= 2 ^ 20) : xi v = some (kz v) := by
 unfold xi YZ kz
 by_cases h5 : v.Kind = 5
 ·rw [if_pos h5, ze3 h, oB, decide_eq_true h5, Bool.true_and]
  cases hv : Yk v with
  | false => rfl
  | true =>
   simp only [Bool.true_and]
   unfold wE
   rw [if_pos (by omega)]; rfl
 ·rw [if_neg h5, decide_eq_false h5]; rfl
theorem H4 {l : List (List UInt8)} (h : bsz l <= 2 ^ 20) : xZ l = some (jZ l) := if_pos h
theorem Nf {s : GState} (hs : zZ s.Entries <= 2 ^ 20) : ∀ (d i m : Nat), i + d = s.Entries.length → d < m → ∃ z, xP s.Entries (s.Entries.length : Int) s m (i : Int) = some (if kV (Qt s.Serial) GEntry.Addr s.Entries i d = true then .inr z else .inl false) := by
 have hlen := wW s.Entries
 intro d
 induction d with
 | zero =>
  intro i m hi hm
  obtain ⟨m, rfl, _⟩ := zg hm
  exact ⟨_, by rw [xP, if_neg (by omega)]; rfl⟩
 | succ d ih =>
  intro i m hi hm
  obtain ⟨m, rfl, hm'⟩ := zg hm
  have hil : i < s.Entries.length := by omega
  have hz0 := X9 (List.getElem_mem hil)
  obtain ⟨z, hz⟩ := ih (i + 1) m (by omega) (by omega)
  rw [xP, if_pos (by omega), zb, oB, zl hil, oB, QW]
  unfold esz at hz0
  rw [Zy (by omega), oB, EX (by omega), oB, H4 (by omega), oB, WD, oB, zH (by omega), hz]
  generalize kV _ GEntry.Addr s.Entries (i + 1) d = g
  by_cases h0 : 0 < i
  ·rw [Rj hil h0]
   unfold Qt
   cases ye s.Entries[i].Addr with
   | false => exact ⟨0, rfl⟩
   | true =>
    dsimp only
    rw [if_pos (by omega), kh (by omega) h0, zb, oB, zl (show i - 1 < s.Entries.length by omega), oB]
    unfold xX wq
    simp only [oB]
    have hc := X8 s.Entries[i - 1].Addr s.Entries[i].Addr
    generalize Lib.compareBytes s.Entries[i - 1].Addr s.Entries[i].Addr = q at hc ⊢
    generalize Op.bytesLess s.Entries[i - 1].Addr s.Entries[i].Addr = b at hc ⊢
    refine ⟨z, ?_⟩
    cases b with
    | true =>
     rw [if_neg (by rw [hc]; exact fun h => h rfl)]
     cases kz s.Entries[i].Val <;> cases jZ s.Entries[i].Deps <;> cases decide (1 <= s.Entries[i].Turned ∧ s.Entries[i].Turned <= s.Serial) <;> simp
    | false =>
     rw [if_pos (by rw [hc]; simp)]
     simp
  ·obtain rfl : i = 0 := by omega
   rw [Ku hil]
   unfold Qt
   cases ye s.Entries[0].Addr with
   | false => exact ⟨0, rfl⟩
   | true =>
    dsimp only
    rw [if_neg (by omega)]
    refine ⟨z, ?_⟩
    cases kz s.Entries[0].Val <;> cases jZ s.Entries[0].Deps <;> cases decide (1 <= s.Entries[0].Turned ∧ s.Entries[0].Turned <= s.Serial) <;> simp
def kN (a0 : GState) : Option Bool := if ssz a0 <= 2 ^ 20 then some (stB a0) else none
theorem EY {s : GState} (h : ssz s <= 2 ^ 20) : kN s = some (stB s) := if_pos h
theorem NY {s : GState} (h : ssz s <= 2 ^ 20) : ZN (s.Entries.length + 1) s = some (stB s) := by
 have hlen := wW s.Entries
 unfold ssz at h
 obtain ⟨z, hz⟩ := Nf (s := s) (by omega) s.Entries.length 0 (s.Entries.length + 1) (by omega) (by omega)
 rw [show ((0 : Nat) : Int) = 0 from rfl] at hz
 unfold ZN
 rw [WD, oB]
 unfold stB
 by_cases h1 : (0 : Int) <= s.Serial ∧ s.Serial <= 1000000
 ·rw [decide_eq_true h1]
  dsimp only
  by_cases h2 : (16 : Int) < (s.Entries.length : Int)
  ·rw [if_pos h2, decide_eq_false (p := 0 <= s.Serial ∧ s.Serial <= 1000000 ∧ s.Entries.length <= 16) (by omega)]; rfl
  rw [if_neg h2, hz, decide_eq_true (p := 0 <= s.Serial ∧ s.Serial <= 1000000 ∧ s.Entries.length <= 16) (by omega), Bool.true_and]
  have he : LX s = kV (Qt s.Serial) GEntry.Addr s.Entries 0 s.Entries.length := rfl
  cases hg : kV (Qt s.Serial) GEntry.Addr s.Entries 0 s.Entries.length with
  | false => rw [he, hg]; rfl
  | true =>
   rw [he, hg, Bool.true_and]
   simp only [if_true, oB]
   unfold LW
   by_cases hp : s.Pending = []
   ·rw [if_pos (by rw [hp]; rfl), if_pos hp]
   ·have hp0 : ¬ (s.Pending.length : Int) = 0 := fun e => hp (List.eq_nil_of_length_eq_zero (by omega))
    rw [if_neg hp0, if_neg hp]
    unfold yk
    obtain ⟨c, _, hc⟩ := EW (x := s.Pending) (a := s.Entries) (by omega) (N7 hg)
    rw [hc, oB, oB]
    dsimp only
    rw [Zy (by omega), oB, WD, oB]
    cases s.Open
    ·rfl
    cases ye s.Pending
    ·rfl
    by_cases ha : (1 : Int) <= s.Act ∧ s.Act <= 4
    ·rw [decide_eq_true ha]
     by_cases h1 : s.Act = 1 <;> cases yT s.Entries s.Pending <;> simp [h1]
    ·rw [decide_eq_false ha]; rfl
 ·rw [decide_eq_false h1, decide_eq_false (p := 0 <= s.Serial ∧ s.Serial <= 1000000 ∧ s.Entries.length <= 16) (fun h => h1 ⟨h.1, h.2.1⟩)]; rfl
theorem RJ (a0 : GState) (r : Bool) (h : kN a0 = some r) : ∃ n, ZN n a0 = some r := by
 unfold kN at h
 obtain ⟨ha, h⟩ := zC h
 exact ⟨_, by rw [<- h]; exact NY ha⟩
theorem UY : Jx kN := fun a0 r h => (RJ a0 r h).elim fun n hn => Ou n a0 r hn
def zO (a0 : (List UInt8)) : Option (List UInt8) :=
 if yj 1 (0 + a0.length) then
 some a0
 else none
theorem xj (a0 : (List UInt8)) : Oc (zO a0) 119 [] [vq za a0] fun r => (.val false [.own 1 (eL za r)], []) := tc (
 .ap 1 zz [] a0 fun n1 =>
 .ret a0) (zf Tryz.func119)
def Qi (F : (List (List UInt8)) → Option (List (List UInt8))) : Prop := ∀ (a0 : (List (List UInt8))), Oc (F a0) 139 [] [vq (zu za) a0] fun r => (.val false [.own 1 (eL (yv 1 za) r)], [])
def wb (a0 : (List (List UInt8))) (v1 : Int) : Nat → Int → (List (List UInt8)) → Option (Int × (List (List UInt8)))
  | 0, _, _ => none
  | m + 1, v2, v3 =>
  if v2 < v1 then
   (zv v2).bind fun i2 =>
   (a0[i2]?).bind fun x3 =>
   (zO x3).bind fun r4 =>
   if yj 24 (v3.length + [r4].length) then
   wb a0 v1 m (w64 (v2 + 1)) (v3 ++ [r4])
   else none
  else
  some (v2, v3)
theorem Ka (a0 : (List (List UInt8))) (v1 : Int) (m : Nat) : ∀ (v2 : Int) (v3 : (List (List UInt8))), Ol (wb a0 v1 m v2 v3) 139 (zJ Tryz.f139 0) ⟨[(3, vr 0), (7, vq (zu za) a0), (8, vi v1), (9, vi v2)], [.obj 1 (eL (yv 1 za) v3)], 0⟩ fun o => match o with | ⟨o_0, o_1⟩ => (.exit 0, ⟨[(3, vr 0), (7, vq (zu za) a0), (8, vi v1), (9, vi o_0), (10, vb false)], [.obj 1 (eL (yv 1 za) o_1)], 0⟩) := by
  induction m with
  | zero => intro v2 v3 o h; cases h
  | succ m ih => exact fun v2 v3 => tlp (
   .lI v2 v1 (fun c1 =>
    .na v2 fun i2 =>
    .ix0 (zu za) a0 i2 fun x3 =>
    .cl (xj x3) fun r4 =>
    .ao 24 (qZ 1 xm) v3 [r4] fun n5 =>
    .go (ih (w64 (v2 + 1)) (v3 ++ [r4]))) fun c1 =>
   .ret (v2, v3))
def Y0 (n : Nat) (a0 : (List (List UInt8))) : Option (List (List UInt8)) :=
 (wb a0 (a0.length : Int) n 0 []).bind fun ⟨o1_0, o1_1⟩ =>
 some o1_1
theorem TN (n : Nat) : Qi (Y0 n) := fun a0 => tc (
 .le (zu za) a0 <|
 .lp (Ka a0 (a0.length : Int) n 0 []) fun ⟨o1_0, o1_1⟩ =>
 .ret o1_1) (zf Tryz.func139)
theorem VS {a : List UInt8} (h : a.length <= 2 ^ 39) : zO a = some a := if_pos (xK (by decide) (by omega))
theorem Ov {a : List (List UInt8)} (ha : bsz a <= 2 ^ 39) : ∀ (l p : List (List UInt8)) (m : Nat), a = p ++ l → l.length < m → ∃ z, wb a (a.length : Int) m (p.length : Int) p = some (z, a) := by
 have hl := q7 a
 intro l
 induction l with
 | nil =>
  intro p m he hm
  subst he
  obtain ⟨m, rfl, _⟩ := zg hm
  exact ⟨_, by rw [wb, if_neg (wh p)]; simp; rfl⟩
 | cons x l ih =>
  intro p m he hm
  obtain ⟨m, rfl, hm'⟩ := zg hm
  have hx : 1 + x.length <= bsz a := ZT (by rw [he]; simp)
  have hlen : a.length = p.length + (l.length + 1) := by rw [he]; simp
  obtain ⟨z, hz⟩ := ih (p ++ [x]) m (by rw [he]; simp) (by simp only [List.length_cons] at hm'; omega)
  refine ⟨z, ?_⟩
  rw [wb, if_pos (by omega), zb, oB, show a[p.length]? = some x by rw [he]; exact zG p x l, oB, VS (by omega), oB, if_pos (xK (by decide) (by simp only [List.length_cons, List.length_nil]; omega)), y8 p x (by omega), hz]
def y4 (a0 : (List (List UInt8))) : Option (List (List UInt8)) := if bsz a0 <= 2 ^ 39 then some a0 else none
theorem Ng {a : List (List UInt8)} (h : bsz a <= 2 ^ 39) : y4 a = some a := if_pos h
theorem KS (a0 : (List (List UInt8))) (r : (List (List UInt8))) (h : y4 a0 = some r) : ∃ n, Y0 n a0 = some r := by
 unfold y4 at h
 obtain ⟨ha, h⟩ := zC h
 obtain ⟨z, hz⟩ := Ov ha a0 [] (a0.length + 1) rfl (by omega)
 refine ⟨a0.length + 1, ?_⟩
 unfold Y0
 simp only [List.length_nil, Int.natCast_zero] at hz
 rw [hz]; exact h
theorem kw : Qi y4 := fun a0 r h => (KS a0 r h).elim fun n hn => TN n a0 r hn
def j5 (F : GValue → Option GValue) : Prop := ∀ (a0 : GValue), Oc (F a0) 138 [] [.val true (zD a0)] fun r => (.val true (xv r), [])
def wc (G_impl_copyValue : GValue → Option GValue) (v0 : (List GValue)) (v1 : Int) (v3 : Int) (v4 : Int) (v5 : Int) (v6 : Int) (v7 : (List UInt8)) (v8 : (List (List UInt8))) (v9 : (List GValue)) (v10 : (List UInt8)) (v11 : (List (List UInt8))) : Nat → Int → (List GValue) → Option (Int × (List GValue))
  | 0, _, _ => none
  | m + 1, v2, v12 =>
  if v2 < v1 then
   (zv v2).bind fun i2 =>
   (v0[i2]?).bind fun x3 =>
   (G_impl_copyValue x3).bind fun r4 =>
   if yj 88 (v12.length + [r4].length) then
   wc G_impl_copyValue v0 v1 v3 v4 v5 v6 v7 v8 v9 v10 v11 m (w64 (v2 + 1)) (v12 ++ [r4])
   else none
  else
  some (v2, v12)
theorem Kb (G_impl_copyValue : GValue → Option GValue) (H_impl_copyValue : j5 G_impl_copyValue) (v0 : (List GValue)) (v1 : Int) (v3 : Int) (v4 : Int) (v5 : Int) (v6 : Int) (v7 : (List UInt8)) (v8 : (List (List UInt8))) (v9 : (List GValue)) (v10 : (List UInt8)) (v11 : (List (List UInt8))) (m : Nat) : ∀ (v2 : Int) (v12 : (List GValue)), Ol (wc G_impl_copyValue v0 v1 v3 v4 v5 v6 v7 v8 v9 v10 v11 m v2 v12) 138 (zJ Tryz.f138 0) ⟨[(2, vp 0 0), (3, vp 1 0), (18, vq zh v0), (19, vi v1), (20, vi v2)], [.var [ci v3, ci v4, .ref 2, .ref 3, .ref 4], .var [ci v5, ci v6, .ref 5, .ref 6, .ref 7], .obj 1 (eL za v7), .obj 1 (eL (yv 1 za) v8), .obj 5 (eL zq v9), .obj 1 (eL za v10), .obj 1 (eL (yv 1 za) v11), .obj 5 (eL zq v12)], 0⟩ fun o => match o with | ⟨o_0, o_1⟩ => (.exit 0, ⟨[(2, vp 0 0), (3, vp 1 0), (18, vq zh v0), (19, vi v1), (20, vi o_0), (21, vb false)], [.var [ci v3, ci v4, .ref 2, .ref 3, .ref 4], .var [ci v5, ci v6, .ref 5, .ref 6, .ref 7], .obj 1 (eL za v7), .obj 1 (eL (yv 1 za) v8), .obj 5 (eL zq v9), .obj 1 (eL za v10), .obj 1 (eL (yv 1 za) v11), .obj 5 (eL zq o_1)], 0⟩) := by
  induction m with
  | zero => intro v2 v12 o h; cases h
  | succ m ih => exact fun v2 v12 => tlp (
   .lI v2 v1 (fun c1 =>
    .na v2 fun i2 =>
    .ix yz v0 i2 fun x3 =>
    .cl (H_impl_copyValue x3) fun r4 =>
    .nd (yj 88 (v12.length + [r4].length)) fun n5 =>
    .q ⟨.room 88 (eL zq v12) ([(xv r4)] : List (List C)), .b true, by rw [(show ([(xv r4)] : List (List C)) = eL zq [r4] from (X7 (yp r4) WO))]; exact (A.room n5)⟩ <|
    .q ⟨.uni 5 ([(xv r4)] : List (List C)), .b true, by rw [(show ([(xv r4)] : List (List C)) = eL zq [r4] from (X7 (yp r4) WO))]; exact (A.uniO wV)⟩ <|
    .q ⟨.app (eL zq v12) ([(xv r4)] : List (List C)), .l (eL zq (v12 ++ [r4])), by rw [(show ([(xv r4)] : List (List C)) = eL zq [r4] from (X7 (yp r4) WO))]; exact A.app⟩ <|
    .go (ih (w64 (v2 + 1)) (v12 ++ [r4]))) fun c1 =>
   .ret (v2, v12))
def Y1 (G_impl_copyValue : GValue → Option GValue) (n : Nat) (a0 : GValue) : Option GValue :=
 (zO a0.S).bind fun r1 =>
 (y4 a0.K).bind fun r2 =>
 (wc G_impl_copyValue a0.L (a0.L.length : Int) 0 0 a0.Kind a0.N [] [] [] r1 r2 n 0 []).bind fun ⟨o3_0, o3_1⟩ =>
 some (GValue.mk a0.Kind a0.N r1 r2 o3_1)
theorem TO (G_impl_copyValue : GValue → Option GValue) (H_impl_copyValue : j5 G_impl_copyValue) (n : Nat) : j5 (Y1 G_impl_copyValue n) := fun a0 => tc (
 .cl (xj a0.S) fun r1 =>
 .cl (kw a0.K) fun r2 =>
 .le zh a0.L <|
 .lp (Kb G_impl_copyValue H_impl_copyValue a0.L (a0.L.length : Int) 0 0 a0.Kind a0.N [] [] [] r1 r2 n 0 []) fun ⟨o3_0, o3_1⟩ =>
 .ret (GValue.mk a0.Kind a0.N r1 r2 o3_1)) (zf Tryz.func138)
def xa : Nat → GValue → Option GValue
 | 0, _ => none
 | n + 1, a0 => Y1 (xa n) n a0
theorem VT (n : Nat) : j5 (xa n) := by
 induction n with
 | zero => exact fun _ _ h => (by rw [xa] at h; cases h)
 | succ n ih =>
  have ih_impl_copyValue := ih
  exact fun a0 r h => TO (xa n) ih_impl_copyValue n a0 r (by rw [xa] at h; exact h)
theorem Ow {G : GValue → Option GValue} {a : List GValue} {v3 v4 v5 v6 : Int} {v7 : List UInt8} {v8 : List (List UInt8)} {v9 : List GValue} {v10 : List UInt8} {v11 : List (List UInt8)} (ha : a.length <= 2 ^ 39) : ∀ (l p : List GValue) (m : Nat), a = p ++ l → (∀ x ∈ l, G x = some x) → l.length < m → ∃ z, wc G a (a.length : Int) v3 v4 v5 v6 v7 v8 v9 v10 v11 m (p.length : Int) p = some (z, a) := by
 intro l
 induction l with
 | nil =>
  intro p m he _ hm
  subst he
  obtain ⟨m, rfl, _⟩ := zg hm
  exact ⟨_, by rw [wc, if_neg (wh p)]; simp; rfl⟩
 | cons x l ih =>
  intro p m he hG hm
  obtain ⟨m, rfl, hm'⟩ := zg hm
  have hlen : a.length = p.length + (l.length + 1) := by rw [he]; simp
  obtain ⟨z, hz⟩ := ih (p ++ [x]) m (by rw [he]; simp) (fun y hy => hG y (List.mem_cons_of_mem _ hy)) (by simp only [List.length_cons] at hm'; omega)
  refine ⟨z, ?_⟩
  rw [wc, if_pos (by omega), zb, oB, show a[p.length]? = some x by rw [he]; exact zG p x l, oB, hG x List.mem_cons_self, oB, if_pos (xK (by decide) (by simp only [List.length_cons, List.length_nil]; omega)), y8 p x (by omega), hz]
theorem NZ : ∀ (N : Nat) (v : GValue), vsz v < N → vsz v <= 2 ^ 39 → ∀ f : Nat, vsz v + 2 <= f → xa f v = some v := by
 intro N
 induction N with
 | zero => intro v hv; omega
 | succ N ih =>
  intro v hv hs f hf
  obtain ⟨f, rfl, _⟩ := zg (show 0 < f by omega)
  have he := xw v
  have hl := yR v.L
  rw [xa]
  unfold Y1
  rw [VS (by omega), Ng (by omega)]
  simp only [oB]
  obtain ⟨z, hz⟩ := Ow (G := xa f) (a := v.L) (v3 := 0) (v4 := 0) (v5 := v.Kind) (v6 := v.N) (v7 := []) (v8 := []) (v9 := []) (v10 := v.S) (v11 := v.K) (by omega) v.L [] f rfl (fun x hx => by
   have := wr hx
   exact ih x (by omega) (by omega) f (by omega)) (by omega)
  simp only [List.length_nil, Int.natCast_zero] at hz
  rw [hz]
  exact congrArg some (GValue.eta v)
def xb (a0 : GValue) : Option GValue := if vsz a0 <= 2 ^ 39 then some a0 else none
theorem KT (a0 : GValue) (r : GValue) (h : xb a0 = some r) : ∃ n, xa n a0 = some r := by
 unfold xb at h
 obtain ⟨ha, h⟩ := zC h
 exact ⟨vsz a0 + 2, by rw [<- h]; exact NZ _ a0 (Nat.lt_succ_self _) ha _ (Nat.le_refl _)⟩
theorem ZZ : j5 xb := by
 intro a0 r h
 obtain ⟨n, hn⟩ := KT a0 r h
 exact (VT n) a0 r hn
def vm (a0 : GEntry) : Option GEntry :=
 (zO a0.Addr).bind fun r1 =>
 (xb a0.Val).bind fun r2 =>
 (y4 a0.Deps).bind fun r3 =>
 some (GEntry.mk r1 r2 r3 a0.Taint a0.Turned)
theorem RK (a0 : GEntry) : Oc (vm a0) 177 [] [.val true (j9 a0)] fun r => (.val true (Kp r), []) := tc (
 .cl (xj a0.Addr) fun r1 =>
 .cl (ZZ a0.Val) fun r2 =>
 .cl (kw a0.Deps) fun r3 =>
 .ret (GEntry.mk r1 r2 r3 a0.Taint a0.Turned)) (zf Tryz.func177)
def Qj (F : GState → Option GState) : Prop := ∀ (a0 : GState), Oc (F a0) 137 [] [.val true (zX a0)] fun r => (.val true (Qq r), [])
def wd (v0 : (List GEntry)) (v1 : Int) (v3 : Int) (v4 : Bool) (v5 : Int) (v6 : Int) (v7 : Bool) (v8 : Int) (v9 : (List UInt8)) (v10 : (List GEntry)) (v11 : (List UInt8)) : Nat → Int → (List GEntry) → Option (Int × (List GEntry))
  | 0, _, _ => none
  | m + 1, v2, v12 =>
  if v2 < v1 then
   (zv v2).bind fun i2 =>
   (v0[i2]?).bind fun x3 =>
   (vm x3).bind fun r4 =>
   if yj 152 (v12.length + [r4].length) then
   wd v0 v1 v3 v4 v5 v6 v7 v8 v9 v10 v11 m (w64 (v2 + 1)) (v12 ++ [r4])
   else none
  else
  some (v2, v12)
theorem Kc (v0 : (List GEntry)) (v1 : Int) (v3 : Int) (v4 : Bool) (v5 : Int) (v6 : Int) (v7 : Bool) (v8 : Int) (v9 : (List UInt8)) (v10 : (List GEntry)) (v11 : (List UInt8)) (m : Nat) : ∀ (v2 : Int) (v12 : (List GEntry)), Ol (wd v0 v1 v3 v4 v5 v6 v7 v8 v9 v10 v11 m v2 v12) 137 (zJ Tryz.f137 0) ⟨[(2, vp 0 0), (3, vp 1 0), (17, vq zj v0), (18, vi v1), (19, vi v2)], [.var [ci v3, .bool v4, .ref 2, ci v5, .ref 3], .var [ci v6, .bool v7, .ref 4, ci v8, .ref 5], .obj 1 (eL za v9), .obj 9 (eL zt v10), .obj 1 (eL za v11), .obj 9 (eL zt v12)], 0⟩ fun o => match o with | ⟨o_0, o_1⟩ => (.exit 0, ⟨[(2, vp 0 0), (3, vp 1 0), (17, vq zj v0), (18, vi v1), (19, vi o_0), (20, vb false)], [.var [ci v3, .bool v4, .ref 2, ci v5, .ref 3], .var [ci v6, .bool v7, .ref 4, ci v8, .ref 5], .obj 1 (eL za v9), .obj 9 (eL zt v10), .obj 1 (eL za v11), .obj 9 (eL zt o_1)], 0⟩) := by
  induction m with
  | zero => intro v2 v12 o h; cases h
  | succ m ih => exact fun v2 v12 => tlp (
   .lI v2 v1 (fun c1 =>
    .na v2 fun i2 =>
    .ix zV v0 i2 fun x3 =>
    .cl (RK x3) fun r4 =>
    .ao 152 zR v12 [r4] fun n5 =>
    .go (ih (w64 (v2 + 1)) (v12 ++ [r4]))) fun c1 =>
   .ret (v2, v12))
def Y2 (n : Nat) (a0 : GState) : Option GState :=
 (zO a0.Pending).bind fun r1 =>
 (wd a0.Entries (a0.Entries.length : Int) 0 false 0 a0.Serial a0.Open a0.Act [] [] r1 n 0 []).bind fun ⟨o2_0, o2_1⟩ =>
 some (GState.mk a0.Serial a0.Open r1 a0.Act o2_1)
theorem TP (n : Nat) : Qj (Y2 n) := fun a0 => tc (
 .cl (xj a0.Pending) fun r1 =>
 .le zj a0.Entries <|
 .lp (Kc a0.Entries (a0.Entries.length : Int) 0 false 0 a0.Serial a0.Open a0.Act [] [] r1 n 0 []) fun ⟨o2_0, o2_1⟩ =>
 .ret (GState.mk a0.Serial a0.Open r1 a0.Act o2_1)) (zf Tryz.func137)
theorem EZ {e : GEntry} (h : esz e <= 2 ^ 38) : vm e = some e := by
 unfold esz at h
 unfold vm zO xb y4
 rw [if_pos (xK (by decide) (by omega)), oB, if_pos (by omega), oB, if_pos (by omega), oB]
 cases e; rfl
theorem H5 {a : List GEntry} {v3 : Int} {v4 : Bool} {v5 v6 : Int} {v7 : Bool} {v8 : Int} {v9 : List UInt8} {v10 : List GEntry} {v11 : List UInt8} (ha : zZ a <= 2 ^ 38) : ∀ (l p : List GEntry) (m : Nat), a = p ++ l → l.length < m → ∃ z, wd a (a.length : Int) v3 v4 v5 v6 v7 v8 v9 v10 v11 m (p.length : Int) p = some (z, a) := by
 have hl := wW a
 intro l
 induction l with
 | nil =>
  intro p m he hm
  obtain ⟨m, rfl, _⟩ := zg hm
  exact ⟨_, by rw [wd, he, List.append_nil, if_neg (by omega)]⟩
 | cons x l ih =>
  intro p m he hm
  obtain ⟨m, rfl, hm'⟩ := zg hm
  have hx : 1 + esz x <= zZ a := X9 (by rw [he]; simp)
  have hlen : a.length = p.length + (l.length + 1) := by rw [he]; simp
  obtain ⟨z, hz⟩ := ih (p ++ [x]) m (by rw [he]; simp) (by simp only [List.length_cons] at hm'; omega)
  refine ⟨z, ?_⟩
  rw [wd, if_pos (by omega), zb, oB, show a[p.length]? = some x by rw [he]; exact zG p x l, oB, EZ (by omega), oB, if_pos (jr (by simp only [List.length_cons, List.length_nil]; omega)), y8 p x (by omega), hz]
def yF (a0 : GState) : Option GState := if ssz a0 <= 2 ^ 38 then some a0 else none
theorem KU (a0 : GState) (r : GState) (h : yF a0 = some r) : ∃ n, Y2 n a0 = some r := by
 unfold yF at h
 obtain ⟨ha, h⟩ := zC h
 unfold ssz at ha
 refine ⟨a0.Entries.length + 1, ?_⟩
 unfold Y2 zO
 obtain ⟨z, hz⟩ := H5 (a := a0.Entries) (v3 := 0) (v4 := false) (v5 := 0) (v6 := a0.Serial) (v7 := a0.Open) (v8 := a0.Act) (v9 := []) (v10 := []) (v11 := a0.Pending) (by omega) a0.Entries [] (a0.Entries.length + 1) rfl (by omega)
 simp only [List.length_nil, Int.natCast_zero] at hz
 rw [if_pos (xK (by decide) (by omega)), oB, hz, <- h]
 cases a0; rfl
theorem Ya : Qj yF := fun a0 r h => (KU a0 r h).elim fun n hn => TP n a0 r hn
def Yt (a0 : GValue) : Option Bool :=
 if a0.Kind = 0 then
  if a0.N = 0 then
   if (a0.S.length : Int) = 0 then
    if (a0.K.length : Int) = 0 then
     some (decide ((a0.L.length : Int) = 0))
    else
    some false
   else
   some false
  else
  some false
 else
 some false
theorem Ox (a0 : GValue) : Oc (Yt a0) 136 [] [.val true (zD a0)] fun r => (vb r, []) := tc (
 .eI a0.Kind 0 (fun c1 =>
  .eI a0.N 0 (fun c2 =>
   .le za a0.S <|
   .eI (a0.S.length : Int) 0 (fun c3 =>
    .le (zu za) a0.K <|
    .eI (a0.K.length : Int) 0 (fun c4 =>
     .le zh a0.L <|
     .eD (a0.L.length : Int) 0 <|
     .ret (decide ((a0.L.length : Int) = 0))) fun c4 =>
    .ret false) fun c3 =>
   .ret false) fun c2 =>
  .ret false) fun c1 =>
 .ret false) (zf Tryz.func136)
def kO (a0 : GEvent) : Option Bool :=
 if a0.Kind = 2 then
  (xy a0.Addr).bind fun r2 =>
  match r2 with
  | true =>
   if a0.Act = 0 then
    (xi a0.Val).bind fun r4 =>
    match r4 with
    | true =>
     (xZ a0.Deps).bind fun r5 =>
     some r5
    | false =>
     some false
   else
   some false
  | false =>
   some false
 else
 (Yt a0.Val).bind fun r2 =>
 match r2 with
 | true =>
  if 0 < (a0.Deps.length : Int) then
   some false
  else
  if a0.Kind = 0 then
   if (a0.Addr.length : Int) = 0 then
    some (decide (a0.Act = 0))
   else
   some false
  else
  if a0.Kind = 5 then
   if (a0.Addr.length : Int) = 0 then
    some (decide (a0.Act = 0))
   else
   some false
  else
  if a0.Kind = 6 then
   if (a0.Addr.length : Int) = 0 then
    some (decide (a0.Act = 0))
   else
   some false
  else
  if a0.Kind = 1 then
   (xy a0.Addr).bind fun r8 =>
   match r8 with
   | true =>
    (xg a0.Act 1 4).bind fun r9 =>
    some r9
   | false =>
    some false
  else
  if a0.Kind = 3 then
   (xy a0.Addr).bind fun r9 =>
   match r9 with
   | true =>
    some (decide (a0.Act = 0))
   | false =>
    some false
  else
  if a0.Kind = 4 then
   (xy a0.Addr).bind fun r10 =>
   match r10 with
   | true =>
    some (decide (a0.Act = 0))
   | false =>
    some false
  else
  some false
 | false =>
  some false
theorem QP (a0 : GEvent) : Oc (kO a0) 79 [] [.val true (xS a0)] fun r => (vb r, []) := tc (
 .eI a0.Kind 2 (fun c1 =>
  .cl (q4 a0.Addr) fun r2 =>
  .vM 0 r2 (
   .az 0 0 <|
   .az 0 0 <|
   .eD a0.Act 0 <|
   .az 0 0 <|
   .cI 0 (a0.Act = 0) (fun c3 =>
    .kT 0 (dT c3) <|
    .kT 0 (dT c3) <|
    .cl (Zx a0.Val) fun r4 =>
    .kT 0 (dT c3) <|
    .vM 0 r4 (
     .az 0 0 <|
     .az 0 0 <|
     .cl (Yy a0.Deps) fun r5 =>
     .az 0 1 <|
     .ret r5) <|
    .az 0 0 <|
    .az 0 0 <|
    .az 0 0 <|
    .ret false) fun c3 =>
   .kF 0 (dF c3) <|
   .kF 0 (dF c3) <|
   .kF 0 (dF c3) <|
   .ret false) <|
  .az 0 0 <|
  .az 0 0 <|
  .az 0 0 <|
  .ret false) fun c1 =>
 .cl (Ox a0.Val) fun r2 =>
 .vN 0 r2 (
  .an 0 0 <|
  .an 0 0 <|
  .le (zu za) a0.Deps <|
  .an 0 0 <|
  .lI 0 (a0.Deps.length : Int) (fun c3 =>
   .an 0 0 <|
   .ret false) fun c3 =>
  .an 0 0 <|
  .eI a0.Kind 0 (fun c4 =>
   .le za a0.Addr <|
   .eI (a0.Addr.length : Int) 0 (fun c5 =>
    .eD a0.Act 0 <|
    .ret (decide (a0.Act = 0))) fun c5 =>
   .ret false) fun c4 =>
  .eI a0.Kind 5 (fun c5 =>
   .le za a0.Addr <|
   .eI (a0.Addr.length : Int) 0 (fun c6 =>
    .eD a0.Act 0 <|
    .ret (decide (a0.Act = 0))) fun c6 =>
   .ret false) fun c5 =>
  .eI a0.Kind 6 (fun c6 =>
   .le za a0.Addr <|
   .eI (a0.Addr.length : Int) 0 (fun c7 =>
    .eD a0.Act 0 <|
    .ret (decide (a0.Act = 0))) fun c7 =>
   .ret false) fun c6 =>
  .eI a0.Kind 1 (fun c7 =>
   .cl (q4 a0.Addr) fun r8 =>
   .vM 0 r8 (
    .az 0 0 <|
    .az 0 0 <|
    .cl (qA a0.Act 1 4) fun r9 =>
    .az 0 1 <|
    .ret r9) <|
   .az 0 0 <|
   .az 0 0 <|
   .az 0 0 <|
   .ret false) fun c7 =>
  .eI a0.Kind 3 (fun c8 =>
   .cl (q4 a0.Addr) fun r9 =>
   .vM 0 r9 (
    .az 0 0 <|
    .az 0 0 <|
    .eD a0.Act 0 <|
    .az 0 0 <|
    .ret (decide (a0.Act = 0))) <|
   .az 0 0 <|
   .az 0 0 <|
   .az 0 0 <|
   .ret false) fun c8 =>
  .eI a0.Kind 4 (fun c9 =>
   .cl (q4 a0.Addr) fun r10 =>
   .vM 0 r10 (
    .az 0 0 <|
    .az 0 0 <|
    .eD a0.Act 0 <|
    .az 0 0 <|
    .ret (decide (a0.Act = 0))) <|
   .az 0 0 <|
   .az 0 0 <|
   .az 0 0 <|
   .ret false) fun c9 =>
  .ret false) <|
 .an 0 0 <|
 .an 0 0 <|
 .an 0 0 <|
 .an 0 0 <|
 .ret false) (zf Tryz.func79)
def jf (a0 : GState) (a1 : GEvent) : Option Bool :=
 (yk a0 a1.Addr).bind fun ⟨r1_0, r1_1⟩ =>
 if a0.Serial = 1000000 then
  some false
 else
 if a1.Kind = 0 then
  some (!a0.Open)
 else
 if a1.Kind = 1 then
  match a0.Open with
  | true =>
   if (a0.Pending.length : Int) = 0 then
    if r1_1 = true then
     if a1.Act = 1 then
      some false
     else
     some true
    else
    if a1.Act = 1 then
     some (decide ((a0.Entries.length : Int) < 16))
    else
    some false
   else
   some false
  | false =>
   some false
 else
 if a1.Kind = 2 then
  (xx a0.Pending a1.Addr).bind fun r6 =>
  match r6 with
  | true =>
   some (!(decide (a0.Act = 4)))
  | false =>
   some false
 else
 if a1.Kind = 3 then
  (xx a0.Pending a1.Addr).bind fun r7 =>
  match r7 with
  | true =>
   some (decide (a0.Act = 4))
  | false =>
   some false
 else
 if a1.Kind = 4 then
  (xx a0.Pending a1.Addr).bind fun r8 =>
  some r8
 else
 if a1.Kind = 5 then
  match a0.Open with
  | true =>
   some (decide ((a0.Pending.length : Int) = 0))
  | false =>
   some false
 else
 some a0.Open
theorem XT (a0 : GState) (a1 : GEvent) : Oc (jf a0 a1) 103 [] [.val true (zX a0), .val true (xS a1)] fun r => (vb r, []) := tc (
 .cl (qV a0 a1.Addr) fun ⟨r1_0, r1_1⟩ =>
 .eI a0.Serial 1000000 (fun c2 =>
  .ret false) fun c2 =>
 .eI a1.Kind 0 (fun c3 =>
  .ret (!a0.Open)) fun c3 =>
 .eI a1.Kind 1 (fun c4 =>
  .vM 1 a0.Open (
   .az 0 0 <|
   .az 0 0 <|
   .le za a0.Pending <|
   .az 0 0 <|
   .eD (a0.Pending.length : Int) 0 <|
   .az 0 0 <|
   .cI 0 ((a0.Pending.length : Int) = 0) (fun c5 =>
    .kT 0 (dT c5) <|
    .kT 0 (dT c5) <|
    .kT 0 (dT c5) <|
    .eD a1.Act 1 <|
    .kT 0 (dT c5) <|
    .sp (r1_1 = true) (fun c6 =>
     .sp (a1.Act = 1) (fun c7 =>
      .eb c6 (nT (dT c7)) <|
      .kT 0 (dT c5) <|
      .ret false) fun c7 =>
     .eb c6 (nF (dF c7)) <|
     .kT 0 (dT c5) <|
     .kT 2 c6 <|
     .kT 0 c6 <|
     .kT 0 c6 <|
     .kT 0 c6 <|
     .kT 1 c6 <|
     .ret true) fun c6 =>
    .sp (a1.Act = 1) (fun c7 =>
     .eb (bF c6) (nT (dT c7)) <|
     .kT 0 (dT c5) <|
     .kF 2 (bF c6) <|
     .kF 0 (bF c6) <|
     .kF 0 (bF c6) <|
     .le zj a0.Entries <|
     .kF 0 (bF c6) <|
     .lD (a0.Entries.length : Int) 16 <|
     .kF 1 (bF c6) <|
     .ret (decide ((a0.Entries.length : Int) < 16))) fun c7 =>
    .eb (bF c6) (nF (dF c7)) <|
    .kT 0 (dT c5) <|
    .ret false) fun c5 =>
   .kF 0 (dF c5) <|
   .kF 0 (dF c5) <|
   .kF 0 (dF c5) <|
   .kF 0 (dF c5) <|
   .kF 0 (dF c5) <|
   .ret false) <|
  .az 0 0 <|
  .az 0 0 <|
  .az 0 0 <|
  .az 0 0 <|
  .ret false) fun c4 =>
 .eI a1.Kind 2 (fun c5 =>
  .cl (js a0.Pending a1.Addr) fun r6 =>
  .vM 0 r6 (
   .az 0 0 <|
   .az 0 0 <|
   .eD a0.Act 4 <|
   .az 0 0 <|
   .ret (!(decide (a0.Act = 4)))) <|
  .az 0 0 <|
  .az 0 0 <|
  .az 0 0 <|
  .ret false) fun c5 =>
 .eI a1.Kind 3 (fun c6 =>
  .cl (js a0.Pending a1.Addr) fun r7 =>
  .vM 0 r7 (
   .az 0 0 <|
   .az 0 0 <|
   .eD a0.Act 4 <|
   .az 0 0 <|
   .ret (decide (a0.Act = 4))) <|
  .az 0 0 <|
  .az 0 0 <|
  .az 0 0 <|
  .ret false) fun c6 =>
 .eI a1.Kind 4 (fun c7 =>
  .cl (js a0.Pending a1.Addr) fun r8 =>
  .ret r8) fun c7 =>
 .eI a1.Kind 5 (fun c8 =>
  .vM 1 a0.Open (
   .az 0 0 <|
   .az 0 0 <|
   .le za a0.Pending <|
   .az 0 0 <|
   .eD (a0.Pending.length : Int) 0 <|
   .az 0 0 <|
   .ret (decide ((a0.Pending.length : Int) = 0))) <|
  .az 0 0 <|
  .az 0 0 <|
  .az 0 0 <|
  .az 0 0 <|
  .ret false) fun c8 =>
 .ret a0.Open) (zf Tryz.func103)
def qI (a0 : Bool) (e0_0 : Int) (e0_1 : Bool) (e0_3 : Int) (e1 : (List UInt8)) (e2 : (List GEntry)) : Option GState :=
 if (e1.length : Int) = 0 then
  some (GState.mk e0_0 e0_1 e1 e0_3 e2)
 else
 (yk (GState.mk e0_0 e0_1 e1 e0_3 e2) e1).bind fun ⟨r2_0, r2_1⟩ =>
 match r2_1 with
 | true =>
  (zv r2_0).bind fun i3 =>
  (e2[i3]?).bind fun x4 =>
  ((e2.set i3 (GEntry.mk x4.Addr x4.Val x4.Deps true x4.Turned))[i3]?).bind fun x5 =>
  some (GState.mk e0_0 e0_1 e1 e0_3 ((e2.set i3 (GEntry.mk x4.Addr x4.Val x4.Deps true x4.Turned)).set i3 (GEntry.mk x5.Addr x5.Val x5.Deps x5.Taint e0_0)))
 | false =>
  match a0 with
  | true =>
   (zO e1).bind fun r3 =>
   (wN r2_0 e2 [(GEntry.mk r3 (GValue.mk 5 0 [] [] []) [] false 0)]).bind fun r4 =>
   (zv r2_0).bind fun i5 =>
   (r4[i5]?).bind fun x6 =>
   ((r4.set i5 (GEntry.mk x6.Addr x6.Val x6.Deps true x6.Turned))[i5]?).bind fun x7 =>
   some (GState.mk e0_0 e0_1 e1 e0_3 ((r4.set i5 (GEntry.mk x6.Addr x6.Val x6.Deps true x6.Turned)).set i5 (GEntry.mk x7.Addr x7.Val x7.Deps x7.Taint e0_0)))
  | false =>
   some (GState.mk e0_0 e0_1 e1 e0_3 e2)
theorem Xn (a0 : Bool) (e0_0 : Int) (e0_1 : Bool) (e0_3 : Int) (e1 : (List UInt8)) (e2 : (List GEntry)) : Oc (qI a0 e0_0 e0_1 e0_3 e1 e2) 142 [.var [ci e0_0, .bool e0_1, .ref 1, ci e0_3, .ref 2], .obj 1 (eL za e1), .obj 9 (eL zt e2)] [vp 0 0, vb a0] fun r => (.tup [], [.var (Qq r), .dead, .dead]) := tc (
 .le za e1 <|
 .eI (e1.length : Int) 0 (fun c1 =>
  .ret (GState.mk e0_0 e0_1 e1 e0_3 e2)) fun c1 =>
 .vw zz e1 <|
 .vo zR e2 <|
 .vw zz e1 <|
 .cl (qV (GState.mk e0_0 e0_1 e1 e0_3 e2) e1) fun ⟨r2_0, r2_1⟩ =>
 .vN 0 r2_1 (
  .na r2_0 fun i3 =>
  .ix zA e2 i3 fun x4 =>
  .ag 0 <|
  .sl (zA (GEntry.mk x4.Addr x4.Val x4.Deps true x4.Turned)) e2 i3 <|
  .ag 1 <|
  .ix zA (e2.set i3 (GEntry.mk x4.Addr x4.Val x4.Deps true x4.Turned)) i3 fun x5 =>
  .ag 0 <|
  .sl (zA (GEntry.mk x5.Addr x5.Val x5.Deps x5.Taint e0_0)) (e2.set i3 (GEntry.mk x4.Addr x4.Val x4.Deps true x4.Turned)) i3 <|
  .ret (GState.mk e0_0 e0_1 e1 e0_3 ((e2.set i3 (GEntry.mk x4.Addr x4.Val x4.Deps true x4.Turned)).set i3 (GEntry.mk x5.Addr x5.Val x5.Deps x5.Taint e0_0)))) <|
 .vN 0 a0 (
  .vw zz e1 <|
  .cl (xj e1) fun r3 =>
  .cn xm r3 <|
  .cl (Yo r2_0 e2 [(GEntry.mk r3 (GValue.mk 5 0 [] [] []) [] false 0)]) fun r4 =>
  .na r2_0 fun i5 =>
  .ix zA r4 i5 fun x6 =>
  .ag 0 <|
  .sl (zA (GEntry.mk x6.Addr x6.Val x6.Deps true x6.Turned)) r4 i5 <|
  .ag 1 <|
  .ix zA (r4.set i5 (GEntry.mk x6.Addr x6.Val x6.Deps true x6.Turned)) i5 fun x7 =>
  .ag 0 <|
  .sl (zA (GEntry.mk x7.Addr x7.Val x7.Deps x7.Taint e0_0)) (r4.set i5 (GEntry.mk x6.Addr x6.Val x6.Deps true x6.Turned)) i5 <|
  .ret (GState.mk e0_0 e0_1 e1 e0_3 ((r4.set i5 (GEntry.mk x6.Addr x6.Val x6.Deps true x6.Turned)).set i5 (GEntry.mk x7.Addr x7.Val x7.Deps x7.Taint e0_0)))) <|
 .ret (GState.mk e0_0 e0_1 e1 e0_3 e2)) (zf Tryz.func142)
end
end Go.Am.Try
