/- The functions of the program in plain Lean, and that the machine answers as they do; conditions at each theorem. -/
import Derived.Test.YtjmhaigcaidloaaGreatDoorBG2
set_option linter.unusedVariables false
set_option linter.unusedSimpArgs false
namespace Go.Am.Try
open Go.Am Go.Proofs
set_option linter.unusedVariables false
set_option maxRecDepth 20000
set_option maxHeartbeats 2000000
noncomputable section
def jk (a0 : Int) : Option (List UInt8) :=
 if a0 < 10 then
  (zv a0).bind fun i2 =>
  (zv (w64 (a0 + 1))).bind fun i3 =>
  (w6 [48, 49, 50, 51, 52, 53, 54, 55, 56, 57, 97, 98, 99, 100, 101, 102, 103, 104, 105, 106, 107, 108, 109, 110, 111, 112, 113, 114, 115, 116, 117, 118, 119, 120, 121, 122] (some i2) (some i3)).bind fun s4 =>
  some s4
 else
 (zv (w64 (a0 * 2))).bind fun i2 =>
 (zv (w64 ((w64 (a0 * 2)) + 2))).bind fun i3 =>
 (w6 [48, 48, 48, 49, 48, 50, 48, 51, 48, 52, 48, 53, 48, 54, 48, 55, 48, 56, 48, 57, 49, 48, 49, 49, 49, 50, 49, 51, 49, 52, 49, 53, 49, 54, 49, 55, 49, 56, 49, 57, 50, 48, 50, 49, 50, 50, 50, 51, 50, 52, 50, 53, 50, 54, 50, 55, 50, 56, 50, 57, 51, 48, 51, 49, 51, 50, 51, 51, 51, 52, 51, 53, 51, 54, 51, 55, 51, 56, 51, 57, 52, 48, 52, 49, 52, 50, 52, 51, 52, 52, 52, 53, 52, 54, 52, 55, 52, 56, 52, 57, 53, 48, 53, 49, 53, 50, 53, 51, 53, 52, 53, 53, 53, 54, 53, 55, 53, 56, 53, 57, 54, 48, 54, 49, 54, 50, 54, 51, 54, 52, 54, 53, 54, 54, 54, 55, 54, 56, 54, 57, 55, 48, 55, 49, 55, 50, 55, 51, 55, 52, 55, 53, 55, 54, 55, 55, 55, 56, 55, 57, 56, 48, 56, 49, 56, 50, 56, 51, 56, 52, 56, 53, 56, 54, 56, 55, 56, 56, 56, 57, 57, 48, 57, 49, 57, 50, 57, 51, 57, 52, 57, 53, 57, 54, 57, 55, 57, 56, 57, 57] (some i2) (some i3)).bind fun s4 =>
 some s4
theorem W4 (a0 : Int) : Oc (jk a0) 232 [] [vi a0] fun r => (vs r, []) := tc (
 .lI a0 10 (fun c1 =>
  .na a0 fun i2 =>
  .na (w64 (a0 + 1)) fun i3 =>
  .cs [48, 49, 50, 51, 52, 53, 54, 55, 56, 57, 97, 98, 99, 100, 101, 102, 103, 104, 105, 106, 107, 108, 109, 110, 111, 112, 113, 114, 115, 116, 117, 118, 119, 120, 121, 122] (some i2) (some i3) fun s4 =>
  .ret s4) fun c1 =>
 .na (w64 (a0 * 2)) fun i2 =>
 .na (w64 ((w64 (a0 * 2)) + 2)) fun i3 =>
 .cs [48, 48, 48, 49, 48, 50, 48, 51, 48, 52, 48, 53, 48, 54, 48, 55, 48, 56, 48, 57, 49, 48, 49, 49, 49, 50, 49, 51, 49, 52, 49, 53, 49, 54, 49, 55, 49, 56, 49, 57, 50, 48, 50, 49, 50, 50, 50, 51, 50, 52, 50, 53, 50, 54, 50, 55, 50, 56, 50, 57, 51, 48, 51, 49, 51, 50, 51, 51, 51, 52, 51, 53, 51, 54, 51, 55, 51, 56, 51, 57, 52, 48, 52, 49, 52, 50, 52, 51, 52, 52, 52, 53, 52, 54, 52, 55, 52, 56, 52, 57, 53, 48, 53, 49, 53, 50, 53, 51, 53, 52, 53, 53, 53, 54, 53, 55, 53, 56, 53, 57, 54, 48, 54, 49, 54, 50, 54, 51, 54, 52, 54, 53, 54, 54, 54, 55, 54, 56, 54, 57, 55, 48, 55, 49, 55, 50, 55, 51, 55, 52, 55, 53, 55, 54, 55, 55, 55, 56, 55, 57, 56, 48, 56, 49, 56, 50, 56, 51, 56, 52, 56, 53, 56, 54, 56, 55, 56, 56, 56, 57, 57, 48, 57, 49, 57, 50, 57, 51, 57, 52, 57, 53, 57, 54, 57, 55, 57, 56, 57, 57] (some i2) (some i3) fun s4 =>
 .ret s4) (zh Tryz.func232)
def jY (a0 : (List UInt8)) (a1 : Int) (a2 : Int) (a3 : Bool) (a4 : Bool) : Option ((List UInt8) × (List UInt8)) :=
 none
theorem YX (a0 : (List UInt8)) (a1 : Int) (a2 : Int) (a3 : Bool) (a4 : Bool) : Oc (jY a0 a1 a2 a3 a4) 235 [] [vq za a0, .val false [.int .u64 a1], vi a2, vb a3, vb a4] fun r => (.tup [(false, [.own 1 (eL za r.1)]), (false, [.str r.2])], []) := tc (
 .no) (zh Tryz.func235)
def qm (a0 : Int) (a1 : Int) : Option (List UInt8) :=
 if a1 = 10 then
  if 0 <= a0 then
   if a0 < 100 then
    (jk a0).bind fun r4 =>
    some r4
   else
   none
  else
  none
 else
 (jY [] (IntKind.u64.wrap a0) a1 (decide (a0 < 0)) false).bind fun ⟨r2_0, r2_1⟩ =>
 some r2_1
theorem Xm (a0 : Int) (a1 : Int) : Oc (qm a0 a1) 221 [] [vi a0, vi a1] fun r => (vs r, []) := tc (
 .eI a1 10 (fun c1 =>
  .gI 0 a0 (fun c2 =>
   .lI a0 100 (fun c3 =>
    .cl (W4 a0) fun r4 =>
    .ret r4) fun c3 =>
   .no) fun c2 =>
  .no) fun c1 =>
 .lD a0 0 <|
 .cl (YX [] (IntKind.u64.wrap a0) a1 (decide (a0 < 0)) false) fun ⟨r2_0, r2_1⟩ =>
 .ret r2_1) (zh Tryz.func221)
def jw (a0 : Int) : Option (List UInt8) :=
 (qm a0 10).bind fun r1 =>
 some r1
theorem WS (a0 : Int) : Oc (jw a0) 201 [] [vi a0] fun r => (vs r, []) := tc (
 .cl (Xm a0 10) fun r1 =>
 .ret r1) (zh Tryz.func201)
def k8 (a0 : Int) : Option (List UInt8) :=
 (jw a0).bind fun r1 =>
 some r1
theorem UL (a0 : Int) : Oc (k8 a0) 174 [] [vi a0] fun r => (vs r, []) := tc (
 .cl (WS a0) fun r1 =>
 .ret r1) (zh Tryz.func174)
def xr (a0 : (List UInt8)) : Option Bool :=
 (XH a0 [(91 : UInt8)]).bind fun ⟨r1_0, r1_1, r1_2⟩ =>
 (xq r1_0).bind fun r2 =>
 match r2 with
 | true =>
  match r1_2 with
  | true =>
   (qR r1_1 [(93 : UInt8)]).bind fun ⟨r3_0, r3_1⟩ =>
   (kf r3_0 [(34 : UInt8)]).bind fun ⟨r4_0, r4_1⟩ =>
   (qR r4_0 [(34 : UInt8)]).bind fun ⟨r5_0, r5_1⟩ =>
   match r4_1 with
   | true =>
    match r3_1 with
    | true =>
     match r5_1 with
     | true =>
      (xq r5_0).bind fun r6 =>
      some r6
     | false =>
      some false
    | false =>
     some false
   | false =>
    match r5_1 with
    | true =>
     match r3_1 with
     | true =>
      some false
     | false =>
      some false
    | false =>
     (je r3_0).bind fun ⟨r6_0, r6_1⟩ =>
     match r6_1 with
     | true =>
      match r3_1 with
      | true =>
       some false
      | false =>
       some false
     | false =>
      match r3_1 with
      | true =>
       (y8 r6_0 0 99).bind fun r7 =>
       match r7 with
       | true =>
        (k8 r6_0).bind fun r8 =>
        some (decide (r8 = r3_0))
       | false =>
        some false
      | false =>
       some false
  | false =>
   some true
 | false =>
  some false
theorem qn (a0 : (List UInt8)) : Oc (xr a0) 133 [] [vq za a0] fun r => (vb r, []) := tc (
 .le za [(91 : UInt8)] <|
 .q (.lTo 0 (([(91 : UInt8)].length : Nat) : Int) (by decide)) <|
 .vw zZ [(91 : UInt8)] <|
 .cl (MY a0 [(91 : UInt8)]) fun ⟨r1_0, r1_1, r1_2⟩ =>
 .cl (ZM r1_0) fun r2 =>
 .vN 0 r2 (
  .vN 0 r1_2 (
   .le za [(93 : UInt8)] <|
   .q (.lTo 0 (([(93 : UInt8)].length : Nat) : Int) (by decide)) <|
   .vw zZ [(93 : UInt8)] <|
   .cl (XO r1_1 [(93 : UInt8)]) fun ⟨r3_0, r3_1⟩ =>
   .le za [(34 : UInt8)] <|
   .q (.lTo 0 (([(34 : UInt8)].length : Nat) : Int) (by decide)) <|
   .vw zZ [(34 : UInt8)] <|
   .cl (Vx r3_0 [(34 : UInt8)]) fun ⟨r4_0, r4_1⟩ =>
   .le za [(34 : UInt8)] <|
   .q (.lTo 0 (([(34 : UInt8)].length : Nat) : Int) (by decide)) <|
   .vw zZ [(34 : UInt8)] <|
   .cl (XO r4_0 [(34 : UInt8)]) fun ⟨r5_0, r5_1⟩ =>
   .vM 0 r4_1 (
    .az 0 0 <|
    .vM 1 r3_1 (
     .az 0 0 <|
     .az 0 1 <|
     .az 0 1 <|
     .vM 0 r5_1 (
      .az 0 0 <|
      .cl (ZM r5_0) fun r6 =>
      .az 0 1 <|
      .ret r6) <|
     .az 0 0 <|
     .az 0 0 <|
     .ret false) <|
    .az 0 0 <|
    .ret false) <|
   .az 0 0 <|
   .vM 0 r5_1 (
    .vM 0 r3_1 (
     .az 0 0 <|
     .az 0 2 <|
     .az 0 2 <|
     .ret false) <|
    .az 0 0 <|
    .ret false) <|
   .bt r3_0 <|
   .ae (Pp r3_0) (fun r6_0 =>
    .vM 0 r3_1 (
     .az 0 0 <|
     .az 0 0 <|
     .ret false) <|
    .az 0 0 <|
    .az 0 0 <|
    .ret false) fun r6_0 =>
   .vM 0 r3_1 (
    .az 0 0 <|
    .az 0 0 <|
    .cl (xT r6_0 0 99) fun r7 =>
    .vM 1 r7 (
     .az 0 0 <|
     .cl (UL r6_0) fun r8 =>
     .az 0 1 <|
     .az 0 1 <|
     .bt r3_0 <|
     .az 0 1 <|
     .sD r8 r3_0 <|
     .az 0 1 <|
     .ret (decide (r8 = r3_0))) <|
    .az 0 0 <|
    .az 0 0 <|
    .az 0 0 <|
    .az 0 0 <|
    .az 0 0 <|
    .ret false) <|
   .az 0 0 <|
   .az 0 0 <|
   .ret false) <|
  .ret true) <|
 .ret false) (zh Tryz.func133)
def ya (a0 : (List UInt8)) (a1 : (List UInt8)) : Option Int :=
 (y5 a0 a1).bind fun r1 =>
 some r1
theorem xh (a0 : (List UInt8)) (a1 : (List UInt8)) : Oc (ya a0 a1) 121 [] [vq za a0, vq za a1] fun r => (vi r, []) := tc (
 .cl (XP a0 a1) fun r1 =>
 .ret r1) (zh Tryz.func121)
def Kr (F : (List UInt8) → Option Bool) : Prop := ∀ (a0 : (List UInt8)), Oc (F a0) 236 [] [vq za a0] fun r => (vb r, [])
def qp (a0 : (List UInt8)) (v1 : Int) : Nat → Int → Option (Bool ⊕ Int)
  | 0, _ => none
  | m + 1, v2 =>
  if v2 < v1 then
   (zv v2).bind fun i2 =>
   (a0[i2]?).bind fun x3 =>
   if ((x3.toNat : Nat) : Int) < 32 then
    some (.inl false)
   else
   if 126 < ((x3.toNat : Nat) : Int) then
    some (.inl false)
   else
   qp a0 v1 m (w64 (v2 + 1))
  else
  some (.inr v2)
theorem RB (a0 : (List UInt8)) (v1 : Int) (m : Nat) : ∀ (v2 : Int), Ol (qp a0 v1 m v2) 236 (zN Tryz.f236 0) ⟨[(0, vq za a0), (5, vq za a0), (6, vi v1), (7, vi v2)], [], 0⟩ fun o => match o with | .inl o_0 => (.ret, ⟨[(2, vb o_0)], [], 0⟩) | .inr (o_1) => (.exit 0, ⟨[(0, vq za a0), (5, vq za a0), (6, vi v1), (7, vi o_1), (8, vb false)], [], 0⟩) := by
  induction m with
  | zero => intro v2 o h; cases h
  | succ m ih => exact fun v2 => tlp (
   .lI v2 v1 (fun c1 =>
    .na v2 fun i2 =>
    .ix0 za a0 i2 fun x3 =>
    .lI ((x3.toNat : Nat) : Int) 32 (fun c4 =>
     .ret (.inl false)) fun c4 =>
    .lI 126 ((x3.toNat : Nat) : Int) (fun c5 =>
     .ret (.inl false)) fun c5 =>
    .go (ih (w64 (v2 + 1)))) fun c1 =>
   .ret (.inr v2))
def Wg (n : Nat) (a0 : (List UInt8)) : Option Bool :=
 (qp a0 (a0.length : Int) n 0).bind fun o1 =>
 match o1 with
 | .inl o1_0 =>
  some o1_0
 | .inr (o1_1) =>
  some (decide ((a0.length : Int) <= 20))
theorem L3 (n : Nat) : Kr (Wg n) := fun a0 => tc (
 .le za a0 <|
 .l2 (RB a0 (a0.length : Int) n 0) (fun o1_0 =>
  .ret o1_0) fun o1_1 =>
 .le za a0 <|
 .gD (a0.length : Int) 20 <|
 .ret (decide ((a0.length : Int) <= 20))) (zh Tryz.func236)
theorem T1 {a : List UInt8} (ha : a.length <= 2 ^ 20) : ∀ (d i m : Nat), i + d = a.length → d < m → ∃ z, qp a (a.length : Int) m (i : Int) = some (if (a.drop i).all (inB 32 126) = true then .inr z else .inl false) := by
 intro d
 induction d with
 | zero =>
  intro i m hi hm
  obtain ⟨m, rfl, _⟩ := zi hm
  exact ⟨_, by rw [qp, if_neg (by omega), List.drop_eq_nil_of_le (by omega)]; rfl⟩
 | succ d ih =>
  intro i m hi hm
  obtain ⟨m, rfl, hm'⟩ := zi hm
  have hil : i < a.length := by omega
  rw [qp, if_pos (by omega), zb, Option.bind_some, zd hil, Option.bind_some, z7 (by omega), yU hil, List.all_cons]
  by_cases h1 : ((a[i].toNat : Nat) : Int) < 32
  ·exact ⟨0, by rw [if_pos h1, if_neg]; simp [inB]; omega⟩
  ·rw [if_neg h1]
   by_cases h2 : (126 : Int) < ((a[i].toNat : Nat) : Int)
   ·exact ⟨0, by rw [if_pos h2, if_neg]; simp [inB]; omega⟩
   ·rw [if_neg h2, show inB 32 126 a[i] = true by simp [inB]; omega, Bool.true_and]
    exact ih (i + 1) m (by omega) (by omega)
def vt (a0 : (List UInt8)) : Option Bool := if a0.length <= 2 ^ 20 then some (Xl a0) else none
theorem T2 (a0 : (List UInt8)) (r : Bool) (h : vt a0 = some r) : ∃ n, Wg n a0 = some r := by
 unfold vt at h
 obtain ⟨ha, h⟩ := zF h
 refine ⟨a0.length + 1, ?_⟩
 obtain ⟨z, hz⟩ := T1 ha a0.length 0 (a0.length + 1) (by omega) (by omega)
 rw [show ((0 : Nat) : Int) = 0 from rfl, List.drop_zero] at hz
 unfold Wg
 rw [<- h, hz]
 unfold Xl
 by_cases hl : a0.length <= 20
 ·rw [decide_eq_true hl]
  cases a0.all (inB 32 126)
  ·rfl
  ·show some (decide _) = _; rw [decide_eq_true (by omega)]; rfl
 ·rw [decide_eq_false hl]
  cases a0.all (inB 32 126)
  ·rfl
  ·show some (decide _) = _; rw [decide_eq_false (by omega)]; rfl
theorem Om : Kr vt := fun a0 r h => (T2 a0 r h).elim fun n hn => L3 n a0 r hn
def qS (F : GValue → Int → Option Bool) : Prop := ∀ (a0 : GValue) (e0 : Int), Oc (F a0 e0) 237 [.var [ci e0]] [.val true (zq a0), vp 0 0] fun r => (vb r, [.var [ci e0]])
def yD (F : (List GValue) → Int → Option Int) : Prop := ∀ (a0 : (List GValue)) (e0 : Int), Oc (F a0 e0) 224 [.var [ci e0]] [vq zf a0, .val false [.fn 237 [.ptr 0 0]]] fun r => (vi r, [.var [ci e0]])
def yi (F : (List GValue) → Int → Option Bool) : Prop := ∀ (a0 : (List GValue)) (e0 : Int), Oc (F a0 e0) 203 [.var [ci e0]] [vq zf a0, .val false [.fn 237 [.ptr 0 0]]] fun r => (vb r, [.var [ci e0]])
def vW (F : GValue → Int → Option Bool) : Prop := ∀ (a0 : GValue) (a1 : Int), Oc (F a0 a1) 222 [] [.val true (zq a0), vi a1] fun r => (vb r, [])
def ZY (G_impl_isShaped : GValue → Int → Option Bool) (a0 : GValue) (e0 : Int) : Option Bool :=
 (G_impl_isShaped a0 (w64 (e0 - 1))).bind fun r1 =>
 some (!r1)
theorem RC (G_impl_isShaped : GValue → Int → Option Bool) (H_impl_isShaped : vW G_impl_isShaped) : qS (ZY G_impl_isShaped) := fun a0 e0 => tc (
 .cl (H_impl_isShaped a0 (w64 (e0 - 1))) fun r1 =>
 .ret (!r1)) (zh Tryz.func237)
def zP (G_impl_isShaped_1 : GValue → Int → Option Bool) (a0 : (List GValue)) (v1 : Int) (e0 : Int) : Nat → Int → Option (Int ⊕ Int)
  | 0, _ => none
  | m + 1, v2 =>
  if v2 < v1 then
   (zv v2).bind fun i2 =>
   (a0[i2]?).bind fun x3 =>
   (G_impl_isShaped_1 x3 e0).bind fun r4 =>
   match r4 with
   | true =>
    some (.inl v2)
   | false =>
    zP G_impl_isShaped_1 a0 v1 e0 m (w64 (v2 + 1))
  else
  some (.inr v2)
theorem vu (G_impl_isShaped_1 : GValue → Int → Option Bool) (H_impl_isShaped_1 : qS G_impl_isShaped_1) (a0 : (List GValue)) (v1 : Int) (e0 : Int) (m : Nat) : ∀ (v2 : Int), Ol (zP G_impl_isShaped_1 a0 v1 e0 m v2) 224 (zN Tryz.f224 0) ⟨[(0, vq zf a0), (1, .val false [.fn 237 [.ptr 0 0]]), (7, vi v1), (8, vi v2)], [.var [ci e0]], 1⟩ fun o => match o with | .inl o_0 => (.ret, ⟨[(4, vi o_0)], [.var [ci e0]], 1⟩) | .inr (o_1) => (.exit 0, ⟨[(0, vq zf a0), (1, .val false [.fn 237 [.ptr 0 0]]), (7, vi v1), (8, vi o_1), (9, vb false)], [.var [ci e0]], 1⟩) := by
  induction m with
  | zero => intro v2 o h; cases h
  | succ m ih => exact fun v2 => tlp (
   .lI v2 v1 (fun c1 =>
    .na v2 fun i2 =>
    .ix zO a0 i2 fun x3 =>
    .cl (H_impl_isShaped_1 x3 e0) fun r4 =>
    .vM 0 r4 (
     .ret (.inl v2)) <|
    .go (ih (w64 (v2 + 1)))) fun c1 =>
   .ret (.inr v2))
def yE (G_impl_isShaped_1 : GValue → Int → Option Bool) (n : Nat) (a0 : (List GValue)) (e0 : Int) : Option Int :=
 (zP G_impl_isShaped_1 a0 (a0.length : Int) e0 n 0).bind fun o1 =>
 match o1 with
 | .inl o1_0 =>
  some o1_0
 | .inr (o1_1) =>
  some (-1)
theorem ZN (G_impl_isShaped_1 : GValue → Int → Option Bool) (H_impl_isShaped_1 : qS G_impl_isShaped_1) (n : Nat) : yD (yE G_impl_isShaped_1 n) := fun a0 e0 => tc (
 .le zf a0 <|
 .l2 (vu G_impl_isShaped_1 H_impl_isShaped_1 a0 (a0.length : Int) e0 n 0) (fun o1_0 =>
  .ret o1_0) fun o1_1 =>
 .ret (-1)) (zh Tryz.func224)
def yX (G_slices_IndexFunc_Value_isShaped_1 : (List GValue) → Int → Option Int) (a0 : (List GValue)) (e0 : Int) : Option Bool :=
 (G_slices_IndexFunc_Value_isShaped_1 a0 e0).bind fun r1 =>
 some (decide (0 <= r1))
theorem vD (G_slices_IndexFunc_Value_isShaped_1 : (List GValue) → Int → Option Int) (H_slices_IndexFunc_Value_isShaped_1 : yD G_slices_IndexFunc_Value_isShaped_1) : yi (yX G_slices_IndexFunc_Value_isShaped_1) := fun a0 e0 => tc (
 .cl (H_slices_IndexFunc_Value_isShaped_1 a0 e0) fun r1 =>
 .gD 0 r1 <|
 .ret (decide (0 <= r1))) (zh Tryz.func203)
def xi (G_slices_ContainsFunc_Value_isShaped_1 : (List GValue) → Int → Option Bool) (v0 : Bool) (v1 : Bool) (v2 : (List (List UInt8))) (v3 : Int) (a0 : GValue) (a1 : Int) : Nat → Int → Option (Bool ⊕ Int)
  | 0, _ => none
  | m + 1, v4 =>
  if v4 < v3 then
   (zv v4).bind fun i2 =>
   (v2[i2]?).bind fun x3 =>
   (xq x3).bind fun r4 =>
   match r4 with
   | true =>
    if 0 < v4 then
     (zv (w64 (v4 - 1))).bind fun i6 =>
     (a0.K[i6]?).bind fun x7 =>
     (ya x7 x3).bind fun r8 =>
     if 0 <= r8 then
      some (.inl false)
     else
     xi G_slices_ContainsFunc_Value_isShaped_1 v0 v1 v2 v3 a0 a1 m (w64 (v4 + 1))
    else
    xi G_slices_ContainsFunc_Value_isShaped_1 v0 v1 v2 v3 a0 a1 m (w64 (v4 + 1))
   | false =>
    some (.inl false)
  else
  some (.inr v4)
theorem K3 (G_slices_ContainsFunc_Value_isShaped_1 : (List GValue) → Int → Option Bool) (H_slices_ContainsFunc_Value_isShaped_1 : yi G_slices_ContainsFunc_Value_isShaped_1) (v0 : Bool) (v1 : Bool) (v2 : (List (List UInt8))) (v3 : Int) (a0 : GValue) (a1 : Int) (m : Nat) : ∀ (v4 : Int), Ol (xi G_slices_ContainsFunc_Value_isShaped_1 v0 v1 v2 v3 a0 a1 m v4) 222 (zN Tryz.f222 0) ⟨[(2, vp 0 0), (3, vp 1 0), (5, vb v0), (6, vb v1), (99, vq (zt za) v2), (100, vi v3), (101, vi v4)], [.var (zq a0), .var [ci a1]], 0⟩ fun o => match o with | .inl o_0 => (.ret, ⟨[(4, vb o_0)], [], 0⟩) | .inr (o_1) => (.exit 1, ⟨[(2, vp 0 0), (3, vp 1 0), (5, vb v0), (6, vb v1), (99, vq (zt za) v2), (100, vi v3), (101, vi o_1), (102, vb false)], [.var (zq a0), .var [ci a1]], 0⟩) := by
  induction m with
  | zero => intro v4 o h; cases h
  | succ m ih => exact fun v4 => tlp (
   .lI v4 v3 (fun c1 =>
    .na v4 fun i2 =>
    .ix0 (zt za) v2 i2 fun x3 =>
    .cl (ZM x3) fun r4 =>
    .vN 0 r4 (
     .an 0 0 <|
     .lI 0 v4 (fun c5 =>
      .an 0 0 <|
      .na (w64 (v4 - 1)) fun i6 =>
      .ix0 (zt za) a0.K i6 fun x7 =>
      .cl (xh x7 x3) fun r8 =>
      .gI 0 r8 (fun c9 =>
       .an 0 3 <|
       .an 1 3 <|
       .ret (.inl false)) fun c9 =>
      .an 0 3 <|
      .an 1 3 <|
      .go (ih (w64 (v4 + 1)))) fun c5 =>
     .an 0 0 <|
     .an 9 0 <|
     .an 1 0 <|
     .go (ih (w64 (v4 + 1)))) <|
    .an 0 0 <|
    .an 0 0 <|
    .an 0 0 <|
    .an 0 0 <|
    .ret (.inl false)) fun c1 =>
   .ret (.inr v4))
def jF (G_slices_ContainsFunc_Value_isShaped_1 : (List GValue) → Int → Option Bool) (n : Nat) (a0 : GValue) (a1 : Int) : Option Bool :=
 if a1 = 0 then
  some false
 else
 if a0.Kind = 0 then
  if a0.N = 0 then
   if (a0.S.length : Int) = 0 then
    if (a0.K.length : Int) = 0 then
     some (decide ((a0.L.length : Int) = 0))
    else
    some false
   else
   some false
  else
  some false
 else
 if a0.Kind = 6 then
  if a0.N = 0 then
   if (a0.S.length : Int) = 0 then
    if (a0.K.length : Int) = 0 then
     some (decide ((a0.L.length : Int) = 0))
    else
    some false
   else
   some false
  else
  some false
 else
 if a0.Kind = 1 then
  (y8 a0.N 0 1).bind fun r5 =>
  match r5 with
  | true =>
   if (a0.S.length : Int) = 0 then
    if (a0.K.length : Int) = 0 then
     some (decide ((a0.L.length : Int) = 0))
    else
    some false
   else
   some false
  | false =>
   some false
 else
 if a0.Kind = 2 then
  (y8 a0.N (-1000000000000) 1000000000000).bind fun r6 =>
  match r6 with
  | true =>
   if (a0.S.length : Int) = 0 then
    if (a0.K.length : Int) = 0 then
     some (decide ((a0.L.length : Int) = 0))
    else
    some false
   else
   some false
  | false =>
   some false
 else
 if a0.Kind = 3 then
  (vt a0.S).bind fun r7 =>
  match r7 with
  | true =>
   if a0.N = 0 then
    if (a0.K.length : Int) = 0 then
     some (decide ((a0.L.length : Int) = 0))
    else
    some false
   else
   some false
  | false =>
   some false
 else
 if a0.Kind = 4 then
  if (a0.K.length : Int) = 0 then
   if a0.N = 0 then
    if (a0.S.length : Int) = 0 then
     if (a0.L.length : Int) <= 40 then
      (G_slices_ContainsFunc_Value_isShaped_1 a0.L a1).bind fun r12 =>
      some (!r12)
     else
     some false
    else
    some false
   else
   some false
  else
  some false
 else
 if a0.Kind = 5 then
  if (a0.K.length : Int) = (a0.L.length : Int) then
   (xi G_slices_ContainsFunc_Value_isShaped_1 (decide (a0.N = 0)) (decide ((a0.S.length : Int) = 0)) a0.K (a0.K.length : Int) a0 a1 n 0).bind fun o10 =>
   match o10 with
   | .inl o10_0 =>
    some o10_0
   | .inr (o10_1) =>
    if a0.N = 0 then
     if (a0.S.length : Int) = 0 then
      if (a0.L.length : Int) <= 40 then
       (G_slices_ContainsFunc_Value_isShaped_1 a0.L a1).bind fun r14 =>
       some (!r14)
      else
      some false
     else
     some false
    else
    some false
  else
  some false
 else
 some false
theorem UM (G_slices_ContainsFunc_Value_isShaped_1 : (List GValue) → Int → Option Bool) (H_slices_ContainsFunc_Value_isShaped_1 : yi G_slices_ContainsFunc_Value_isShaped_1) (n : Nat) : vW (jF G_slices_ContainsFunc_Value_isShaped_1 n) := fun a0 a1 => tc (
 .eI a1 0 (fun c1 =>
  .ret false) fun c1 =>
 .eD a0.N 0 <|
 .le za a0.S <|
 .eD (a0.S.length : Int) 0 <|
 .le (zt za) a0.K <|
 .eD (a0.K.length : Int) 0 <|
 .le zf a0.L <|
 .eD (a0.L.length : Int) 0 <|
 .eI a0.Kind 0 (fun c2 =>
  .cI 2 (a0.N = 0) (fun c3 =>
   .kT 0 (dT c3) <|
   .cI 0 ((a0.S.length : Int) = 0) (fun c4 =>
    .kT 0 (dT c4) <|
    .cI 0 ((a0.K.length : Int) = 0) (fun c5 =>
     .kT 0 (dT c5) <|
     .ret (decide ((a0.L.length : Int) = 0))) fun c5 =>
    .kF 0 (dF c5) <|
    .ret false) fun c4 =>
   .kF 0 (dF c4) <|
   .ret false) fun c3 =>
  .kF 0 (dF c3) <|
  .ret false) fun c2 =>
 .eI a0.Kind 6 (fun c3 =>
  .cI 1 (a0.N = 0) (fun c4 =>
   .kT 0 (dT c4) <|
   .cI 0 ((a0.S.length : Int) = 0) (fun c5 =>
    .kT 0 (dT c5) <|
    .cI 0 ((a0.K.length : Int) = 0) (fun c6 =>
     .kT 0 (dT c6) <|
     .ret (decide ((a0.L.length : Int) = 0))) fun c6 =>
    .kF 0 (dF c6) <|
    .ret false) fun c5 =>
   .kF 0 (dF c5) <|
   .ret false) fun c4 =>
  .kF 0 (dF c4) <|
  .ret false) fun c3 =>
 .eI a0.Kind 1 (fun c4 =>
  .cl (xT a0.N 0 1) fun r5 =>
  .vM 0 r5 (
   .az 0 0 <|
   .cI 0 ((a0.S.length : Int) = 0) (fun c6 =>
    .kT 0 (dT c6) <|
    .cI 0 ((a0.K.length : Int) = 0) (fun c7 =>
     .kT 0 (dT c7) <|
     .ret (decide ((a0.L.length : Int) = 0))) fun c7 =>
    .kF 0 (dF c7) <|
    .ret false) fun c6 =>
   .kF 0 (dF c6) <|
   .ret false) <|
  .az 0 0 <|
  .ret false) fun c4 =>
 .eI a0.Kind 2 (fun c5 =>
  .cl (xT a0.N (-1000000000000) 1000000000000) fun r6 =>
  .vM 0 r6 (
   .az 0 0 <|
   .cI 0 ((a0.S.length : Int) = 0) (fun c7 =>
    .kT 0 (dT c7) <|
    .cI 0 ((a0.K.length : Int) = 0) (fun c8 =>
     .kT 0 (dT c8) <|
     .ret (decide ((a0.L.length : Int) = 0))) fun c8 =>
    .kF 0 (dF c8) <|
    .ret false) fun c7 =>
   .kF 0 (dF c7) <|
   .ret false) <|
  .az 0 0 <|
  .ret false) fun c5 =>
 .eI a0.Kind 3 (fun c6 =>
  .cl (Om a0.S) fun r7 =>
  .vM 0 r7 (
   .az 0 0 <|
   .cI 0 (a0.N = 0) (fun c8 =>
    .kT 0 (dT c8) <|
    .cI 0 ((a0.K.length : Int) = 0) (fun c9 =>
     .kT 0 (dT c9) <|
     .ret (decide ((a0.L.length : Int) = 0))) fun c9 =>
    .kF 0 (dF c9) <|
    .ret false) fun c8 =>
   .kF 0 (dF c8) <|
   .ret false) <|
  .az 0 0 <|
  .ret false) fun c6 =>
 .eI a0.Kind 4 (fun c7 =>
  .cN 1 ((a0.K.length : Int) = 0) (fun c8 =>
   .cI 0 (a0.N = 0) (fun c9 =>
    .kT 0 (dT c9) <|
    .cI 0 ((a0.S.length : Int) = 0) (fun c10 =>
     .kT 0 (dT c10) <|
     .kT 0 (dT c10) <|
     .le zf a0.L <|
     .kT 0 (dT c10) <|
     .gI (a0.L.length : Int) 40 (fun c11 =>
      .kT 0 (dT c10) <|
      .cl (H_slices_ContainsFunc_Value_isShaped_1 a0.L a1) fun r12 =>
      .ret (!r12)) fun c11 =>
     .kT 0 (dT c10) <|
     .ret false) fun c10 =>
    .kF 0 (dF c10) <|
    .kF 0 (dF c10) <|
    .kF 0 (dF c10) <|
    .kF 0 (dF c10) <|
    .ret false) fun c9 =>
   .kF 0 (dF c9) <|
   .ret false) fun c8 =>
  .ret false) fun c7 =>
 .eI a0.Kind 5 (fun c8 =>
  .le (zt za) a0.K <|
  .le zf a0.L <|
  .eI (a0.K.length : Int) (a0.L.length : Int) (fun c9 =>
   .le (zt za) a0.K <|
   .l2 (K3 G_slices_ContainsFunc_Value_isShaped_1 H_slices_ContainsFunc_Value_isShaped_1 (decide (a0.N = 0)) (decide ((a0.S.length : Int) = 0)) a0.K (a0.K.length : Int) a0 a1 n 0) (fun o10_0 =>
    .ret o10_0) fun o10_1 =>
   .cI 0 (a0.N = 0) (fun c11 =>
    .kT 0 (dT c11) <|
    .cI 0 ((a0.S.length : Int) = 0) (fun c12 =>
     .kT 0 (dT c12) <|
     .kT 0 (dT c12) <|
     .le zf a0.L <|
     .kT 0 (dT c12) <|
     .gI (a0.L.length : Int) 40 (fun c13 =>
      .kT 0 (dT c12) <|
      .cl (H_slices_ContainsFunc_Value_isShaped_1 a0.L a1) fun r14 =>
      .ret (!r14)) fun c13 =>
     .kT 0 (dT c12) <|
     .ret false) fun c12 =>
    .kF 0 (dF c12) <|
    .kF 0 (dF c12) <|
    .kF 0 (dF c12) <|
    .kF 0 (dF c12) <|
    .ret false) fun c11 =>
   .kF 0 (dF c11) <|
   .ret false) fun c9 =>
  .ret false) fun c8 =>
 .ret false) (zh Tryz.func222)
mutual
def yV : Nat → GValue → Int → Option Bool
 | 0, _, _ => none
 | n + 1, a0, e0 => ZY (xK n) a0 e0
def zI : Nat → (List GValue) → Int → Option Int
 | 0, _, _ => none
 | n + 1, a0, e0 => yE (yV n) n a0 e0
def zC : Nat → (List GValue) → Int → Option Bool
 | 0, _, _ => none
 | n + 1, a0, e0 => yX (zI n) a0 e0
def xK : Nat → GValue → Int → Option Bool
 | 0, _, _ => none
 | n + 1, a0, a1 => jF (zC n) n a0 a1
end
theorem jt (n : Nat) : qS (yV n) ∧ yD (zI n) ∧ yi (zC n) ∧ vW (xK n) := by
 induction n with
 | zero => exact ⟨fun _ _ _ h => (by rw [yV] at h; cases h), fun _ _ _ h => (by rw [zI] at h; cases h), fun _ _ _ h => (by rw [zC] at h; cases h), fun _ _ _ h => (by rw [xK] at h; cases h)⟩
 | succ n ih =>
  obtain ⟨ih_impl_isShaped_1, ih_slices_IndexFunc_Value_isShaped_1, ih_slices_ContainsFunc_Value_isShaped_1, ih_impl_isShaped⟩ := ih
  exact ⟨fun a0 e0 r h => RC (xK n) ih_impl_isShaped a0 e0 r (by rw [yV] at h; exact h),
   fun a0 e0 r h => ZN (yV n) ih_impl_isShaped_1 n a0 e0 r (by rw [zI] at h; exact h),
   fun a0 e0 r h => vD (zI n) ih_slices_IndexFunc_Value_isShaped_1 a0 e0 r (by rw [zC] at h; exact h),
   fun a0 a1 r h => UM (zC n) ih_slices_ContainsFunc_Value_isShaped_1 n a0 a1 r (by rw [xK] at h; exact h)⟩
theorem zb9 (a b : List UInt8) : ya a b = some (Lib.compareBytes a b) := rfl
theorem EQ {a : List UInt8} (h : a.length <= 2 ^ 20) : xq a = some (wD a) := if_pos h
theorem ER {a : List UInt8} (h : a.length <= 2 ^ 20) : vt a = some (Xl a) := if_pos h
theorem vE {G : GValue → Int → Option Bool} {a : List GValue} {f : Nat} {e : Int} {p : GValue → Bool} (ha : a.length <= 2 ^ 20) (hf : a.length < f) (hG : ∀ x ∈ a, G x e = some (!p x)) : ∃ r : Int, yE G f a e = some r ∧ decide (0 <= r) = !(a.all p) := by
 have loop : ∀ (d i m : Nat), i + d = a.length → d < m → ∃ (q : Nat) (z : Int), zP G a (a.length : Int) e m (i : Int) = some (if (a.drop i).all p = true then .inr z else .inl (q : Int)) := by
  intro d
  induction d with
  | zero =>
   intro i m hi hm
   obtain ⟨m, rfl, _⟩ := zi hm
   exact ⟨0, _, by rw [zP, if_neg (by omega), List.drop_eq_nil_of_le (by omega)]; rfl⟩
  | succ d ih =>
   intro i m hi hm
   obtain ⟨m, rfl, hm'⟩ := zi hm
   have hil : i < a.length := by omega
   rw [zP, if_pos (by omega), zb, Option.bind_some, zd hil, Option.bind_some, hG _ (List.getElem_mem hil), Option.bind_some, z7 (by omega), yU hil, List.all_cons]
   cases hp : p a[i] with
   | false => exact ⟨i, 0, rfl⟩
   | true =>
    obtain ⟨q, z, hz⟩ := ih (i + 1) m (by omega) (by omega)
    exact ⟨q, z, by rw [Bool.true_and]; exact hz⟩
 obtain ⟨q, z, hz⟩ := loop a.length 0 f (by omega) (by omega)
 rw [show ((0 : Nat) : Int) = 0 from rfl, List.drop_zero] at hz
 unfold yE
 rw [hz, Option.bind_some]
 cases hp : a.all p with
 | true => exact ⟨-1, rfl, rfl⟩
 | false => exact ⟨(q : Int), rfl, by simp⟩
theorem L4 {G : List GValue → Int → Option Bool} {v : GValue} {v0 v1 : Bool} {a1 : Int} (hs : vsz v <= 2 ^ 20) : ∀ (d i m : Nat), i + d = v.K.length → d < m → ∃ z, xi G v0 v1 v.K (v.K.length : Int) v a1 m (i : Int) = some (if j0 v.K i d = true then .inr z else .inl false) := by
 have he := jq v
 have hl := vB v.K
 intro d
 induction d with
 | zero =>
  intro i m hi hm
  obtain ⟨m, rfl, _⟩ := zi hm
  exact ⟨_, by rw [xi, if_neg (by omega)]; rfl⟩
 | succ d ih =>
  intro i m hi hm
  obtain ⟨m, rfl, hm'⟩ := zi hm
  have hil : i < v.K.length := by omega
  have hx := X8 (List.getElem_mem hil)
  rw [xi, if_pos (by omega), zb, Option.bind_some, zd hil, Option.bind_some, EQ (by omega), Option.bind_some, z7 (by omega), QK]
  obtain ⟨z, hz⟩ := ih (i + 1) m (by omega) (by omega)
  cases hnm : wD v.K[i] with
  | false =>
   refine ⟨0, ?_⟩
   have : kOk v.K i = false := by
    by_cases h0 : i = 0
    ·subst h0; rw [JX hil, hnm]
    ·rw [Qg hil (by omega), hnm]; rfl
   rw [this]; rfl
  | true =>
   dsimp only
   by_cases h0 : 0 < i
   ·rw [if_pos (by omega), jR (by omega) h0, zb, Option.bind_some, zd (show i - 1 < v.K.length by omega), Option.bind_some, zb9, Option.bind_some]
    by_cases hb : Op.bytesLess (v.K[i - 1]'(by omega)) v.K[i] = true
    ·rw [if_neg (by rw [X9]; exact fun h => h hb), Qg hil h0, hnm, hb]
     exact ⟨z, hz⟩
    ·rw [if_pos (by rw [X9]; exact hb), Qg hil h0, hnm, show Op.bytesLess (v.K[i - 1]'(by omega)) v.K[i] = false by simpa using hb]
     exact ⟨0, rfl⟩
   ·have : i = 0 := by omega
    subst this
    rw [if_neg (by omega), JX hil, hnm]
    exact ⟨z, hz⟩
theorem H0 {G : List GValue → Int → Option Bool} {v : GValue} {f d : Nat} (hs : vsz v <= 2 ^ 20) (hf : v.K.length < f) (hd : 0 < d) (hG : G v.L (d : Int) = some (!(v.L.all (shV (d - 1))))) : jF G f v (d : Int) = some (shV d v) := by
 obtain ⟨e, rfl⟩ : ∃ e, d = e + 1 := ⟨d - 1, by omega⟩
 have he := jq v
 have hl := xm v.L
 have hb := vB v.K
 rw [show e + 1 - 1 = e by omega] at hG
 unfold jF
 rw [if_neg (by omega)]
 simp only [shV]
 have nil : v.L.length = 0 → v.L.all (shV e) = true := fun h => by rw [List.eq_nil_of_length_eq_zero h]; rfl
 have c0 : ∀ n : Nat, (((n : Nat) : Int) = 0) = (n = 0) := fun n => by simp
 simp only [c0]
 have leaf : ∀ {b : Bool}, y3 v = (b && decide (v.L.length = 0)) → b = true → some (decide (v.L.length = 0)) = some (y3 v && v.L.all (shV e)) := fun h hb' => by
  rw [h, hb', Bool.true_and]
  by_cases hz : v.L.length = 0
  ·rw [decide_eq_true hz, nil hz]; rfl
  ·rw [decide_eq_false hz]; rfl
 have no : y3 v = false → some false = some (y3 v && v.L.all (shV e)) := fun h => by rw [h]; rfl
 have four : ∀ {p : Prop} [Decidable p], y3 v = decide (p ∧ v.S.length = 0 ∧ v.K.length = 0 ∧ v.L.length = 0) → p → (if v.S.length = 0 then if v.K.length = 0 then some (decide (v.L.length = 0)) else some false else some false) = some (y3 v && v.L.all (shV e)) := fun h hp => by
  by_cases h1 : v.S.length = 0
  ·rw [if_pos h1]
   by_cases h2 : v.K.length = 0
   ·rw [if_pos h2]
    exact leaf (b := true) (by rw [h]; simp [hp, h1, h2]) rfl
   ·rw [if_neg h2]; exact no (by rw [h, decide_eq_false (fun h => h2 h.2.2.1)])
  ·rw [if_neg h1]; exact no (by rw [h, decide_eq_false (fun h => h1 h.2.1)])
 by_cases k0 : v.Kind = 0
 ·rw [if_pos k0]
  have hv : y3 v = decide (v.N = 0 ∧ v.S.length = 0 ∧ v.K.length = 0 ∧ v.L.length = 0) := by unfold y3; rw [if_pos (.inl k0)]
  by_cases a1 : v.N = 0
  ·rw [if_pos a1]; exact four hv a1
  ·rw [if_neg a1]; exact no (by rw [hv, decide_eq_false (fun h => a1 h.1)])
 rw [if_neg k0]
 by_cases k6 : v.Kind = 6
 ·rw [if_pos k6]
  have hv : y3 v = decide (v.N = 0 ∧ v.S.length = 0 ∧ v.K.length = 0 ∧ v.L.length = 0) := by unfold y3; rw [if_pos (.inr k6)]
  by_cases a1 : v.N = 0
  ·rw [if_pos a1]; exact four hv a1
  ·rw [if_neg a1]; exact no (by rw [hv, decide_eq_false (fun h => a1 h.1)])
 rw [if_neg k6]
 have n06 : ¬ (v.Kind = 0 ∨ v.Kind = 6) := by omega
 by_cases k1 : v.Kind = 1
 ·rw [if_pos k1, YW, Option.bind_some]
  have hv : y3 v = decide ((0 <= v.N ∧ v.N <= 1) ∧ v.S.length = 0 ∧ v.K.length = 0 ∧ v.L.length = 0) := by unfold y3; rw [if_neg n06, if_pos k1]
  by_cases a1 : 0 <= v.N ∧ v.N <= 1
  ·rw [decide_eq_true a1]; exact four hv a1
  ·rw [decide_eq_false a1]; exact no (by rw [hv, decide_eq_false (fun h => a1 h.1)])
 rw [if_neg k1]
 by_cases k2 : v.Kind = 2
 ·rw [if_pos k2, YW, Option.bind_some]
  have hv : y3 v = decide ((-1000000000000 <= v.N ∧ v.N <= 1000000000000) ∧ v.S.length = 0 ∧ v.K.length = 0 ∧ v.L.length = 0) := by unfold y3; rw [if_neg n06, if_neg k1, if_pos k2]
  by_cases a1 : -1000000000000 <= v.N ∧ v.N <= 1000000000000
  ·rw [decide_eq_true a1]; exact four hv a1
  ·rw [decide_eq_false a1]; exact no (by rw [hv, decide_eq_false (fun h => a1 h.1)])
 rw [if_neg k2]
 by_cases k3 : v.Kind = 3
 ·rw [if_pos k3, ER (by omega), Option.bind_some]
  have hv : y3 v = (Xl v.S && decide (v.N = 0 ∧ v.K.length = 0 ∧ v.L.length = 0)) := by unfold y3; rw [if_neg n06, if_neg k1, if_neg k2, if_pos k3]
  cases ht : Xl v.S with
  | false => exact no (by rw [hv, ht]; rfl)
  | true =>
   rw [ht, Bool.true_and] at hv
   dsimp only
   by_cases a1 : v.N = 0
   ·rw [if_pos a1]
    by_cases a2 : v.K.length = 0
    ·rw [if_pos a2]; exact leaf (b := true) (by rw [hv]; simp [a1, a2]) rfl
    ·rw [if_neg a2]; exact no (by rw [hv, decide_eq_false (fun h => a2 h.2.1)])
   ·rw [if_neg a1]; exact no (by rw [hv, decide_eq_false (fun h => a1 h.1)])
 rw [if_neg k3]
 have ends : ∀ {b : Bool}, y3 v = (b && decide (v.L.length <= 40)) → b = true → (if (v.L.length : Int) <= 40 then (G v.L ((e + 1 : Nat) : Int)).bind fun r12 => some (!r12) else some false) = some (y3 v && v.L.all (shV e)) := fun h hb' => by
  by_cases h4 : v.L.length <= 40
  ·rw [if_pos (by omega), hG, Option.bind_some, h, hb', decide_eq_true h4, Bool.not_not]; rfl
  ·rw [if_neg (by omega)]; exact no (by rw [h, decide_eq_false h4, Bool.and_false])
 by_cases k4 : v.Kind = 4
 ·rw [if_pos k4]
  have hv : y3 v = decide (v.N = 0 ∧ v.S.length = 0 ∧ v.K.length = 0 ∧ v.L.length <= 40) := by unfold y3; rw [if_neg n06, if_neg k1, if_neg k2, if_neg k3, if_pos k4]
  by_cases a1 : v.K.length = 0
  ·rw [if_pos a1]
   by_cases a2 : v.N = 0
   ·rw [if_pos a2]
    by_cases a3 : v.S.length = 0
    ·rw [if_pos a3]; exact ends (b := true) (by rw [hv]; simp [a1, a2, a3]) rfl
    ·rw [if_neg a3]; exact no (by rw [hv, decide_eq_false (fun h => a3 h.2.1)])
   ·rw [if_neg a2]; exact no (by rw [hv, decide_eq_false (fun h => a2 h.1)])
  ·rw [if_neg a1]; exact no (by rw [hv, decide_eq_false (fun h => a1 h.2.2.1)])
 rw [if_neg k4]
 by_cases k5 : v.Kind = 5
 ·rw [if_pos k5]
  have hv : y3 v = (decide (v.K.length = v.L.length ∧ v.N = 0 ∧ v.S.length = 0 ∧ v.L.length <= 40) && j0 v.K 0 v.K.length) := by unfold y3; rw [if_neg n06, if_neg k1, if_neg k2, if_neg k3, if_neg k4, if_pos k5]
  by_cases a1 : (v.K.length : Int) = (v.L.length : Int)
  ·rw [if_pos a1]
   have keys := fun (v0 v1 : Bool) => L4 (G := G) (v0 := v0) (v1 := v1) (a1 := ((e + 1 : Nat) : Int)) hs v.K.length 0 f (by omega) (by omega)
   simp only [show ((0 : Nat) : Int) = 0 from rfl] at keys
   obtain ⟨z, hz⟩ := keys (decide (v.N = 0)) (decide (v.S.length = 0))
   rw [hz, Option.bind_some]
   cases hk : j0 v.K 0 v.K.length with
   | false => exact no (by rw [hv, hk, Bool.and_false])
   | true =>
    rw [if_pos rfl]
    dsimp only
    by_cases a2 : v.N = 0
    ·rw [if_pos a2]
     by_cases a3 : v.S.length = 0
     ·rw [if_pos a3]
      exact ends (b := true) (by rw [hv, hk]; simp [a2, a3, show v.K.length = v.L.length by omega]) rfl
     ·rw [if_neg a3]
      exact no (by rw [hv, decide_eq_false (fun h => a3 h.2.2.1)]; rfl)
    ·rw [if_neg a2]
     exact no (by rw [hv, decide_eq_false (fun h => a2 h.2.1)]; rfl)
  ·rw [if_neg a1]; exact no (by rw [hv, decide_eq_false (fun h => a1 (by omega))]; rfl)
 rw [if_neg k5]
 exact no (by unfold y3; simp only [k0, k1, k2, k3, k4, k5, k6, or_self, if_false])
theorem H1 : ∀ (N : Nat) (v : GValue), vsz v < N → vsz v <= 2 ^ 20 → ∀ (f d : Nat), 4 * vsz v + 6 <= f → d <= 2 ^ 20 → xK f v (d : Int) = some (shV d v) := by
 intro N
 induction N with
 | zero => intro v hv; omega
 | succ N ih =>
  intro v hv hs f d hf hd
  have he := jq v
  have hl := xm v.L
  have hb := vB v.K
  obtain ⟨f, rfl, _⟩ := zi (show 0 < f by omega)
  rw [xK]
  by_cases h0 : d = 0
  ·subst h0; unfold jF; rw [if_pos (show ((0 : Nat) : Int) = 0 from rfl)]; rfl
  refine H0 hs (by omega) (by omega) ?_
  obtain ⟨f, rfl, _⟩ := zi (show 0 < f by omega)
  obtain ⟨f, rfl, _⟩ := zi (show 0 < f by omega)
  obtain ⟨f, rfl, _⟩ := zi (show 0 < f by omega)
  rw [zC]
  unfold yX
  rw [zI]
  obtain ⟨r, hr, hr2⟩ := vE (G := yV (f + 1)) (a := v.L) (f := f + 1) (e := (d : Int)) (p := shV (d - 1)) (by omega) (by omega) fun x hx => by
   have := qu hx
   rw [yV]
   unfold ZY
   rw [jR (by omega) (by omega), ih x (by omega) (by omega) f (d - 1) (by omega) (by omega)]
   rfl
  rw [hr, Option.bind_some, hr2]
def Wn (a0 : GValue) (e0 : Int) : Option Bool := none
theorem JL (a0 : GValue) (e0 : Int) (r : Bool) (h : Wn a0 e0 = some r) : ∃ n, yV n a0 e0 = some r := by cases h
def qJ (a0 : (List GValue)) (e0 : Int) : Option Int := none
theorem vF (a0 : (List GValue)) (e0 : Int) (r : Int) (h : qJ a0 e0 = some r) : ∃ n, zI n a0 e0 = some r := by cases h
def wU (a0 : (List GValue)) (e0 : Int) : Option Bool := none
theorem kL (a0 : (List GValue)) (e0 : Int) (r : Bool) (h : wU a0 e0 = some r) : ∃ n, zC n a0 e0 = some r := by cases h
def qK (a0 : GValue) (a1 : Int) : Option Bool := if vsz a0 <= 2 ^ 20 ∧ 0 <= a1 ∧ a1 <= 2 ^ 20 then some (shV a1.toNat a0) else none
theorem Vy (a0 : GValue) (a1 : Int) (r : Bool) (h : qK a0 a1 = some r) : ∃ n, xK n a0 a1 = some r := by
 unfold qK at h
 obtain ⟨⟨hs, h0, h1⟩, h⟩ := zF h
 refine ⟨4 * vsz a0 + 6, ?_⟩
 have := H1 _ a0 (Nat.lt_succ_self _) hs _ a1.toNat (Nat.le_refl _) (by omega)
 rw [show ((a1.toNat : Nat) : Int) = a1 by omega] at this
 rw [this]; exact h
theorem ES : qS Wn := by
 intro a0 e0 r h
 obtain ⟨n, hn⟩ := JL a0 e0 r h
 exact (jt n).1 a0 e0 r hn
theorem Vz : yD qJ := by
 intro a0 e0 r h
 obtain ⟨n, hn⟩ := vF a0 e0 r h
 exact (jt n).2.1 a0 e0 r hn
theorem Ks : yi wU := by
 intro a0 e0 r h
 obtain ⟨n, hn⟩ := kL a0 e0 r h
 exact (jt n).2.2.1 a0 e0 r hn
theorem T3 : vW qK := by
 intro a0 a1 r h
 obtain ⟨n, hn⟩ := Vy a0 a1 r h
 exact (jt n).2.2.2 a0 a1 r hn
def qB (F : GValue → Option Int) : Prop := ∀ (a0 : GValue), Oc (F a0) 223 [] [.val true (zq a0)] fun r => (vi r, [])
def xe (G_impl_Value_parts : GValue → Option Int) (v1 : (List GValue)) (v2 : Int) : Nat → Int → Int → Option (Int × Int)
  | 0, _, _ => none
  | m + 1, v0, v3 =>
  if v3 < v2 then
   (zv v3).bind fun i2 =>
   (v1[i2]?).bind fun x3 =>
   (G_impl_Value_parts x3).bind fun r4 =>
   xe G_impl_Value_parts v1 v2 m (w64 (v0 + r4)) (w64 (v3 + 1))
  else
  some (v0, v3)
theorem QV (G_impl_Value_parts : GValue → Option Int) (H_impl_Value_parts : qB G_impl_Value_parts) (v1 : (List GValue)) (v2 : Int) (m : Nat) : ∀ (v0 : Int) (v3 : Int), Ol (xe G_impl_Value_parts v1 v2 m v0 v3) 223 (zN Tryz.f223 0) ⟨[(3, vi v0), (7, vq zf v1), (8, vi v2), (9, vi v3)], [], 0⟩ fun o => match o with | ⟨o_0, o_1⟩ => (.exit 0, ⟨[(3, vi o_0), (7, vq zf v1), (8, vi v2), (9, vi o_1), (10, vb false)], [], 0⟩) := by
  induction m with
  | zero => intro v0 v3 o h; cases h
  | succ m ih => exact fun v0 v3 => tlp (
   .lI v3 v2 (fun c1 =>
    .na v3 fun i2 =>
    .ix zO v1 i2 fun x3 =>
    .cl (H_impl_Value_parts x3) fun r4 =>
    .go (ih (w64 (v0 + r4)) (w64 (v3 + 1)))) fun c1 =>
   .ret (v0, v3))
def jG (G_impl_Value_parts : GValue → Option Int) (n : Nat) (a0 : GValue) : Option Int :=
 (xe G_impl_Value_parts a0.L (a0.L.length : Int) n 1 0).bind fun ⟨o1_0, o1_1⟩ =>
 some o1_0
theorem V0 (G_impl_Value_parts : GValue → Option Int) (H_impl_Value_parts : qB G_impl_Value_parts) (n : Nat) : qB (jG G_impl_Value_parts n) := fun a0 => tc (
 .le zf a0.L <|
 .lp (QV G_impl_Value_parts H_impl_Value_parts a0.L (a0.L.length : Int) n 1 0) fun ⟨o1_0, o1_1⟩ =>
 .ret o1_0) (zh Tryz.func223)
def yJ : Nat → GValue → Option Int
 | 0, _ => none
 | n + 1, a0 => jG (yJ n) n a0
theorem JM (n : Nat) : qB (yJ n) := by
 induction n with
 | zero => exact fun _ _ h => (by rw [yJ] at h; cases h)
 | succ n ih =>
  have ih_impl_Value_parts := ih
  exact fun a0 r h => V0 (yJ n) ih_impl_Value_parts n a0 r (by rw [yJ] at h; exact h)
theorem V1 {G : GValue → Option Int} {v : GValue} {f : Nat} (hs : vsz v <= 2 ^ 20) (hf : v.L.length < f) (hG : ∀ x ∈ v.L, G x = some (((ptV x) : Nat) : Int)) : jG G f v = some (((ptV v) : Nat) : Int) := by
 have he := jq v
 have hl := xm v.L
 have loop : ∀ (d i m : Nat) (r : Int), i + d = v.L.length → d < m → 0 <= r → r <= 2 ^ 21 - wz (v.L.drop i) → ∃ z, xe G v.L (v.L.length : Int) m r (i : Int) = some (r + wz (v.L.drop i), z) := by
  intro d
  induction d with
  | zero =>
   intro i m r hi hm h0 h1
   obtain ⟨m, rfl, _⟩ := zi hm
   exact ⟨_, by rw [xe, if_neg (by omega), List.drop_eq_nil_of_le (by omega)]; simp [wz]; rfl⟩
  | succ d ih =>
   intro i m r hi hm h0 h1
   obtain ⟨m, rfl, hm'⟩ := zi hm
   have hil : i < v.L.length := by omega
   have hp : wz (v.L.drop i) = ptV v.L[i] + wz (v.L.drop (i + 1)) := by rw [yU hil]; simp only [wz]
   rw [hp] at h1 ⊢
   rw [xe, if_pos (by omega), zb, Option.bind_some, zd hil, Option.bind_some, hG _ (List.getElem_mem hil), Option.bind_some, z7 (by omega), xz (by omega) (by omega)]
   obtain ⟨z, hz⟩ := ih (i + 1) m (r + ptV v.L[i]) (by omega) (by omega) (by omega) (by omega)
   exact ⟨z, by rw [hz]; congr 2; omega⟩
 have hle := O4 v.L
 obtain ⟨z, hz⟩ := loop v.L.length 0 f 1 (by omega) (by omega) (by omega) (by rw [List.drop_zero]; omega)
 rw [show ((0 : Nat) : Int) = 0 from rfl, List.drop_zero] at hz
 unfold jG
 rw [hz, Ny]
 simp only [Option.bind_some]
 congr 1
theorem V2 : ∀ (N : Nat) (v : GValue), vsz v < N → vsz v <= 2 ^ 20 → ∀ f : Nat, vsz v + 2 <= f → yJ f v = some (((ptV v) : Nat) : Int) := by
 intro N
 induction N with
 | zero => intro v hv; omega
 | succ N ih =>
  intro v hv hs f hf
  obtain ⟨f, rfl, _⟩ := zi (show 0 < f by omega)
  have he := jq v
  have hl := xm v.L
  rw [yJ]
  refine V1 hs (by omega) fun x hx => ?_
  have := qu hx
  exact ih x (by omega) (by omega) f (by omega)
def wm (a0 : GValue) : Option Int := if vsz a0 <= 2 ^ 20 then some (((ptV a0) : Nat) : Int) else none
theorem Jm (a0 : GValue) (r : Int) (h : wm a0 = some r) : ∃ n, yJ n a0 = some r := by
 unfold wm at h
 obtain ⟨ha, h⟩ := zF h
 exact ⟨vsz a0 + 2, by rw [<- h]; exact V2 _ a0 (Nat.lt_succ_self _) ha _ (Nat.le_refl _)⟩
theorem K4 : qB wm := by
 intro a0 r h
 obtain ⟨n, hn⟩ := Jm a0 r h
 exact (JM n) a0 r hn
def jb (a0 : GValue) : Option Bool :=
 (qK a0 5).bind fun r1 =>
 match r1 with
 | true =>
  (wm a0).bind fun r2 =>
  some (decide (r2 <= 40))
 | false =>
  some false
theorem UN (a0 : GValue) : Oc (jb a0) 202 [] [.val true (zq a0)] fun r => (vb r, []) := tc (
 .cl (T3 a0 5) fun r1 =>
 .vM 0 r1 (
  .az 0 0 <|
  .cl (K4 a0) fun r2 =>
  .az 0 1 <|
  .gD r2 40 <|
  .az 0 1 <|
  .ret (decide (r2 <= 40))) <|
 .az 0 0 <|
 .az 0 0 <|
 .az 0 0 <|
 .ret false) (zh Tryz.func202)
def YY (a0 : GValue) : Option Bool :=
 if a0.Kind = 5 then
  (jb a0).bind fun r2 =>
  some r2
 else
 some false
theorem L5 (a0 : GValue) : Oc (YY a0) 175 [] [.val true (zq a0)] fun r => (vb r, []) := tc (
 .eI a0.Kind 5 (fun c1 =>
  .cl (UN a0) fun r2 =>
  .ret r2) fun c1 =>
 .ret false) (zh Tryz.func175)
def w9 (F : GValue → Option Bool) : Prop := ∀ (a0 : GValue), Oc (F a0) 204 [] [.val true (zq a0)] fun r => (vb r, [])
def yy (F : (List GValue) → Option Int) : Prop := ∀ (a0 : (List GValue)), Oc (F a0) 224 [] [vq zf a0, .val false [.fn 204 []]] fun r => (vi r, [])
def yt (F : (List GValue) → Option Bool) : Prop := ∀ (a0 : (List GValue)), Oc (F a0) 203 [] [vq zf a0, .val false [.fn 204 []]] fun r => (vb r, [])
def jH (F : GValue → Option Bool) : Prop := ∀ (a0 : GValue), Oc (F a0) 176 [] [.val true (zq a0)] fun r => (vb r, [])
def kZ (G_impl_Value_known : GValue → Option Bool) (a0 : GValue) : Option Bool :=
 (G_impl_Value_known a0).bind fun r1 =>
 some (!r1)
theorem JN (G_impl_Value_known : GValue → Option Bool) (H_impl_Value_known : jH G_impl_Value_known) : w9 (kZ G_impl_Value_known) := fun a0 => tc (
 .cl (H_impl_Value_known a0) fun r1 =>
 .ret (!r1)) (zh Tryz.func204)
def zE (G_impl_Value_known_1 : GValue → Option Bool) (a0 : (List GValue)) (v1 : Int) : Nat → Int → Option (Int ⊕ Int)
  | 0, _ => none
  | m + 1, v2 =>
  if v2 < v1 then
   (zv v2).bind fun i2 =>
   (a0[i2]?).bind fun x3 =>
   (G_impl_Value_known_1 x3).bind fun r4 =>
   match r4 with
   | true =>
    some (.inl v2)
   | false =>
    zE G_impl_Value_known_1 a0 v1 m (w64 (v2 + 1))
  else
  some (.inr v2)
theorem k9 (G_impl_Value_known_1 : GValue → Option Bool) (H_impl_Value_known_1 : w9 G_impl_Value_known_1) (a0 : (List GValue)) (v1 : Int) (m : Nat) : ∀ (v2 : Int), Ol (zE G_impl_Value_known_1 a0 v1 m v2) 224 (zN Tryz.f224 0) ⟨[(0, vq zf a0), (1, .val false [.fn 204 []]), (7, vi v1), (8, vi v2)], [], 0⟩ fun o => match o with | .inl o_0 => (.ret, ⟨[(4, vi o_0)], [], 0⟩) | .inr (o_1) => (.exit 0, ⟨[(0, vq zf a0), (1, .val false [.fn 204 []]), (7, vi v1), (8, vi o_1), (9, vb false)], [], 0⟩) := by
  induction m with
  | zero => intro v2 o h; cases h
  | succ m ih => exact fun v2 => tlp (
   .lI v2 v1 (fun c1 =>
    .na v2 fun i2 =>
    .ix zO a0 i2 fun x3 =>
    .cl (H_impl_Value_known_1 x3) fun r4 =>
    .vM 0 r4 (
     .ret (.inl v2)) <|
    .go (ih (w64 (v2 + 1)))) fun c1 =>
   .ret (.inr v2))
def yz (G_impl_Value_known_1 : GValue → Option Bool) (n : Nat) (a0 : (List GValue)) : Option Int :=
 (zE G_impl_Value_known_1 a0 (a0.length : Int) n 0).bind fun o1 =>
 match o1 with
 | .inl o1_0 =>
  some o1_0
 | .inr (o1_1) =>
  some (-1)
theorem vG (G_impl_Value_known_1 : GValue → Option Bool) (H_impl_Value_known_1 : w9 G_impl_Value_known_1) (n : Nat) : yy (yz G_impl_Value_known_1 n) := fun a0 => tc (
 .le zf a0 <|
 .l2 (k9 G_impl_Value_known_1 H_impl_Value_known_1 a0 (a0.length : Int) n 0) (fun o1_0 =>
  .ret o1_0) fun o1_1 =>
 .ret (-1)) (zh Tryz.func224)
def yI (G_slices_IndexFunc_Value_Value_known_1 : (List GValue) → Option Int) (a0 : (List GValue)) : Option Bool :=
 (G_slices_IndexFunc_Value_Value_known_1 a0).bind fun r1 =>
 some (decide (0 <= r1))
theorem kM (G_slices_IndexFunc_Value_Value_known_1 : (List GValue) → Option Int) (H_slices_IndexFunc_Value_Value_known_1 : yy G_slices_IndexFunc_Value_Value_known_1) : yt (yI G_slices_IndexFunc_Value_Value_known_1) := fun a0 => tc (
 .cl (H_slices_IndexFunc_Value_Value_known_1 a0) fun r1 =>
 .gD 0 r1 <|
 .ret (decide (0 <= r1))) (zh Tryz.func203)
def Zq (G_slices_ContainsFunc_Value_Value_known_1 : (List GValue) → Option Bool) (a0 : GValue) : Option Bool :=
 if a0.Kind = 6 then
  some false
 else
 (G_slices_ContainsFunc_Value_Value_known_1 a0.L).bind fun r2 =>
 some (!r2)
theorem V3 (G_slices_ContainsFunc_Value_Value_known_1 : (List GValue) → Option Bool) (H_slices_ContainsFunc_Value_Value_known_1 : yt G_slices_ContainsFunc_Value_Value_known_1) : jH (Zq G_slices_ContainsFunc_Value_Value_known_1) := fun a0 => tc (
 .eI a0.Kind 6 (fun c1 =>
  .ret false) fun c1 =>
 .cl (H_slices_ContainsFunc_Value_Value_known_1 a0.L) fun r2 =>
 .ret (!r2)) (zh Tryz.func176)
mutual
def y9 : Nat → GValue → Option Bool
 | 0, _ => none
 | n + 1, a0 => kZ (yK n) a0
def zD : Nat → (List GValue) → Option Int
 | 0, _ => none
 | n + 1, a0 => yz (y9 n) n a0
def z8 : Nat → (List GValue) → Option Bool
 | 0, _ => none
 | n + 1, a0 => yI (zD n) a0
def yK : Nat → GValue → Option Bool
 | 0, _ => none
 | n + 1, a0 => Zq (z8 n) a0
end
theorem qz (n : Nat) : w9 (y9 n) ∧ yy (zD n) ∧ yt (z8 n) ∧ jH (yK n) := by
 induction n with
 | zero => exact ⟨fun _ _ h => (by rw [y9] at h; cases h), fun _ _ h => (by rw [zD] at h; cases h), fun _ _ h => (by rw [z8] at h; cases h), fun _ _ h => (by rw [yK] at h; cases h)⟩
 | succ n ih =>
  obtain ⟨ih_impl_Value_known_1, ih_slices_IndexFunc_Value_Value_known_1, ih_slices_ContainsFunc_Value_Value_known_1, ih_impl_Value_known⟩ := ih
  exact ⟨fun a0 r h => JN (yK n) ih_impl_Value_known a0 r (by rw [y9] at h; exact h),
   fun a0 r h => vG (y9 n) ih_impl_Value_known_1 n a0 r (by rw [zD] at h; exact h),
   fun a0 r h => kM (zD n) ih_slices_IndexFunc_Value_Value_known_1 a0 r (by rw [z8] at h; exact h),
   fun a0 r h => V3 (z8 n) ih_slices_ContainsFunc_Value_Value_known_1 a0 r (by rw [yK] at h; exact h)⟩
def YZ (a0 : GValue) : Option Bool := none
theorem Qi (a0 : GValue) (r : Bool) (h : YZ a0 = some r) : ∃ n, y9 n a0 = some r := by cases h
def wV (a0 : (List GValue)) : Option Int := none
theorem kN (a0 : (List GValue)) (r : Int) (h : wV a0 = some r) : ∃ n, zD n a0 = some r := by cases h
def w4 (a0 : (List GValue)) : Option Bool := none
theorem jS (a0 : (List GValue)) (r : Bool) (h : w4 a0 = some r) : ∃ n, z8 n a0 = some r := by cases h
theorem B4 {G : GValue → Option Bool} {a : List GValue} {f : Nat} (ha : a.length <= 2 ^ 40) (hf : a.length < f) (hG : ∀ x ∈ a, G x = some (!knV x)) : ∃ r : Int, yz G f a = some r ∧ decide (0 <= r) = !(Wj a) := by
 have loop : ∀ (l p : List GValue) (m : Nat), a = p ++ l → l.length < m → ∃ (q : Nat) (z : Int), zE G a (a.length : Int) m (p.length : Int) = some (if Wj l = true then .inr z else .inl (q : Int)) := by
  intro l
  induction l with
  | nil =>
   intro p m he hm
   subst he
   obtain ⟨m, rfl, _⟩ := zi hm
   exact ⟨0, _, by rw [zE, if_neg (XA p)]; rfl⟩
  | cons x l ih =>
   intro p m he hm
   obtain ⟨m, rfl, hm'⟩ := zi hm
   have hlen : a.length = p.length + (l.length + 1) := by rw [he]; simp
   rw [zE, if_pos (by omega), zb, Option.bind_some, show a[p.length]? = some x by rw [he]; exact wP p x l, Option.bind_some, hG x (by rw [he]; simp), Option.bind_some, qw p x (by omega)]
   rw [show Wj (x :: l) = (knV x && Wj l) by simp only [Wj]]
   by_cases hp : knV x = true
   ·obtain ⟨q, z, hz⟩ := ih (p ++ [x]) m (by rw [he]; simp) (by simp only [List.length_cons] at hm'; omega)
    exact ⟨q, z, by rw [hp, Bool.true_and]; exact hz⟩
   ·rw [Bool.eq_false_iff.2 hp]
    exact ⟨p.length, 0, rfl⟩
 obtain ⟨q, z, hz⟩ := loop a [] f rfl (by omega)
 simp only [List.length_nil, Int.natCast_zero] at hz
 unfold yz
 rw [hz, Option.bind_some]
 cases hp : Wj a with
 | true => exact ⟨-1, rfl, rfl⟩
 | false => exact ⟨(q : Int), rfl, by simp⟩
theorem zca : ∀ (N : Nat) (v : GValue), vsz v < N → vsz v <= 2 ^ 39 → ∀ f : Nat, 4 * vsz v + 5 <= f → yK f v = some (knV v) := by
 intro N
 induction N with
 | zero => intro v hv; omega
 | succ N ih =>
  intro v hv hs f hf
  have he := jq v
  have hl := xm v.L
  obtain ⟨f, rfl, _⟩ := zi (show 0 < f by omega)
  obtain ⟨f, rfl, _⟩ := zi (show 0 < f by omega)
  obtain ⟨f, rfl, _⟩ := zi (show 0 < f by omega)
  obtain ⟨f, rfl, _⟩ := zi (show 0 < f by omega)
  obtain ⟨r, hr, hd⟩ := B4 (G := y9 (f + 1)) (a := v.L) (f := f + 1) (by omega) (by omega) (fun x hx => by
   have := qu hx
   rw [y9]
   unfold kZ
   rw [ih x (by omega) (by omega) f (by omega), Option.bind_some])
  rw [yK]
  unfold Zq
  rw [z8]
  unfold yI
  rw [zD, hr, Option.bind_some, Option.bind_some, hd, Du]
  by_cases h6 : v.Kind = 6
  ·rw [if_pos h6, h6]; rfl
  ·rw [if_neg h6]; simp [h6]
def wn (a0 : GValue) : Option Bool := if vsz a0 <= 2 ^ 39 then some (knV a0) else none
theorem Jn (a0 : GValue) (r : Bool) (h : wn a0 = some r) : ∃ n, yK n a0 = some r := by
 unfold wn at h
 obtain ⟨ha, h⟩ := zF h
 exact ⟨4 * vsz a0 + 5, by rw [<- h]; exact zca _ a0 (Nat.lt_succ_self _) ha _ (Nat.le_refl _)⟩
theorem Gr : w9 YZ := by
 intro a0 r h
 obtain ⟨n, hn⟩ := Qi a0 r h
 exact (qz n).1 a0 r hn
theorem Kt : yy wV := by
 intro a0 r h
 obtain ⟨n, hn⟩ := kN a0 r h
 exact (qz n).2.1 a0 r hn
theorem Jo : yt w4 := by
 intro a0 r h
 obtain ⟨n, hn⟩ := jS a0 r h
 exact (qz n).2.2.1 a0 r hn
theorem K5 : jH wn := by
 intro a0 r h
 obtain ⟨n, hn⟩ := Jn a0 r h
 exact (qz n).2.2.2 a0 r hn
def yW (a0 : GValue) : Option Bool :=
 (YY a0).bind fun r1 =>
 match r1 with
 | true =>
  (wn a0).bind fun r2 =>
  some r2
 | false =>
  some false
theorem Zr (a0 : GValue) : Oc (yW a0) 134 [] [.val true (zq a0)] fun r => (vb r, []) := tc (
 .cl (L5 a0) fun r1 =>
 .vM 0 r1 (
  .az 0 0 <|
  .cl (K5 a0) fun r2 =>
  .az 0 1 <|
  .ret r2) <|
 .az 0 0 <|
 .az 0 0 <|
 .ret false) (zh Tryz.func134)
def QC (F : (List (List UInt8)) → Option Bool) : Prop := ∀ (a0 : (List (List UInt8))), Oc (F a0) 135 [] [vq (zt za) a0] fun r => (vb r, [])
def xj (a0 : (List (List UInt8))) (v1 : Int) : Nat → Int → Option (Bool ⊕ Int)
  | 0, _ => none
  | m + 1, v2 =>
  if v2 < v1 then
   (zv v2).bind fun i2 =>
   (a0[i2]?).bind fun x3 =>
   (xr x3).bind fun r4 =>
   match r4 with
   | true =>
    if 0 < v2 then
     (zv (w64 (v2 - 1))).bind fun i6 =>
     (a0[i6]?).bind fun x7 =>
     (ya x7 x3).bind fun r8 =>
     if 0 <= r8 then
      some (.inl false)
     else
     xj a0 v1 m (w64 (v2 + 1))
    else
    xj a0 v1 m (w64 (v2 + 1))
   | false =>
    some (.inl false)
  else
  some (.inr v2)
theorem K6 (a0 : (List (List UInt8))) (v1 : Int) (m : Nat) : ∀ (v2 : Int), Ol (xj a0 v1 m v2) 135 (zN Tryz.f135 0) ⟨[(0, vq (zt za) a0), (5, vq (zt za) a0), (6, vi v1), (7, vi v2)], [], 0⟩ fun o => match o with | .inl o_0 => (.ret, ⟨[(2, vb o_0)], [], 0⟩) | .inr (o_1) => (.exit 0, ⟨[(0, vq (zt za) a0), (5, vq (zt za) a0), (6, vi v1), (7, vi o_1), (8, vb false)], [], 0⟩) := by
  induction m with
  | zero => intro v2 o h; cases h
  | succ m ih => exact fun v2 => tlp (
   .lI v2 v1 (fun c1 =>
    .na v2 fun i2 =>
    .ix0 (zt za) a0 i2 fun x3 =>
    .cl (qn x3) fun r4 =>
    .vN 0 r4 (
     .an 0 0 <|
     .lI 0 v2 (fun c5 =>
      .an 0 0 <|
      .na (w64 (v2 - 1)) fun i6 =>
      .ix0 (zt za) a0 i6 fun x7 =>
      .cl (xh x7 x3) fun r8 =>
      .gI 0 r8 (fun c9 =>
       .an 0 3 <|
       .an 1 3 <|
       .ret (.inl false)) fun c9 =>
      .an 0 3 <|
      .an 1 3 <|
      .go (ih (w64 (v2 + 1)))) fun c5 =>
     .an 0 0 <|
     .an 8 0 <|
     .an 1 0 <|
     .go (ih (w64 (v2 + 1)))) <|
    .an 0 0 <|
    .an 0 0 <|
    .an 0 0 <|
    .an 0 0 <|
    .ret (.inl false)) fun c1 =>
   .ret (.inr v2))
def Xa (n : Nat) (a0 : (List (List UInt8))) : Option Bool :=
 (xj a0 (a0.length : Int) n 0).bind fun o1 =>
 match o1 with
 | .inl o1_0 =>
  some o1_0
 | .inr (o1_1) =>
  some (decide ((a0.length : Int) <= 8))
theorem UO (n : Nat) : QC (Xa n) := fun a0 => tc (
 .le (zt za) a0 <|
 .l2 (K6 a0 (a0.length : Int) n 0) (fun o1_0 =>
  .ret o1_0) fun o1_1 =>
 .le (zt za) a0 <|
 .gD (a0.length : Int) 8 <|
 .ret (decide ((a0.length : Int) <= 8))) (zh Tryz.func135)
theorem ET (c : UInt8) : ∀ b : List UInt8, Lib.indexByte b c = if b.dropWhile (fun x => decide (x ≠ c)) = [] then -1 else (((b.takeWhile fun x => decide (x ≠ c)).length : Nat) : Int)
 | [] => rfl
 | x :: b => by
  have ih := ET c b
  rw [Lib.indexByte, List.dropWhile_cons, List.takeWhile_cons]
  by_cases h : x = c
  ·subst h; simp
  ·have hb : (x == c) = false := by simpa using h
   have hd : decide (x ≠ c) = true := decide_eq_true h
   rw [hb, if_neg (by simp), if_pos hd, if_pos hd, ih]
   by_cases hd : b.dropWhile (fun x => decide (x ≠ c)) = []
   ·rw [if_pos hd, if_pos hd]; rfl
   ·rw [if_neg hd, if_neg hd, if_neg (by simp), List.length_cons]; omega
theorem EU (a : List UInt8) (c : UInt8) : vn a [c] = some (Lib.indexByte a c) := by
 unfold vn ZW qx
 rw [if_neg (by simp), if_pos (by simp)]
 rfl
theorem zfx {a : List UInt8} (h : a.length <= 2 ^ 20) : XH a [91] = some (vJ a, (jX a).drop 1, decide (jX a ≠ [])) := by
 have hix : vn a [91] = some (if jX a = [] then -1 else ((vJ a).length : Int)) := by rw [EU, ET]; rfl
 unfold XH
 have hlen := N4 a
 by_cases hr : jX a = []
 ·have hn := Pn a
  rw [hr, List.append_nil] at hn
  rw [hix, if_pos hr, Option.bind_some, if_neg (by omega), hr, hn]; rfl
 ·obtain ⟨t, ht⟩ := GB hr
  have e : w64 (((vJ a).length : Int) + (([91] : List UInt8).length : Int)) = (((vJ a).length + 1 : Nat) : Int) := by
   show w64 (((vJ a).length : Int) + 1) = _
   exact z7 (by omega)
  have hl2 := hlen
  rw [ht, List.length_cons] at hl2
  rw [hix, if_neg hr, Option.bind_some, if_pos (by omega), zb, Option.bind_some, Pm (by omega), Option.bind_some, G9, e, zb, Option.bind_some, JZ (by omega), Option.bind_some, decide_eq_true hr, <- List.drop_drop, GA]
theorem ze2 (s : List UInt8) (c : UInt8) (h : s.length <= 2 ^ 20) : kc s [c] = some (decide (s.getLast? = some c)) := by
 unfold kc
 rw [show (([c] : List UInt8).length : Int) = 1 from rfl]
 rcases List.eq_nil_or_concat s with rfl | ⟨l, x, rfl⟩
 ·rw [if_neg (by simp)]; rfl
 ·simp only [List.concat_eq_append, List.length_append, List.length_cons, List.length_nil] at h ⊢
  rw [if_pos (by omega), show w64 (((l.length + (0 + 1) : Nat) : Int) - 1) = (l.length : Int) by rw [xz (by omega) (by omega)]; omega, zb, Option.bind_some, JZ (by simp), Option.bind_some, List.drop_left]
  unfold xp
  rw [Option.bind_some, List.getLast?_concat]
  congr 1
  exact decide_eq_decide.2 (by simp)
theorem V4 (s : List UInt8) (c : UInt8) (h : s.length <= 2 ^ 20) : qR s [c] = some (if s.getLast? = some c then (s.dropLast, true) else (s, false)) := by
 unfold qR
 rw [ze2 s c h, Option.bind_some]
 by_cases hc : s.getLast? = some c
 ·rw [decide_eq_true hc, if_pos hc]
  dsimp only
  have h0 : 0 < s.length := by
   cases s with
   | nil => simp at hc
   | cons x s => simp
  rw [show (([c] : List UInt8).length : Int) = 1 from rfl, jR (by omega) h0, zb, Option.bind_some, Pm (by omega), Option.bind_some, List.dropLast_eq_take]
 ·rw [decide_eq_false hc, if_neg hc]
theorem EV (s : List UInt8) (c : UInt8) : kf s [c] = some (if s[0]? = some c then (s.drop 1, true) else (s, false)) := by
 unfold kf ZX xp
 rw [show (([c] : List UInt8).length : Int) = ((1 : Nat) : Int) from rfl]
 cases s with
 | nil => rw [if_neg (by simp)]; rfl
 | cons x s =>
  rw [if_pos (by simp; omega), zb, Option.bind_some, Pm (by simp), Option.bind_some, Option.bind_some, Option.bind_some]
  show (match decide ([x] = [c]) with | true => _ | false => _) = _
  by_cases hc : x = c
  ·subst hc
   rw [decide_eq_true rfl]
   dsimp only
   rw [Option.bind_some, JZ (by simp), Option.bind_some]
   simp
  ·rw [decide_eq_false (by simpa using hc), if_neg (by simpa using hc)]
theorem Gs : ∀ n : Fin 100, k8 ((n.val : Nat) : Int) = some (QL n.val) := by
 have h1 : ∀ n : Fin 100, jk ((n.val : Nat) : Int) = some (QL n.val) := by decide +kernel
 intro n
 unfold k8 jw qm
 rw [if_pos rfl, if_pos (by omega), if_pos (by omega), h1]; rfl
theorem EW : ∀ n : Fin 100, Lib.atoiAll (QL n.val) = .ok ((n.val : Nat) : Int) := by decide +kernel
theorem B5 : ∀ n : Fin 100, Ka (QL n.val) = true := by decide +kernel
theorem EX {l : List UInt8} (h : Ka l = true) : ∃ n : Fin 100, l = QL n.val := by
 unfold Ka at h
 simp only [Bool.and_eq_true, Bool.not_eq_true', decide_eq_true_eq] at h
 obtain ⟨⟨⟨h1, h2⟩, h3⟩, h4⟩ := h
 match l, h1, h2 with
 | [x], _, _ =>
  simp only [List.all_cons, List.all_nil, Bool.and_true, inB, Bool.and_eq_true, decide_eq_true_eq] at h4
  refine ⟨⟨x.toNat - 48, by omega⟩, ?_⟩
  unfold QL
  rw [if_pos (by simp only; omega)]
  simp only [List.cons.injEq, and_true]
  refine UInt8.toNat_inj.1 ?_
  rw [UInt8.toNat_ofNat_of_lt' (by show _ < 256; omega)]; omega
 | [x, y], _, _ =>
  simp only [List.all_cons, List.all_nil, Bool.and_true, inB, Bool.and_eq_true, decide_eq_true_eq] at h4
  have hx : x.toNat ≠ 48 := fun e => by
   have : x = 48 := UInt8.toNat_inj.1 e
   subst this
   simp at h3
  refine ⟨⟨(x.toNat - 48) * 10 + (y.toNat - 48), by omega⟩, ?_⟩
  unfold QL
  rw [if_neg (by simp only; omega)]
  simp only [List.cons.injEq, and_true]
  constructor
  ·refine UInt8.toNat_inj.1 ?_
   rw [UInt8.toNat_ofNat_of_lt' (by show _ < 256; omega)]; omega
  ·refine UInt8.toNat_inj.1 ?_
   rw [UInt8.toNat_ofNat_of_lt' (by show _ < 256; omega)]; omega
theorem Gt {a : List UInt8} (h : a.length <= 2 ^ 20) : xq a = some (wD a) := if_pos h
theorem H2 {l : List UInt8} (hl : l.length <= 2 ^ 20) : ((je l).bind fun ⟨n, e⟩ =>
  match e with
  | true => some false
  | false => (y8 n 0 99).bind fun r13 =>
   match r13 with
   | true => (k8 n).bind fun r15 => some (decide (r15 = l))
   | false => some false) = some (Ka l) := by
 unfold je
 rw [if_pos (by omega), Option.bind_some]
 cases hd : Ka l with
 | true =>
  obtain ⟨n, rfl⟩ := EX hd
  have hr : y6 (QL n.val) = (((n.val : Nat) : Int), false) := by unfold y6; rw [EW n]
  have hn := n.isLt
  rw [hr]
  dsimp only
  rw [YW, Option.bind_some, decide_eq_true (show (0 : Int) <= ((n.val : Nat) : Int) ∧ ((n.val : Nat) : Int) <= 99 by omega)]
  dsimp only
  rw [Gs n, Option.bind_some, decide_eq_true rfl]
 | false =>
  obtain ⟨n, e⟩ := y6 l
  cases e with
  | true => rfl
  | false =>
   dsimp only
   rw [YW, Option.bind_some]
   by_cases hn : (0 : Int) <= n ∧ n <= 99
   ·rw [decide_eq_true hn]
    dsimp only
    have := Gs ⟨n.toNat, by omega⟩
    rw [show (((⟨n.toNat, by omega⟩ : Fin 100).val : Nat) : Int) = n by simp only; omega] at this
    rw [this, Option.bind_some]
    congr 1
    refine decide_eq_false fun e => ?_
    rw [<- e, B5] at hd; cases hd
   ·rw [decide_eq_false hn]
theorem Zs {a : List UInt8} (h : a.length <= 2 ^ 20) : xr a = some (yj a) := by
 unfold xr
 have hlen := N4 a
 rw [zfx h, Option.bind_some]
 dsimp only
 rw [Gt (by omega), Option.bind_some]
 unfold yj
 cases hn : wD (vJ a) with
 | false => rfl
 | true =>
  dsimp only
  by_cases hr : jX a = []
  ·rw [decide_eq_false (fun h => h hr), if_pos hr]; rfl
  rw [decide_eq_true hr, if_neg hr]
  dsimp only
  have ht : ((jX a).drop 1).length <= 2 ^ 20 := by rw [List.length_drop]; omega
  generalize (jX a).drop 1 = t at ht ⊢
  rw [V4 t 93 ht, Option.bind_some]
  by_cases h93 : t.getLast? = some 93
  ·rw [if_pos h93, if_pos h93]
   dsimp only
   have hl : t.dropLast.length <= 2 ^ 20 := by rw [List.length_dropLast]; omega
   generalize t.dropLast = l at hl ⊢
   rw [EV, Option.bind_some]
   unfold HF
   by_cases h34 : l[0]? = some 34
   ·rw [if_pos h34, if_pos h34]
    dsimp only
    rw [V4 _ 34 (by rw [List.length_drop]; omega), Option.bind_some]
    by_cases h2 : (l.drop 1).getLast? = some 34
    ·rw [if_pos h2, if_pos h2]
     dsimp only
     rw [Gt (by rw [List.length_dropLast, List.length_drop]; omega), Option.bind_some]; rfl
    ·rw [if_neg h2, if_neg h2]; rfl
   ·rw [if_neg h34, if_neg h34]
    dsimp only
    rw [V4 _ 34 hl, Option.bind_some]
    by_cases h2 : l.getLast? = some 34
    ·rw [if_pos h2]
     dsimp only
     have hd : Ka l = false := by
      unfold Ka
      have : l.all (inB 48 57) = false := by
       rcases List.eq_nil_or_concat l with rfl | ⟨k, x, rfl⟩
       ·simp at h2
       ·rw [List.concat_eq_append, List.getLast?_concat] at h2
        injection h2 with h2
        subst h2
        simp [inB]
      rw [this, Bool.and_false]
     rw [hd]; rfl
    ·rw [if_neg h2]
     dsimp only
     exact H2 hl
  ·rw [if_neg h93, if_neg h93]
   dsimp only
   rw [EV, Option.bind_some]
   by_cases h34 : t[0]? = some 34
   ·rw [if_pos h34]
    dsimp only
    rw [V4 _ 34 (by rw [List.length_drop]; omega), Option.bind_some]
    rfl
   ·rw [if_neg h34]
    dsimp only
    rw [V4 _ 34 ht, Option.bind_some]
    by_cases h2 : t.getLast? = some 34
    ·rw [if_pos h2]; rfl
    ·rw [if_neg h2]
     dsimp only
     unfold je
     rw [if_pos (by omega), Option.bind_some]
     obtain ⟨n, e⟩ := y6 t
     cases e <;> rfl
theorem L6 {a : List (List UInt8)} (hs : ∀ x ∈ a, x.length <= 2 ^ 20) (ha : a.length <= 2 ^ 40) : ∀ (d i m : Nat), i + d = a.length → d < m → ∃ z, xj a (a.length : Int) m (i : Int) = some (if j3 yj id a i d = true then .inr z else .inl false) := by
 intro d
 induction d with
 | zero =>
  intro i m hi hm
  obtain ⟨m, rfl, _⟩ := zi hm
  exact ⟨_, by rw [xj, if_neg (by omega)]; rfl⟩
 | succ d ih =>
  intro i m hi hm
  obtain ⟨m, rfl, hm'⟩ := zi hm
  have hil : i < a.length := by omega
  rw [xj, if_pos (by omega), zb, Option.bind_some, zd hil, Option.bind_some, Zs (hs _ (List.getElem_mem hil)), Option.bind_some, QM]
  obtain ⟨z, hz⟩ := ih (i + 1) m (by omega) (by omega)
  cases hx : yj a[i] with
  | false =>
   refine ⟨0, ?_⟩
   have : gOk yj id a i = false := by
    unfold gOk; rw [zd hil]; simp [hx]
   rw [this]; rfl
  | true =>
   dsimp only
   by_cases h0 : 0 < i
   ·rw [if_pos (by omega), jR (by omega) h0, zb, Option.bind_some, zd (show i - 1 < a.length by omega), Option.bind_some, VT hil h0, hx, Bool.true_and, z7 (by omega), hz]
    unfold ya y5
    simp only [Option.bind_some]
    by_cases hl : Op.bytesLess a[i - 1] a[i] = true
    ·rw [if_neg (by rw [X9]; exact fun h => h hl), show Op.bytesLess (id a[i - 1]) (id a[i]) = true from hl, Bool.true_and]; exact ⟨z, rfl⟩
    ·rw [if_pos (by rw [X9]; exact hl), show Op.bytesLess (id a[i - 1]) (id a[i]) = false from Bool.eq_false_iff.2 hl]; exact ⟨z, rfl⟩
   ·obtain rfl : i = 0 := by omega
    rw [if_neg (by omega), Kb hil, hx, Bool.true_and, z7 (by omega), hz]
    exact ⟨z, rfl⟩
def xL (a0 : (List (List UInt8))) : Option Bool := if bsz a0 <= 2 ^ 20 then some (jN a0) else none
theorem V5 (a0 : (List (List UInt8))) (r : Bool) (h : xL a0 = some r) : ∃ n, Xa n a0 = some r := by
 unfold xL at h
 obtain ⟨ha, h⟩ := zF h
 have hl := vB a0
 obtain ⟨z, hz⟩ := L6 (a := a0) (fun x hx => by have := X8 hx; omega) (by omega) a0.length 0 (a0.length + 1) (by omega) (by omega)
 refine ⟨a0.length + 1, ?_⟩
 unfold Xa
 rw [show ((0 : Nat) : Int) = 0 from rfl] at hz
 rw [<- h, hz, Option.bind_some]
 unfold jN
 cases j3 yj id a0 0 a0.length
 ·rw [Bool.and_false]; rfl
 ·rw [Bool.and_true]
  show some (decide ((a0.length : Int) <= 8)) = _
  congr 1
  exact decide_eq_decide.2 (by omega)
theorem Yr : QC xL := fun a0 r h => (V5 a0 r h).elim fun n hn => UO n a0 r hn
def q4 (a0 : GEntry) (a1 : (List UInt8)) : Option Int :=
 (ya a0.Addr a1).bind fun r1 =>
 some r1
theorem ZV (a0 : GEntry) (a1 : (List UInt8)) : Oc (q4 a0 a1) 163 [] [.val true (jU a0), vq za a1] fun r => (vi r, []) := tc (
 .cl (xh a0.Addr a1) fun r1 =>
 .ret r1) (zh Tryz.func163)
def xA (F : (List GEntry) → (List UInt8) → Option (Int × Bool)) : Prop := ∀ (a0 : (List GEntry)) (a1 : (List UInt8)), Oc (F a0 a1) 162 [] [vq zl a0, vq za a1, .val false [.fn 163 []]] fun r => (.tup [(false, [ci r.1]), (false, [.bool r.2])], [])
def ze (a0 : (List GEntry)) (a1 : (List UInt8)) (v2 : Int) : Nat → Int → Int → Option (Int × Int)
  | 0, _, _ => none
  | m + 1, v3, v4 =>
  if v3 < v4 then
   (zv (w64 (vC .shr .u64 (IntKind.u64.wrap (w64 (v3 + v4))) 1))).bind fun i2 =>
   (a0[i2]?).bind fun x3 =>
   (q4 x3 a1).bind fun r4 =>
   if r4 < 0 then
    ze a0 a1 v2 m (w64 ((w64 (vC .shr .u64 (IntKind.u64.wrap (w64 (v3 + v4))) 1)) + 1)) v4
   else
   ze a0 a1 v2 m v3 (w64 (vC .shr .u64 (IntKind.u64.wrap (w64 (v3 + v4))) 1))
  else
  some (v3, v4)
theorem qT (a0 : (List GEntry)) (a1 : (List UInt8)) (v2 : Int) (m : Nat) : ∀ (v3 : Int) (v4 : Int), Ol (ze a0 a1 v2 m v3 v4) 162 (zN Tryz.f162 0) ⟨[(0, vq zl a0), (1, vq za a1), (2, .val false [.fn 163 []]), (8, vi v2), (9, vi v3), (10, vi v4)], [], 0⟩ fun o => match o with | ⟨o_0, o_1⟩ => (.exit 0, ⟨[(0, vq zl a0), (1, vq za a1), (2, .val false [.fn 163 []]), (8, vi v2), (9, vi o_0), (10, vi o_1), (17, vb false)], [], 0⟩) := by
  induction m with
  | zero => intro v3 v4 o h; cases h
  | succ m ih => exact fun v3 v4 => tlp (
   .lI v3 v4 (fun c1 =>
    .q (.gTo 0 1 (by decide)) <|
    .cw (vC .shr .u64 (IntKind.u64.wrap (w64 (v3 + v4))) 1) <|
    .na (w64 (vC .shr .u64 (IntKind.u64.wrap (w64 (v3 + v4))) 1)) fun i2 =>
    .ix zX a0 i2 fun x3 =>
    .cl (ZV x3 a1) fun r4 =>
    .lI r4 0 (fun c5 =>
     .go (ih (w64 ((w64 (vC .shr .u64 (IntKind.u64.wrap (w64 (v3 + v4))) 1)) + 1)) v4)) fun c5 =>
    .go (ih v3 (w64 (vC .shr .u64 (IntKind.u64.wrap (w64 (v3 + v4))) 1)))) fun c1 =>
   .ret (v3, v4))
def zM (n : Nat) (a0 : (List GEntry)) (a1 : (List UInt8)) : Option (Int × Bool) :=
 (ze a0 a1 (a0.length : Int) n 0 (a0.length : Int)).bind fun ⟨o1_0, o1_1⟩ =>
 if o1_0 < (a0.length : Int) then
  (zv o1_0).bind fun i3 =>
  (a0[i3]?).bind fun x4 =>
  (q4 x4 a1).bind fun r5 =>
  some (o1_0, (decide (r5 = 0)))
 else
 some (o1_0, false)
theorem jx (n : Nat) : xA (zM n) := fun a0 a1 => tc (
 .le zl a0 <|
 .lp (qT a0 a1 (a0.length : Int) n 0 (a0.length : Int)) fun ⟨o1_0, o1_1⟩ =>
 .lI o1_0 (a0.length : Int) (fun c2 =>
  .na o1_0 fun i3 =>
  .ix zX a0 i3 fun x4 =>
  .cl (ZV x4 a1) fun r5 =>
  .eD r5 0 <|
  .ret (o1_0, (decide (r5 = 0)))) fun c2 =>
 .ret (o1_0, false)) (zh Tryz.func162)
theorem Rl (e : GEntry) (x : List UInt8) : q4 e x = some (Lib.compareBytes e.Addr x) := rfl
theorem zcb {a : List GEntry} {x : List UInt8} {v2 : Int} (ha : a.length <= 2 ^ 40) : ∀ (d i j m : Nat), j - i <= d → i <= j → j <= a.length → d < m → ∃ c c' : Nat, c <= a.length ∧ ze a x v2 m (i : Int) (j : Int) = some ((c : Int), (c' : Int)) := by
 intro d
 induction d with
 | zero =>
  intro i j m hd h1 h3 hm
  obtain ⟨m, rfl, _⟩ := zi hm
  exact ⟨i, j, by omega, by rw [ze, if_neg (by omega)]⟩
 | succ d ih =>
  intro i j m hd h1 h3 hm
  obtain ⟨m, rfl, hm'⟩ := zi hm
  by_cases hij : i < j
  ·have hk : (i + j) / 2 < a.length := by omega
   rw [ze, if_pos (by omega), Nz (by omega), zb, Option.bind_some, zd hk, Option.bind_some, Rl, Option.bind_some]
   split
   ·rw [z7 (by omega)]
    exact ih _ _ m (by omega) (by omega) h3 (by omega)
   ·exact ih _ _ m (by omega) (by omega) (by omega) (by omega)
  ·exact ⟨i, j, by omega, by rw [ze, if_neg (by omega)]⟩
theorem B6 {a : List GEntry} {x : List UInt8} {c : Nat} {v2 : Int} (hp : qv (a.map GEntry.Addr) x c) (ha : a.length <= 2 ^ 40) : ∀ (d i j m : Nat), j - i <= d → i <= c → c <= j → j <= a.length → d < m → ze a x v2 m (i : Int) (j : Int) = some ((c : Int), (c : Int)) := by
 intro d
 induction d with
 | zero =>
  intro i j m hd h1 h2 h3 hm
  obtain ⟨m, rfl, _⟩ := zi hm
  rw [ze, if_neg (by omega), show i = c by omega, show j = c by omega]
 | succ d ih =>
  intro i j m hd h1 h2 h3 hm
  obtain ⟨m, rfl, hm'⟩ := zi hm
  by_cases hij : i < j
  ·have hk : (i + j) / 2 < a.length := by omega
   rw [ze, if_pos (by omega), Nz (by omega), zb, Option.bind_some, zd hk, Option.bind_some, Rl, Option.bind_some]
   have hq := hp.2 ((i + j) / 2) (by rw [List.length_map]; exact hk)
   rw [List.getElem_map] at hq
   by_cases hl : Op.bytesLess a[(i + j) / 2].Addr x = true
   ·rw [if_pos (by rw [Jv]; exact hl), z7 (by omega)]
    have := hq.2 hl
    exact ih _ _ m (by omega) (by omega) h2 h3 (by omega)
   ·rw [if_neg (by rw [Jv]; exact hl)]
    have : ¬ (i + j) / 2 < c := fun h => hl (hq.1 h)
    exact ih _ _ m (by omega) h1 (by omega) (by omega) (by omega)
  ·rw [ze, if_neg (by omega), show i = c by omega, show j = c by omega]
def zz (a0 : (List GEntry)) (a1 : (List UInt8)) : Option (Int × Bool) := zM (a0.length + 5) a0 a1
theorem jc (a0 : (List GEntry)) (a1 : (List UInt8)) (r : (Int × Bool)) (h : zz a0 a1 = some r) : ∃ n, zM n a0 a1 = some r := ⟨_, h⟩
theorem B7 {a : List GEntry} {x : List UInt8} (ha : a.length <= 2 ^ 40) : ∃ (c : Nat) (b : Bool), zz a x = some ((c : Int), b) := by
 unfold zz zM
 obtain ⟨c, c', hc, hl⟩ := zcb (x := x) (v2 := (a.length : Int)) ha a.length 0 a.length (a.length + 5) (by omega) (by omega) (Nat.le_refl _) (by omega)
 rw [show ((0 : Nat) : Int) = 0 from rfl] at hl
 rw [hl, Option.bind_some]
 dsimp only
 by_cases h : c < a.length
 ·rw [if_pos (by omega), zb, Option.bind_some, zd h, Option.bind_some, Rl, Option.bind_some]
  exact ⟨c, _, rfl⟩
 ·rw [if_neg (by omega)]
  exact ⟨c, _, rfl⟩
theorem Ys {l : List GEntry} {a : List UInt8} : yB l a = true ↔ a ∈ l.map GEntry.Addr := by
 unfold yB
 rw [List.any_eq_true, List.mem_map]
 constructor
 ·rintro ⟨e, he, h⟩; exact ⟨e, he, of_decide_eq_true h⟩
 ·rintro ⟨e, he, rfl⟩; exact ⟨e, he, decide_eq_true rfl⟩
theorem EY {a : List GEntry} {x : List UInt8} (ha : a.length <= 2 ^ 40) (h : Asc (a.map GEntry.Addr)) : ∃ c : Nat, qv (a.map GEntry.Addr) x c ∧ zz a x = some ((c : Int), yB a x) := by
 obtain ⟨c, hp⟩ := qv.of h x
 refine ⟨c, hp, ?_⟩
 have hm := qv.mem h hp
 have hcl : c <= a.length := by have := hp.1; rwa [List.length_map] at this
 unfold zz zM
 have hl := B6 (v2 := (a.length : Int)) hp ha a.length 0 a.length (a.length + 5) (by omega) (by omega) hcl (Nat.le_refl _) (by omega)
 rw [show ((0 : Nat) : Int) = 0 from rfl] at hl
 rw [hl, Option.bind_some]
 dsimp only
 have hb : yB a x = decide ((a.map GEntry.Addr)[c]? = some x) := by
  cases hx : yB a x with
  | true => exact (decide_eq_true (hm.2 (Ys.1 hx))).symm
  | false => exact (decide_eq_false fun h' => by rw [Ys.2 (hm.1 h')] at hx; cases hx).symm
 rw [hb, List.getElem?_map]
 by_cases hc : c < a.length
 ·rw [if_pos (by omega), zb, Option.bind_some, zd hc, Option.bind_some, Rl, Option.bind_some]
  congr 2
  exact decide_eq_decide.2 ((TN _ _).trans (by simp))
 ·rw [if_neg (by omega), List.getElem?_eq_none (by omega)]
  simp
theorem jv : xA zz := fun a0 a1 r h => (jc a0 a1 r h).elim fun n hn => jx n a0 a1 r hn
def zJ (a0 : GState) (a1 : (List UInt8)) : Option (Int × Bool) :=
 (zz a0.Entries a1).bind fun ⟨r1_0, r1_1⟩ =>
 some (r1_0, r1_1)
theorem wo (a0 : GState) (a1 : (List UInt8)) : Oc (zJ a0 a1) 118 [] [.val true (yn a0), vq za a1] fun r => (.tup [(false, [ci r.1]), (false, [.bool r.2])], []) := tc (
 .cl (jv a0.Entries a1) fun ⟨r1_0, r1_1⟩ =>
 .ret (r1_0, r1_1)) (zh Tryz.func118)
def Jp (F : GState → Option Bool) : Prop := ∀ (a0 : GState), Oc (F a0) 78 [] [.val true (yn a0)] fun r => (vb r, [])
def xF (v0 : (List GEntry)) (v1 : Int) (a0 : GState) : Nat → Int → Option (Bool ⊕ Int)
  | 0, _ => none
  | m + 1, v2 =>
  if v2 < v1 then
   (zv v2).bind fun i2 =>
   (v0[i2]?).bind fun x3 =>
   (xr x3.Addr).bind fun r4 =>
   match r4 with
   | true =>
    if 0 < v2 then
     (zv (w64 (v2 - 1))).bind fun i6 =>
     (a0.Entries[i6]?).bind fun x7 =>
     (ya x7.Addr x3.Addr).bind fun r8 =>
     if 0 <= r8 then
      some (.inl false)
     else
     (yW x3.Val).bind fun r10 =>
     match r10 with
     | true =>
      (xL x3.Deps).bind fun r11 =>
      match r11 with
      | true =>
       (y8 x3.Turned 1 a0.Serial).bind fun r12 =>
       match r12 with
       | true =>
        xF v0 v1 a0 m (w64 (v2 + 1))
       | false =>
        some (.inl false)
      | false =>
       some (.inl false)
     | false =>
      some (.inl false)
    else
    (yW x3.Val).bind fun r6 =>
    match r6 with
    | true =>
     (xL x3.Deps).bind fun r7 =>
     match r7 with
     | true =>
      (y8 x3.Turned 1 a0.Serial).bind fun r8 =>
      match r8 with
      | true =>
       xF v0 v1 a0 m (w64 (v2 + 1))
      | false =>
       some (.inl false)
     | false =>
      some (.inl false)
    | false =>
     some (.inl false)
   | false =>
    some (.inl false)
  else
  some (.inr v2)
theorem V6 (v0 : (List GEntry)) (v1 : Int) (a0 : GState) (m : Nat) : ∀ (v2 : Int), Ol (xF v0 v1 a0 m v2) 78 (zN Tryz.f78 0) ⟨[(1, vp 0 0), (18, vq zl v0), (19, vi v1), (20, vi v2)], [.var (yn a0)], 0⟩ fun o => match o with | .inl o_0 => (.ret, ⟨[(2, vb o_0)], [], 0⟩) | .inr (o_1) => (.exit 0, ⟨[(1, vp 0 0), (18, vq zl v0), (19, vi v1), (20, vi o_1), (21, vb false)], [.var (yn a0)], 0⟩) := by
  induction m with
  | zero => intro v2 o h; cases h
  | succ m ih => exact fun v2 => tlp (
   .lI v2 v1 (fun c1 =>
    .na v2 fun i2 =>
    .ix zX v0 i2 fun x3 =>
    .cl (qn x3.Addr) fun r4 =>
    .vN 0 r4 (
     .an 0 0 <|
     .lI 0 v2 (fun c5 =>
      .an 0 0 <|
      .na (w64 (v2 - 1)) fun i6 =>
      .ix zX a0.Entries i6 fun x7 =>
      .cl (xh x7.Addr x3.Addr) fun r8 =>
      .gI 0 r8 (fun c9 =>
       .an 0 3 <|
       .an 1 3 <|
       .ret (.inl false)) fun c9 =>
      .an 0 3 <|
      .an 1 3 <|
      .cl (Zr x3.Val) fun r10 =>
      .vN 2 r10 (
       .an 0 0 <|
       .an 0 0 <|
       .cl (Yr x3.Deps) fun r11 =>
       .an 0 1 <|
       .an 0 1 <|
       .vN 0 r11 (
        .an 0 0 <|
        .an 0 0 <|
        .an 0 0 <|
        .an 0 0 <|
        .cl (xT x3.Turned 1 a0.Serial) fun r12 =>
        .an 0 1 <|
        .an 0 1 <|
        .vN 0 r12 (
         .go (ih (w64 (v2 + 1)))) <|
        .ret (.inl false)) <|
       .an 0 0 <|
       .an 0 0 <|
       .an 0 0 <|
       .an 0 0 <|
       .an 0 0 <|
       .an 0 0 <|
       .ret (.inl false)) <|
      .an 0 0 <|
      .an 0 0 <|
      .an 0 0 <|
      .an 0 0 <|
      .ret (.inl false)) fun c5 =>
     .an 0 0 <|
     .an 11 0 <|
     .an 1 0 <|
     .cl (Zr x3.Val) fun r6 =>
     .vN 2 r6 (
      .an 0 0 <|
      .an 0 0 <|
      .cl (Yr x3.Deps) fun r7 =>
      .an 0 1 <|
      .an 0 1 <|
      .vN 0 r7 (
       .an 0 0 <|
       .an 0 0 <|
       .an 0 0 <|
       .an 0 0 <|
       .cl (xT x3.Turned 1 a0.Serial) fun r8 =>
       .an 0 1 <|
       .an 0 1 <|
       .vN 0 r8 (
        .go (ih (w64 (v2 + 1)))) <|
       .ret (.inl false)) <|
      .an 0 0 <|
      .an 0 0 <|
      .an 0 0 <|
      .an 0 0 <|
      .an 0 0 <|
      .an 0 0 <|
      .ret (.inl false)) <|
     .an 0 0 <|
     .an 0 0 <|
     .an 0 0 <|
     .an 0 0 <|
     .ret (.inl false)) <|
    .an 0 0 <|
    .an 0 0 <|
    .an 0 0 <|
    .an 0 0 <|
    .ret (.inl false)) fun c1 =>
   .ret (.inr v2))
def ZO (n : Nat) (a0 : GState) : Option Bool :=
 (y8 a0.Serial 0 1000000).bind fun r1 =>
 match r1 with
 | true =>
  if 16 < (a0.Entries.length : Int) then
   some false
  else
  (xF a0.Entries (a0.Entries.length : Int) a0 n 0).bind fun o3 =>
  match o3 with
  | .inl o3_0 =>
   some o3_0
  | .inr (o3_1) =>
   if (a0.Pending.length : Int) = 0 then
    some (decide (a0.Act = 0))
   else
   (zJ a0 a0.Pending).bind fun ⟨r5_0, r5_1⟩ =>
   match a0.Open with
   | true =>
    (xr a0.Pending).bind fun r6 =>
    match r6 with
    | true =>
     (y8 a0.Act 1 4).bind fun r7 =>
     match r7 with
     | true =>
      if r5_1 = true then
       if a0.Act = 1 then
        some false
       else
       some true
      else
      if a0.Act = 1 then
       some true
      else
      some false
     | false =>
      some false
    | false =>
     some false
   | false =>
    some false
 | false =>
  some false
theorem On (n : Nat) : Jp (ZO n) := fun a0 => tc (
 .cl (xT a0.Serial 0 1000000) fun r1 =>
 .vN 0 r1 (
  .an 0 0 <|
  .an 0 0 <|
  .le zl a0.Entries <|
  .an 0 0 <|
  .lI 16 (a0.Entries.length : Int) (fun c2 =>
   .an 0 0 <|
   .ret false) fun c2 =>
  .an 0 0 <|
  .le zl a0.Entries <|
  .l2 (V6 a0.Entries (a0.Entries.length : Int) a0 n 0) (fun o3_0 =>
   .ret o3_0) fun o3_1 =>
  .le za a0.Pending <|
  .eI (a0.Pending.length : Int) 0 (fun c4 =>
   .eD a0.Act 0 <|
   .ret (decide (a0.Act = 0))) fun c4 =>
  .cl (wo a0 a0.Pending) fun ⟨r5_0, r5_1⟩ =>
  .vM 0 a0.Open (
   .az 0 0 <|
   .az 0 0 <|
   .cl (qn a0.Pending) fun r6 =>
   .az 0 1 <|
   .vM 0 r6 (
    .az 0 0 <|
    .az 0 0 <|
    .cl (xT a0.Act 1 4) fun r7 =>
    .az 0 1 <|
    .vM 0 r7 (
     .az 0 0 <|
     .az 0 0 <|
     .az 0 0 <|
     .eD a0.Act 1 <|
     .az 0 0 <|
     .sp (r5_1 = true) (fun c8 =>
      .sp (a0.Act = 1) (fun c9 =>
       .eb c8 (nT (dT c9)) <|
       .az 0 0 <|
       .ret false) fun c9 =>
      .eb c8 (nF (dF c9)) <|
      .az 0 0 <|
      .ret true) fun c8 =>
     .sp (a0.Act = 1) (fun c9 =>
      .eb (bF c8) (nT (dT c9)) <|
      .az 0 0 <|
      .ret true) fun c9 =>
     .eb (bF c8) (nF (dF c9)) <|
     .az 0 0 <|
     .ret false) <|
    .az 0 0 <|
    .az 0 0 <|
    .az 0 0 <|
    .az 0 0 <|
    .az 0 0 <|
    .ret false) <|
   .az 0 0 <|
   .az 0 0 <|
   .az 0 0 <|
   .ret false) <|
  .az 0 0 <|
  .az 0 0 <|
  .az 0 0 <|
  .ret false) <|
 .an 0 0 <|
 .an 0 0 <|
 .an 0 0 <|
 .an 0 0 <|
 .ret false) (zh Tryz.func78)
theorem zfy {v : GValue} (h : vsz v <= 2 ^ 20) : jb v = some (kK v) := by
 unfold jb qK wm kK
 rw [if_pos ⟨h, by decide, by decide⟩, Option.bind_some]
 rw [show (5 : Int).toNat = 5 from rfl]
 cases hs : shV 5 v
 ·simp
 ·dsimp only
  rw [if_pos h, Option.bind_some]
  simp
theorem EZ {v : GValue} (h : vsz v <= 2 ^ 20) : yW v = some (ju v) := by
 unfold yW YY ju
 by_cases h5 : v.Kind = 5
 ·rw [if_pos h5, zfy h, Option.bind_some, decide_eq_true h5, Bool.true_and]
  cases hv : kK v with
  | false => rfl
  | true =>
   simp only [Bool.true_and]
   unfold wn
   rw [if_pos (by omega)]; rfl
 ·rw [if_neg h5, decide_eq_false h5]; rfl
theorem H3 {l : List (List UInt8)} (h : bsz l <= 2 ^ 20) : xL l = some (jN l) := if_pos h
theorem MZ {s : GState} (hs : yr s.Entries <= 2 ^ 20) : ∀ (d i m : Nat), i + d = s.Entries.length → d < m → ∃ z, xF s.Entries (s.Entries.length : Int) s m (i : Int) = some (if j3 (Wk s.Serial) GEntry.Addr s.Entries i d = true then .inr z else .inl false) := by
 have hlen := qP s.Entries
 intro d
 induction d with
 | zero =>
  intro i m hi hm
  obtain ⟨m, rfl, _⟩ := zi hm
  exact ⟨_, by rw [xF, if_neg (by omega)]; rfl⟩
 | succ d ih =>
  intro i m hi hm
  obtain ⟨m, rfl, hm'⟩ := zi hm
  have hil : i < s.Entries.length := by omega
  have hz0 := Qh (List.getElem_mem hil)
  obtain ⟨z, hz⟩ := ih (i + 1) m (by omega) (by omega)
  rw [xF, if_pos (by omega), zb, Option.bind_some, zd hil, Option.bind_some, QM]
  unfold esz at hz0
  rw [Zs (by omega), Option.bind_some, EZ (by omega), Option.bind_some, H3 (by omega), Option.bind_some, YW, Option.bind_some, z7 (by omega), hz]
  generalize j3 _ GEntry.Addr s.Entries (i + 1) d = g
  by_cases h0 : 0 < i
  ·rw [VT hil h0]
   unfold Wk
   cases yj s.Entries[i].Addr with
   | false => exact ⟨0, rfl⟩
   | true =>
    dsimp only
    rw [if_pos (by omega), jR (by omega) h0, zb, Option.bind_some, zd (show i - 1 < s.Entries.length by omega), Option.bind_some]
    unfold ya y5
    simp only [Option.bind_some]
    have hc := X9 s.Entries[i - 1].Addr s.Entries[i].Addr
    generalize Lib.compareBytes s.Entries[i - 1].Addr s.Entries[i].Addr = q at hc ⊢
    generalize Op.bytesLess s.Entries[i - 1].Addr s.Entries[i].Addr = b at hc ⊢
    refine ⟨z, ?_⟩
    cases b with
    | true =>
     rw [if_neg (by rw [hc]; exact fun h => h rfl)]
     cases ju s.Entries[i].Val <;> cases jN s.Entries[i].Deps <;> cases decide (1 <= s.Entries[i].Turned ∧ s.Entries[i].Turned <= s.Serial) <;> simp
    | false =>
     rw [if_pos (by rw [hc]; simp)]
     simp
  ·obtain rfl : i = 0 := by omega
   rw [Kb hil]
   unfold Wk
   cases yj s.Entries[0].Addr with
   | false => exact ⟨0, rfl⟩
   | true =>
    dsimp only
    rw [if_neg (by omega)]
    refine ⟨z, ?_⟩
    cases ju s.Entries[0].Val <;> cases jN s.Entries[0].Deps <;> cases decide (1 <= s.Entries[0].Turned ∧ s.Entries[0].Turned <= s.Serial) <;> simp
def kC (a0 : GState) : Option Bool := if ssz a0 <= 2 ^ 20 then some (stB a0) else none
theorem Da {s : GState} (h : ssz s <= 2 ^ 20) : kC s = some (stB s) := if_pos h
theorem NU {s : GState} (h : ssz s <= 2 ^ 20) : ZO (s.Entries.length + 1) s = some (stB s) := by
 have hlen := qP s.Entries
 unfold ssz at h
 obtain ⟨z, hz⟩ := MZ (s := s) (by omega) s.Entries.length 0 (s.Entries.length + 1) (by omega) (by omega)
 rw [show ((0 : Nat) : Int) = 0 from rfl] at hz
 unfold ZO
 rw [YW, Option.bind_some]
 unfold stB
 by_cases h1 : (0 : Int) <= s.Serial ∧ s.Serial <= 1000000
 ·rw [decide_eq_true h1]
  dsimp only
  by_cases h2 : (16 : Int) < (s.Entries.length : Int)
  ·rw [if_pos h2, decide_eq_false (p := 0 <= s.Serial ∧ s.Serial <= 1000000 ∧ s.Entries.length <= 16) (by omega)]; rfl
  rw [if_neg h2, hz, decide_eq_true (p := 0 <= s.Serial ∧ s.Serial <= 1000000 ∧ s.Entries.length <= 16) (by omega), Bool.true_and]
  have he : Po s = j3 (Wk s.Serial) GEntry.Addr s.Entries 0 s.Entries.length := rfl
  cases hg : j3 (Wk s.Serial) GEntry.Addr s.Entries 0 s.Entries.length with
  | false => rw [he, hg]; rfl
  | true =>
   rw [he, hg, Bool.true_and]
   simp only [if_true, Option.bind_some]
   unfold LO
   by_cases hp : s.Pending = []
   ·rw [if_pos (by rw [hp]; rfl), if_pos hp]
   ·have hp0 : ¬ (s.Pending.length : Int) = 0 := fun e => hp (List.eq_nil_of_length_eq_zero (by omega))
    rw [if_neg hp0, if_neg hp]
    unfold zJ
    obtain ⟨c, _, hc⟩ := EY (x := s.Pending) (a := s.Entries) (by omega) (N5 hg)
    rw [hc, Option.bind_some, Option.bind_some]
    dsimp only
    rw [Zs (by omega), Option.bind_some, YW, Option.bind_some]
    cases s.Open
    ·rfl
    cases yj s.Pending
    ·rfl
    by_cases ha : (1 : Int) <= s.Act ∧ s.Act <= 4
    ·rw [decide_eq_true ha]
     by_cases h1 : s.Act = 1 <;> cases yB s.Entries s.Pending <;> simp [h1]
    ·rw [decide_eq_false ha]; rfl
 ·rw [decide_eq_false h1, decide_eq_false (p := 0 <= s.Serial ∧ s.Serial <= 1000000 ∧ s.Entries.length <= 16) (fun h => h1 ⟨h.1, h.2.1⟩)]; rfl
theorem RD (a0 : GState) (r : Bool) (h : kC a0 = some r) : ∃ n, ZO n a0 = some r := by
 unfold kC at h
 obtain ⟨ha, h⟩ := zF h
 exact ⟨_, by rw [<- h]; exact NU ha⟩
theorem UP : Jp kC := fun a0 r h => (RD a0 r h).elim fun n hn => On n a0 r hn
def yb (a0 : (List UInt8)) : Option (List UInt8) :=
 if yM 1 (0 + a0.length) then
 some a0
 else none
theorem xG (a0 : (List UInt8)) : Oc (yb a0) 119 [] [vq za a0] fun r => (.val false [.own 1 (eL za r)], []) := tc (
 .ap 1 zZ [] a0 fun n1 =>
 .ret a0) (zh Tryz.func119)
def WU (F : (List (List UInt8)) → Option (List (List UInt8))) : Prop := ∀ (a0 : (List (List UInt8))), Oc (F a0) 139 [] [vq (zt za) a0] fun r => (.val false [.own 1 (eL (q9 1 za) r)], [])
def xN (a0 : (List (List UInt8))) (v1 : Int) : Nat → Int → (List (List UInt8)) → Option (Int × (List (List UInt8)))
  | 0, _, _ => none
  | m + 1, v2, v3 =>
  if v2 < v1 then
   (zv v2).bind fun i2 =>
   (a0[i2]?).bind fun x3 =>
   (yb x3).bind fun r4 =>
   if yM 24 (v3.length + [r4].length) then
   xN a0 v1 m (w64 (v2 + 1)) (v3 ++ [r4])
   else none
  else
  some (v2, v3)
theorem JO (a0 : (List (List UInt8))) (v1 : Int) (m : Nat) : ∀ (v2 : Int) (v3 : (List (List UInt8))), Ol (xN a0 v1 m v2 v3) 139 (zN Tryz.f139 0) ⟨[(3, vr 0), (7, vq (zt za) a0), (8, vi v1), (9, vi v2)], [.obj 1 (eL (q9 1 za) v3)], 0⟩ fun o => match o with | ⟨o_0, o_1⟩ => (.exit 0, ⟨[(3, vr 0), (7, vq (zt za) a0), (8, vi v1), (9, vi o_0), (10, vb false)], [.obj 1 (eL (q9 1 za) o_1)], 0⟩) := by
  induction m with
  | zero => intro v2 v3 o h; cases h
  | succ m ih => exact fun v2 v3 => tlp (
   .lI v2 v1 (fun c1 =>
    .na v2 fun i2 =>
    .ix0 (zt za) a0 i2 fun x3 =>
    .cl (xG x3) fun r4 =>
    .ao 24 (Tb 1 kh) v3 [r4] fun n5 =>
    .go (ih (w64 (v2 + 1)) (v3 ++ [r4]))) fun c1 =>
   .ret (v2, v3))
def Yt (n : Nat) (a0 : (List (List UInt8))) : Option (List (List UInt8)) :=
 (xN a0 (a0.length : Int) n 0 []).bind fun ⟨o1_0, o1_1⟩ =>
 some o1_1
theorem T4 (n : Nat) : WU (Yt n) := fun a0 => tc (
 .le (zt za) a0 <|
 .lp (JO a0 (a0.length : Int) n 0 []) fun ⟨o1_0, o1_1⟩ =>
 .ret o1_1) (zh Tryz.func139)
theorem V7 {a : List UInt8} (h : a.length <= 2 ^ 39) : yb a = some a := if_pos (ZU (by decide) (by omega))
theorem Oo {a : List (List UInt8)} (ha : bsz a <= 2 ^ 39) : ∀ (l p : List (List UInt8)) (m : Nat), a = p ++ l → l.length < m → ∃ z, xN a (a.length : Int) m (p.length : Int) p = some (z, a) := by
 have hl := vB a
 intro l
 induction l with
 | nil =>
  intro p m he hm
  subst he
  obtain ⟨m, rfl, _⟩ := zi hm
  exact ⟨_, by rw [xN, if_neg (XA p)]; simp; rfl⟩
 | cons x l ih =>
  intro p m he hm
  obtain ⟨m, rfl, hm'⟩ := zi hm
  have hx : 1 + x.length <= bsz a := X8 (by rw [he]; simp)
  have hlen : a.length = p.length + (l.length + 1) := by rw [he]; simp
  obtain ⟨z, hz⟩ := ih (p ++ [x]) m (by rw [he]; simp) (by simp only [List.length_cons] at hm'; omega)
  refine ⟨z, ?_⟩
  rw [xN, if_pos (by omega), zb, Option.bind_some, show a[p.length]? = some x by rw [he]; exact wP p x l, Option.bind_some, V7 (by omega), Option.bind_some, if_pos (ZU (by decide) (by simp only [List.length_cons, List.length_nil]; omega)), qw p x (by omega), hz]
def yN (a0 : (List (List UInt8))) : Option (List (List UInt8)) := if bsz a0 <= 2 ^ 39 then some a0 else none
theorem Na {a : List (List UInt8)} (h : bsz a <= 2 ^ 39) : yN a = some a := if_pos h
theorem K7 (a0 : (List (List UInt8))) (r : (List (List UInt8))) (h : yN a0 = some r) : ∃ n, Yt n a0 = some r := by
 unfold yN at h
 obtain ⟨ha, h⟩ := zF h
 obtain ⟨z, hz⟩ := Oo ha a0 [] (a0.length + 1) rfl (by omega)
 refine ⟨a0.length + 1, ?_⟩
 unfold Yt
 simp only [List.length_nil, Int.natCast_zero] at hz
 rw [hz]; exact h
theorem ZZ : WU yN := fun a0 r h => (K7 a0 r h).elim fun n hn => T4 n a0 r hn
def jl (F : GValue → Option GValue) : Prop := ∀ (a0 : GValue), Oc (F a0) 138 [] [.val true (zq a0)] fun r => (.val true (jT r), [])
def xO (G_impl_copyValue : GValue → Option GValue) (v0 : (List GValue)) (v1 : Int) (v3 : Int) (v4 : Int) (v5 : Int) (v6 : Int) (v7 : (List UInt8)) (v8 : (List (List UInt8))) (v9 : (List GValue)) (v10 : (List UInt8)) (v11 : (List (List UInt8))) : Nat → Int → (List GValue) → Option (Int × (List GValue))
  | 0, _, _ => none
  | m + 1, v2, v12 =>
  if v2 < v1 then
   (zv v2).bind fun i2 =>
   (v0[i2]?).bind fun x3 =>
   (G_impl_copyValue x3).bind fun r4 =>
   if yM 88 (v12.length + [r4].length) then
   xO G_impl_copyValue v0 v1 v3 v4 v5 v6 v7 v8 v9 v10 v11 m (w64 (v2 + 1)) (v12 ++ [r4])
   else none
  else
  some (v2, v12)
theorem JP (G_impl_copyValue : GValue → Option GValue) (H_impl_copyValue : jl G_impl_copyValue) (v0 : (List GValue)) (v1 : Int) (v3 : Int) (v4 : Int) (v5 : Int) (v6 : Int) (v7 : (List UInt8)) (v8 : (List (List UInt8))) (v9 : (List GValue)) (v10 : (List UInt8)) (v11 : (List (List UInt8))) (m : Nat) : ∀ (v2 : Int) (v12 : (List GValue)), Ol (xO G_impl_copyValue v0 v1 v3 v4 v5 v6 v7 v8 v9 v10 v11 m v2 v12) 138 (zN Tryz.f138 0) ⟨[(2, vp 0 0), (3, vp 1 0), (18, vq zf v0), (19, vi v1), (20, vi v2)], [.var [ci v3, ci v4, .ref 2, .ref 3, .ref 4], .var [ci v5, ci v6, .ref 5, .ref 6, .ref 7], .obj 1 (eL za v7), .obj 1 (eL (q9 1 za) v8), .obj 5 (eL ye v9), .obj 1 (eL za v10), .obj 1 (eL (q9 1 za) v11), .obj 5 (eL ye v12)], 0⟩ fun o => match o with | ⟨o_0, o_1⟩ => (.exit 0, ⟨[(2, vp 0 0), (3, vp 1 0), (18, vq zf v0), (19, vi v1), (20, vi o_0), (21, vb false)], [.var [ci v3, ci v4, .ref 2, .ref 3, .ref 4], .var [ci v5, ci v6, .ref 5, .ref 6, .ref 7], .obj 1 (eL za v7), .obj 1 (eL (q9 1 za) v8), .obj 5 (eL ye v9), .obj 1 (eL za v10), .obj 1 (eL (q9 1 za) v11), .obj 5 (eL ye o_1)], 0⟩) := by
  induction m with
  | zero => intro v2 v12 o h; cases h
  | succ m ih => exact fun v2 v12 => tlp (
   .lI v2 v1 (fun c1 =>
    .na v2 fun i2 =>
    .ix zO v0 i2 fun x3 =>
    .cl (H_impl_copyValue x3) fun r4 =>
    .nd (yM 88 (v12.length + [r4].length)) fun n5 =>
    .q ⟨.room 88 (eL ye v12) ([(jT r4)] : List (List C)), .b true, by rw [(show ([(jT r4)] : List (List C)) = eL ye [r4] from (TK (vd r4) O3))]; exact (A.room n5)⟩ <|
    .q ⟨.uni 5 ([(jT r4)] : List (List C)), .b true, by rw [(show ([(jT r4)] : List (List C)) = eL ye [r4] from (TK (vd r4) O3))]; exact (A.uniO Qe)⟩ <|
    .q ⟨.app (eL ye v12) ([(jT r4)] : List (List C)), .l (eL ye (v12 ++ [r4])), by rw [(show ([(jT r4)] : List (List C)) = eL ye [r4] from (TK (vd r4) O3))]; exact A.app⟩ <|
    .go (ih (w64 (v2 + 1)) (v12 ++ [r4]))) fun c1 =>
   .ret (v2, v12))
def Yu (G_impl_copyValue : GValue → Option GValue) (n : Nat) (a0 : GValue) : Option GValue :=
 (yb a0.S).bind fun r1 =>
 (yN a0.K).bind fun r2 =>
 (xO G_impl_copyValue a0.L (a0.L.length : Int) 0 0 a0.Kind a0.N [] [] [] r1 r2 n 0 []).bind fun ⟨o3_0, o3_1⟩ =>
 some (GValue.mk a0.Kind a0.N r1 r2 o3_1)
theorem T5 (G_impl_copyValue : GValue → Option GValue) (H_impl_copyValue : jl G_impl_copyValue) (n : Nat) : jl (Yu G_impl_copyValue n) := fun a0 => tc (
 .cl (xG a0.S) fun r1 =>
 .cl (ZZ a0.K) fun r2 =>
 .le zf a0.L <|
 .lp (JP G_impl_copyValue H_impl_copyValue a0.L (a0.L.length : Int) 0 0 a0.Kind a0.N [] [] [] r1 r2 n 0 []) fun ⟨o3_0, o3_1⟩ =>
 .ret (GValue.mk a0.Kind a0.N r1 r2 o3_1)) (zh Tryz.func138)
def yO : Nat → GValue → Option GValue
 | 0, _ => none
 | n + 1, a0 => Yu (yO n) n a0
theorem V8 (n : Nat) : jl (yO n) := by
 induction n with
 | zero => exact fun _ _ h => (by rw [yO] at h; cases h)
 | succ n ih =>
  have ih_impl_copyValue := ih
  exact fun a0 r h => T5 (yO n) ih_impl_copyValue n a0 r (by rw [yO] at h; exact h)
theorem Oq {G : GValue → Option GValue} {a : List GValue} {v3 v4 v5 v6 : Int} {v7 : List UInt8} {v8 : List (List UInt8)} {v9 : List GValue} {v10 : List UInt8} {v11 : List (List UInt8)} (ha : a.length <= 2 ^ 39) : ∀ (l p : List GValue) (m : Nat), a = p ++ l → (∀ x ∈ l, G x = some x) → l.length < m → ∃ z, xO G a (a.length : Int) v3 v4 v5 v6 v7 v8 v9 v10 v11 m (p.length : Int) p = some (z, a) := by
 intro l
 induction l with
 | nil =>
  intro p m he _ hm
  subst he
  obtain ⟨m, rfl, _⟩ := zi hm
  exact ⟨_, by rw [xO, if_neg (XA p)]; simp; rfl⟩
 | cons x l ih =>
  intro p m he hG hm
  obtain ⟨m, rfl, hm'⟩ := zi hm
  have hlen : a.length = p.length + (l.length + 1) := by rw [he]; simp
  obtain ⟨z, hz⟩ := ih (p ++ [x]) m (by rw [he]; simp) (fun y hy => hG y (List.mem_cons_of_mem _ hy)) (by simp only [List.length_cons] at hm'; omega)
  refine ⟨z, ?_⟩
  rw [xO, if_pos (by omega), zb, Option.bind_some, show a[p.length]? = some x by rw [he]; exact wP p x l, Option.bind_some, hG x List.mem_cons_self, Option.bind_some, if_pos (ZU (by decide) (by simp only [List.length_cons, List.length_nil]; omega)), qw p x (by omega), hz]
theorem NV : ∀ (N : Nat) (v : GValue), vsz v < N → vsz v <= 2 ^ 39 → ∀ f : Nat, vsz v + 2 <= f → yO f v = some v := by
 intro N
 induction N with
 | zero => intro v hv; omega
 | succ N ih =>
  intro v hv hs f hf
  obtain ⟨f, rfl, _⟩ := zi (show 0 < f by omega)
  have he := jq v
  have hl := xm v.L
  rw [yO]
  unfold Yu
  rw [V7 (by omega), Na (by omega)]
  simp only [Option.bind_some]
  obtain ⟨z, hz⟩ := Oq (G := yO f) (a := v.L) (v3 := 0) (v4 := 0) (v5 := v.Kind) (v6 := v.N) (v7 := []) (v8 := []) (v9 := []) (v10 := v.S) (v11 := v.K) (by omega) v.L [] f rfl (fun x hx => by
   have := qu hx
   exact ih x (by omega) (by omega) f (by omega)) (by omega)
  simp only [List.length_nil, Int.natCast_zero] at hz
  rw [hz]
  exact congrArg some (GValue.eta v)
def xV (a0 : GValue) : Option GValue := if vsz a0 <= 2 ^ 39 then some a0 else none
theorem K8 (a0 : GValue) (r : GValue) (h : xV a0 = some r) : ∃ n, yO n a0 = some r := by
 unfold xV at h
 obtain ⟨ha, h⟩ := zF h
 exact ⟨vsz a0 + 2, by rw [<- h]; exact NV _ a0 (Nat.lt_succ_self _) ha _ (Nat.le_refl _)⟩
theorem Wo : jl xV := by
 intro a0 r h
 obtain ⟨n, hn⟩ := K8 a0 r h
 exact (V8 n) a0 r hn
def va (a0 : GEntry) : Option GEntry :=
 (yb a0.Addr).bind fun r1 =>
 (xV a0.Val).bind fun r2 =>
 (yN a0.Deps).bind fun r3 =>
 some (GEntry.mk r1 r2 r3 a0.Taint a0.Turned)
theorem RE (a0 : GEntry) : Oc (va a0) 177 [] [.val true (jU a0)] fun r => (.val true (TM r), []) := tc (
 .cl (xG a0.Addr) fun r1 =>
 .cl (Wo a0.Val) fun r2 =>
 .cl (ZZ a0.Deps) fun r3 =>
 .ret (GEntry.mk r1 r2 r3 a0.Taint a0.Turned)) (zh Tryz.func177)
def WV (F : GState → Option GState) : Prop := ∀ (a0 : GState), Oc (F a0) 137 [] [.val true (yn a0)] fun r => (.val true (Qf r), [])
def xP (v0 : (List GEntry)) (v1 : Int) (v3 : Int) (v4 : Bool) (v5 : Int) (v6 : Int) (v7 : Bool) (v8 : Int) (v9 : (List UInt8)) (v10 : (List GEntry)) (v11 : (List UInt8)) : Nat → Int → (List GEntry) → Option (Int × (List GEntry))
  | 0, _, _ => none
  | m + 1, v2, v12 =>
  if v2 < v1 then
   (zv v2).bind fun i2 =>
   (v0[i2]?).bind fun x3 =>
   (va x3).bind fun r4 =>
   if yM 152 (v12.length + [r4].length) then
   xP v0 v1 v3 v4 v5 v6 v7 v8 v9 v10 v11 m (w64 (v2 + 1)) (v12 ++ [r4])
   else none
  else
  some (v2, v12)
theorem JQ (v0 : (List GEntry)) (v1 : Int) (v3 : Int) (v4 : Bool) (v5 : Int) (v6 : Int) (v7 : Bool) (v8 : Int) (v9 : (List UInt8)) (v10 : (List GEntry)) (v11 : (List UInt8)) (m : Nat) : ∀ (v2 : Int) (v12 : (List GEntry)), Ol (xP v0 v1 v3 v4 v5 v6 v7 v8 v9 v10 v11 m v2 v12) 137 (zN Tryz.f137 0) ⟨[(2, vp 0 0), (3, vp 1 0), (17, vq zl v0), (18, vi v1), (19, vi v2)], [.var [ci v3, .bool v4, .ref 2, ci v5, .ref 3], .var [ci v6, .bool v7, .ref 4, ci v8, .ref 5], .obj 1 (eL za v9), .obj 9 (eL yc v10), .obj 1 (eL za v11), .obj 9 (eL yc v12)], 0⟩ fun o => match o with | ⟨o_0, o_1⟩ => (.exit 0, ⟨[(2, vp 0 0), (3, vp 1 0), (17, vq zl v0), (18, vi v1), (19, vi o_0), (20, vb false)], [.var [ci v3, .bool v4, .ref 2, ci v5, .ref 3], .var [ci v6, .bool v7, .ref 4, ci v8, .ref 5], .obj 1 (eL za v9), .obj 9 (eL yc v10), .obj 1 (eL za v11), .obj 9 (eL yc o_1)], 0⟩) := by
  induction m with
  | zero => intro v2 v12 o h; cases h
  | succ m ih => exact fun v2 v12 => tlp (
   .lI v2 v1 (fun c1 =>
    .na v2 fun i2 =>
    .ix zX v0 i2 fun x3 =>
    .cl (RE x3) fun r4 =>
    .ao 152 xY v12 [r4] fun n5 =>
    .go (ih (w64 (v2 + 1)) (v12 ++ [r4]))) fun c1 =>
   .ret (v2, v12))
def Yv (n : Nat) (a0 : GState) : Option GState :=
 (yb a0.Pending).bind fun r1 =>
 (xP a0.Entries (a0.Entries.length : Int) 0 false 0 a0.Serial a0.Open a0.Act [] [] r1 n 0 []).bind fun ⟨o2_0, o2_1⟩ =>
 some (GState.mk a0.Serial a0.Open r1 a0.Act o2_1)
theorem T6 (n : Nat) : WV (Yv n) := fun a0 => tc (
 .cl (xG a0.Pending) fun r1 =>
 .le zl a0.Entries <|
 .lp (JQ a0.Entries (a0.Entries.length : Int) 0 false 0 a0.Serial a0.Open a0.Act [] [] r1 n 0 []) fun ⟨o2_0, o2_1⟩ =>
 .ret (GState.mk a0.Serial a0.Open r1 a0.Act o2_1)) (zh Tryz.func137)
theorem Db {e : GEntry} (h : esz e <= 2 ^ 38) : va e = some e := by
 unfold esz at h
 unfold va yb xV yN
 rw [if_pos (ZU (by decide) (by omega)), Option.bind_some, if_pos (by omega), Option.bind_some, if_pos (by omega), Option.bind_some]
 cases e; rfl
theorem H4 {a : List GEntry} {v3 : Int} {v4 : Bool} {v5 v6 : Int} {v7 : Bool} {v8 : Int} {v9 : List UInt8} {v10 : List GEntry} {v11 : List UInt8} (ha : yr a <= 2 ^ 38) : ∀ (l p : List GEntry) (m : Nat), a = p ++ l → l.length < m → ∃ z, xP a (a.length : Int) v3 v4 v5 v6 v7 v8 v9 v10 v11 m (p.length : Int) p = some (z, a) := by
 have hl := qP a
 intro l
 induction l with
 | nil =>
  intro p m he hm
  obtain ⟨m, rfl, _⟩ := zi hm
  exact ⟨_, by rw [xP, he, List.append_nil, if_neg (by omega)]⟩
 | cons x l ih =>
  intro p m he hm
  obtain ⟨m, rfl, hm'⟩ := zi hm
  have hx : 1 + esz x <= yr a := Qh (by rw [he]; simp)
  have hlen : a.length = p.length + (l.length + 1) := by rw [he]; simp
  obtain ⟨z, hz⟩ := ih (p ++ [x]) m (by rw [he]; simp) (by simp only [List.length_cons] at hm'; omega)
  refine ⟨z, ?_⟩
  rw [xP, if_pos (by omega), zb, Option.bind_some, show a[p.length]? = some x by rw [he]; exact wP p x l, Option.bind_some, Db (by omega), Option.bind_some, if_pos (ZK (by simp only [List.length_cons, List.length_nil]; omega)), qw p x (by omega), hz]
def xl (a0 : GState) : Option GState := if ssz a0 <= 2 ^ 38 then some a0 else none
theorem K9 (a0 : GState) (r : GState) (h : xl a0 = some r) : ∃ n, Yv n a0 = some r := by
 unfold xl at h
 obtain ⟨ha, h⟩ := zF h
 unfold ssz at ha
 refine ⟨a0.Entries.length + 1, ?_⟩
 unfold Yv yb
 obtain ⟨z, hz⟩ := H4 (a := a0.Entries) (v3 := 0) (v4 := false) (v5 := 0) (v6 := a0.Serial) (v7 := a0.Open) (v8 := a0.Act) (v9 := []) (v10 := []) (v11 := a0.Pending) (by omega) a0.Entries [] (a0.Entries.length + 1) rfl (by omega)
 simp only [List.length_nil, Int.natCast_zero] at hz
 rw [if_pos (ZU (by decide) (by omega)), Option.bind_some, hz, <- h]
 cases a0; rfl
theorem Wp : WV xl := fun a0 r h => (K9 a0 r h).elim fun n hn => T6 n a0 r hn
def Yk (a0 : GValue) : Option Bool :=
 if a0.Kind = 0 then
  if a0.N = 0 then
   if (a0.S.length : Int) = 0 then
    if (a0.K.length : Int) = 0 then
     some (decide ((a0.L.length : Int) = 0))
    else
    some false
   else
   some false
  else
  some false
 else
 some false
theorem Ot (a0 : GValue) : Oc (Yk a0) 136 [] [.val true (zq a0)] fun r => (vb r, []) := tc (
 .eI a0.Kind 0 (fun c1 =>
  .eI a0.N 0 (fun c2 =>
   .le za a0.S <|
   .eI (a0.S.length : Int) 0 (fun c3 =>
    .le (zt za) a0.K <|
    .eI (a0.K.length : Int) 0 (fun c4 =>
     .le zf a0.L <|
     .eD (a0.L.length : Int) 0 <|
     .ret (decide ((a0.L.length : Int) = 0))) fun c4 =>
    .ret false) fun c3 =>
   .ret false) fun c2 =>
  .ret false) fun c1 =>
 .ret false) (zh Tryz.func136)
end
end Go.Am.Try
