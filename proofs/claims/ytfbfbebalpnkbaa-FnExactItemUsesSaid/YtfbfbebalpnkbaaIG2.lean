/- The functions of the program in plain Lean, and that the machine answers as they do; conditions at each theorem. -/
import Derived.Test.YtfbfbebalpnkbaaIG1
set_option linter.unusedVariables false
set_option linter.unusedSimpArgs false
namespace Go.Am.Try
open Go.Am Go.Proofs
set_option linter.unusedVariables false
set_option maxRecDepth 20000
set_option maxHeartbeats 2000000
noncomputable section
def XK (F : (List UInt8) → Option Bool) : Prop := ∀ (a0 : (List UInt8)), Oc (F a0) 101 [] [vq za a0] fun r => (vb r, [])
def xR (a0 : (List UInt8)) (v1 : Int) : Nat → Int → Option (Bool ⊕ Int)
  | 0, _ => none
  | m + 1, v2 =>
  if v2 < v1 then
   (zT v2).bind fun i2 =>
   (a0[i2]?).bind fun x3 =>
   if ((x3.toNat : Nat) : Int) < 32 then
    some (.inl false)
   else
   if 126 < ((x3.toNat : Nat) : Int) then
    some (.inl false)
   else
   xR a0 v1 m (w64 (v2 + 1))
  else
  some (.inr v2)
theorem Qs (a0 : (List UInt8)) (v1 : Int) (m : Nat) : ∀ (v2 : Int), Ol (xR a0 v1 m v2) 101 (zY Try.f101 0) ⟨[(0, vq za a0), (5, vq za a0), (6, vi v1), (7, vi v2)], [], 0⟩ fun o => match o with | .inl o_0 => (.ret, ⟨[(2, vb o_0)], [], 0⟩) | .inr (o_1) => (.exit 0, ⟨[(0, vq za a0), (5, vq za a0), (6, vi v1), (7, vi o_1), (8, vb false)], [], 0⟩) := by
  induction m with
  | zero => intro v2 o h; cases h
  | succ m ih => exact fun v2 => tlp (
   .lI v2 v1 (fun c1 =>
    .na v2 fun i2 =>
    .ix0 za a0 i2 fun x3 =>
    .lI ((x3.toNat : Nat) : Int) 32 (fun c4 =>
     .ret (.inl false)) fun c4 =>
    .lI 126 ((x3.toNat : Nat) : Int) (fun c5 =>
     .ret (.inl false)) fun c5 =>
    .go (ih (w64 (v2 + 1)))) fun c1 =>
   .ret (.inr v2))
def Zn (n : Nat) (a0 : (List UInt8)) : Option Bool :=
 (xR a0 (a0.length : Int) n 0).bind fun o1 =>
 match o1 with
 | .inl o1_0 =>
  some o1_0
 | .inr (o1_1) =>
  some (decide ((a0.length : Int) <= 20))
theorem Rs (n : Nat) : XK (Zn n) := fun a0 => tc (
 .le za a0 <|
 .l2 (Qs a0 (a0.length : Int) n 0) (fun o1_0 =>
  .ret o1_0) fun o1_1 =>
 .le za a0 <|
 .gD (a0.length : Int) 20 <|
 .ret (decide ((a0.length : Int) <= 20))) (zs Try.func101)
theorem Je {a : List UInt8} (ha : a.length <= 2 ^ 20) : ∀ (d i m : Nat), i + d = a.length → d < m → ∃ z, xR a (a.length : Int) m (i : Int) = some (if (a.drop i).all (inB 32 126) = true then .inr z else .inl false) := by
 intro d
 induction d with
 | zero =>
  intro i m hi hm
  obtain ⟨m, rfl, _⟩ := zl hm
  exact ⟨_, by rw [xR, if_neg (by omega), List.drop_eq_nil_of_le (by omega)]; rfl⟩
 | succ d ih =>
  intro i m hi hm
  obtain ⟨m, rfl, hm'⟩ := zl hm
  have hil : i < a.length := by omega
  rw [xR, if_pos (by omega), zu, Option.bind_some, zo hil, Option.bind_some, yb (by omega), yR hil, List.all_cons]
  by_cases h1 : ((a[i].toNat : Nat) : Int) < 32
  ·exact ⟨0, by rw [if_pos h1, if_neg]; simp [inB]; omega⟩
  ·rw [if_neg h1]
   by_cases h2 : (126 : Int) < ((a[i].toNat : Nat) : Int)
   ·exact ⟨0, by rw [if_pos h2, if_neg]; simp [inB]; omega⟩
   ·rw [if_neg h2, show inB 32 126 a[i] = true by simp [inB]; omega, Bool.true_and]
    exact ih (i + 1) m (by omega) (by omega)
def qK (a0 : (List UInt8)) : Option Bool := if a0.length <= 2 ^ 20 then some (X7 a0) else none
theorem Jf (a0 : (List UInt8)) (r : Bool) (h : qK a0 = some r) : ∃ n, Zn n a0 = some r := by
 unfold qK at h
 obtain ⟨ha, h⟩ := yl h
 refine ⟨a0.length + 1, ?_⟩
 obtain ⟨z, hz⟩ := Je ha a0.length 0 (a0.length + 1) (by omega) (by omega)
 rw [show ((0 : Nat) : Int) = 0 from rfl, List.drop_zero] at hz
 unfold Zn
 rw [<- h, hz]
 unfold X7
 by_cases hl : a0.length <= 20
 ·rw [decide_eq_true hl]
  cases a0.all (inB 32 126)
  ·rfl
  ·show some (decide _) = _; rw [decide_eq_true (by omega)]; rfl
 ·rw [decide_eq_false hl]
  cases a0.all (inB 32 126)
  ·rfl
  ·show some (decide _) = _; rw [decide_eq_false (by omega)]; rfl
theorem Vm : XK qK := fun a0 r h => (Jf a0 r h).elim fun n hn => Rs n a0 r hn
def wj (F : GExpr → Int → Option Bool) : Prop := ∀ (a0 : GExpr) (e0 : Int), Oc (F a0 e0) 125 [.var [ci e0]] [.val true (yv a0), vp 0 0] fun r => (vb r, [.var [ci e0]])
def yf (F : (List GExpr) → Int → Option Int) : Prop := ∀ (a0 : (List GExpr)) (e0 : Int), Oc (F a0 e0) 110 [.var [ci e0]] [vq zb a0, .val false [.fn 125 [.ptr 0 0]]] fun r => (vi r, [.var [ci e0]])
def zI (F : (List GExpr) → Int → Option Bool) : Prop := ∀ (a0 : (List GExpr)) (e0 : Int), Oc (F a0 e0) 90 [.var [ci e0]] [vq zb a0, .val false [.fn 125 [.ptr 0 0]]] fun r => (vb r, [.var [ci e0]])
def jb (F : GExpr → Int → Option Bool) : Prop := ∀ (a0 : GExpr) (a1 : Int), Oc (F a0 a1) 111 [] [.val true (yv a0), vi a1] fun r => (vb r, [])
def jP (G_impl_isFormed : GExpr → Int → Option Bool) (a0 : GExpr) (e0 : Int) : Option Bool :=
 (G_impl_isFormed a0 (w64 (e0 - 1))).bind fun r1 =>
 some (!r1)
theorem Qt (G_impl_isFormed : GExpr → Int → Option Bool) (H_impl_isFormed : jb G_impl_isFormed) : wj (jP G_impl_isFormed) := fun a0 e0 => tc (
 .cl (H_impl_isFormed a0 (w64 (e0 - 1))) fun r1 =>
 .ret (!r1)) (zs Try.func125)
def z8 (G_impl_isFormed_1 : GExpr → Int → Option Bool) (a0 : (List GExpr)) (v1 : Int) (e0 : Int) : Nat → Int → Option (Int ⊕ Int)
  | 0, _ => none
  | m + 1, v2 =>
  if v2 < v1 then
   (zT v2).bind fun i2 =>
   (a0[i2]?).bind fun x3 =>
   (G_impl_isFormed_1 x3 e0).bind fun r4 =>
   match r4 with
   | true =>
    some (.inl v2)
   | false =>
    z8 G_impl_isFormed_1 a0 v1 e0 m (w64 (v2 + 1))
  else
  some (.inr v2)
theorem qT (G_impl_isFormed_1 : GExpr → Int → Option Bool) (H_impl_isFormed_1 : wj G_impl_isFormed_1) (a0 : (List GExpr)) (v1 : Int) (e0 : Int) (m : Nat) : ∀ (v2 : Int), Ol (z8 G_impl_isFormed_1 a0 v1 e0 m v2) 110 (zY Try.f110 0) ⟨[(0, vq zb a0), (1, .val false [.fn 125 [.ptr 0 0]]), (7, vi v1), (8, vi v2)], [.var [ci e0]], 1⟩ fun o => match o with | .inl o_0 => (.ret, ⟨[(4, vi o_0)], [.var [ci e0]], 1⟩) | .inr (o_1) => (.exit 0, ⟨[(0, vq zb a0), (1, .val false [.fn 125 [.ptr 0 0]]), (7, vi v1), (8, vi o_1), (9, vb false)], [.var [ci e0]], 1⟩) := by
  induction m with
  | zero => intro v2 o h; cases h
  | succ m ih => exact fun v2 => tlp (
   .lI v2 v1 (fun c1 =>
    .na v2 fun i2 =>
    .ix zV a0 i2 fun x3 =>
    .cl (H_impl_isFormed_1 x3 e0) fun r4 =>
    .vM 0 r4 (
     .ret (.inl v2)) <|
    .go (ih (w64 (v2 + 1)))) fun c1 =>
   .ret (.inr v2))
def yg (G_impl_isFormed_1 : GExpr → Int → Option Bool) (n : Nat) (a0 : (List GExpr)) (e0 : Int) : Option Int :=
 (z8 G_impl_isFormed_1 a0 (a0.length : Int) e0 n 0).bind fun o1 =>
 match o1 with
 | .inl o1_0 =>
  some o1_0
 | .inr (o1_1) =>
  some (-1)
theorem jQ (G_impl_isFormed_1 : GExpr → Int → Option Bool) (H_impl_isFormed_1 : wj G_impl_isFormed_1) (n : Nat) : yf (yg G_impl_isFormed_1 n) := fun a0 e0 => tc (
 .le zb a0 <|
 .l2 (qT G_impl_isFormed_1 H_impl_isFormed_1 a0 (a0.length : Int) e0 n 0) (fun o1_0 =>
  .ret o1_0) fun o1_1 =>
 .ret (-1)) (zs Try.func110)
def y0 (G_slices_IndexFunc_Expr_isFormed_1 : (List GExpr) → Int → Option Int) (a0 : (List GExpr)) (e0 : Int) : Option Bool :=
 (G_slices_IndexFunc_Expr_isFormed_1 a0 e0).bind fun r1 =>
 some (decide (0 <= r1))
theorem jh (G_slices_IndexFunc_Expr_isFormed_1 : (List GExpr) → Int → Option Int) (H_slices_IndexFunc_Expr_isFormed_1 : yf G_slices_IndexFunc_Expr_isFormed_1) : zI (y0 G_slices_IndexFunc_Expr_isFormed_1) := fun a0 e0 => tc (
 .cl (H_slices_IndexFunc_Expr_isFormed_1 a0 e0) fun r1 =>
 .gD 0 r1 <|
 .ret (decide (0 <= r1))) (zs Try.func90)
def y7 (G_slices_ContainsFunc_Expr_isFormed_1 : (List GExpr) → Int → Option Bool) (v0 : Int) (v1 : Bool) (v2 : (List (List UInt8))) (a0 : GExpr) (a1 : Int) : Nat → Int → Option (Bool ⊕ Int)
  | 0, _ => none
  | m + 1, v3 =>
  if v3 < v0 then
   (zT v3).bind fun i2 =>
   (v2[i2]?).bind fun x3 =>
   (xc x3).bind fun r4 =>
   match r4 with
   | true =>
    if 0 < v3 then
     (zT (w64 (v3 - 1))).bind fun i6 =>
     (a0.K[i6]?).bind fun x7 =>
     (ja x7 x3).bind fun r8 =>
     if 0 <= r8 then
      some (.inl false)
     else
     y7 G_slices_ContainsFunc_Expr_isFormed_1 v0 v1 v2 a0 a1 m (w64 (v3 + 1))
    else
    y7 G_slices_ContainsFunc_Expr_isFormed_1 v0 v1 v2 a0 a1 m (w64 (v3 + 1))
   | false =>
    some (.inl false)
  else
  some (.inr v3)
theorem XQ (G_slices_ContainsFunc_Expr_isFormed_1 : (List GExpr) → Int → Option Bool) (H_slices_ContainsFunc_Expr_isFormed_1 : zI G_slices_ContainsFunc_Expr_isFormed_1) (v0 : Int) (v1 : Bool) (v2 : (List (List UInt8))) (a0 : GExpr) (a1 : Int) (m : Nat) : ∀ (v3 : Int), Ol (y7 G_slices_ContainsFunc_Expr_isFormed_1 v0 v1 v2 a0 a1 m v3) 111 (zY Try.f111 0) ⟨[(2, vp 0 0), (3, vp 1 0), (5, vi v0), (6, vb v1), (96, vq (zk za) v2), (97, vi v0), (98, vi v3)], [.var (yv a0), .var [ci a1]], 0⟩ fun o => match o with | .inl o_0 => (.ret, ⟨[(4, vb o_0)], [], 0⟩) | .inr (o_1) => (.exit 1, ⟨[(2, vp 0 0), (3, vp 1 0), (5, vi v0), (6, vb v1), (96, vq (zk za) v2), (97, vi v0), (98, vi o_1), (99, vb false)], [.var (yv a0), .var [ci a1]], 0⟩) := by
  induction m with
  | zero => intro v3 o h; cases h
  | succ m ih => exact fun v3 => tlp (
   .lI v3 v0 (fun c1 =>
    .na v3 fun i2 =>
    .ix0 (zk za) v2 i2 fun x3 =>
    .cl (qm x3) fun r4 =>
    .vN 0 r4 (
     .an 0 0 <|
     .lI 0 v3 (fun c5 =>
      .an 0 0 <|
      .na (w64 (v3 - 1)) fun i6 =>
      .ix0 (zk za) a0.K i6 fun x7 =>
      .cl (ZT x7 x3) fun r8 =>
      .gI 0 r8 (fun c9 =>
       .an 0 3 <|
       .an 1 3 <|
       .ret (.inl false)) fun c9 =>
      .an 0 3 <|
      .an 1 3 <|
      .go (ih (w64 (v3 + 1)))) fun c5 =>
     .an 0 0 <|
     .an 9 0 <|
     .an 1 0 <|
     .go (ih (w64 (v3 + 1)))) <|
    .an 0 0 <|
    .an 0 0 <|
    .an 0 0 <|
    .an 0 0 <|
    .ret (.inl false)) fun c1 =>
   .ret (.inr v3))
def xu (G_slices_ContainsFunc_Expr_isFormed_1 : (List GExpr) → Int → Option Bool) (n : Nat) (a0 : GExpr) (a1 : Int) : Option Bool :=
 if a1 = 0 then
  some false
 else
 if a0.Kind = 5 then
  if a0.N = 0 then
   (y7 G_slices_ContainsFunc_Expr_isFormed_1 (a0.K.length : Int) false a0.K a0 a1 n 0).bind fun o4 =>
   match o4 with
   | .inl o4_0 =>
    some o4_0
   | .inr (o4_1) =>
    if 0 < (a0.S.length : Int) then
     some false
    else
    if (a0.Kids.length : Int) = (a0.K.length : Int) then
     if 150 < (a0.K.length : Int) then
      some false
     else
     (G_slices_ContainsFunc_Expr_isFormed_1 a0.Kids a1).bind fun r8 =>
     some (!r8)
    else
    some false
  else
  some false
 else
 if 0 < (a0.K.length : Int) then
  some false
 else
 if a0.Kind = 1 then
  (wa a0.N 0 1).bind fun r5 =>
  match r5 with
  | true =>
   if 0 < (a0.S.length : Int) then
    some false
   else
   if (a0.Kids.length : Int) = 0 then
    (G_slices_ContainsFunc_Expr_isFormed_1 a0.Kids a1).bind fun r8 =>
    some (!r8)
   else
   some false
  | false =>
   some false
 else
 if a0.Kind = 2 then
  (wa a0.N 0 1000000000000).bind fun r6 =>
  match r6 with
  | true =>
   if 0 < (a0.S.length : Int) then
    some false
   else
   if (a0.Kids.length : Int) = 0 then
    (G_slices_ContainsFunc_Expr_isFormed_1 a0.Kids a1).bind fun r9 =>
    some (!r9)
   else
   some false
  | false =>
   some false
 else
 if a0.N = 0 then
  if a0.Kind = 0 then
   if 0 < (a0.S.length : Int) then
    some false
   else
   if (a0.Kids.length : Int) = 0 then
    (G_slices_ContainsFunc_Expr_isFormed_1 a0.Kids a1).bind fun r10 =>
    some (!r10)
   else
   some false
  else
  if a0.Kind = 10 then
   if 0 < (a0.S.length : Int) then
    some false
   else
   if (a0.Kids.length : Int) = 0 then
    (G_slices_ContainsFunc_Expr_isFormed_1 a0.Kids a1).bind fun r11 =>
    some (!r11)
   else
   some false
  else
  if a0.Kind = 11 then
   if 0 < (a0.S.length : Int) then
    some false
   else
   if (a0.Kids.length : Int) = 0 then
    (G_slices_ContainsFunc_Expr_isFormed_1 a0.Kids a1).bind fun r12 =>
    some (!r12)
   else
   some false
  else
  if a0.Kind = 12 then
   if 0 < (a0.S.length : Int) then
    some false
   else
   if (a0.Kids.length : Int) = 0 then
    (G_slices_ContainsFunc_Expr_isFormed_1 a0.Kids a1).bind fun r13 =>
    some (!r13)
   else
   some false
  else
  if a0.Kind = 3 then
   (qK a0.S).bind fun r12 =>
   match r12 with
   | true =>
    if (a0.Kids.length : Int) = 0 then
     (G_slices_ContainsFunc_Expr_isFormed_1 a0.Kids a1).bind fun r14 =>
     some (!r14)
    else
    some false
   | false =>
    some false
  else
  if a0.Kind = 6 then
   (xc a0.S).bind fun r13 =>
   match r13 with
   | true =>
    if (a0.Kids.length : Int) = 0 then
     (G_slices_ContainsFunc_Expr_isFormed_1 a0.Kids a1).bind fun r15 =>
     some (!r15)
    else
    some false
   | false =>
    some false
  else
  if a0.Kind = 8 then
   (xc a0.S).bind fun r14 =>
   match r14 with
   | true =>
    if (a0.Kids.length : Int) = 1 then
     (G_slices_ContainsFunc_Expr_isFormed_1 a0.Kids a1).bind fun r16 =>
     some (!r16)
    else
    some false
   | false =>
    some false
  else
  if a0.Kind = 7 then
   (wD a0.S).bind fun r15 =>
   match r15 with
   | true =>
    if (a0.Kids.length : Int) = 0 then
     (G_slices_ContainsFunc_Expr_isFormed_1 a0.Kids a1).bind fun r17 =>
     some (!r17)
    else
    some false
   | false =>
    some false
  else
  if a0.Kind = 23 then
   (wD a0.S).bind fun r16 =>
   match r16 with
   | true =>
    if 150 < (a0.Kids.length : Int) then
     some false
    else
    (G_slices_ContainsFunc_Expr_isFormed_1 a0.Kids a1).bind fun r18 =>
    some (!r18)
   | false =>
    some false
  else
  if a0.Kind = 4 then
   if 0 < (a0.S.length : Int) then
    some false
   else
   if 150 < (a0.Kids.length : Int) then
    some false
   else
   (G_slices_ContainsFunc_Expr_isFormed_1 a0.Kids a1).bind fun r19 =>
   some (!r19)
  else
  if a0.Kind = 13 then
   if 0 < (a0.S.length : Int) then
    some false
   else
   if (a0.Kids.length : Int) = 1 then
    (G_slices_ContainsFunc_Expr_isFormed_1 a0.Kids a1).bind fun r20 =>
    some (!r20)
   else
   some false
  else
  if a0.Kind = 14 then
   if 0 < (a0.S.length : Int) then
    some false
   else
   if (a0.Kids.length : Int) = 1 then
    (G_slices_ContainsFunc_Expr_isFormed_1 a0.Kids a1).bind fun r21 =>
    some (!r21)
   else
   some false
  else
  if a0.Kind = 9 then
   if 0 < (a0.S.length : Int) then
    some false
   else
   if (a0.Kids.length : Int) = 2 then
    (G_slices_ContainsFunc_Expr_isFormed_1 a0.Kids a1).bind fun r22 =>
    some (!r22)
   else
   some false
  else
  if a0.Kind = 15 then
   if 0 < (a0.S.length : Int) then
    some false
   else
   if (a0.Kids.length : Int) = 2 then
    (G_slices_ContainsFunc_Expr_isFormed_1 a0.Kids a1).bind fun r23 =>
    some (!r23)
   else
   some false
  else
  if a0.Kind = 16 then
   if 0 < (a0.S.length : Int) then
    some false
   else
   if (a0.Kids.length : Int) = 2 then
    (G_slices_ContainsFunc_Expr_isFormed_1 a0.Kids a1).bind fun r24 =>
    some (!r24)
   else
   some false
  else
  if a0.Kind = 17 then
   if 0 < (a0.S.length : Int) then
    some false
   else
   if (a0.Kids.length : Int) = 2 then
    (G_slices_ContainsFunc_Expr_isFormed_1 a0.Kids a1).bind fun r25 =>
    some (!r25)
   else
   some false
  else
  if a0.Kind = 18 then
   if 0 < (a0.S.length : Int) then
    some false
   else
   if (a0.Kids.length : Int) = 2 then
    (G_slices_ContainsFunc_Expr_isFormed_1 a0.Kids a1).bind fun r26 =>
    some (!r26)
   else
   some false
  else
  if a0.Kind = 19 then
   if 0 < (a0.S.length : Int) then
    some false
   else
   if (a0.Kids.length : Int) = 2 then
    (G_slices_ContainsFunc_Expr_isFormed_1 a0.Kids a1).bind fun r27 =>
    some (!r27)
   else
   some false
  else
  if a0.Kind = 20 then
   if 0 < (a0.S.length : Int) then
    some false
   else
   if (a0.Kids.length : Int) = 2 then
    (G_slices_ContainsFunc_Expr_isFormed_1 a0.Kids a1).bind fun r28 =>
    some (!r28)
   else
   some false
  else
  if a0.Kind = 21 then
   if 0 < (a0.S.length : Int) then
    some false
   else
   if (a0.Kids.length : Int) = 2 then
    (G_slices_ContainsFunc_Expr_isFormed_1 a0.Kids a1).bind fun r29 =>
    some (!r29)
   else
   some false
  else
  if a0.Kind = 22 then
   if 0 < (a0.S.length : Int) then
    some false
   else
   if (a0.Kids.length : Int) = 3 then
    (G_slices_ContainsFunc_Expr_isFormed_1 a0.Kids a1).bind fun r30 =>
    some (!r30)
   else
   some false
  else
  some false
 else
 some false
theorem Kf (G_slices_ContainsFunc_Expr_isFormed_1 : (List GExpr) → Int → Option Bool) (H_slices_ContainsFunc_Expr_isFormed_1 : zI G_slices_ContainsFunc_Expr_isFormed_1) (n : Nat) : jb (xu G_slices_ContainsFunc_Expr_isFormed_1 n) := fun a0 a1 => tc (
 .eI a1 0 (fun c1 =>
  .ret false) fun c1 =>
 .eI a0.Kind 5 (fun c2 =>
  .q (.eFo a0.Kind 1 (by omega)) <|
  .q (.eFo a0.Kind 2 (by omega)) <|
  .eI a0.N 0 (fun c3 =>
   .q (.eFo a0.Kind 1 (by omega)) <|
   .q (.eFo a0.Kind 2 (by omega)) <|
   .q (.eFo a0.Kind 0 (by omega)) <|
   .q (.eFo a0.Kind 10 (by omega)) <|
   .q (.eFo a0.Kind 11 (by omega)) <|
   .q (.eFo a0.Kind 12 (by omega)) <|
   .q (.eFo a0.Kind 3 (by omega)) <|
   .q (.eFo a0.Kind 6 (by omega)) <|
   .q (.eFo a0.Kind 8 (by omega)) <|
   .q (.eFo a0.Kind 7 (by omega)) <|
   .q (.eFo a0.Kind 23 (by omega)) <|
   .q (.eFo a0.Kind 4 (by omega)) <|
   .q (.eT c2) <|
   .le (zk za) a0.K <|
   .le (zk za) a0.K <|
   .l2 (XQ G_slices_ContainsFunc_Expr_isFormed_1 H_slices_ContainsFunc_Expr_isFormed_1 (a0.K.length : Int) false a0.K a0 a1 n 0) (fun o4_0 =>
    .ret o4_0) fun o4_1 =>
   .le za a0.S <|
   .lI 0 (a0.S.length : Int) (fun c5 =>
    .ret false) fun c5 =>
   .le zb a0.Kids <|
   .eI (a0.Kids.length : Int) (a0.K.length : Int) (fun c6 =>
    .lI 150 (a0.K.length : Int) (fun c7 =>
     .ret false) fun c7 =>
    .cl (H_slices_ContainsFunc_Expr_isFormed_1 a0.Kids a1) fun r8 =>
    .ret (!r8)) fun c6 =>
   .ret false) fun c3 =>
  .ret false) fun c2 =>
 .le (zk za) a0.K <|
 .lI 0 (a0.K.length : Int) (fun c3 =>
  .ret false) fun c3 =>
 .eI a0.Kind 1 (fun c4 =>
  .q (.eT c4) <|
  .cl (jG a0.N 0 1) fun r5 =>
  .vN 0 r5 (
   .le za a0.S <|
   .lI 0 (a0.S.length : Int) (fun c6 =>
    .ret false) fun c6 =>
   .le zb a0.Kids <|
   .eI (a0.Kids.length : Int) 0 (fun c7 =>
    .q (.lFo 150 0 (by omega)) <|
    .cl (H_slices_ContainsFunc_Expr_isFormed_1 a0.Kids a1) fun r8 =>
    .ret (!r8)) fun c7 =>
   .ret false) <|
  .ret false) fun c4 =>
 .eI a0.Kind 2 (fun c5 =>
  .q (.eF c4) <|
  .q (.eT c5) <|
  .cl (jG a0.N 0 1000000000000) fun r6 =>
  .vN 0 r6 (
   .le za a0.S <|
   .lI 0 (a0.S.length : Int) (fun c7 =>
    .ret false) fun c7 =>
   .le zb a0.Kids <|
   .eI (a0.Kids.length : Int) 0 (fun c8 =>
    .q (.lFo 150 0 (by omega)) <|
    .cl (H_slices_ContainsFunc_Expr_isFormed_1 a0.Kids a1) fun r9 =>
    .ret (!r9)) fun c8 =>
   .ret false) <|
  .ret false) fun c5 =>
 .eI a0.N 0 (fun c6 =>
  .q (.eF c4) <|
  .q (.eF c5) <|
  .eI a0.Kind 0 (fun c7 =>
   .le za a0.S <|
   .lI 0 (a0.S.length : Int) (fun c8 =>
    .ret false) fun c8 =>
   .le zb a0.Kids <|
   .eI (a0.Kids.length : Int) 0 (fun c9 =>
    .q (.lFo 150 0 (by omega)) <|
    .cl (H_slices_ContainsFunc_Expr_isFormed_1 a0.Kids a1) fun r10 =>
    .ret (!r10)) fun c9 =>
   .ret false) fun c7 =>
  .eI a0.Kind 10 (fun c8 =>
   .le za a0.S <|
   .lI 0 (a0.S.length : Int) (fun c9 =>
    .ret false) fun c9 =>
   .le zb a0.Kids <|
   .eI (a0.Kids.length : Int) 0 (fun c10 =>
    .q (.lFo 150 0 (by omega)) <|
    .cl (H_slices_ContainsFunc_Expr_isFormed_1 a0.Kids a1) fun r11 =>
    .ret (!r11)) fun c10 =>
   .ret false) fun c8 =>
  .eI a0.Kind 11 (fun c9 =>
   .le za a0.S <|
   .lI 0 (a0.S.length : Int) (fun c10 =>
    .ret false) fun c10 =>
   .le zb a0.Kids <|
   .eI (a0.Kids.length : Int) 0 (fun c11 =>
    .q (.lFo 150 0 (by omega)) <|
    .cl (H_slices_ContainsFunc_Expr_isFormed_1 a0.Kids a1) fun r12 =>
    .ret (!r12)) fun c11 =>
   .ret false) fun c9 =>
  .eI a0.Kind 12 (fun c10 =>
   .le za a0.S <|
   .lI 0 (a0.S.length : Int) (fun c11 =>
    .ret false) fun c11 =>
   .le zb a0.Kids <|
   .eI (a0.Kids.length : Int) 0 (fun c12 =>
    .q (.lFo 150 0 (by omega)) <|
    .cl (H_slices_ContainsFunc_Expr_isFormed_1 a0.Kids a1) fun r13 =>
    .ret (!r13)) fun c12 =>
   .ret false) fun c10 =>
  .eI a0.Kind 3 (fun c11 =>
   .cl (Vm a0.S) fun r12 =>
   .vN 0 r12 (
    .le zb a0.Kids <|
    .eI (a0.Kids.length : Int) 0 (fun c13 =>
     .q (.lFo 150 0 (by omega)) <|
     .cl (H_slices_ContainsFunc_Expr_isFormed_1 a0.Kids a1) fun r14 =>
     .ret (!r14)) fun c13 =>
    .ret false) <|
   .ret false) fun c11 =>
  .eI a0.Kind 6 (fun c12 =>
   .cl (qm a0.S) fun r13 =>
   .vN 0 r13 (
    .q (.eFo a0.Kind 8 (by omega)) <|
    .le zb a0.Kids <|
    .eI (a0.Kids.length : Int) 0 (fun c14 =>
     .q (.lFo 150 0 (by omega)) <|
     .cl (H_slices_ContainsFunc_Expr_isFormed_1 a0.Kids a1) fun r15 =>
     .ret (!r15)) fun c14 =>
    .ret false) <|
   .ret false) fun c12 =>
  .eI a0.Kind 8 (fun c13 =>
   .cl (qm a0.S) fun r14 =>
   .vN 0 r14 (
    .q (.eT c13) <|
    .le zb a0.Kids <|
    .eI (a0.Kids.length : Int) 1 (fun c15 =>
     .q (.lFo 150 1 (by omega)) <|
     .cl (H_slices_ContainsFunc_Expr_isFormed_1 a0.Kids a1) fun r16 =>
     .ret (!r16)) fun c15 =>
    .ret false) <|
   .ret false) fun c13 =>
  .eI a0.Kind 7 (fun c14 =>
   .cl (v8 a0.S) fun r15 =>
   .vN 0 r15 (
    .q (.eFo a0.Kind 23 (by omega)) <|
    .le zb a0.Kids <|
    .eI (a0.Kids.length : Int) 0 (fun c16 =>
     .q (.lFo 150 0 (by omega)) <|
     .cl (H_slices_ContainsFunc_Expr_isFormed_1 a0.Kids a1) fun r17 =>
     .ret (!r17)) fun c16 =>
    .ret false) <|
   .ret false) fun c14 =>
  .eI a0.Kind 23 (fun c15 =>
   .cl (v8 a0.S) fun r16 =>
   .vN 0 r16 (
    .q (.eT c15) <|
    .le zb a0.Kids <|
    .le zb a0.Kids <|
    .q (.eTo (a0.Kids.length : Int) (a0.Kids.length : Int) (by omega)) <|
    .lI 150 (a0.Kids.length : Int) (fun c17 =>
     .ret false) fun c17 =>
    .cl (H_slices_ContainsFunc_Expr_isFormed_1 a0.Kids a1) fun r18 =>
    .ret (!r18)) <|
   .ret false) fun c15 =>
  .eI a0.Kind 4 (fun c16 =>
   .le zb a0.Kids <|
   .le za a0.S <|
   .lI 0 (a0.S.length : Int) (fun c17 =>
    .ret false) fun c17 =>
   .le zb a0.Kids <|
   .q (.eTo (a0.Kids.length : Int) (a0.Kids.length : Int) (by omega)) <|
   .lI 150 (a0.Kids.length : Int) (fun c18 =>
    .ret false) fun c18 =>
   .cl (H_slices_ContainsFunc_Expr_isFormed_1 a0.Kids a1) fun r19 =>
   .ret (!r19)) fun c16 =>
  .q (.eF c2) <|
  .eI a0.Kind 13 (fun c17 =>
   .le za a0.S <|
   .lI 0 (a0.S.length : Int) (fun c18 =>
    .ret false) fun c18 =>
   .le zb a0.Kids <|
   .eI (a0.Kids.length : Int) 1 (fun c19 =>
    .q (.lFo 150 1 (by omega)) <|
    .cl (H_slices_ContainsFunc_Expr_isFormed_1 a0.Kids a1) fun r20 =>
    .ret (!r20)) fun c19 =>
   .ret false) fun c17 =>
  .eI a0.Kind 14 (fun c18 =>
   .le za a0.S <|
   .lI 0 (a0.S.length : Int) (fun c19 =>
    .ret false) fun c19 =>
   .le zb a0.Kids <|
   .eI (a0.Kids.length : Int) 1 (fun c20 =>
    .q (.lFo 150 1 (by omega)) <|
    .cl (H_slices_ContainsFunc_Expr_isFormed_1 a0.Kids a1) fun r21 =>
    .ret (!r21)) fun c20 =>
   .ret false) fun c18 =>
  .eI a0.Kind 9 (fun c19 =>
   .le za a0.S <|
   .lI 0 (a0.S.length : Int) (fun c20 =>
    .ret false) fun c20 =>
   .le zb a0.Kids <|
   .eI (a0.Kids.length : Int) 2 (fun c21 =>
    .q (.lFo 150 2 (by omega)) <|
    .cl (H_slices_ContainsFunc_Expr_isFormed_1 a0.Kids a1) fun r22 =>
    .ret (!r22)) fun c21 =>
   .ret false) fun c19 =>
  .eI a0.Kind 15 (fun c20 =>
   .le za a0.S <|
   .lI 0 (a0.S.length : Int) (fun c21 =>
    .ret false) fun c21 =>
   .le zb a0.Kids <|
   .eI (a0.Kids.length : Int) 2 (fun c22 =>
    .q (.lFo 150 2 (by omega)) <|
    .cl (H_slices_ContainsFunc_Expr_isFormed_1 a0.Kids a1) fun r23 =>
    .ret (!r23)) fun c22 =>
   .ret false) fun c20 =>
  .eI a0.Kind 16 (fun c21 =>
   .le za a0.S <|
   .lI 0 (a0.S.length : Int) (fun c22 =>
    .ret false) fun c22 =>
   .le zb a0.Kids <|
   .eI (a0.Kids.length : Int) 2 (fun c23 =>
    .q (.lFo 150 2 (by omega)) <|
    .cl (H_slices_ContainsFunc_Expr_isFormed_1 a0.Kids a1) fun r24 =>
    .ret (!r24)) fun c23 =>
   .ret false) fun c21 =>
  .eI a0.Kind 17 (fun c22 =>
   .le za a0.S <|
   .lI 0 (a0.S.length : Int) (fun c23 =>
    .ret false) fun c23 =>
   .le zb a0.Kids <|
   .eI (a0.Kids.length : Int) 2 (fun c24 =>
    .q (.lFo 150 2 (by omega)) <|
    .cl (H_slices_ContainsFunc_Expr_isFormed_1 a0.Kids a1) fun r25 =>
    .ret (!r25)) fun c24 =>
   .ret false) fun c22 =>
  .eI a0.Kind 18 (fun c23 =>
   .le za a0.S <|
   .lI 0 (a0.S.length : Int) (fun c24 =>
    .ret false) fun c24 =>
   .le zb a0.Kids <|
   .eI (a0.Kids.length : Int) 2 (fun c25 =>
    .q (.lFo 150 2 (by omega)) <|
    .cl (H_slices_ContainsFunc_Expr_isFormed_1 a0.Kids a1) fun r26 =>
    .ret (!r26)) fun c25 =>
   .ret false) fun c23 =>
  .eI a0.Kind 19 (fun c24 =>
   .le za a0.S <|
   .lI 0 (a0.S.length : Int) (fun c25 =>
    .ret false) fun c25 =>
   .le zb a0.Kids <|
   .eI (a0.Kids.length : Int) 2 (fun c26 =>
    .q (.lFo 150 2 (by omega)) <|
    .cl (H_slices_ContainsFunc_Expr_isFormed_1 a0.Kids a1) fun r27 =>
    .ret (!r27)) fun c26 =>
   .ret false) fun c24 =>
  .eI a0.Kind 20 (fun c25 =>
   .le za a0.S <|
   .lI 0 (a0.S.length : Int) (fun c26 =>
    .ret false) fun c26 =>
   .le zb a0.Kids <|
   .eI (a0.Kids.length : Int) 2 (fun c27 =>
    .q (.lFo 150 2 (by omega)) <|
    .cl (H_slices_ContainsFunc_Expr_isFormed_1 a0.Kids a1) fun r28 =>
    .ret (!r28)) fun c27 =>
   .ret false) fun c25 =>
  .eI a0.Kind 21 (fun c26 =>
   .le za a0.S <|
   .lI 0 (a0.S.length : Int) (fun c27 =>
    .ret false) fun c27 =>
   .le zb a0.Kids <|
   .eI (a0.Kids.length : Int) 2 (fun c28 =>
    .q (.lFo 150 2 (by omega)) <|
    .cl (H_slices_ContainsFunc_Expr_isFormed_1 a0.Kids a1) fun r29 =>
    .ret (!r29)) fun c28 =>
   .ret false) fun c26 =>
  .eI a0.Kind 22 (fun c27 =>
   .le za a0.S <|
   .lI 0 (a0.S.length : Int) (fun c28 =>
    .ret false) fun c28 =>
   .le zb a0.Kids <|
   .eI (a0.Kids.length : Int) 3 (fun c29 =>
    .q (.lFo 150 3 (by omega)) <|
    .cl (H_slices_ContainsFunc_Expr_isFormed_1 a0.Kids a1) fun r30 =>
    .ret (!r30)) fun c29 =>
   .ret false) fun c27 =>
  .ret false) fun c6 =>
 .ret false) (zs Try.func111)
mutual
def yw : Nat → GExpr → Int → Option Bool
 | 0, _, _ => none
 | n + 1, a0, e0 => jP (yS n) a0 e0
def zz : Nat → (List GExpr) → Int → Option Int
 | 0, _, _ => none
 | n + 1, a0, e0 => yg (yw n) n a0 e0
def zw : Nat → (List GExpr) → Int → Option Bool
 | 0, _, _ => none
 | n + 1, a0, e0 => y0 (zz n) a0 e0
def yS : Nat → GExpr → Int → Option Bool
 | 0, _, _ => none
 | n + 1, a0, a1 => xu (zw n) n a0 a1
end
theorem w7 (n : Nat) : wj (yw n) ∧ yf (zz n) ∧ zI (zw n) ∧ jb (yS n) := by
 induction n with
 | zero => exact ⟨fun _ _ _ h => (by rw [yw] at h; cases h), fun _ _ _ h => (by rw [zz] at h; cases h), fun _ _ _ h => (by rw [zw] at h; cases h), fun _ _ _ h => (by rw [yS] at h; cases h)⟩
 | succ n ih =>
  obtain ⟨ih_impl_isFormed_1, ih_slices_IndexFunc_Expr_isFormed_1, ih_slices_ContainsFunc_Expr_isFormed_1, ih_impl_isFormed⟩ := ih
  exact ⟨fun a0 e0 r h => Qt (yS n) ih_impl_isFormed a0 e0 r (by rw [yw] at h; exact h),
   fun a0 e0 r h => jQ (yw n) ih_impl_isFormed_1 n a0 e0 r (by rw [zz] at h; exact h),
   fun a0 e0 r h => jh (zz n) ih_slices_IndexFunc_Expr_isFormed_1 a0 e0 r (by rw [zw] at h; exact h),
   fun a0 a1 r h => Kf (zw n) ih_slices_ContainsFunc_Expr_isFormed_1 n a0 a1 r (by rw [yS] at h; exact h)⟩
theorem U8 (a b : List UInt8) : ja a b = some (Lib.compareBytes a b) := rfl
theorem Y3 {a : List UInt8} (h : a.length <= 2 ^ 20) : xc a = some (y5 a) := if_pos h
theorem OD {a : List UInt8} (h : a.length <= 2 ^ 20) : qK a = some (X7 a) := if_pos h
theorem ji {G : GExpr → Int → Option Bool} {a : List GExpr} {f : Nat} {e : Int} {p : GExpr → Bool} (ha : a.length <= 2 ^ 20) (hf : a.length < f) (hG : ∀ x ∈ a, G x e = some (!p x)) : ∃ r : Int, yg G f a e = some r ∧ decide (0 <= r) = !(a.all p) := by
 have loop : ∀ (d i m : Nat), i + d = a.length → d < m → ∃ (q : Nat) (z : Int), z8 G a (a.length : Int) e m (i : Int) = some (if (a.drop i).all p = true then .inr z else .inl (q : Int)) := by
  intro d
  induction d with
  | zero =>
   intro i m hi hm
   obtain ⟨m, rfl, _⟩ := zl hm
   exact ⟨0, _, by rw [z8, if_neg (by omega), List.drop_eq_nil_of_le (by omega)]; rfl⟩
  | succ d ih =>
   intro i m hi hm
   obtain ⟨m, rfl, hm'⟩ := zl hm
   have hil : i < a.length := by omega
   rw [z8, if_pos (by omega), zu, Option.bind_some, zo hil, Option.bind_some, hG _ (List.getElem_mem hil), Option.bind_some, yb (by omega), yR hil, List.all_cons]
   cases hp : p a[i] with
   | false => exact ⟨i, 0, rfl⟩
   | true =>
    obtain ⟨q, z, hz⟩ := ih (i + 1) m (by omega) (by omega)
    exact ⟨q, z, by rw [Bool.true_and]; exact hz⟩
 obtain ⟨q, z, hz⟩ := loop a.length 0 f (by omega) (by omega)
 rw [show ((0 : Nat) : Int) = 0 from rfl, List.drop_zero] at hz
 unfold yg
 rw [hz, Option.bind_some]
 cases hp : a.all p with
 | true => exact ⟨-1, rfl, rfl⟩
 | false => exact ⟨(q : Int), rfl, by simp⟩
theorem Rt {G : List GExpr → Int → Option Bool} {v : GExpr} {v1 : Bool} {a1 : Int} (hs : xsz v <= 2 ^ 20) : ∀ (d i m : Nat), i + d = v.K.length → d < m → ∃ z, y7 G (v.K.length : Int) v1 v.K v a1 m (i : Int) = some (if xo v.K i d = true then .inr z else .inl false) := by
 have he := w5 v
 have hl := qq v.K
 intro d
 induction d with
 | zero =>
  intro i m hi hm
  obtain ⟨m, rfl, _⟩ := zl hm
  exact ⟨_, by rw [y7, if_neg (by omega)]; rfl⟩
 | succ d ih =>
  intro i m hi hm
  obtain ⟨m, rfl, hm'⟩ := zl hm
  have hil : i < v.K.length := by omega
  have hx := vG (List.getElem_mem hil)
  rw [y7, if_pos (by omega), zu, Option.bind_some, zo hil, Option.bind_some, Y3 (by omega), Option.bind_some, yb (by omega), qw]
  obtain ⟨z, hz⟩ := ih (i + 1) m (by omega) (by omega)
  cases hnm : y5 v.K[i] with
  | false =>
   refine ⟨0, ?_⟩
   have : kOk v.K i = false := by
    by_cases h0 : i = 0
    ·subst h0; rw [jx hil, hnm]
    ·rw [qO hil (by omega), hnm]; rfl
   rw [this]; rfl
  | true =>
   dsimp only
   by_cases h0 : 0 < i
   ·rw [if_pos (by omega), ZL (by omega) h0, zu, Option.bind_some, zo (show i - 1 < v.K.length by omega), Option.bind_some, U8, Option.bind_some]
    by_cases hb : Op.bytesLess (v.K[i - 1]'(by omega)) v.K[i] = true
    ·rw [if_neg (by rw [ZY]; exact fun h => h hb), qO hil h0, hnm, hb]
     exact ⟨z, hz⟩
    ·rw [if_pos (by rw [ZY]; exact hb), qO hil h0, hnm, show Op.bytesLess (v.K[i - 1]'(by omega)) v.K[i] = false by simpa using hb]
     exact ⟨0, rfl⟩
   ·have : i = 0 := by omega
    subst this
    rw [if_neg (by omega), jx hil, hnm]
    exact ⟨z, hz⟩
theorem VR {a : List UInt8} (h : a.length <= 2 ^ 20) : wD a = some (y5 a && !ko a) := by
 unfold wD
 rw [Y3 h, Option.bind_some]
 cases y5 a with
 | false => rfl
 | true =>
  dsimp only
  rw [show kz = some Kq from rfl, Option.bind_some]
  unfold wx xh
  rw [if_pos (by decide), Option.bind_some, Option.bind_some, Nt]
  rfl
theorem TH {G : List GExpr → Int → Option Bool} {v : GExpr} {n : Nat} {a1 : Int} {X : Option Bool} (hs : v.S.length <= 2 ^ 20) (h1 : ¬ a1 = 0) (h5 : ¬ v.Kind = 5)
  (hX : ((G v.Kids a1).bind fun r => some (!r)) = X) : Dec X (some false) (kD v ∧ v.Kids.length <= 150) (xu G n v a1) := by
 have hw := OT (y5 v.S) (ko v.S)
 unfold xu kD
 rw [if_neg h1, if_neg h5]
 have q1 : (0 : Int) <= (v.S.length : Int) := by omega
 have q2 : (0 : Int) <= (v.K.length : Int) := by omega
 have q3 : (0 : Int) <= (v.Kids.length : Int) := by omega
 rw [show (v.Kids.length <= 150) = ((v.Kids.length : Int) <= 150) from propext (by omega)]
 generalize v.Kind = k at h5
 generalize (v.S.length : Int) = s at q1
 generalize (v.K.length : Int) = kk at q2
 generalize (v.Kids.length : Int) = kl at q3
 repeat' first
  | refine Dec.ite (fun _ => ?_) (fun _ => ?_)
  | refine Dec.bndD (M8 _ _ _) (fun _ => ?_) (fun _ => ?_)
  | refine Dec.bndB (OD hs) (fun _ => ?_) (fun _ => ?_)
  | refine Dec.bndB (Y3 hs) (fun _ => ?_) (fun _ => ?_)
  | refine Dec.bndB (VR hs) (fun _ => ?_) (fun _ => ?_)
 all_goals first
  | (refine .inl ⟨hX, ?_⟩; (try subst_vars); first | (simp [Zp, arI]; done) | (simp [Zp, arI]; omega))
  | (refine .inr ⟨rfl, ?_⟩; rintro ⟨h, hk⟩; (try subst_vars); first
   | (have g := h.1; clear h hw; omega)
   | (have g := h.2.2.2.1; clear h hw; omega)
   | (have g := h.2.2.2.2.2.2.1; clear h hw; omega)
   | (simp [Zp, arI] at h; done)
   | (simp [Zp, arI] at h; omega))
theorem P6 {G : List GExpr → Int → Option Bool} {v : GExpr} {f d : Nat} (hs : xsz v <= 2 ^ 20) (hf : v.K.length < f) (hd : 0 < d) (hG : G v.Kids (d : Int) = some (!(v.Kids.all (frX (d - 1))))) : xu G f v (d : Int) = some (frX d v) := by
 obtain ⟨e, rfl⟩ : ∃ e, d = e + 1 := ⟨d - 1, by omega⟩
 have he := w5 v
 have hl := zX v.Kids
 have hb := qq v.K
 rw [show e + 1 - 1 = e by omega] at hG
 rw [ZR]
 have no : kE v = false → some false = some (kE v && v.Kids.all (frX e)) := fun h => by rw [h]; rfl
 have yes : kE v = true → ((G v.Kids ((e + 1 : Nat) : Int)).bind fun r => some (!r)) = some (kE v && v.Kids.all (frX e)) := fun h => by rw [hG, Option.bind_some, h, Bool.not_not, Bool.true_and]
 by_cases h5 : v.Kind = 5
 ·have har := Vz v.Kind
  have hbad : ∀ {p : Prop}, p → (p → ¬ (kD v ∧ v.Kids.length <= 150 ∧ (v.Kind = 5 → xo v.K 0 v.K.length = true))) → kE v = false := fun hp h => by
   cases hx : kE v with
   | false => rfl
   | true => exact (h hp (QV hx)).elim
  unfold xu
  rw [if_neg (by omega), if_pos h5]
  by_cases a2 : v.N = 0
  ·rw [if_pos a2]
   obtain ⟨z, hz⟩ := Rt (G := G) (v1 := false) (a1 := ((e + 1 : Nat) : Int)) hs v.K.length 0 f (by omega) (by omega)
   rw [show ((0 : Nat) : Int) = 0 from rfl] at hz
   rw [hz, Option.bind_some]
   cases hk : xo v.K 0 v.K.length with
   | false => exact no (hbad hk fun h h' => by have := h'.2.2 h5; rw [h] at this; cases this)
   | true =>
    rw [if_pos rfl]
    dsimp only
    by_cases a3 : 0 < (v.S.length : Int)
    ·rw [if_pos a3]; exact no (hbad a3 fun h h' => by have := h'.1; unfold kD Zp at this; omega)
    ·rw [if_neg a3]
     by_cases a4 : (v.Kids.length : Int) = (v.K.length : Int)
     ·rw [if_pos a4]
      by_cases a5 : 150 < (v.K.length : Int)
      ·rw [if_pos a5]; exact no (hbad a5 fun h h' => by have := h'.2.1; omega)
      ·rw [if_neg a5]
       refine yes (Y0 ?_ (by omega) fun _ => hk)
       unfold kD Zp; omega
     ·rw [if_neg a4]; exact no (hbad a4 fun h h' => by have := h'.1; unfold kD Zp at this; omega)
  ·rw [if_neg a2]; exact no (hbad a2 fun h h' => by have := h'.1; unfold kD Zp at this; omega)
 ·rcases TH (G := G) (n := f) (v := v) (a1 := ((e + 1 : Nat) : Int)) (by omega) (by omega) h5 rfl with ⟨h, hL⟩ | ⟨h, hL⟩
  ·rw [h]; exact yes (Y0 hL.1 hL.2 fun k => (h5 k).elim)
  ·rw [h]
   refine no ?_
   cases hx : kE v with
   | false => rfl
   | true => have := QV hx; exact (hL ⟨this.1, this.2.1⟩).elim
theorem P7 : ∀ (N : Nat) (v : GExpr), xsz v < N → xsz v <= 2 ^ 20 → ∀ (f d : Nat), 4 * xsz v + 6 <= f → d <= 2 ^ 20 → yS f v (d : Int) = some (frX d v) := by
 intro N
 induction N with
 | zero => intro v hv; omega
 | succ N ih =>
  intro v hv hs f d hf hd
  have he := w5 v
  have hl := zX v.Kids
  have hb := qq v.K
  obtain ⟨f, rfl, _⟩ := zl (show 0 < f by omega)
  rw [yS]
  by_cases h0 : d = 0
  ·subst h0; unfold xu; rw [if_pos (show ((0 : Nat) : Int) = 0 from rfl)]; rfl
  refine P6 hs (by omega) (by omega) ?_
  obtain ⟨f, rfl, _⟩ := zl (show 0 < f by omega)
  obtain ⟨f, rfl, _⟩ := zl (show 0 < f by omega)
  obtain ⟨f, rfl, _⟩ := zl (show 0 < f by omega)
  rw [zw]
  unfold y0
  rw [zz]
  obtain ⟨r, hr, hr2⟩ := ji (G := yw (f + 1)) (a := v.Kids) (f := f + 1) (e := (d : Int)) (p := frX (d - 1)) (by omega) (by omega) fun x hx => by
   have := yy hx
   rw [yw]
   unfold jP
   rw [ZL (by omega) (by omega), ih x (by omega) (by omega) f (d - 1) (by omega) (by omega)]
   rfl
  rw [hr, Option.bind_some, hr2]
def Zr (a0 : GExpr) (e0 : Int) : Option Bool := none
theorem Xv (a0 : GExpr) (e0 : Int) (r : Bool) (h : Zr a0 e0 = some r) : ∃ n, yw n a0 e0 = some r := by cases h
def wk (a0 : (List GExpr)) (e0 : Int) : Option Int := none
theorem jj (a0 : (List GExpr)) (e0 : Int) (r : Int) (h : wk a0 e0 = some r) : ∃ n, zz n a0 e0 = some r := by cases h
def xU (a0 : (List GExpr)) (e0 : Int) : Option Bool := none
theorem q9 (a0 : (List GExpr)) (e0 : Int) (r : Bool) (h : xU a0 e0 = some r) : ∃ n, zw n a0 e0 = some r := by cases h
noncomputable def wN (a0 : GExpr) (a1 : Int) : Option Bool := if xsz a0 <= 2 ^ 20 ∧ 0 <= a1 ∧ a1 <= 2 ^ 20 then some (frX a1.toNat a0) else none
theorem W4 (a0 : GExpr) (a1 : Int) (r : Bool) (h : wN a0 a1 = some r) : ∃ n, yS n a0 a1 = some r := by
 unfold wN at h
 obtain ⟨⟨hs, h0, h1⟩, h⟩ := yl h
 refine ⟨4 * xsz a0 + 6, ?_⟩
 have := P7 _ a0 (Nat.lt_succ_self _) hs _ a1.toNat (Nat.le_refl _) (by omega)
 rw [show ((a1.toNat : Nat) : Int) = a1 by omega] at this
 rw [this]; exact h
theorem OE : wj Zr := by
 intro a0 e0 r h
 obtain ⟨n, hn⟩ := Xv a0 e0 r h
 exact (w7 n).1 a0 e0 r hn
theorem Qc : yf wk := by
 intro a0 e0 r h
 obtain ⟨n, hn⟩ := jj a0 e0 r h
 exact (w7 n).2.1 a0 e0 r hn
theorem XR : zI xU := by
 intro a0 e0 r h
 obtain ⟨n, hn⟩ := q9 a0 e0 r h
 exact (w7 n).2.2.1 a0 e0 r hn
theorem Jg : jb wN := by
 intro a0 a1 r h
 obtain ⟨n, hn⟩ := W4 a0 a1 r h
 exact (w7 n).2.2.2 a0 a1 r hn
def wl (F : GExpr → Option Int) : Prop := ∀ (a0 : GExpr), Oc (F a0) 65 [] [.val true (yv a0)] fun r => (vi r, [])
def yH (G_impl_Expr_parts : GExpr → Option Int) (v1 : (List GExpr)) (v2 : Int) : Nat → Int → Int → Option (Int × Int)
  | 0, _, _ => none
  | m + 1, v0, v3 =>
  if v3 < v2 then
   (zT v3).bind fun i2 =>
   (v1[i2]?).bind fun x3 =>
   (G_impl_Expr_parts x3).bind fun r4 =>
   yH G_impl_Expr_parts v1 v2 m (w64 (v0 + r4)) (w64 (v3 + 1))
  else
  some (v0, v3)
theorem YP (G_impl_Expr_parts : GExpr → Option Int) (H_impl_Expr_parts : wl G_impl_Expr_parts) (v1 : (List GExpr)) (v2 : Int) (m : Nat) : ∀ (v0 : Int) (v3 : Int), Ol (yH G_impl_Expr_parts v1 v2 m v0 v3) 65 (zY Try.f65 0) ⟨[(3, vi v0), (7, vq zb v1), (8, vi v2), (9, vi v3)], [], 0⟩ fun o => match o with | ⟨o_0, o_1⟩ => (.exit 0, ⟨[(3, vi o_0), (7, vq zb v1), (8, vi v2), (9, vi o_1), (10, vb false)], [], 0⟩) := by
  induction m with
  | zero => intro v0 v3 o h; cases h
  | succ m ih => exact fun v0 v3 => tlp (
   .lI v3 v2 (fun c1 =>
    .na v3 fun i2 =>
    .ix zV v1 i2 fun x3 =>
    .cl (H_impl_Expr_parts x3) fun r4 =>
    .go (ih (w64 (v0 + r4)) (w64 (v3 + 1)))) fun c1 =>
   .ret (v0, v3))
def wY (G_impl_Expr_parts : GExpr → Option Int) (n : Nat) (a0 : GExpr) : Option Int :=
 (yH G_impl_Expr_parts a0.Kids (a0.Kids.length : Int) n 1 0).bind fun ⟨o1_0, o1_1⟩ =>
 some o1_0
theorem Qu (G_impl_Expr_parts : GExpr → Option Int) (H_impl_Expr_parts : wl G_impl_Expr_parts) (n : Nat) : wl (wY G_impl_Expr_parts n) := fun a0 => tc (
 .le zb a0.Kids <|
 .lp (YP G_impl_Expr_parts H_impl_Expr_parts a0.Kids (a0.Kids.length : Int) n 1 0) fun ⟨o1_0, o1_1⟩ =>
 .ret o1_0) (zs Try.func65)
def yx : Nat → GExpr → Option Int
 | 0, _ => none
 | n + 1, a0 => wY (yx n) n a0
theorem XS (n : Nat) : wl (yx n) := by
 induction n with
 | zero => exact fun _ _ h => (by rw [yx] at h; cases h)
 | succ n ih =>
  have ih_impl_Expr_parts := ih
  exact fun a0 r h => Qu (yx n) ih_impl_Expr_parts n a0 r (by rw [yx] at h; exact h)
theorem Qv {G : GExpr → Option Int} {v : GExpr} {f : Nat} (hs : xsz v <= 2 ^ 20) (hf : v.Kids.length < f) (hG : ∀ x ∈ v.Kids, G x = some (((ptX x) : Nat) : Int)) : wY G f v = some (((ptX v) : Nat) : Int) := by
 have he := w5 v
 have hl := zX v.Kids
 have loop : ∀ (d i m : Nat) (r : Int), i + d = v.Kids.length → d < m → 0 <= r → r <= 2 ^ 21 - zP (v.Kids.drop i) → ∃ z, yH G v.Kids (v.Kids.length : Int) m r (i : Int) = some (r + zP (v.Kids.drop i), z) := by
  intro d
  induction d with
  | zero =>
   intro i m r hi hm h0 h1
   obtain ⟨m, rfl, _⟩ := zl hm
   exact ⟨_, by rw [yH, if_neg (by omega), List.drop_eq_nil_of_le (by omega)]; simp [zP]; rfl⟩
  | succ d ih =>
   intro i m r hi hm h0 h1
   obtain ⟨m, rfl, hm'⟩ := zl hm
   have hil : i < v.Kids.length := by omega
   have hp : zP (v.Kids.drop i) = ptX v.Kids[i] + zP (v.Kids.drop (i + 1)) := by rw [yR hil]; simp only [zP]
   rw [hp] at h1 ⊢
   rw [yH, if_pos (by omega), zu, Option.bind_some, zo hil, Option.bind_some, hG _ (List.getElem_mem hil), Option.bind_some, yb (by omega), xZ (by omega) (by omega)]
   obtain ⟨z, hz⟩ := ih (i + 1) m (r + ptX v.Kids[i]) (by omega) (by omega) (by omega) (by omega)
   exact ⟨z, by rw [hz]; congr 2; omega⟩
 have hle := Qf v.Kids
 obtain ⟨z, hz⟩ := loop v.Kids.length 0 f 1 (by omega) (by omega) (by omega) (by rw [List.drop_zero]; omega)
 rw [show ((0 : Nat) : Int) = 0 from rfl, List.drop_zero] at hz
 unfold wY
 rw [hz, Kp]
 simp only [Option.bind_some]
 congr 1
theorem Qw : ∀ (N : Nat) (v : GExpr), xsz v < N → xsz v <= 2 ^ 20 → ∀ f : Nat, xsz v + 2 <= f → yx f v = some (((ptX v) : Nat) : Int) := by
 intro N
 induction N with
 | zero => intro v hv; omega
 | succ N ih =>
  intro v hv hs f hf
  obtain ⟨f, rfl, _⟩ := zl (show 0 < f by omega)
  have he := w5 v
  have hl := zX v.Kids
  rw [yx]
  refine Qv hs (by omega) fun x hx => ?_
  have := yy hx
  exact ih x (by omega) (by omega) f (by omega)
def yh (a0 : GExpr) : Option Int := if xsz a0 <= 2 ^ 20 then some (((ptX a0) : Nat) : Int) else none
theorem Xw (a0 : GExpr) (r : Int) (h : yh a0 = some r) : ∃ n, yx n a0 = some r := by
 unfold yh at h
 obtain ⟨ha, h⟩ := yl h
 exact ⟨xsz a0 + 2, by rw [<- h]; exact Qw _ a0 (Nat.lt_succ_self _) ha _ (Nat.le_refl _)⟩
theorem jt : wl yh := by
 intro a0 r h
 obtain ⟨n, hn⟩ := Xw a0 r h
 exact (XS n) a0 r hn
def wE (a0 : GExpr) : Option Bool :=
 (wN a0 10).bind fun r1 =>
 match r1 with
 | true =>
  (yh a0).bind fun r2 =>
  some (decide (r2 <= 150))
 | false =>
  some false
theorem vA (a0 : GExpr) : Oc (wE a0) 92 [] [.val true (yv a0)] fun r => (vb r, []) := tc (
 .cl (Jg a0 10) fun r1 =>
 .vM 0 r1 (
  .az 0 0 <|
  .cl (jt a0) fun r2 =>
  .az 0 1 <|
  .gD r2 150 <|
  .az 0 1 <|
  .ret (decide (r2 <= 150))) <|
 .az 0 0 <|
 .az 0 0 <|
 .az 0 0 <|
 .ret false) (zs Try.func92)
def ve (a0 : GExpr) : Option Bool :=
 (wE a0).bind fun r1 =>
 some (!r1)
theorem Jh (a0 : GExpr) : Oc (ve a0) 91 [] [.val true (yv a0)] fun r => (vb r, []) := tc (
 .cl (vA a0) fun r1 =>
 .ret (!r1)) (zs Try.func91)
def wy (F : (List GExpr) → Option Int) : Prop := ∀ (a0 : (List GExpr)), Oc (F a0) 110 [] [vq zb a0, .val false [.fn 91 []]] fun r => (vi r, [])
def zC (a0 : (List GExpr)) (v1 : Int) : Nat → Int → Option (Int ⊕ Int)
  | 0, _ => none
  | m + 1, v2 =>
  if v2 < v1 then
   (zT v2).bind fun i2 =>
   (a0[i2]?).bind fun x3 =>
   (ve x3).bind fun r4 =>
   match r4 with
   | true =>
    some (.inl v2)
   | false =>
    zC a0 v1 m (w64 (v2 + 1))
  else
  some (.inr v2)
theorem ju (a0 : (List GExpr)) (v1 : Int) (m : Nat) : ∀ (v2 : Int), Ol (zC a0 v1 m v2) 110 (zY Try.f110 0) ⟨[(0, vq zb a0), (1, .val false [.fn 91 []]), (7, vi v1), (8, vi v2)], [], 0⟩ fun o => match o with | .inl o_0 => (.ret, ⟨[(4, vi o_0)], [], 0⟩) | .inr (o_1) => (.exit 0, ⟨[(0, vq zb a0), (1, .val false [.fn 91 []]), (7, vi v1), (8, vi o_1), (9, vb false)], [], 0⟩) := by
  induction m with
  | zero => intro v2 o h; cases h
  | succ m ih => exact fun v2 => tlp (
   .lI v2 v1 (fun c1 =>
    .na v2 fun i2 =>
    .ix zV a0 i2 fun x3 =>
    .cl (Jh x3) fun r4 =>
    .vM 0 r4 (
     .ret (.inl v2)) <|
    .go (ih (w64 (v2 + 1)))) fun c1 =>
   .ret (.inr v2))
def yn (n : Nat) (a0 : (List GExpr)) : Option Int :=
 (zC a0 (a0.length : Int) n 0).bind fun o1 =>
 match o1 with
 | .inl o1_0 =>
  some o1_0
 | .inr (o1_1) =>
  some (-1)
theorem k5 (n : Nat) : wy (yn n) := fun a0 => tc (
 .le zb a0 <|
 .l2 (ju a0 (a0.length : Int) n 0) (fun o1_0 =>
  .ret o1_0) fun o1_1 =>
 .ret (-1)) (zs Try.func110)
def yo (a0 : (List GExpr)) : Option Int := yn (a0.length + 5) a0
theorem jH (a0 : (List GExpr)) (r : Int) (h : yo a0 = some r) : ∃ n, yn n a0 = some r := ⟨_, h⟩
theorem jY : wy yo := fun a0 r h => (jH a0 r h).elim fun n hn => k5 n a0 r hn
def ye (a0 : (List GExpr)) : Option Bool :=
 (yo a0).bind fun r1 =>
 some (decide (0 <= r1))
theorem jv (a0 : (List GExpr)) : Oc (ye a0) 90 [] [vq zb a0, .val false [.fn 91 []]] fun r => (vb r, []) := tc (
 .cl (jY a0) fun r1 =>
 .gD 0 r1 <|
 .ret (decide (0 <= r1))) (zs Try.func90)
def jR (a0 : GExpr) : Option Bool :=
 if a0.Kind = 0 then
  if a0.N = 0 then
   if (a0.S.length : Int) = 0 then
    if (a0.K.length : Int) = 0 then
     some (decide ((a0.Kids.length : Int) = 0))
    else
    some false
   else
   some false
  else
  some false
 else
 some false
theorem W5 (a0 : GExpr) : Oc (jR a0) 93 [] [.val true (yv a0)] fun r => (vb r, []) := tc (
 .eI a0.Kind 0 (fun c1 =>
  .eI a0.N 0 (fun c2 =>
   .le za a0.S <|
   .eI (a0.S.length : Int) 0 (fun c3 =>
    .le (zk za) a0.K <|
    .eI (a0.K.length : Int) 0 (fun c4 =>
     .le zb a0.Kids <|
     .eD (a0.Kids.length : Int) 0 <|
     .ret (decide ((a0.Kids.length : Int) = 0))) fun c4 =>
    .ret false) fun c3 =>
   .ret false) fun c2 =>
  .ret false) fun c1 =>
 .ret false) (zs Try.func93)
def XL (F : GItem → Option Bool) : Prop := ∀ (a0 : GItem), Oc (F a0) 61 [] [.val true (zJ a0)] fun r => (vb r, [])
def y8 (v0 : (List (List UInt8))) (v1 : Int) (a0 : GItem) : Nat → Int → Option (Bool ⊕ Int)
  | 0, _ => none
  | m + 1, v2 =>
  if v2 < v1 then
   (zT v2).bind fun i2 =>
   (v0[i2]?).bind fun x3 =>
   (xc x3).bind fun r4 =>
   match r4 with
   | true =>
    if 0 < v2 then
     (zT (w64 (v2 - 1))).bind fun i6 =>
     (a0.Names[i6]?).bind fun x7 =>
     (ja x7 x3).bind fun r8 =>
     if 0 <= r8 then
      some (.inl false)
     else
     y8 v0 v1 a0 m (w64 (v2 + 1))
    else
    y8 v0 v1 a0 m (w64 (v2 + 1))
   | false =>
    some (.inl false)
  else
  some (.inr v2)
theorem Zs (v0 : (List (List UInt8))) (v1 : Int) (a0 : GItem) (m : Nat) : ∀ (v2 : Int), Ol (y8 v0 v1 a0 m v2) 61 (zY Try.f61 0) ⟨[(1, vp 0 0), (60, vq (zk za) v0), (61, vi v1), (62, vi v2)], [.var (zJ a0)], 0⟩ fun o => match o with | .inl o_0 => (.ret, ⟨[(2, vb o_0)], [], 0⟩) | .inr (o_1) => (.exit 0, ⟨[(1, vp 0 0), (60, vq (zk za) v0), (61, vi v1), (62, vi o_1), (63, vb false)], [.var (zJ a0)], 0⟩) := by
  induction m with
  | zero => intro v2 o h; cases h
  | succ m ih => exact fun v2 => tlp (
   .lI v2 v1 (fun c1 =>
    .na v2 fun i2 =>
    .ix0 (zk za) v0 i2 fun x3 =>
    .cl (qm x3) fun r4 =>
    .vN 0 r4 (
     .an 0 0 <|
     .lI 0 v2 (fun c5 =>
      .an 0 0 <|
      .na (w64 (v2 - 1)) fun i6 =>
      .ix0 (zk za) a0.Names i6 fun x7 =>
      .cl (ZT x7 x3) fun r8 =>
      .gI 0 r8 (fun c9 =>
       .an 0 3 <|
       .an 1 3 <|
       .ret (.inl false)) fun c9 =>
      .an 0 3 <|
      .an 1 3 <|
      .go (ih (w64 (v2 + 1)))) fun c5 =>
     .an 0 0 <|
     .an 9 0 <|
     .an 1 0 <|
     .go (ih (w64 (v2 + 1)))) <|
    .an 0 0 <|
    .an 0 0 <|
    .an 0 0 <|
    .an 0 0 <|
    .ret (.inl false)) fun c1 =>
   .ret (.inr v2))
def kj (n : Nat) (a0 : GItem) : Option Bool :=
 (wa a0.Kind 0 2).bind fun r1 =>
 match r1 with
 | true =>
  (wD a0.Name).bind fun r2 =>
  match r2 with
  | true =>
   if 6 < (a0.Exprs.length : Int) then
    some false
   else
   (ye a0.Exprs).bind fun r4 =>
   match r4 with
   | true =>
    some false
   | false =>
    if a0.Many = 0 then
     (jR a0.By).bind fun r6 =>
     match r6 with
     | true =>
      (wE a0.By).bind fun r7 =>
      match r7 with
      | true =>
       if a0.Kind = 1 then
        (y8 a0.Names (a0.Names.length : Int) a0 n 0).bind fun o9 =>
        match o9 with
        | .inl o9_0 =>
         some o9_0
        | .inr (o9_1) =>
         (wa a0.Many 0 2).bind fun r10 =>
         match r10 with
         | true =>
          some (decide ((a0.Names.length : Int) = (a0.Exprs.length : Int)))
         | false =>
          some false
       else
       if (a0.Exprs.length : Int) = 1 then
        if (a0.Names.length : Int) = 0 then
         some true
        else
        some false
       else
       some false
      | false =>
       some false
     | false =>
      some false
    else
    (wE a0.By).bind fun r6 =>
    match r6 with
    | true =>
     if a0.Kind = 1 then
      (y8 a0.Names (a0.Names.length : Int) a0 n 0).bind fun o8 =>
      match o8 with
      | .inl o8_0 =>
       some o8_0
      | .inr (o8_1) =>
       (wa a0.Many 0 2).bind fun r9 =>
       match r9 with
       | true =>
        some (decide ((a0.Names.length : Int) = (a0.Exprs.length : Int)))
       | false =>
        some false
     else
     if (a0.Exprs.length : Int) = 1 then
      if (a0.Names.length : Int) = 0 then
       some false
      else
      some false
     else
     some false
    | false =>
     some false
  | false =>
   some false
 | false =>
  some false
theorem Ru (n : Nat) : XL (kj n) := fun a0 => tc (
 .cl (jG a0.Kind 0 2) fun r1 =>
 .vN 0 r1 (
  .an 0 0 <|
  .an 0 0 <|
  .cl (v8 a0.Name) fun r2 =>
  .an 0 1 <|
  .an 0 1 <|
  .vN 0 r2 (
   .an 0 0 <|
   .an 0 0 <|
   .le zb a0.Exprs <|
   .an 0 0 <|
   .lI 6 (a0.Exprs.length : Int) (fun c3 =>
    .an 0 0 <|
    .ret false) fun c3 =>
   .an 0 0 <|
   .cl (jv a0.Exprs) fun r4 =>
   .vM 1 r4 (
    .ret false) <|
   .eI a0.Many 0 (fun c5 =>
    .cl (W5 a0.By) fun r6 =>
    .vN 2 r6 (
     .an 0 0 <|
     .an 0 0 <|
     .cl (vA a0.By) fun r7 =>
     .an 0 1 <|
     .an 0 1 <|
     .vN 0 r7 (
      .eI a0.Kind 1 (fun c8 =>
       .le (zk za) a0.Names <|
       .l2 (Zs a0.Names (a0.Names.length : Int) a0 n 0) (fun o9_0 =>
        .ret o9_0) fun o9_1 =>
       .cl (jG a0.Many 0 2) fun r10 =>
       .vM 0 r10 (
        .az 0 0 <|
        .az 0 0 <|
        .le (zk za) a0.Names <|
        .az 0 0 <|
        .az 0 0 <|
        .az 0 0 <|
        .le zb a0.Exprs <|
        .az 0 0 <|
        .eD (a0.Names.length : Int) (a0.Exprs.length : Int) <|
        .az 0 0 <|
        .ret (decide ((a0.Names.length : Int) = (a0.Exprs.length : Int)))) <|
       .az 0 0 <|
       .az 0 0 <|
       .az 0 0 <|
       .az 0 0 <|
       .az 0 0 <|
       .az 0 0 <|
       .az 0 0 <|
       .ret false) fun c8 =>
      .le zb a0.Exprs <|
      .eI (a0.Exprs.length : Int) 1 (fun c9 =>
       .le (zk za) a0.Names <|
       .eI (a0.Names.length : Int) 0 (fun c10 =>
        .q (.eT c5) <|
        .ret true) fun c10 =>
       .ret false) fun c9 =>
      .ret false) <|
     .ret false) <|
    .an 0 0 <|
    .an 0 0 <|
    .an 0 0 <|
    .an 0 0 <|
    .ret false) fun c5 =>
   .cl (vA a0.By) fun r6 =>
   .vN 2 r6 (
    .eI a0.Kind 1 (fun c7 =>
     .le (zk za) a0.Names <|
     .l2 (Zs a0.Names (a0.Names.length : Int) a0 n 0) (fun o8_0 =>
      .ret o8_0) fun o8_1 =>
     .cl (jG a0.Many 0 2) fun r9 =>
     .vM 0 r9 (
      .az 0 0 <|
      .az 0 0 <|
      .le (zk za) a0.Names <|
      .az 0 0 <|
      .az 0 0 <|
      .az 0 0 <|
      .le zb a0.Exprs <|
      .az 0 0 <|
      .eD (a0.Names.length : Int) (a0.Exprs.length : Int) <|
      .az 0 0 <|
      .ret (decide ((a0.Names.length : Int) = (a0.Exprs.length : Int)))) <|
     .az 0 0 <|
     .az 0 0 <|
     .az 0 0 <|
     .az 0 0 <|
     .az 0 0 <|
     .az 0 0 <|
     .az 0 0 <|
     .ret false) fun c7 =>
    .le zb a0.Exprs <|
    .eI (a0.Exprs.length : Int) 1 (fun c8 =>
     .le (zk za) a0.Names <|
     .eI (a0.Names.length : Int) 0 (fun c9 =>
      .q (.eF c5) <|
      .ret false) fun c9 =>
     .ret false) fun c8 =>
    .ret false) <|
   .ret false) <|
  .an 0 0 <|
  .an 0 0 <|
  .an 0 0 <|
  .an 0 0 <|
  .ret false) <|
 .an 0 0 <|
 .an 0 0 <|
 .an 0 0 <|
 .an 0 0 <|
 .ret false) (zs Try.func61)
def qL (a0 : GItem) : Option Bool := kj (a0.Names.length + 5) a0
theorem Ji (a0 : GItem) (r : Bool) (h : qL a0 = some r) : ∃ n, kj n a0 = some r := ⟨_, h⟩
theorem Vn : XL qL := fun a0 r h => (Ji a0 r h).elim fun n hn => Ru n a0 r hn
def XM (a0 : (List UInt8)) (a1 : (List UInt8)) : Option Bool :=
 some (decide (a0 = a1))
theorem Vo (a0 : (List UInt8)) (a1 : (List UInt8)) : Oc (XM a0 a1) 64 [] [vq za a0, vq za a1] fun r => (vb r, []) := tc (
 .bt a0 <|
 .bt a1 <|
 .sD a0 a1 <|
 .ret (decide (a0 = a1))) (zs Try.func64)
def Zt (a0 : GItem) (e0 : GItem) : Option Bool :=
 if a0.Kind = e0.Kind then
  (XM a0.Name e0.Name).bind fun r2 =>
  some r2
 else
 some false
theorem W6 (a0 : GItem) (e0 : GItem) : Oc (Zt a0 e0) 63 [.var (zJ e0)] [.val true (zJ a0), vp 0 0] fun r => (vb r, [.var (zJ e0)]) := tc (
 .eI a0.Kind e0.Kind (fun c1 =>
  .cl (Vo a0.Name e0.Name) fun r2 =>
  .ret r2) fun c1 =>
 .ret false) (zs Try.func63)
def wm (F : (List GItem) → GItem → Option Int) : Prop := ∀ (a0 : (List GItem)) (e0 : GItem), Oc (F a0 e0) 95 [.var (zJ e0)] [vq ym a0, .val false [.fn 63 [.ptr 0 0]]] fun r => (vi r, [.var (zJ e0)])
def y3 (a0 : (List GItem)) (v1 : Int) (e0 : GItem) : Nat → Int → Option (Int ⊕ Int)
  | 0, _ => none
  | m + 1, v2 =>
  if v2 < v1 then
   (zT v2).bind fun i2 =>
   (a0[i2]?).bind fun x3 =>
   (Zt x3 e0).bind fun r4 =>
   match r4 with
   | true =>
    some (.inl v2)
   | false =>
    y3 a0 v1 e0 m (w64 (v2 + 1))
  else
  some (.inr v2)
theorem qU (a0 : (List GItem)) (v1 : Int) (e0 : GItem) (m : Nat) : ∀ (v2 : Int), Ol (y3 a0 v1 e0 m v2) 95 (zY Try.f95 0) ⟨[(0, vq ym a0), (1, .val false [.fn 63 [.ptr 0 0]]), (7, vi v1), (8, vi v2)], [.var (zJ e0)], 1⟩ fun o => match o with | .inl o_0 => (.ret, ⟨[(4, vi o_0)], [.var (zJ e0)], 1⟩) | .inr (o_1) => (.exit 0, ⟨[(0, vq ym a0), (1, .val false [.fn 63 [.ptr 0 0]]), (7, vi v1), (8, vi o_1), (9, vb false)], [.var (zJ e0)], 1⟩) := by
  induction m with
  | zero => intro v2 o h; cases h
  | succ m ih => exact fun v2 => tlp (
   .lI v2 v1 (fun c1 =>
    .na v2 fun i2 =>
    .ix eq_GItem a0 i2 fun x3 =>
    .cl (W6 x3 e0) fun r4 =>
    .vM 0 r4 (
     .ret (.inl v2)) <|
    .go (ih (w64 (v2 + 1)))) fun c1 =>
   .ret (.inr v2))
def yO (n : Nat) (a0 : (List GItem)) (e0 : GItem) : Option Int :=
 (y3 a0 (a0.length : Int) e0 n 0).bind fun o1 =>
 match o1 with
 | .inl o1_0 =>
  some o1_0
 | .inr (o1_1) =>
  some (-1)
theorem jS (n : Nat) : wm (yO n) := fun a0 e0 => tc (
 .le ym a0 <|
 .l2 (qU a0 (a0.length : Int) e0 n 0) (fun o1_0 =>
  .ret o1_0) fun o1_1 =>
 .ret (-1)) (zs Try.func95)
def yP (a0 : (List GItem)) (e0 : GItem) : Option Int := yO (a0.length + 5) a0 e0
theorem jk (a0 : (List GItem)) (e0 : GItem) (r : Int) (h : yP a0 e0 = some r) : ∃ n, yO n a0 e0 = some r := ⟨_, h⟩
theorem jI : wm yP := fun a0 e0 r h => (jk a0 e0 r h).elim fun n hn => jS n a0 e0 r hn
def y4 (a0 : (List GItem)) (e0 : GItem) : Option Bool :=
 (yP a0 e0).bind fun r1 =>
 some (decide (0 <= r1))
theorem qV (a0 : (List GItem)) (e0 : GItem) : Oc (y4 a0 e0) 62 [.var (zJ e0)] [vq ym a0, .val false [.fn 63 [.ptr 0 0]]] fun r => (vb r, [.var (zJ e0)]) := tc (
 .cl (jI a0 e0) fun r1 =>
 .gD 0 r1 <|
 .ret (decide (0 <= r1))) (zs Try.func62)
def Y4 (F : (List GItem) → Option Bool) : Prop := ∀ (a0 : (List GItem)), Oc (F a0) 34 [] [vq ym a0] fun r => (vb r, [])
def xi (a0 : (List GItem)) (v2 : Int) (v3 : Int) (v4 : (List GExpr)) (v5 : Int) (v7 : GItem) : Nat → Int → Int → Option (Int × Int)
  | 0, _, _ => none
  | m + 1, v1, v6 =>
  if v6 < v5 then
   (zT v6).bind fun i2 =>
   (v4[i2]?).bind fun x3 =>
   (yh x3).bind fun r4 =>
   xi a0 v2 v3 v4 v5 v7 m (w64 (v1 + r4)) (w64 (v6 + 1))
  else
  some (v1, v6)
theorem XT (a0 : (List GItem)) (v2 : Int) (v3 : Int) (v4 : (List GExpr)) (v5 : Int) (v7 : GItem) (m : Nat) : ∀ (v1 : Int) (v6 : Int), Ol (xi a0 v2 v3 v4 v5 v7 m v1 v6) 34 (zY Try.f34 1) ⟨[(0, vq ym a0), (3, vi v1), (5, vp 0 0), (11, vq ym a0), (12, vi v2), (13, vi v3), (29, vq zb v4), (30, vi v5), (31, vi v6)], [.var (zJ v7)], 0⟩ fun o => match o with | ⟨o_0, o_1⟩ => (.exit 2, ⟨[(0, vq ym a0), (3, vi o_0), (5, vp 0 0), (11, vq ym a0), (12, vi v2), (13, vi v3), (29, vq zb v4), (30, vi v5), (31, vi o_1), (32, vb false)], [.var (zJ v7)], 0⟩) := by
  induction m with
  | zero => intro v1 v6 o h; cases h
  | succ m ih => exact fun v1 v6 => tlp (
   .lI v6 v5 (fun c1 =>
    .na v6 fun i2 =>
    .ix zV v4 i2 fun x3 =>
    .cl (jt x3) fun r4 =>
    .go (ih (w64 (v1 + r4)) (w64 (v6 + 1)))) fun c1 =>
   .ret (v1, v6))
def y9 (n : Nat) (a0 : (List GItem)) (v2 : Int) : Nat → Int → Int → Option (Bool ⊕ (Int × Int))
  | 0, _, _ => none
  | m + 1, v1, v3 =>
  if v3 < v2 then
   (zT v3).bind fun i2 =>
   (a0[i2]?).bind fun x3 =>
   (qL x3).bind fun r4 =>
   match r4 with
   | true =>
    (kY a0 none (some i2)).bind fun s5 =>
    (y4 s5 x3).bind fun r6 =>
    match r6 with
    | true =>
     some (.inl false)
    | false =>
     (xi a0 v2 v3 x3.Exprs (x3.Exprs.length : Int) x3 n v1 0).bind fun ⟨o7_0, o7_1⟩ =>
     if x3.Many = 0 then
      y9 n a0 v2 m o7_0 (w64 (v3 + 1))
     else
     (yh x3.By).bind fun r9 =>
     y9 n a0 v2 m (w64 (o7_0 + r9)) (w64 (v3 + 1))
   | false =>
    some (.inl false)
  else
  some (.inr (v1, v3))
theorem XU (n : Nat) (a0 : (List GItem)) (v2 : Int) (m : Nat) : ∀ (v1 : Int) (v3 : Int), Ol (y9 n a0 v2 m v1 v3) 34 (zY Try.f34 0) ⟨[(0, vq ym a0), (3, vi v1), (11, vq ym a0), (12, vi v2), (13, vi v3)], [], 0⟩ fun o => match o with | .inl o_0 => (.ret, ⟨[(2, vb o_0)], [], 0⟩) | .inr (⟨o_1_0, o_1_1⟩) => (.exit 0, ⟨[(0, vq ym a0), (3, vi o_1_0), (11, vq ym a0), (12, vi v2), (13, vi o_1_1), (14, vb false)], [], 0⟩) := by
  induction m with
  | zero => intro v1 v3 o h; cases h
  | succ m ih => exact fun v1 v3 => tlp (
   .lI v3 v2 (fun c1 =>
    .na v3 fun i2 =>
    .ix eq_GItem a0 i2 fun x3 =>
    .cl (Vn x3) fun r4 =>
    .vN 0 r4 (
     .an 0 0 <|
     .an 0 0 <|
     .ag 3 <|
     .ct ym a0 none (some i2) fun s5 =>
     .un UE a0 <|
     .an 0 1 <|
     .an 0 1 <|
     .cl (qV s5 x3) fun r6 =>
     .an 0 2 <|
     .vM 0 r6 (
      .ret (.inl false)) <|
     .le zb x3.Exprs <|
     .lp (XT a0 v2 v3 x3.Exprs (x3.Exprs.length : Int) x3 n v1 0) fun ⟨o7_0, o7_1⟩ =>
     .eI x3.Many 0 (fun c8 =>
      .go (ih o7_0 (w64 (v3 + 1)))) fun c8 =>
     .cl (jt x3.By) fun r9 =>
     .go (ih (w64 (o7_0 + r9)) (w64 (v3 + 1)))) <|
    .an 0 0 <|
    .an 0 0 <|
    .an 0 0 <|
    .an 0 0 <|
    .an 0 0 <|
    .ret (.inl false)) fun c1 =>
   .ret (.inr (v1, v3)))
def jc (n : Nat) (a0 : (List GItem)) : Option Bool :=
 if 12 < (a0.length : Int) then
  some false
 else
 (y9 n a0 (a0.length : Int) n 0 0).bind fun o2 =>
 match o2 with
 | .inl o2_0 =>
  some o2_0
 | .inr (⟨o2_1_0, o2_1_1⟩) =>
  some (decide (o2_1_0 <= 150))
theorem Kg (n : Nat) : Y4 (jc n) := fun a0 => tc (
 .le ym a0 <|
 .lI 12 (a0.length : Int) (fun c1 =>
  .ret false) fun c1 =>
 .le ym a0 <|
 .l2 (XU n a0 (a0.length : Int) n 0 0) (fun o2_0 =>
  .ret o2_0) fun ⟨o2_1_0, o2_1_1⟩ =>
 .gD o2_1_0 150 <|
 .ret (decide (o2_1_0 <= 150))) (zs Try.func34)
def wO (a0 : (List GItem)) : Option Bool := jc (a0.length + (a0.map fun x => x.Exprs.length).sum + 5) a0
theorem W7 (a0 : (List GItem)) (r : Bool) (h : wO a0 = some r) : ∃ n, jc n a0 = some r := ⟨_, h⟩
theorem Jj : Y4 wO := fun a0 r h => (W7 a0 r h).elim fun n hn => Kg n a0 r hn
def k6 (a0 : (List UInt8)) : Option (List UInt8) :=
 if xJ 1 (0 + a0.length) then
 some a0
 else none
theorem Qx (a0 : (List UInt8)) : Oc (k6 a0) 80 [] [vq za a0] fun r => (.val false [.own 1 (eL za r)], []) := tc (
 .ap 1 Zg [] a0 fun n1 =>
 .ret a0) (zs Try.func80)
def wn (F : GExpr → Int → Option (List (List UInt8))) : Prop := ∀ (a0 : GExpr) (a1 : Int), Oc (F a0 a1) 66 [] [.val true (yv a0), vi a1] fun r => (.val false [.own 1 (eL (zS 1 za) r)], [])
def yp (G_impl_Expr_named : GExpr → Int → Option (List (List UInt8))) (a1 : Int) (v1 : (List GExpr)) (v2 : Int) : Nat → Int → (List (List UInt8)) → Option (Int × (List (List UInt8)))
  | 0, _, _ => none
  | m + 1, v3, v4 =>
  if v3 < v2 then
   (zT v3).bind fun i2 =>
   (v1[i2]?).bind fun x3 =>
   (G_impl_Expr_named x3 a1).bind fun r4 =>
   if xJ 24 (v4.length + r4.length) then
   yp G_impl_Expr_named a1 v1 v2 m (w64 (v3 + 1)) (v4 ++ r4)
   else none
  else
  some (v3, v4)
theorem kL (G_impl_Expr_named : GExpr → Int → Option (List (List UInt8))) (H_impl_Expr_named : wn G_impl_Expr_named) (a1 : Int) (v1 : (List GExpr)) (v2 : Int) (m : Nat) : ∀ (v3 : Int) (v4 : (List (List UInt8))), Ol (yp G_impl_Expr_named a1 v1 v2 m v3 v4) 66 (zY Try.f66 0) ⟨[(1, vi a1), (5, vr 0), (20, vq zb v1), (21, vi v2), (22, vi v3)], [.obj 1 (eL (zS 1 za) v4)], 0⟩ fun o => match o with | ⟨o_0, o_1⟩ => (.exit 0, ⟨[(1, vi a1), (5, vr 0), (20, vq zb v1), (21, vi v2), (22, vi o_0), (23, vb false)], [.obj 1 (eL (zS 1 za) o_1)], 0⟩) := by
  induction m with
  | zero => intro v3 v4 o h; cases h
  | succ m ih => exact fun v3 v4 => tlp (
   .lI v3 v2 (fun c1 =>
    .na v3 fun i2 =>
    .ix zV v1 i2 fun x3 =>
    .cl (H_impl_Expr_named x3 a1) fun r4 =>
    .ao 24 (xq 1 yM) v4 r4 fun n5 =>
    .go (ih (w64 (v3 + 1)) (v4 ++ r4))) fun c1 =>
   .ret (v3, v4))
def wZ (G_impl_Expr_named : GExpr → Int → Option (List (List UInt8))) (n : Nat) (a0 : GExpr) (a1 : Int) : Option (List (List UInt8)) :=
 if a0.Kind = a1 then
  (k6 a0.S).bind fun r2 =>
  if xJ 24 (0 + [r2].length) then
  (yp G_impl_Expr_named a1 a0.Kids (a0.Kids.length : Int) n 0 [r2]).bind fun ⟨o4_0, o4_1⟩ =>
  (yc o4_1).bind fun r5 =>
  (zW r5).bind fun r6 =>
  some r6
  else none
 else
 (yp G_impl_Expr_named a1 a0.Kids (a0.Kids.length : Int) n 0 []).bind fun ⟨o2_0, o2_1⟩ =>
 (yc o2_1).bind fun r3 =>
 (zW r3).bind fun r4 =>
 some r4
theorem Qy (G_impl_Expr_named : GExpr → Int → Option (List (List UInt8))) (H_impl_Expr_named : wn G_impl_Expr_named) (n : Nat) : wn (wZ G_impl_Expr_named n) := fun a0 a1 => tc (
 .eI a0.Kind a1 (fun c1 =>
  .cl (Qx a0.S) fun r2 =>
  .ao 24 (xq 1 yM) [] [r2] fun n3 =>
  .le zb a0.Kids <|
  .lp (kL G_impl_Expr_named H_impl_Expr_named a1 a0.Kids (a0.Kids.length : Int) n 0 [r2]) fun ⟨o4_0, o4_1⟩ =>
  .cl (w8 o4_1) fun r5 =>
  .cl (wg r5) fun r6 =>
  .ret r6) fun c1 =>
 .le zb a0.Kids <|
 .lp (kL G_impl_Expr_named H_impl_Expr_named a1 a0.Kids (a0.Kids.length : Int) n 0 []) fun ⟨o2_0, o2_1⟩ =>
 .cl (w8 o2_1) fun r3 =>
 .cl (wg r3) fun r4 =>
 .ret r4) (zs Try.func66)
def zU : Nat → GExpr → Int → Option (List (List UInt8))
 | 0, _, _ => none
 | n + 1, a0, a1 => wZ (zU n) n a0 a1
theorem XV (n : Nat) : wn (zU n) := by
 induction n with
 | zero => exact fun _ _ _ h => (by rw [zU] at h; cases h)
 | succ n ih =>
  have ih_impl_Expr_named := ih
  exact fun a0 a1 r h => Qy (zU n) ih_impl_Expr_named n a0 a1 r (by rw [zU] at h; exact h)
def qf (a0 : GExpr) (a1 : Int) : Option (List (List UInt8)) := zU (xsz a0 + 3) a0 a1
theorem Xx (a0 : GExpr) (a1 : Int) (r : (List (List UInt8))) (h : qf a0 a1 = some r) : ∃ n, zU n a0 a1 = some r := ⟨_, h⟩
theorem W8 : wn qf := by
 intro a0 a1 r h
 obtain ⟨n, hn⟩ := Xx a0 a1 r h
 exact (XV n) a0 a1 r hn
def Y5 (F : GItem → Option (List (List UInt8))) : Prop := ∀ (a0 : GItem), Oc (F a0) 35 [] [.val true (zJ a0)] fun r => (.val false [.own 1 (eL (zS 1 za) r)], [])
def xj (v0 : (List GExpr)) (v1 : Int) : Nat → Int → (List (List UInt8)) → Option (Int × (List (List UInt8)))
  | 0, _, _ => none
  | m + 1, v2, v3 =>
  if v2 < v1 then
   (zT v2).bind fun i2 =>
   (v0[i2]?).bind fun x3 =>
   (qf x3 7).bind fun r4 =>
   if xJ 24 (v3.length + r4.length) then
   xj v0 v1 m (w64 (v2 + 1)) (v3 ++ r4)
   else none
  else
  some (v2, v3)
theorem XW (v0 : (List GExpr)) (v1 : Int) (m : Nat) : ∀ (v2 : Int) (v3 : (List (List UInt8))), Ol (xj v0 v1 m v2 v3) 35 (zY Try.f35 0) ⟨[(3, vr 0), (8, vq zb v0), (9, vi v1), (10, vi v2)], [.obj 1 (eL (zS 1 za) v3)], 0⟩ fun o => match o with | ⟨o_0, o_1⟩ => (.exit 0, ⟨[(3, vr 0), (8, vq zb v0), (9, vi v1), (10, vi o_0), (11, vb false)], [.obj 1 (eL (zS 1 za) o_1)], 0⟩) := by
  induction m with
  | zero => intro v2 v3 o h; cases h
  | succ m ih => exact fun v2 v3 => tlp (
   .lI v2 v1 (fun c1 =>
    .na v2 fun i2 =>
    .ix zV v0 i2 fun x3 =>
    .cl (W8 x3 7) fun r4 =>
    .ao 24 (xq 1 yM) v3 r4 fun n5 =>
    .go (ih (w64 (v2 + 1)) (v3 ++ r4))) fun c1 =>
   .ret (v2, v3))
def jd (n : Nat) (a0 : GItem) : Option (List (List UInt8)) :=
 (xj a0.Exprs (a0.Exprs.length : Int) n 0 []).bind fun ⟨o1_0, o1_1⟩ =>
 (yc o1_1).bind fun r2 =>
 (zW r2).bind fun r3 =>
 some r3
theorem Kh (n : Nat) : Y5 (jd n) := fun a0 => tc (
 .le zb a0.Exprs <|
 .lp (XW a0.Exprs (a0.Exprs.length : Int) n 0 []) fun ⟨o1_0, o1_1⟩ =>
 .cl (w8 o1_1) fun r2 =>
 .cl (wg r2) fun r3 =>
 .ret r3) (zs Try.func35)
def wP (a0 : GItem) : Option (List (List UInt8)) := jd (a0.Exprs.length + 5) a0
theorem W9 (a0 : GItem) (r : (List (List UInt8))) (h : wP a0 = some r) : ∃ n, jd n a0 = some r := ⟨_, h⟩
theorem Jk : Y5 wP := fun a0 r h => (W9 a0 r h).elim fun n hn => Kh n a0 r hn
def je (a0 : GItem) : Option (List (List UInt8)) :=
 (wO [a0]).bind fun r1 =>
 match r1 with
 | true =>
  (wP a0).bind fun r2 =>
  some r2
 | false =>
  some []
theorem Jl (a0 : GItem) : Oc (je a0) 8 [] [.val true (zJ a0)] fun r => (.val false [.own 1 (eL (zS 1 za) r)], []) := tc (
 .vw UE [a0] <|
 .cl (Jj [a0]) fun r1 =>
 .vN 0 r1 (
  .cl (Jk a0) fun r2 =>
  .ret r2) <|
 .ret []) (zs Try.func8)
def YQ (F : (List UInt8) → (List UInt8) → Option Bool) : Prop := ∀ (a0 : (List UInt8)) (a1 : (List UInt8)), Oc (F a0 a1) 36 [] [vq za a0, vq za a1] fun r => (vb r, [])
def xA (a0 : (List UInt8)) (a1 : (List UInt8)) : Nat → Int → Option (Bool ⊕ Int)
  | 0, _ => none
  | m + 1, v2 =>
  if v2 < (a0.length : Int) then
   (zT v2).bind fun i2 =>
   (a0[i2]?).bind fun x3 =>
   (a1[i2]?).bind fun x4 =>
   if ((x3.toNat : Nat) : Int) = ((x4.toNat : Nat) : Int) then
    xA a0 a1 m (w64 (v2 + 1))
   else
   some (.inl false)
  else
  some (.inr v2)
theorem WA (a0 : (List UInt8)) (a1 : (List UInt8)) (m : Nat) : ∀ (v2 : Int), Ol (xA a0 a1 m v2) 36 (zY Try.f36 0) ⟨[(0, vq za a0), (1, vq za a1), (5, vi v2)], [], 0⟩ fun o => match o with | .inl o_0 => (.ret, ⟨[(4, vb o_0)], [], 0⟩) | .inr (o_1) => (.exit 0, ⟨[(0, vq za a0), (1, vq za a1), (5, vi o_1), (14, vb false)], [], 0⟩) := by
  induction m with
  | zero => intro v2 o h; cases h
  | succ m ih => exact fun v2 => tlp (
   .le za a0 <|
   .lI v2 (a0.length : Int) (fun c1 =>
    .na v2 fun i2 =>
    .ix0 za a0 i2 fun x3 =>
    .ag 1 <|
    .ix0 za a1 i2 fun x4 =>
    .eI ((x3.toNat : Nat) : Int) ((x4.toNat : Nat) : Int) (fun c5 =>
     .go (ih (w64 (v2 + 1)))) fun c5 =>
    .ret (.inl false)) fun c1 =>
   .ret (.inr v2))
def vB (n : Nat) (a0 : (List UInt8)) (a1 : (List UInt8)) : Option Bool :=
 if (a0.length : Int) = (a1.length : Int) then
  (xA a0 a1 n 0).bind fun o2 =>
  match o2 with
  | .inl o2_0 =>
   some o2_0
  | .inr (o2_1) =>
   some true
 else
 some false
theorem Vp (n : Nat) : YQ (vB n) := fun a0 a1 => tc (
 .le za a0 <|
 .le za a1 <|
 .eI (a0.length : Int) (a1.length : Int) (fun c1 =>
  .l2 (WA a0 a1 n 0) (fun o2_0 =>
   .ret o2_0) fun o2_1 =>
  .ret true) fun c1 =>
 .ret false) (zs Try.func36)
theorem TJ {a : List UInt8} (ha : a.length <= 2 ^ 40) : ∀ (d i m : Nat), i + d = a.length → d < m → ∃ z, xA a a m (i : Int) = some (.inr z) := by
 intro d
 induction d with
 | zero =>
  intro i m hi hm
  obtain ⟨m, rfl, _⟩ := zl hm
  exact ⟨_, by rw [xA, if_neg (by omega)]⟩
 | succ d ih =>
  intro i m hi hm
  obtain ⟨m, rfl, hm'⟩ := zl hm
  have hil : i < a.length := by omega
  rw [xA, if_pos (by omega), zu, Option.bind_some, zo hil, Option.bind_some, Option.bind_some, if_pos rfl, yb (by omega)]
  exact ih (i + 1) m (by omega) (by omega)
def yI (a0 : (List UInt8)) (a1 : (List UInt8)) : Option Bool := if a0 = a1 ∧ a0.length <= 2 ^ 40 then some true else none
theorem Qz (a0 : (List UInt8)) (a1 : (List UInt8)) (r : Bool) (h : yI a0 a1 = some r) : ∃ n, vB n a0 a1 = some r := by
 unfold yI at h
 obtain ⟨⟨he, ha⟩, h2⟩ := yl h
 clear h
 subst he
 refine ⟨a0.length + 1, ?_⟩
 obtain ⟨z, hz⟩ := TJ ha a0.length 0 (a0.length + 1) (by omega) (by omega)
 rw [show ((0 : Nat) : Int) = 0 from rfl] at hz
 unfold vB
 rw [if_pos rfl, hz]; exact h2
theorem vf : YQ yI := fun a0 a1 r h => (Qz a0 a1 r h).elim fun n hn => Vp n a0 a1 r hn
def Y6 (F : (List (List UInt8)) → (List (List UInt8)) → Option Bool) : Prop := ∀ (a0 : (List (List UInt8))) (a1 : (List (List UInt8))), Oc (F a0 a1) 9 [] [vq (zk za) a0, vq (zk za) a1] fun r => (vb r, [])
def xl (a0 : (List (List UInt8))) (a1 : (List (List UInt8))) : Nat → Int → Option (Bool ⊕ Int)
  | 0, _ => none
  | m + 1, v2 =>
  if v2 < (a0.length : Int) then
   (zT v2).bind fun i2 =>
   (a0[i2]?).bind fun x3 =>
   (a1[i2]?).bind fun x4 =>
   (yI x3 x4).bind fun r5 =>
   match r5 with
   | true =>
    xl a0 a1 m (w64 (v2 + 1))
   | false =>
    some (.inl false)
  else
  some (.inr v2)
theorem XX (a0 : (List (List UInt8))) (a1 : (List (List UInt8))) (m : Nat) : ∀ (v2 : Int), Ol (xl a0 a1 m v2) 9 (zY Try.f9 0) ⟨[(0, vq (zk za) a0), (1, vq (zk za) a1), (5, vi v2)], [], 0⟩ fun o => match o with | .inl o_0 => (.ret, ⟨[(4, vb o_0)], [], 0⟩) | .inr (o_1) => (.exit 0, ⟨[(0, vq (zk za) a0), (1, vq (zk za) a1), (5, vi o_1), (14, vb false)], [], 0⟩) := by
  induction m with
  | zero => intro v2 o h; cases h
  | succ m ih => exact fun v2 => tlp (
   .le (zk za) a0 <|
   .lI v2 (a0.length : Int) (fun c1 =>
    .na v2 fun i2 =>
    .ix0 (zk za) a0 i2 fun x3 =>
    .ag 1 <|
    .ix0 (zk za) a1 i2 fun x4 =>
    .cl (vf x3 x4) fun r5 =>
    .vN 0 r5 (
     .go (ih (w64 (v2 + 1)))) <|
    .ret (.inl false)) fun c1 =>
   .ret (.inr v2))
def vg (n : Nat) (a0 : (List (List UInt8))) (a1 : (List (List UInt8))) : Option Bool :=
 if (a0.length : Int) = (a1.length : Int) then
  (xl a0 a1 n 0).bind fun o2 =>
  match o2 with
  | .inl o2_0 =>
   some o2_0
  | .inr (o2_1) =>
   some true
 else
 some false
theorem Ki (n : Nat) : Y6 (vg n) := fun a0 a1 => tc (
 .le (zk za) a0 <|
 .le (zk za) a1 <|
 .eI (a0.length : Int) (a1.length : Int) (fun c1 =>
  .l2 (XX a0 a1 n 0) (fun o2_0 =>
   .ret o2_0) fun o2_1 =>
  .ret true) fun c1 =>
 .ret false) (zs Try.func9)
theorem Rv {a : List (List UInt8)} (ha : bsz a <= 2 ^ 40) : ∀ (d i m : Nat), i + d = a.length → d < m → ∃ z, xl a a m (i : Int) = some (.inr z) := by
 have hl := qq a
 intro d
 induction d with
 | zero =>
  intro i m hi hm
  obtain ⟨m, rfl, _⟩ := zl hm
  exact ⟨_, by rw [xl, if_neg (by omega)]⟩
 | succ d ih =>
  intro i m hi hm
  obtain ⟨m, rfl, hm'⟩ := zl hm
  have hil : i < a.length := by omega
  have hx := vG (List.getElem_mem hil)
  rw [xl, if_pos (by omega), zu, Option.bind_some, zo hil, Option.bind_some, Option.bind_some]
  unfold yI
  rw [if_pos ⟨rfl, by omega⟩, Option.bind_some, yb (by omega)]
  exact ih (i + 1) m (by omega) (by omega)
def yT (a0 : (List (List UInt8))) (a1 : (List (List UInt8))) : Option Bool := if a0 = a1 ∧ bsz a0 <= 2 ^ 40 then some true else none
theorem WB (a0 : (List (List UInt8))) (a1 : (List (List UInt8))) (r : Bool) (h : yT a0 a1 = some r) : ∃ n, vg n a0 a1 = some r := by
 unfold yT at h
 obtain ⟨⟨he, ha⟩, h2⟩ := yl h
 clear h
 subst he
 have hl := qq a0
 refine ⟨a0.length + 1, ?_⟩
 obtain ⟨z, hz⟩ := Rv ha a0.length 0 (a0.length + 1) (by omega) (by omega)
 rw [show ((0 : Nat) : Int) = 0 from rfl] at hz
 unfold vg
 rw [if_pos rfl, hz]; exact h2
theorem k8 : Y6 yT := fun a0 a1 r h => (WB a0 a1 r h).elim fun n hn => Ki n a0 a1 r hn
def jJ (F : (List GExpr) → (List GExpr) → Option Bool) : Prop := ∀ (a0 : (List GExpr)) (a1 : (List GExpr)), Oc (F a0 a1) 38 [] [vq zb a0, vq zb a1] fun r => (vb r, [])
def qM (F : GExpr → GExpr → Option Bool) : Prop := ∀ (a0 : GExpr) (a1 : GExpr), Oc (F a0 a1) 37 [] [.val true (yv a0), .val true (yv a1)] fun r => (vb r, [])
def xB (G_laws_eqExpr : GExpr → GExpr → Option Bool) (a0 : (List GExpr)) (a1 : (List GExpr)) : Nat → Int → Option (Bool ⊕ Int)
  | 0, _ => none
  | m + 1, v2 =>
  if v2 < (a0.length : Int) then
   (zT v2).bind fun i2 =>
   (a0[i2]?).bind fun x3 =>
   (a1[i2]?).bind fun x4 =>
   (G_laws_eqExpr x3 x4).bind fun r5 =>
   match r5 with
   | true =>
    xB G_laws_eqExpr a0 a1 m (w64 (v2 + 1))
   | false =>
    some (.inl false)
  else
  some (.inr v2)
theorem WC (G_laws_eqExpr : GExpr → GExpr → Option Bool) (H_laws_eqExpr : qM G_laws_eqExpr) (a0 : (List GExpr)) (a1 : (List GExpr)) (m : Nat) : ∀ (v2 : Int), Ol (xB G_laws_eqExpr a0 a1 m v2) 38 (zY Try.f38 0) ⟨[(0, vq zb a0), (1, vq zb a1), (5, vi v2)], [], 0⟩ fun o => match o with | .inl o_0 => (.ret, ⟨[(4, vb o_0)], [], 0⟩) | .inr (o_1) => (.exit 0, ⟨[(0, vq zb a0), (1, vq zb a1), (5, vi o_1), (14, vb false)], [], 0⟩) := by
  induction m with
  | zero => intro v2 o h; cases h
  | succ m ih => exact fun v2 => tlp (
   .le zb a0 <|
   .lI v2 (a0.length : Int) (fun c1 =>
    .na v2 fun i2 =>
    .ix zV a0 i2 fun x3 =>
    .ag 1 <|
    .ix zV a1 i2 fun x4 =>
    .cl (H_laws_eqExpr x3 x4) fun r5 =>
    .vN 0 r5 (
     .go (ih (w64 (v2 + 1)))) <|
    .ret (.inl false)) fun c1 =>
   .ret (.inr v2))
def jK (G_laws_eqExpr : GExpr → GExpr → Option Bool) (n : Nat) (a0 : (List GExpr)) (a1 : (List GExpr)) : Option Bool :=
 if (a0.length : Int) = (a1.length : Int) then
  (xB G_laws_eqExpr a0 a1 n 0).bind fun o2 =>
  match o2 with
  | .inl o2_0 =>
   some o2_0
  | .inr (o2_1) =>
   some true
 else
 some false
theorem Vq (G_laws_eqExpr : GExpr → GExpr → Option Bool) (H_laws_eqExpr : qM G_laws_eqExpr) (n : Nat) : jJ (jK G_laws_eqExpr n) := fun a0 a1 => tc (
 .le zb a0 <|
 .le zb a1 <|
 .eI (a0.length : Int) (a1.length : Int) (fun c1 =>
  .l2 (WC G_laws_eqExpr H_laws_eqExpr a0 a1 n 0) (fun o2_0 =>
   .ret o2_0) fun o2_1 =>
  .ret true) fun c1 =>
 .ret false) (zs Try.func38)
def Zo (G_laws_eqExprS : (List GExpr) → (List GExpr) → Option Bool) (a0 : GExpr) (a1 : GExpr) : Option Bool :=
 if a0.Kind = a1.Kind then
  if a0.N = a1.N then
   (yI a0.S a1.S).bind fun r3 =>
   match r3 with
   | true =>
    (yT a0.K a1.K).bind fun r4 =>
    match r4 with
    | true =>
     (G_laws_eqExprS a0.Kids a1.Kids).bind fun r5 =>
     match r5 with
     | true =>
      some true
     | false =>
      some false
    | false =>
     some false
   | false =>
    some false
  else
  some false
 else
 some false
theorem Rw (G_laws_eqExprS : (List GExpr) → (List GExpr) → Option Bool) (H_laws_eqExprS : jJ G_laws_eqExprS) : qM (Zo G_laws_eqExprS) := fun a0 a1 => tc (
 .eI a0.Kind a1.Kind (fun c1 =>
  .eI a0.N a1.N (fun c2 =>
   .cl (vf a0.S a1.S) fun r3 =>
   .vN 0 r3 (
    .cl (k8 a0.K a1.K) fun r4 =>
    .vN 0 r4 (
     .cl (H_laws_eqExprS a0.Kids a1.Kids) fun r5 =>
     .vN 0 r5 (
      .ret true) <|
     .ret false) <|
    .ret false) <|
   .ret false) fun c2 =>
  .ret false) fun c1 =>
 .ret false) (zs Try.func37)
mutual
def xm : Nat → (List GExpr) → (List GExpr) → Option Bool
 | 0, _, _ => none
 | n + 1, a0, a1 => jK (xH n) n a0 a1
def xH : Nat → GExpr → GExpr → Option Bool
 | 0, _, _ => none
 | n + 1, a0, a1 => Zo (xm n) a0 a1
end
theorem ZU (n : Nat) : jJ (xm n) ∧ qM (xH n) := by
 induction n with
 | zero => exact ⟨fun _ _ _ h => (by rw [xm] at h; cases h), fun _ _ _ h => (by rw [xH] at h; cases h)⟩
 | succ n ih =>
  obtain ⟨ih_laws_eqExprS, ih_laws_eqExpr⟩ := ih
  exact ⟨fun a0 a1 r h => Vq (xH n) ih_laws_eqExpr n a0 a1 r (by rw [xm] at h; exact h),
   fun a0 a1 r h => Rw (xm n) ih_laws_eqExprS a0 a1 r (by rw [xH] at h; exact h)⟩
theorem VS {G : GExpr → GExpr → Option Bool} {a : List GExpr} {f : Nat} (ha : a.length <= 2 ^ 40) (hf : a.length < f) (hG : ∀ v ∈ a, G v v = some true) : jK G f a a = some true := by
 have loop : ∀ (d i m : Nat), i + d = a.length → d < m → ∃ z, xB G a a m (i : Int) = some (.inr z) := by
  intro d
  induction d with
  | zero =>
   intro i m hi hm
   obtain ⟨m, rfl, _⟩ := zl hm
   exact ⟨_, by rw [xB, if_neg (by omega)]⟩
  | succ d ih =>
   intro i m hi hm
   obtain ⟨m, rfl, hm'⟩ := zl hm
   have hil : i < a.length := by omega
   rw [xB, if_pos (by omega), zu, Option.bind_some, zo hil, Option.bind_some, Option.bind_some, hG _ (List.getElem_mem hil), Option.bind_some, yb (by omega)]
   exact ih (i + 1) m (by omega) (by omega)
 obtain ⟨z, hz⟩ := loop a.length 0 f (by omega) (by omega)
 rw [show ((0 : Nat) : Int) = 0 from rfl] at hz
 unfold jK
 rw [if_pos rfl, hz]; rfl
theorem TK : ∀ (N : Nat) (v : GExpr), xsz v < N → xsz v <= 2 ^ 40 → ∀ f : Nat, 2 * xsz v + 3 <= f → xH f v v = some true := by
 intro N
 induction N with
 | zero => intro v hv; omega
 | succ N ih =>
  intro v hv hs f hf
  obtain ⟨f, rfl, _⟩ := zl (show 0 < f by omega)
  obtain ⟨f, rfl, _⟩ := zl (show 0 < f by omega)
  have he := w5 v
  have hl := zX v.Kids
  rw [xH]
  unfold Zo yI yT
  rw [if_pos rfl, if_pos rfl, if_pos (show v.S = v.S ∧ v.S.length <= 2 ^ 40 from ⟨rfl, by omega⟩), Option.bind_some]
  dsimp only
  rw [if_pos (show v.K = v.K ∧ bsz v.K <= 2 ^ 40 from ⟨rfl, by omega⟩), Option.bind_some]
  dsimp only
  rw [xm, VS (by omega) (by omega) fun x hx => ?_]
  ·rfl
  ·have := yy hx
   exact ih x (by omega) (by omega) f (by omega)
open Classical in
noncomputable def qp (a0 : (List GExpr)) (a1 : (List GExpr)) : Option Bool := if a0 = a1 ∧ zB a0 <= 2 ^ 40 then some true else none
theorem Q0 (a0 : (List GExpr)) (a1 : (List GExpr)) (r : Bool) (h : qp a0 a1 = some r) : ∃ n, xm n a0 a1 = some r := by
 unfold qp at h
 obtain ⟨⟨he, ha⟩, h2⟩ := yl h
 clear h
 subst he
 have hl := zX a0
 refine ⟨2 * zB a0 + 5, ?_⟩
 rw [xm, VS (by omega) (by omega) fun x hx => ?_, h2]
 have := yy hx
 exact TK _ x (Nat.lt_succ_self _) (by omega) _ (by omega)
open Classical in
noncomputable def qN (a0 : GExpr) (a1 : GExpr) : Option Bool := if a0 = a1 ∧ xsz a0 <= 2 ^ 40 then some true else none
theorem Jm (a0 : GExpr) (a1 : GExpr) (r : Bool) (h : qN a0 a1 = some r) : ∃ n, xH n a0 a1 = some r := by
 unfold qN at h
 obtain ⟨⟨he, ha⟩, h2⟩ := yl h
 clear h
 subst he
 exact ⟨2 * xsz a0 + 3, by rw [<- h2]; exact TK _ a0 (Nat.lt_succ_self _) ha _ (Nat.le_refl _)⟩
theorem Kj : jJ qp := by
 intro a0 a1 r h
 obtain ⟨n, hn⟩ := Q0 a0 a1 r h
 exact (ZU n).1 a0 a1 r hn
theorem Vr : qM qN := by
 intro a0 a1 r h
 obtain ⟨n, hn⟩ := Jm a0 a1 r h
 exact (ZU n).2 a0 a1 r hn
def km (a0 : GItem) (a1 : GItem) : Option Bool :=
 if a0.Kind = a1.Kind then
  (yI a0.Name a1.Name).bind fun r2 =>
  match r2 with
  | true =>
   if a0.Many = a1.Many then
    (qN a0.By a1.By).bind fun r4 =>
    match r4 with
    | true =>
     (yT a0.Names a1.Names).bind fun r5 =>
     match r5 with
     | true =>
      (qp a0.Exprs a1.Exprs).bind fun r6 =>
      match r6 with
      | true =>
       some true
      | false =>
       some false
     | false =>
      some false
    | false =>
     some false
   else
   some false
  | false =>
   some false
 else
 some false
theorem Vs (a0 : GItem) (a1 : GItem) : Oc (km a0 a1) 10 [] [.val true (zJ a0), .val true (zJ a1)] fun r => (vb r, []) := tc (
 .eI a0.Kind a1.Kind (fun c1 =>
  .cl (vf a0.Name a1.Name) fun r2 =>
  .vN 0 r2 (
   .eI a0.Many a1.Many (fun c3 =>
    .cl (Vr a0.By a1.By) fun r4 =>
    .vN 0 r4 (
     .cl (k8 a0.Names a1.Names) fun r5 =>
     .vN 0 r5 (
      .cl (Kj a0.Exprs a1.Exprs) fun r6 =>
      .vN 0 r6 (
       .ret true) <|
      .ret false) <|
     .ret false) <|
    .ret false) fun c3 =>
   .ret false) <|
  .ret false) fun c1 =>
 .ret false) (zs Try.func10)
def ZV (F : Int → (List UInt8) → Option (Int × (List UInt8))) : Prop := ∀ (a0 : Int) (e0 : (List UInt8)), Oc (F a0 e0) 39 [.obj 1 (eL za e0)] [vr 0, vi a0] fun r => (vi r.1, [.obj 1 (eL za r.2)])
def yV : Nat → Int → Int → (List UInt8) → Option (Int × Int × (List UInt8))
  | 0, _, _, _ => none
  | m + 1, a0, v1, e0 =>
  if v1 < (e0.length : Int) then
   (zT v1).bind fun i2 =>
   (e0[i2]?).bind fun x3 =>
   yV m (w64 (a0 + 1)) (w64 (v1 + 1)) (e0.set i2 (b8 a0))
  else
  some (a0, v1, e0)
theorem Xy (m : Nat) : ∀ (a0 : Int) (v1 : Int) (e0 : (List UInt8)), Ol (yV m a0 v1 e0) 39 (zY Try.f39 0) ⟨[(0, vr 0), (1, vi a0), (5, vi v1)], [.obj 1 (eL za e0)], 1⟩ fun o => match o with | ⟨o_0, o_1, o_2⟩ => (.exit 0, ⟨[(0, vr 0), (1, vi o_0), (5, vi o_1), (9, vb false)], [.obj 1 (eL za o_2)], 1⟩) := by
  induction m with
  | zero => intro a0 v1 e0 o h; cases h
  | succ m ih => exact fun a0 v1 e0 => tlp (
   .le za e0 <|
   .lI v1 (e0.length : Int) (fun c1 =>
    .na v1 fun i2 =>
    .ix0 za e0 i2 fun x3 =>
    .ag 0 <|
    .sl (e := za) (x := (b8 a0)) (c := [.int .u8 (((b8 a0).toNat : Nat) : Int)]) rfl e0 i2 <|
    .go (ih (w64 (a0 + 1)) (w64 (v1 + 1)) (e0.set i2 (b8 a0)))) fun c1 =>
   .ret (a0, v1, e0))
def k9 (n : Nat) (a0 : Int) (e0 : (List UInt8)) : Option (Int × (List UInt8)) :=
 (yV n a0 0 e0).bind fun ⟨o1_0, o1_1, o1_2⟩ =>
 some (o1_0, o1_2)
theorem Jn (n : Nat) : ZV (k9 n) := fun a0 e0 => tc (
 .lp (Xy n a0 0 e0) fun ⟨o1_0, o1_1, o1_2⟩ =>
 .ret (o1_0, o1_2)) (zs Try.func39)
theorem Vt : ∀ (l p : List UInt8) (k : Int) (m : Nat), 0 <= k → k + 2 * l.length <= 2 ^ 41 → p.length + l.length <= 2 ^ 41 → l.length < m → ∃ z, yV m k (p.length : Int) (p ++ l) = some (k + l.length, z, p ++ mB k l) := by
 intro l
 induction l with
 | nil =>
  intro p k m _ _ _ hm
  obtain ⟨m, rfl, _⟩ := zl hm
  exact ⟨_, by rw [yV, if_neg (vH p)]; simp [mB]; rfl⟩
 | cons x l ih =>
  intro p k m h0 h1 h2 hm
  obtain ⟨m, rfl, hm'⟩ := zl hm
  simp only [List.length_cons] at h1 h2 hm'
  obtain ⟨z, hz⟩ := ih (p ++ [b8 k]) (k + 1) m (by omega) (by omega) (by simp; omega) (by omega)
  rw [yV, if_pos (Ya p x l), zu, Option.bind_some, xn, Option.bind_some, ZA, wt p (b8 k) (by omega), xZ (x := k + 1) (by omega) (by omega), ZZ p (b8 k) l, hz]
  refine ⟨z, ?_⟩
  rw [mB, ZZ p (b8 k) (mB (k + 1) l)]
  simp only [List.length_cons]
  rw [show k + 1 + (l.length : Int) = k + ((l.length + 1 : Nat) : Int) by omega]
def yA (a0 : Int) (e0 : (List UInt8)) : Option (Int × (List UInt8)) := if 0 <= a0 ∧ a0 + 2 * e0.length <= 2 ^ 41 then some (a0 + e0.length, mB a0 e0) else none
theorem vh {a : Int} {s : List UInt8} (h0 : 0 <= a) (h1 : a + 2 * s.length <= 2 ^ 41) : yA a s = some (a + s.length, mB a s) := if_pos ⟨h0, h1⟩
theorem XY (a0 : Int) (e0 : (List UInt8)) (r : (Int × (List UInt8))) (h : yA a0 e0 = some r) : ∃ n, k9 n a0 e0 = some r := by
 unfold yA at h
 obtain ⟨⟨h0, h1⟩, h⟩ := yl h
 obtain ⟨z, hz⟩ := Vt e0 [] a0 (e0.length + 1) h0 h1 (by simp; omega) (by omega)
 refine ⟨e0.length + 1, ?_⟩
 unfold k9
 simp only [List.nil_append, List.length_nil, Int.natCast_zero] at hz
 rw [hz]
 exact h
theorem qg : ZV yA := fun a0 e0 r h => (XY a0 e0 r h).elim fun n hn => Jn n a0 e0 r hn
def Zu (F : Int → (List (List UInt8)) → Option (Int × (List (List UInt8)))) : Prop := ∀ (a0 : Int) (e0 : (List (List UInt8))), Oc (F a0 e0) 12 [.obj 1 (eL (zS 1 za) e0)] [vr 0, vi a0] fun r => (vi r.1, [.obj 1 (eL (zS 1 za) r.2)])
def yJ : Nat → Int → Int → (List (List UInt8)) → Option (Int × Int × (List (List UInt8)))
  | 0, _, _, _ => none
  | m + 1, a0, v1, e0 =>
  if v1 < (e0.length : Int) then
   (zT v1).bind fun i2 =>
   (e0[i2]?).bind fun x3 =>
   (yA a0 x3).bind fun ⟨r4_0, r4_1⟩ =>
   yJ m r4_0 (w64 (v1 + 1)) (e0.set i2 r4_1)
  else
  some (a0, v1, e0)
theorem YR (m : Nat) : ∀ (a0 : Int) (v1 : Int) (e0 : (List (List UInt8))), Ol (yJ m a0 v1 e0) 12 (zY Try.f12 0) ⟨[(0, vr 0), (1, vi a0), (5, vi v1)], [.obj 1 (eL (zS 1 za) e0)], 1⟩ fun o => match o with | ⟨o_0, o_1, o_2⟩ => (.exit 0, ⟨[(0, vr 0), (1, vi o_0), (5, vi o_1), (9, vb false)], [.obj 1 (eL (zS 1 za) o_2)], 1⟩) := by
  induction m with
  | zero => intro a0 v1 e0 o h; cases h
  | succ m ih => exact fun a0 v1 e0 => tlp (
   .le (zS 1 za) e0 <|
   .lI v1 (e0.length : Int) (fun c1 =>
    .na v1 fun i2 =>
    .ix0 (zS 1 za) e0 i2 fun x3 =>
    .ag 0 <|
    .cl (qg a0 x3) fun ⟨r4_0, r4_1⟩ =>
    .ag 1 <|
    .sl (e := (zS 1 za)) (x := r4_1) (c := [.own 1 (eL za r4_1)]) rfl e0 i2 <|
    .go (ih r4_0 (w64 (v1 + 1)) (e0.set i2 r4_1))) fun c1 =>
   .ret (a0, v1, e0))
def jT (n : Nat) (a0 : Int) (e0 : (List (List UInt8))) : Option (Int × (List (List UInt8))) :=
 (yJ n a0 0 e0).bind fun ⟨o1_0, o1_1, o1_2⟩ =>
 some (o1_0, o1_2)
theorem Q1 (n : Nat) : Zu (jT n) := fun a0 e0 => tc (
 .lp (YR n a0 0 e0) fun ⟨o1_0, o1_1, o1_2⟩ =>
 .ret (o1_0, o1_2)) (zs Try.func12)
theorem Kk : ∀ (l p : List (List UInt8)) (k : Int) (m : Nat), 0 <= k → k + 2 * bsz l <= 2 ^ 41 → p.length + l.length <= 2 ^ 41 → l.length < m → ∃ z, yJ m k (p.length : Int) (p ++ l) = some (k + cB l, z, p ++ mBB k l) := by
 intro l
 induction l with
 | nil =>
  intro p k m _ _ _ hm
  obtain ⟨m, rfl, _⟩ := zl hm
  exact ⟨_, by rw [yJ, if_neg (vH p)]; simp [mBB, cB]; rfl⟩
 | cons x l ih =>
  intro p k m h0 h1 h2 hm
  obtain ⟨m, rfl, hm'⟩ := zl hm
  rw [xT] at h1
  simp only [List.length_cons] at h2 hm'
  obtain ⟨z, hz⟩ := ih (p ++ [mB k x]) (k + x.length) m (by omega) (by omega) (by simp; omega) (by omega)
  rw [yJ, if_pos (Ya p x l), zu, Option.bind_some, xn, Option.bind_some, vh (by omega) (by omega), Option.bind_some]
  dsimp only
  rw [ZA, wt p (mB k x) (by omega), ZZ p (mB k x) l, hz]
  refine ⟨z, ?_⟩
  rw [mBB, ZZ p (mB k x) (mBB (k + x.length) l), UH]
  rw [show k + (x.length : Int) + (cB l : Int) = k + ((x.length + cB l : Nat) : Int) by omega]
def yi (a0 : Int) (e0 : (List (List UInt8))) : Option (Int × (List (List UInt8))) := if 0 <= a0 ∧ a0 + 2 * bsz e0 <= 2 ^ 41 then some (a0 + cB e0, mBB a0 e0) else none
theorem kn {a : Int} {s : List (List UInt8)} (h0 : 0 <= a) (h1 : a + 2 * bsz s <= 2 ^ 41) : yi a s = some (a + cB s, mBB a s) := if_pos ⟨h0, h1⟩
theorem Xz (a0 : Int) (e0 : (List (List UInt8))) (r : (Int × (List (List UInt8)))) (h : yi a0 e0 = some r) : ∃ n, jT n a0 e0 = some r := by
 unfold yi at h
 obtain ⟨⟨h0, h1⟩, h⟩ := yl h
 have := qq e0
 obtain ⟨z, hz⟩ := Kk e0 [] a0 (e0.length + 1) h0 h1 (by simp; omega) (by omega)
 refine ⟨e0.length + 1, ?_⟩
 unfold jT
 simp only [List.nil_append, List.length_nil, Int.natCast_zero] at hz
 rw [hz]
 exact h
theorem wQ : Zu yi := fun a0 e0 r h => (Xz a0 e0 r h).elim fun n hn => Q1 n a0 e0 r hn
def wz (F : Int → (List GExpr) → Option (Int × (List GExpr))) : Prop := ∀ (a0 : Int) (e0 : (List GExpr)), Oc (F a0 e0) 41 [.obj 5 (eL zN e0)] [vr 0, vi a0] fun r => (vi r.1, [.obj 5 (eL zN r.2)])
def yW (G_laws_markExprS : Int → (List GExpr) → Option (Int × (List GExpr))) : Nat → Int → Int → (List GExpr) → Option (Int × Int × (List GExpr))
  | 0, _, _, _ => none
  | m + 1, a0, v1, e0 =>
  if v1 < (e0.length : Int) then
   (zT v1).bind fun i2 =>
   (e0[i2]?).bind fun x3 =>
   ((e0.set i2 (GExpr.mk a0 x3.N x3.S x3.K x3.Kids))[i2]?).bind fun x4 =>
   (((e0.set i2 (GExpr.mk a0 x3.N x3.S x3.K x3.Kids)).set i2 (GExpr.mk x4.Kind (w64 (a0 + 1)) x4.S x4.K x4.Kids))[i2]?).bind fun x5 =>
   (yA (w64 ((w64 (a0 + 1)) + 1)) x5.S).bind fun ⟨r6_0, r6_1⟩ =>
   ((((e0.set i2 (GExpr.mk a0 x3.N x3.S x3.K x3.Kids)).set i2 (GExpr.mk x4.Kind (w64 (a0 + 1)) x4.S x4.K x4.Kids)).set i2 (GExpr.mk x5.Kind x5.N r6_1 x5.K x5.Kids))[i2]?).bind fun x7 =>
   (yi r6_0 x7.K).bind fun ⟨r8_0, r8_1⟩ =>
   (((((e0.set i2 (GExpr.mk a0 x3.N x3.S x3.K x3.Kids)).set i2 (GExpr.mk x4.Kind (w64 (a0 + 1)) x4.S x4.K x4.Kids)).set i2 (GExpr.mk x5.Kind x5.N r6_1 x5.K x5.Kids)).set i2 (GExpr.mk x7.Kind x7.N x7.S r8_1 x7.Kids))[i2]?).bind fun x9 =>
   (G_laws_markExprS r8_0 x9.Kids).bind fun ⟨r10_0, r10_1⟩ =>
   yW G_laws_markExprS m r10_0 (w64 (v1 + 1)) (((((e0.set i2 (GExpr.mk a0 x3.N x3.S x3.K x3.Kids)).set i2 (GExpr.mk x4.Kind (w64 (a0 + 1)) x4.S x4.K x4.Kids)).set i2 (GExpr.mk x5.Kind x5.N r6_1 x5.K x5.Kids)).set i2 (GExpr.mk x7.Kind x7.N x7.S r8_1 x7.Kids)).set i2 (GExpr.mk x9.Kind x9.N x9.S x9.K r10_1))
  else
  some (a0, v1, e0)
theorem X0 (G_laws_markExprS : Int → (List GExpr) → Option (Int × (List GExpr))) (H_laws_markExprS : wz G_laws_markExprS) (m : Nat) : ∀ (a0 : Int) (v1 : Int) (e0 : (List GExpr)), Ol (yW G_laws_markExprS m a0 v1 e0) 41 (zY Try.f41 0) ⟨[(0, vr 0), (1, vi a0), (5, vi v1)], [.obj 5 (eL zN e0)], 1⟩ fun o => match o with | ⟨o_0, o_1, o_2⟩ => (.exit 0, ⟨[(0, vr 0), (1, vi o_0), (5, vi o_1), (9, vb false)], [.obj 5 (eL zN o_2)], 1⟩) := by
  induction m with
  | zero => intro a0 v1 e0 o h; cases h
  | succ m ih => exact fun a0 v1 e0 => tlp (
   .le zN e0 <|
   .lI v1 (e0.length : Int) (fun c1 =>
    .na v1 fun i2 =>
    .ix yU e0 i2 fun x3 =>
    .ag 0 <|
    .sl (yU (GExpr.mk a0 x3.N x3.S x3.K x3.Kids)) e0 i2 <|
    .ag 1 <|
    .ix yU (e0.set i2 (GExpr.mk a0 x3.N x3.S x3.K x3.Kids)) i2 fun x4 =>
    .ag 0 <|
    .sl (yU (GExpr.mk x4.Kind (w64 (a0 + 1)) x4.S x4.K x4.Kids)) (e0.set i2 (GExpr.mk a0 x3.N x3.S x3.K x3.Kids)) i2 <|
    .ag 2 <|
    .ix yU ((e0.set i2 (GExpr.mk a0 x3.N x3.S x3.K x3.Kids)).set i2 (GExpr.mk x4.Kind (w64 (a0 + 1)) x4.S x4.K x4.Kids)) i2 fun x5 =>
    .ag 0 <|
    .cl (qg (w64 ((w64 (a0 + 1)) + 1)) x5.S) fun ⟨r6_0, r6_1⟩ =>
    .ag 1 <|
    .sl (yU (GExpr.mk x5.Kind x5.N r6_1 x5.K x5.Kids)) ((e0.set i2 (GExpr.mk a0 x3.N x3.S x3.K x3.Kids)).set i2 (GExpr.mk x4.Kind (w64 (a0 + 1)) x4.S x4.K x4.Kids)) i2 <|
    .ag 4 <|
    .ix yU (((e0.set i2 (GExpr.mk a0 x3.N x3.S x3.K x3.Kids)).set i2 (GExpr.mk x4.Kind (w64 (a0 + 1)) x4.S x4.K x4.Kids)).set i2 (GExpr.mk x5.Kind x5.N r6_1 x5.K x5.Kids)) i2 fun x7 =>
    .ag 0 <|
    .cl (wQ r6_0 x7.K) fun ⟨r8_0, r8_1⟩ =>
    .ag 1 <|
    .sl (yU (GExpr.mk x7.Kind x7.N x7.S r8_1 x7.Kids)) (((e0.set i2 (GExpr.mk a0 x3.N x3.S x3.K x3.Kids)).set i2 (GExpr.mk x4.Kind (w64 (a0 + 1)) x4.S x4.K x4.Kids)).set i2 (GExpr.mk x5.Kind x5.N r6_1 x5.K x5.Kids)) i2 <|
    .ag 6 <|
    .ix yU ((((e0.set i2 (GExpr.mk a0 x3.N x3.S x3.K x3.Kids)).set i2 (GExpr.mk x4.Kind (w64 (a0 + 1)) x4.S x4.K x4.Kids)).set i2 (GExpr.mk x5.Kind x5.N r6_1 x5.K x5.Kids)).set i2 (GExpr.mk x7.Kind x7.N x7.S r8_1 x7.Kids)) i2 fun x9 =>
    .ag 0 <|
    .cl (H_laws_markExprS r8_0 x9.Kids) fun ⟨r10_0, r10_1⟩ =>
    .ag 1 <|
    .sl (yU (GExpr.mk x9.Kind x9.N x9.S x9.K r10_1)) ((((e0.set i2 (GExpr.mk a0 x3.N x3.S x3.K x3.Kids)).set i2 (GExpr.mk x4.Kind (w64 (a0 + 1)) x4.S x4.K x4.Kids)).set i2 (GExpr.mk x5.Kind x5.N r6_1 x5.K x5.Kids)).set i2 (GExpr.mk x7.Kind x7.N x7.S r8_1 x7.Kids)) i2 <|
    .go (ih r10_0 (w64 (v1 + 1)) (((((e0.set i2 (GExpr.mk a0 x3.N x3.S x3.K x3.Kids)).set i2 (GExpr.mk x4.Kind (w64 (a0 + 1)) x4.S x4.K x4.Kids)).set i2 (GExpr.mk x5.Kind x5.N r6_1 x5.K x5.Kids)).set i2 (GExpr.mk x7.Kind x7.N x7.S r8_1 x7.Kids)).set i2 (GExpr.mk x9.Kind x9.N x9.S x9.K r10_1)))) fun c1 =>
   .ret (a0, v1, e0))
def kA (G_laws_markExprS : Int → (List GExpr) → Option (Int × (List GExpr))) (n : Nat) (a0 : Int) (e0 : (List GExpr)) : Option (Int × (List GExpr)) :=
 (yW G_laws_markExprS n a0 0 e0).bind fun ⟨o1_0, o1_1, o1_2⟩ =>
 some (o1_0, o1_2)
theorem Jo (G_laws_markExprS : Int → (List GExpr) → Option (Int × (List GExpr))) (H_laws_markExprS : wz G_laws_markExprS) (n : Nat) : wz (kA G_laws_markExprS n) := fun a0 e0 => tc (
 .lp (X0 G_laws_markExprS H_laws_markExprS n a0 0 e0) fun ⟨o1_0, o1_1, o1_2⟩ =>
 .ret (o1_0, o1_2)) (zs Try.func41)
def yq : Nat → Int → (List GExpr) → Option (Int × (List GExpr))
 | 0, _, _ => none
 | n + 1, a0, e0 => kA (yq n) n a0 e0
theorem WD (n : Nat) : wz (yq n) := by
 induction n with
 | zero => exact fun _ _ _ h => (by rw [yq] at h; cases h)
 | succ n ih =>
  have ih_laws_markExprS := ih
  exact fun a0 e0 r h => Jo (yq n) ih_laws_markExprS n a0 e0 r (by rw [yq] at h; exact h)
theorem Vu {G : Int → List GExpr → Option (Int × List GExpr)} : ∀ (l p : List GExpr) (k : Int) (m : Nat), (∀ v ∈ l, ∀ i : Int, 0 <= i → i + 2 * zB v.Kids <= 2 ^ 41 → G i v.Kids = some (i + cXs v.Kids, mXs i v.Kids)) → 0 <= k → k + 2 * zB l <= 2 ^ 41 → p.length + l.length <= 2 ^ 41 → l.length < m → ∃ z, yW G m k (p.length : Int) (p ++ l) = some (k + cXs l, z, p ++ mXs k l) := by
 intro l
 induction l with
 | nil =>
  intro p k m _ _ _ _ hm
  obtain ⟨m, rfl, _⟩ := zl hm
  exact ⟨_, by rw [yW, if_neg (vH p)]; simp [mXs, cXs]; rfl⟩
 | cons x l ih =>
  intro p k m hG h0 h1 h2 hm
  obtain ⟨m, rfl, hm'⟩ := zl hm
  simp only [List.length_cons] at h2 hm'
  have hx := hG x List.mem_cons_self
  have hc := MC x
  obtain ⟨kd, n, s, kk, ks⟩ := x
  have hb := Yb kk
  have hd := Kt ks
  simp only [zB, xsz] at h1
  simp only [cX, xsz] at hc
  simp only [GExpr.Kids] at hx
  obtain ⟨z, hz⟩ := ih (p ++ [mX k (.mk kd n s kk ks)]) (k + cX (.mk kd n s kk ks)) m (fun v hv => hG v (List.mem_cons_of_mem _ hv)) (by omega) (by simp only [cX]; omega) (by simp; omega) (by omega)
  rw [yW, if_pos (Ya p _ l), zu, Option.bind_some, xn, Option.bind_some]
  simp only [ZA, xn, Option.bind_some, GExpr.Kind, GExpr.N, GExpr.S, GExpr.K, GExpr.Kids]
  rw [xZ (x := k + 1) (by omega) (by omega), xZ (x := k + 1 + 1) (by omega) (by omega), vh (by omega) (by omega)]
  simp only [Option.bind_some, ZA, xn, GExpr.Kind, GExpr.N, GExpr.S, GExpr.K, GExpr.Kids]
  rw [kn (by omega) (by omega)]
  simp only [Option.bind_some, ZA, xn, GExpr.Kind, GExpr.N, GExpr.S, GExpr.K, GExpr.Kids]
  rw [hx _ (by omega) (by omega)]
  simp only [Option.bind_some, ZA, xn, GExpr.Kind, GExpr.N, GExpr.S, GExpr.K, GExpr.Kids]
  refine ⟨z, ?_⟩
  rw [wt p (mX k (.mk kd n s kk ks)) (by omega), show GExpr.mk k (k + 1) (mB (k + 1 + 1) s) (mBB (k + 1 + 1 + s.length) kk) (mXs (k + 1 + 1 + s.length + cB kk) ks) = mX k (.mk kd n s kk ks) by simp only [mX], ZZ p _ l,
   show k + 1 + 1 + (s.length : Int) + (cB kk : Int) + (cXs ks : Int) = k + ((cX (.mk kd n s kk ks) : Nat) : Int) by simp only [cX]; omega, hz]
  simp only [mXs, cXs, List.append_assoc, List.singleton_append]
  rw [show k + ((cX (.mk kd n s kk ks) : Nat) : Int) + (cXs l : Int) = k + ((cX (.mk kd n s kk ks) + cXs l : Nat) : Int) by omega]
theorem Uq : ∀ (N : Nat) (l : List GExpr), zB l < N → ∀ (k : Int) (f : Nat), 0 <= k → k + 2 * zB l <= 2 ^ 41 → zB l + 2 <= f → yq f k l = some (k + cXs l, mXs k l) := by
 intro N
 induction N with
 | zero => intro l hl; omega
 | succ N ih =>
  intro l hl k f h0 h1 hf
  obtain ⟨f, rfl, _⟩ := zl (show 0 < f by omega)
  have hlen := zX l
  rw [yq]
  unfold kA
  obtain ⟨z, hz⟩ := Vu (G := yq f) l [] k f (fun v hv i g0 g1 => by
   have := yy hv
   have := w5 v
   exact ih v.Kids (by omega) i f g0 g1 (by omega)) h0 h1 (by simp; omega) (by omega)
  simp only [List.nil_append, List.length_nil, Int.natCast_zero] at hz
  rw [hz]; rfl
def xS (a0 : Int) (e0 : (List GExpr)) : Option (Int × (List GExpr)) := if 0 <= a0 ∧ a0 + 2 * zB e0 <= 2 ^ 41 then some (a0 + cXs e0, mXs a0 e0) else none
theorem WE {a : Int} {s : List GExpr} (h0 : 0 <= a) (h1 : a + 2 * zB s <= 2 ^ 41) : xS a s = some (a + cXs s, mXs a s) := if_pos ⟨h0, h1⟩
theorem XZ (a0 : Int) (e0 : (List GExpr)) (r : (Int × (List GExpr))) (h : xS a0 e0 = some r) : ∃ n, yq n a0 e0 = some r := by
 unfold xS at h
 obtain ⟨⟨h0, h1⟩, h⟩ := yl h
 exact ⟨zB e0 + 2, by rw [Uq _ e0 (Nat.lt_succ_self _) a0 _ h0 h1 (Nat.le_refl _), h]⟩
theorem Zv : wz xS := by
 intro a0 e0 r h
 obtain ⟨n, hn⟩ := XZ a0 e0 r h
 exact (WD n) a0 e0 r hn
def jf (a0_0 : Int) (a0_1 : Int) (a1 : Int) (e0 : (List UInt8)) (e1 : (List (List UInt8))) (e2 : (List GExpr)) : Option (Int × (List UInt8) × (List (List UInt8)) × (List GExpr)) :=
 (yA a1 e0).bind fun ⟨r1_0, r1_1⟩ =>
 (yi r1_0 e1).bind fun ⟨r2_0, r2_1⟩ =>
 (xS r2_0 e2).bind fun ⟨r3_0, r3_1⟩ =>
 some (r3_0, r1_1, r2_1, r3_1)
theorem Jp (a0_0 : Int) (a0_1 : Int) (a1 : Int) (e0 : (List UInt8)) (e1 : (List (List UInt8))) (e2 : (List GExpr)) : Oc (jf a0_0 a0_1 a1 e0 e1 e2) 40 [.obj 1 (eL za e0), .obj 1 (eL (zS 1 za) e1), .obj 5 (eL zN e2)] [.val true [ci a0_0, ci a0_1, .ref 0, .ref 1, .ref 2], vi a1] fun r => (vi r.1, [.obj 1 (eL za r.2.1), .obj 1 (eL (zS 1 za) r.2.2.1), .obj 5 (eL zN r.2.2.2)]) := tc (
 .cl (qg a1 e0) fun ⟨r1_0, r1_1⟩ =>
 .cl (wQ r1_0 e1) fun ⟨r2_0, r2_1⟩ =>
 .cl (Zv r2_0 e2) fun ⟨r3_0, r3_1⟩ =>
 .ret (r3_0, r1_1, r2_1, r3_1)) (zs Try.func40)
def jg (a0_0 : Int) (a0_2 : Int) (a0_3 : Int) (a0_4 : Int) (a1 : Int) (e0 : (List UInt8)) (e1 : (List UInt8)) (e2 : (List (List UInt8))) (e3 : (List GExpr)) (e4 : (List (List UInt8))) (e5 : (List GExpr)) : Option (Int × (List UInt8) × (List UInt8) × (List (List UInt8)) × (List GExpr) × (List (List UInt8)) × (List GExpr)) :=
 (yA a1 e0).bind fun ⟨r1_0, r1_1⟩ =>
 (jf a0_3 a0_4 r1_0 e1 e2 e3).bind fun ⟨r2_0, r2_1, r2_2, r2_3⟩ =>
 (yi r2_0 e4).bind fun ⟨r3_0, r3_1⟩ =>
 (xS r3_0 e5).bind fun ⟨r4_0, r4_1⟩ =>
 some (r4_0, r1_1, r2_1, r2_2, r2_3, r3_1, r4_1)
theorem Jq (a0_0 : Int) (a0_2 : Int) (a0_3 : Int) (a0_4 : Int) (a1 : Int) (e0 : (List UInt8)) (e1 : (List UInt8)) (e2 : (List (List UInt8))) (e3 : (List GExpr)) (e4 : (List (List UInt8))) (e5 : (List GExpr)) : Oc (jg a0_0 a0_2 a0_3 a0_4 a1 e0 e1 e2 e3 e4 e5) 11 [.obj 1 (eL za e0), .obj 1 (eL za e1), .obj 1 (eL (zS 1 za) e2), .obj 5 (eL zN e3), .obj 1 (eL (zS 1 za) e4), .obj 5 (eL zN e5)] [.val true [ci a0_0, .ref 0, ci a0_2, ci a0_3, ci a0_4, .ref 1, .ref 2, .ref 3, .ref 4, .ref 5], vi a1] fun r => (vi r.1, [.obj 1 (eL za r.2.1), .obj 1 (eL za r.2.2.1), .obj 1 (eL (zS 1 za) r.2.2.2.1), .obj 5 (eL zN r.2.2.2.2.1), .obj 1 (eL (zS 1 za) r.2.2.2.2.2.1), .obj 5 (eL zN r.2.2.2.2.2.2)]) := tc (
 .cl (qg a1 e0) fun ⟨r1_0, r1_1⟩ =>
 .cl (Jp a0_3 a0_4 r1_0 e1 e2 e3) fun ⟨r2_0, r2_1, r2_2, r2_3⟩ =>
 .cl (wQ r2_0 e4) fun ⟨r3_0, r3_1⟩ =>
 .cl (Zv r3_0 e5) fun ⟨r4_0, r4_1⟩ =>
 .ret (r4_0, r1_1, r2_1, r2_2, r2_3, r3_1, r4_1)) (zs Try.func11)
def ZW (F : (List UInt8) → Int → Option Int) : Prop := ∀ (a0 : (List UInt8)) (a1 : Int), Oc (F a0 a1) 42 [] [vq za a0, vi a1] fun r => (vi r, [])
def yX (a0 : (List UInt8)) : Nat → Int → Int → Option (Int ⊕ (Int × Int))
  | 0, _, _ => none
  | m + 1, a1, v2 =>
  if v2 < (a0.length : Int) then
   (zT v2).bind fun i2 =>
   (a0[i2]?).bind fun x3 =>
   if ((x3.toNat : Nat) : Int) = (((b8 a1).toNat : Nat) : Int) then
    yX a0 m (w64 (a1 + 1)) (w64 (v2 + 1))
   else
   some (.inl (-1))
  else
  some (.inr (a1, v2))
theorem X1 (a0 : (List UInt8)) (m : Nat) : ∀ (a1 : Int) (v2 : Int), Ol (yX a0 m a1 v2) 42 (zY Try.f42 0) ⟨[(0, vq za a0), (1, vi a1), (5, vi v2)], [], 0⟩ fun o => match o with | .inl o_0 => (.ret, ⟨[(4, vi o_0)], [], 0⟩) | .inr (⟨o_1_0, o_1_1⟩) => (.exit 0, ⟨[(0, vq za a0), (1, vi o_1_0), (5, vi o_1_1), (9, vb false)], [], 0⟩) := by
  induction m with
  | zero => intro a1 v2 o h; cases h
  | succ m ih => exact fun a1 v2 => tlp (
   .le za a0 <|
   .lI v2 (a0.length : Int) (fun c1 =>
    .na v2 fun i2 =>
    .ix0 za a0 i2 fun x3 =>
    .eI ((x3.toNat : Nat) : Int) (((b8 a1).toNat : Nat) : Int) (fun c4 =>
     .go (ih (w64 (a1 + 1)) (w64 (v2 + 1)))) fun c4 =>
    .ret (.inl (-1))) fun c1 =>
   .ret (.inr (a1, v2)))
def kB (n : Nat) (a0 : (List UInt8)) (a1 : Int) : Option Int :=
 (yX a0 n a1 0).bind fun o1 =>
 match o1 with
 | .inl o1_0 =>
  some o1_0
 | .inr (⟨o1_1_0, o1_1_1⟩) =>
  some o1_1_0
theorem Jr (n : Nat) : ZW (kB n) := fun a0 a1 => tc (
 .l2 (X1 a0 n a1 0) (fun o1_0 =>
  .ret o1_0) fun ⟨o1_1_0, o1_1_1⟩ =>
 .ret o1_1_0) (zs Try.func42)
theorem Vv {a : List UInt8} : ∀ (l p : List UInt8) (k : Int) (m : Nat), a = p ++ l → mB k l = l → 0 <= k → k + 2 * l.length <= 2 ^ 41 → p.length + l.length <= 2 ^ 41 → l.length < m → ∃ z, yX a m k (p.length : Int) = some (.inr (k + l.length, z)) := by
 intro l
 induction l with
 | nil =>
  intro p k m ha _ _ _ _ hm
  subst ha
  obtain ⟨m, rfl, _⟩ := zl hm
  exact ⟨_, by rw [yX, if_neg (vH p)]; simp; rfl⟩
 | cons x l ih =>
  intro p k m ha hm0 h0 h1 h2 hm
  obtain ⟨m, rfl, hm'⟩ := zl hm
  simp only [List.length_cons] at h1 h2 hm'
  rw [mB] at hm0
  obtain ⟨e1, e2⟩ := List.cons.inj hm0
  obtain ⟨z, hz⟩ := ih (p ++ [x]) (k + 1) m (by rw [ha]; simp) e2 (by omega) (by omega) (by simp; omega) (by omega)
  refine ⟨z, ?_⟩
  rw [yX, if_pos (by rw [ha]; exact Ya p x l), zu, Option.bind_some, show a[p.length]? = some x by rw [ha]; exact xn p x l, Option.bind_some, if_pos (by rw [e1]), wt p x (by omega), xZ (x := k + 1) (by omega) (by omega), hz]
  simp only [List.length_cons]
  rw [show k + 1 + (l.length : Int) = k + ((l.length + 1 : Nat) : Int) by omega]
def w4 (a0 : (List UInt8)) (a1 : Int) : Option Int := if mB a1 a0 = a0 ∧ 0 <= a1 ∧ a1 + 2 * a0.length <= 2 ^ 41 then some (a1 + a0.length) else none
theorem TM {a : Int} {s : List UInt8} (h : mB a s = s) (h0 : 0 <= a) (h1 : a + 2 * s.length <= 2 ^ 41) : w4 s a = some (a + s.length) := if_pos ⟨h, h0, h1⟩
theorem Wa (a0 : (List UInt8)) (a1 : Int) (r : Int) (h : w4 a0 a1 = some r) : ∃ n, kB n a0 a1 = some r := by
 unfold w4 at h
 obtain ⟨⟨he, h0, h1⟩, h⟩ := yl h
 obtain ⟨z, hz⟩ := Vv (a := a0) a0 [] a1 (a0.length + 1) rfl he h0 h1 (by simp; omega) (by omega)
 refine ⟨a0.length + 1, ?_⟩
 unfold kB
 simp only [List.length_nil, Int.natCast_zero] at hz
 rw [hz]
 exact h
theorem Q2 : ZW w4 := fun a0 a1 r h => (Wa a0 a1 r h).elim fun n hn => Jr n a0 a1 r hn
end
end Go.Am.Try
