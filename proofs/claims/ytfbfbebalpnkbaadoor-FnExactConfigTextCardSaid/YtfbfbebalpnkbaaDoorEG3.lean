/- The functions of the program in plain Lean, and that the machine answers as they do; conditions at each theorem. -/
import Derived.Test.YtfbfbebalpnkbaaDoorEG2
set_option linter.unusedVariables false
set_option linter.unusedSimpArgs false
namespace Go.Am.Try
open Go.Am Go.Proofs
set_option linter.unusedVariables false
set_option maxRecDepth 20000
set_option maxHeartbeats 2000000
noncomputable section
def qe (F : (List GExpr) → Option Int) : Prop := ∀ (a0 : (List GExpr)), Oc (F a0) 128 [] [vq ze a0, .val false [.fn 107 []]] fun r => (vi r, [])
def zO (a0 : (List GExpr)) (v1 : Int) : Nat → Int → Option (Int ⊕ Int)
  | 0, _ => none
  | m + 1, v2 =>
  if v2 < v1 then
   (z6 v2).bind fun i2 =>
   (a0[i2]?).bind fun x3 =>
   (Zr x3).bind fun r4 =>
   match r4 with
   | true =>
    some (.inl v2)
   | false =>
    zO a0 v1 m (w64 (v2 + 1))
  else
  some (.inr v2)
theorem kr (a0 : (List GExpr)) (v1 : Int) (m : Nat) : ∀ (v2 : Int), Ol (zO a0 v1 m v2) 128 (zY Tryd.f128 0) ⟨[(0, vq ze a0), (1, .val false [.fn 107 []]), (7, vi v1), (8, vi v2)], [], 0⟩ fun o => match o with | .inl o_0 => (.ret, ⟨[(4, vi o_0)], [], 0⟩) | .inr (o_1) => (.exit 0, ⟨[(0, vq ze a0), (1, .val false [.fn 107 []]), (7, vi v1), (8, vi o_1), (9, vb false)], [], 0⟩) := by
  induction m with
  | zero => intro v2 o h; cases h
  | succ m ih => exact fun v2 => tlp (
   .lI v2 v1 (fun c1 =>
    .na v2 fun i2 =>
    .ix zA a0 i2 fun x3 =>
    .cl (KN x3) fun r4 =>
    .vM 0 r4 (
     .ret (.inl v2)) <|
    .go (ih (w64 (v2 + 1)))) fun c1 =>
   .ret (.inr v2))
def yH (n : Nat) (a0 : (List GExpr)) : Option Int :=
 (zO a0 (a0.length : Int) n 0).bind fun o1 =>
 match o1 with
 | .inl o1_0 =>
  some o1_0
 | .inr (o1_1) =>
  some (-1)
theorem vL (n : Nat) : qe (yH n) := fun a0 => tc (
 .le ze a0 <|
 .l2 (kr a0 (a0.length : Int) n 0) (fun o1_0 =>
  .ret o1_0) fun o1_1 =>
 .ret (-1)) (zw Tryd.func128)
def yI (a0 : (List GExpr)) : Option Int := yH (a0.length + 5) a0
theorem kU (a0 : (List GExpr)) (r : Int) (h : yI a0 = some r) : ∃ n, yH n a0 = some r := ⟨_, h⟩
theorem vn : qe yI := fun a0 r h => (kU a0 r h).elim fun n hn => vL n a0 r hn
def y3 (a0 : (List GExpr)) : Option Bool :=
 (yI a0).bind fun r1 =>
 some (decide (0 <= r1))
theorem ku (a0 : (List GExpr)) : Oc (y3 a0) 106 [] [vq ze a0, .val false [.fn 107 []]] fun r => (vb r, []) := tc (
 .cl (vn a0) fun r1 =>
 .gD 0 r1 <|
 .ret (decide (0 <= r1))) (zw Tryd.func106)
def vd (a0 : GExpr) : Option Bool :=
 if a0.Kind = 0 then
  if a0.N = 0 then
   if (a0.S.length : Int) = 0 then
    if (a0.K.length : Int) = 0 then
     some (decide ((a0.Kids.length : Int) = 0))
    else
    some false
   else
   some false
  else
  some false
 else
 some false
theorem Jb (a0 : GExpr) : Oc (vd a0) 109 [] [.val true (yh a0)] fun r => (vb r, []) := tc (
 .eI a0.Kind 0 (fun c1 =>
  .eI a0.N 0 (fun c2 =>
   .le za a0.S <|
   .eI (a0.S.length : Int) 0 (fun c3 =>
    .le (z7 za) a0.K <|
    .eI (a0.K.length : Int) 0 (fun c4 =>
     .le ze a0.Kids <|
     .eD (a0.Kids.length : Int) 0 <|
     .ret (decide ((a0.Kids.length : Int) = 0))) fun c4 =>
    .ret false) fun c3 =>
   .ret false) fun c2 =>
  .ret false) fun c1 =>
 .ret false) (zw Tryd.func109)
def Qg (F : GItem → Option Bool) : Prop := ∀ (a0 : GItem), Oc (F a0) 74 [] [.val true (yn a0)] fun r => (vb r, [])
def yZ (v0 : (List (List UInt8))) (v1 : Int) (a0 : GItem) : Nat → Int → Option (Bool ⊕ Int)
  | 0, _ => none
  | m + 1, v2 =>
  if v2 < v1 then
   (z6 v2).bind fun i2 =>
   (v0[i2]?).bind fun x3 =>
   (xA x3).bind fun r4 =>
   match r4 with
   | true =>
    if 0 < v2 then
     (z6 (w64 (v2 - 1))).bind fun i6 =>
     (a0.Names[i6]?).bind fun x7 =>
     (jS x7 x3).bind fun r8 =>
     if 0 <= r8 then
      some (.inl false)
     else
     yZ v0 v1 a0 m (w64 (v2 + 1))
    else
    yZ v0 v1 a0 m (w64 (v2 + 1))
   | false =>
    some (.inl false)
  else
  some (.inr v2)
theorem Yt (v0 : (List (List UInt8))) (v1 : Int) (a0 : GItem) (m : Nat) : ∀ (v2 : Int), Ol (yZ v0 v1 a0 m v2) 74 (zY Tryd.f74 0) ⟨[(1, vp 0 0), (60, vq (z7 za) v0), (61, vi v1), (62, vi v2)], [.var (yn a0)], 0⟩ fun o => match o with | .inl o_0 => (.ret, ⟨[(2, vb o_0)], [], 0⟩) | .inr (o_1) => (.exit 0, ⟨[(1, vp 0 0), (60, vq (z7 za) v0), (61, vi v1), (62, vi o_1), (63, vb false)], [.var (yn a0)], 0⟩) := by
  induction m with
  | zero => intro v2 o h; cases h
  | succ m ih => exact fun v2 => tlp (
   .lI v2 v1 (fun c1 =>
    .na v2 fun i2 =>
    .ix0 (z7 za) v0 i2 fun x3 =>
    .cl (jc x3) fun r4 =>
    .vN 0 r4 (
     .an 0 0 <|
     .lI 0 v2 (fun c5 =>
      .an 0 0 <|
      .na (w64 (v2 - 1)) fun i6 =>
      .ix0 (z7 za) a0.Names i6 fun x7 =>
      .cl (YW x7 x3) fun r8 =>
      .gI 0 r8 (fun c9 =>
       .an 0 3 <|
       .an 1 3 <|
       .ret (.inl false)) fun c9 =>
      .an 0 3 <|
      .an 1 3 <|
      .go (ih (w64 (v2 + 1)))) fun c5 =>
     .an 0 0 <|
     .an 9 0 <|
     .an 1 0 <|
     .go (ih (w64 (v2 + 1)))) <|
    .an 0 0 <|
    .an 0 0 <|
    .an 0 0 <|
    .an 0 0 <|
    .ret (.inl false)) fun c1 =>
   .ret (.inr v2))
def vF (n : Nat) (a0 : GItem) : Option Bool :=
 (xI a0.Kind 0 2).bind fun r1 =>
 match r1 with
 | true =>
  (qx a0.Name).bind fun r2 =>
  match r2 with
  | true =>
   if 6 < (a0.Exprs.length : Int) then
    some false
   else
   (y3 a0.Exprs).bind fun r4 =>
   match r4 with
   | true =>
    some false
   | false =>
    if a0.Many = 0 then
     (vd a0.By).bind fun r6 =>
     match r6 with
     | true =>
      (qy a0.By).bind fun r7 =>
      match r7 with
      | true =>
       if a0.Kind = 1 then
        (yZ a0.Names (a0.Names.length : Int) a0 n 0).bind fun o9 =>
        match o9 with
        | .inl o9_0 =>
         some o9_0
        | .inr (o9_1) =>
         (xI a0.Many 0 2).bind fun r10 =>
         match r10 with
         | true =>
          some (decide ((a0.Names.length : Int) = (a0.Exprs.length : Int)))
         | false =>
          some false
       else
       if (a0.Exprs.length : Int) = 1 then
        if (a0.Names.length : Int) = 0 then
         some true
        else
        some false
       else
       some false
      | false =>
       some false
     | false =>
      some false
    else
    (qy a0.By).bind fun r6 =>
    match r6 with
    | true =>
     if a0.Kind = 1 then
      (yZ a0.Names (a0.Names.length : Int) a0 n 0).bind fun o8 =>
      match o8 with
      | .inl o8_0 =>
       some o8_0
      | .inr (o8_1) =>
       (xI a0.Many 0 2).bind fun r9 =>
       match r9 with
       | true =>
        some (decide ((a0.Names.length : Int) = (a0.Exprs.length : Int)))
       | false =>
        some false
     else
     if (a0.Exprs.length : Int) = 1 then
      if (a0.Names.length : Int) = 0 then
       some false
      else
      some false
     else
     some false
    | false =>
     some false
  | false =>
   some false
 | false =>
  some false
theorem Un (n : Nat) : Qg (vF n) := fun a0 => tc (
 .cl (jt a0.Kind 0 2) fun r1 =>
 .vN 0 r1 (
  .an 0 0 <|
  .an 0 0 <|
  .cl (Z8 a0.Name) fun r2 =>
  .an 0 1 <|
  .an 0 1 <|
  .vN 0 r2 (
   .an 0 0 <|
   .an 0 0 <|
   .le ze a0.Exprs <|
   .an 0 0 <|
   .lI 6 (a0.Exprs.length : Int) (fun c3 =>
    .an 0 0 <|
    .ret false) fun c3 =>
   .an 0 0 <|
   .cl (ku a0.Exprs) fun r4 =>
   .vM 1 r4 (
    .ret false) <|
   .eI a0.Many 0 (fun c5 =>
    .cl (Jb a0.By) fun r6 =>
    .vN 2 r6 (
     .an 0 0 <|
     .an 0 0 <|
     .cl (Z9 a0.By) fun r7 =>
     .an 0 1 <|
     .an 0 1 <|
     .vN 0 r7 (
      .eI a0.Kind 1 (fun c8 =>
       .le (z7 za) a0.Names <|
       .l2 (Yt a0.Names (a0.Names.length : Int) a0 n 0) (fun o9_0 =>
        .ret o9_0) fun o9_1 =>
       .cl (jt a0.Many 0 2) fun r10 =>
       .vM 0 r10 (
        .az 0 0 <|
        .az 0 0 <|
        .le (z7 za) a0.Names <|
        .az 0 0 <|
        .az 0 0 <|
        .az 0 0 <|
        .le ze a0.Exprs <|
        .az 0 0 <|
        .eD (a0.Names.length : Int) (a0.Exprs.length : Int) <|
        .az 0 0 <|
        .ret (decide ((a0.Names.length : Int) = (a0.Exprs.length : Int)))) <|
       .az 0 0 <|
       .az 0 0 <|
       .az 0 0 <|
       .az 0 0 <|
       .az 0 0 <|
       .az 0 0 <|
       .az 0 0 <|
       .ret false) fun c8 =>
      .le ze a0.Exprs <|
      .eI (a0.Exprs.length : Int) 1 (fun c9 =>
       .le (z7 za) a0.Names <|
       .eI (a0.Names.length : Int) 0 (fun c10 =>
        .q (.eT c5) <|
        .ret true) fun c10 =>
       .ret false) fun c9 =>
      .ret false) <|
     .ret false) <|
    .an 0 0 <|
    .an 0 0 <|
    .an 0 0 <|
    .an 0 0 <|
    .ret false) fun c5 =>
   .cl (Z9 a0.By) fun r6 =>
   .vN 2 r6 (
    .eI a0.Kind 1 (fun c7 =>
     .le (z7 za) a0.Names <|
     .l2 (Yt a0.Names (a0.Names.length : Int) a0 n 0) (fun o8_0 =>
      .ret o8_0) fun o8_1 =>
     .cl (jt a0.Many 0 2) fun r9 =>
     .vM 0 r9 (
      .az 0 0 <|
      .az 0 0 <|
      .le (z7 za) a0.Names <|
      .az 0 0 <|
      .az 0 0 <|
      .az 0 0 <|
      .le ze a0.Exprs <|
      .az 0 0 <|
      .eD (a0.Names.length : Int) (a0.Exprs.length : Int) <|
      .az 0 0 <|
      .ret (decide ((a0.Names.length : Int) = (a0.Exprs.length : Int)))) <|
     .az 0 0 <|
     .az 0 0 <|
     .az 0 0 <|
     .az 0 0 <|
     .az 0 0 <|
     .az 0 0 <|
     .az 0 0 <|
     .ret false) fun c7 =>
    .le ze a0.Exprs <|
    .eI (a0.Exprs.length : Int) 1 (fun c8 =>
     .le (z7 za) a0.Names <|
     .eI (a0.Names.length : Int) 0 (fun c9 =>
      .q (.eF c5) <|
      .ret false) fun c9 =>
     .ret false) fun c8 =>
    .ret false) <|
   .ret false) <|
  .an 0 0 <|
  .an 0 0 <|
  .an 0 0 <|
  .an 0 0 <|
  .ret false) <|
 .an 0 0 <|
 .an 0 0 <|
 .an 0 0 <|
 .an 0 0 <|
 .ret false) (zw Tryd.func74)
def jD (a0 : GItem) : Option Bool := vF (a0.Names.length + 5) a0
theorem KO (a0 : GItem) (r : Bool) (h : jD a0 = some r) : ∃ n, vF n a0 = some r := ⟨_, h⟩
theorem RS : Qg jD := fun a0 r h => (KO a0 r h).elim fun n hn => Un n a0 r hn
def Ym (a0 : (List UInt8)) (a1 : (List UInt8)) : Option Bool :=
 some (decide (a0 = a1))
theorem RT (a0 : (List UInt8)) (a1 : (List UInt8)) : Oc (Ym a0 a1) 77 [] [vq za a0, vq za a1] fun r => (vb r, []) := tc (
 .bt a0 <|
 .bt a1 <|
 .sD a0 a1 <|
 .ret (decide (a0 = a1))) (zw Tryd.func77)
def ve (a0 : GItem) (e0 : GItem) : Option Bool :=
 if a0.Kind = e0.Kind then
  (Ym a0.Name e0.Name).bind fun r2 =>
  some r2
 else
 some false
theorem Jc (a0 : GItem) (e0 : GItem) : Oc (ve a0 e0) 76 [.var (yn e0)] [.val true (yn a0), vp 0 0] fun r => (vb r, [.var (yn e0)]) := tc (
 .eI a0.Kind e0.Kind (fun c1 =>
  .cl (RT a0.Name e0.Name) fun r2 =>
  .ret r2) fun c1 =>
 .ret false) (zw Tryd.func76)
def wN (F : (List GItem) → GItem → Option Int) : Prop := ∀ (a0 : (List GItem)) (e0 : GItem), Oc (F a0 e0) 111 [.var (yn e0)] [vq zo a0, .val false [.fn 76 [.ptr 0 0]]] fun r => (vi r, [.var (yn e0)])
def zL (a0 : (List GItem)) (v1 : Int) (e0 : GItem) : Nat → Int → Option (Int ⊕ Int)
  | 0, _ => none
  | m + 1, v2 =>
  if v2 < v1 then
   (z6 v2).bind fun i2 =>
   (a0[i2]?).bind fun x3 =>
   (ve x3 e0).bind fun r4 =>
   match r4 with
   | true =>
    some (.inl v2)
   | false =>
    zL a0 v1 e0 m (w64 (v2 + 1))
  else
  some (.inr v2)
theorem jM (a0 : (List GItem)) (v1 : Int) (e0 : GItem) (m : Nat) : ∀ (v2 : Int), Ol (zL a0 v1 e0 m v2) 111 (zY Tryd.f111 0) ⟨[(0, vq zo a0), (1, .val false [.fn 76 [.ptr 0 0]]), (7, vi v1), (8, vi v2)], [.var (yn e0)], 1⟩ fun o => match o with | .inl o_0 => (.ret, ⟨[(4, vi o_0)], [.var (yn e0)], 1⟩) | .inr (o_1) => (.exit 0, ⟨[(0, vq zo a0), (1, .val false [.fn 76 [.ptr 0 0]]), (7, vi v1), (8, vi o_1), (9, vb false)], [.var (yn e0)], 1⟩) := by
  induction m with
  | zero => intro v2 o h; cases h
  | succ m ih => exact fun v2 => tlp (
   .lI v2 v1 (fun c1 =>
    .na v2 fun i2 =>
    .ix xB a0 i2 fun x3 =>
    .cl (Jc x3 e0) fun r4 =>
    .vM 0 r4 (
     .ret (.inl v2)) <|
    .go (ih (w64 (v2 + 1)))) fun c1 =>
   .ret (.inr v2))
def y8 (n : Nat) (a0 : (List GItem)) (e0 : GItem) : Option Int :=
 (zL a0 (a0.length : Int) e0 n 0).bind fun o1 =>
 match o1 with
 | .inl o1_0 =>
  some o1_0
 | .inr (o1_1) =>
  some (-1)
theorem vf (n : Nat) : wN (y8 n) := fun a0 e0 => tc (
 .le zo a0 <|
 .l2 (jM a0 (a0.length : Int) e0 n 0) (fun o1_0 =>
  .ret o1_0) fun o1_1 =>
 .ret (-1)) (zw Tryd.func111)
def y9 (a0 : (List GItem)) (e0 : GItem) : Option Int := y8 (a0.length + 5) a0 e0
theorem kc (a0 : (List GItem)) (e0 : GItem) (r : Int) (h : y9 a0 e0 = some r) : ∃ n, y8 n a0 e0 = some r := ⟨_, h⟩
theorem kV : wN y9 := fun a0 e0 r h => (kc a0 e0 r h).elim fun n hn => vf n a0 e0 r hn
def yr (a0 : (List GItem)) (e0 : GItem) : Option Bool :=
 (y9 a0 e0).bind fun r1 =>
 some (decide (0 <= r1))
theorem jN (a0 : (List GItem)) (e0 : GItem) : Oc (yr a0 e0) 75 [.var (yn e0)] [vq zo a0, .val false [.fn 76 [.ptr 0 0]]] fun r => (vb r, [.var (yn e0)]) := tc (
 .cl (kV a0 e0) fun r1 =>
 .gD 0 r1 <|
 .ret (decide (0 <= r1))) (zw Tryd.func75)
def X6 (F : (List GItem) → Option Bool) : Prop := ∀ (a0 : (List GItem)), Oc (F a0) 38 [] [vq zo a0] fun r => (vb r, [])
def xK (a0 : (List GItem)) (v2 : Int) (v3 : Int) (v4 : (List GExpr)) (v5 : Int) (v7 : GItem) : Nat → Int → Int → Option (Int × Int)
  | 0, _, _ => none
  | m + 1, v1, v6 =>
  if v6 < v5 then
   (z6 v6).bind fun i2 =>
   (v4[i2]?).bind fun x3 =>
   (y7 x3).bind fun r4 =>
   xK a0 v2 v3 v4 v5 v7 m (w64 (v1 + r4)) (w64 (v6 + 1))
  else
  some (v1, v6)
theorem Qq (a0 : (List GItem)) (v2 : Int) (v3 : Int) (v4 : (List GExpr)) (v5 : Int) (v7 : GItem) (m : Nat) : ∀ (v1 : Int) (v6 : Int), Ol (xK a0 v2 v3 v4 v5 v7 m v1 v6) 38 (zY Tryd.f38 1) ⟨[(0, vq zo a0), (3, vi v1), (5, vp 0 0), (11, vq zo a0), (12, vi v2), (13, vi v3), (29, vq ze v4), (30, vi v5), (31, vi v6)], [.var (yn v7)], 0⟩ fun o => match o with | ⟨o_0, o_1⟩ => (.exit 2, ⟨[(0, vq zo a0), (3, vi o_0), (5, vp 0 0), (11, vq zo a0), (12, vi v2), (13, vi v3), (29, vq ze v4), (30, vi v5), (31, vi o_1), (32, vb false)], [.var (yn v7)], 0⟩) := by
  induction m with
  | zero => intro v1 v6 o h; cases h
  | succ m ih => exact fun v1 v6 => tlp (
   .lI v6 v5 (fun c1 =>
    .na v6 fun i2 =>
    .ix zA v4 i2 fun x3 =>
    .cl (kq x3) fun r4 =>
    .go (ih (w64 (v1 + r4)) (w64 (v6 + 1)))) fun c1 =>
   .ret (v1, v6))
def yG (n : Nat) (a0 : (List GItem)) (v2 : Int) : Nat → Int → Int → Option (Bool ⊕ (Int × Int))
  | 0, _, _ => none
  | m + 1, v1, v3 =>
  if v3 < v2 then
   (z6 v3).bind fun i2 =>
   (a0[i2]?).bind fun x3 =>
   (jD x3).bind fun r4 =>
   match r4 with
   | true =>
    (Z2 a0 none (some i2)).bind fun s5 =>
    (yr s5 x3).bind fun r6 =>
    match r6 with
    | true =>
     some (.inl false)
    | false =>
     (xK a0 v2 v3 x3.Exprs (x3.Exprs.length : Int) x3 n v1 0).bind fun ⟨o7_0, o7_1⟩ =>
     if x3.Many = 0 then
      yG n a0 v2 m o7_0 (w64 (v3 + 1))
     else
     (y7 x3.By).bind fun r9 =>
     yG n a0 v2 m (w64 (o7_0 + r9)) (w64 (v3 + 1))
   | false =>
    some (.inl false)
  else
  some (.inr (v1, v3))
theorem Qr (n : Nat) (a0 : (List GItem)) (v2 : Int) (m : Nat) : ∀ (v1 : Int) (v3 : Int), Ol (yG n a0 v2 m v1 v3) 38 (zY Tryd.f38 0) ⟨[(0, vq zo a0), (3, vi v1), (11, vq zo a0), (12, vi v2), (13, vi v3)], [], 0⟩ fun o => match o with | .inl o_0 => (.ret, ⟨[(2, vb o_0)], [], 0⟩) | .inr (⟨o_1_0, o_1_1⟩) => (.exit 0, ⟨[(0, vq zo a0), (3, vi o_1_0), (11, vq zo a0), (12, vi v2), (13, vi o_1_1), (14, vb false)], [], 0⟩) := by
  induction m with
  | zero => intro v1 v3 o h; cases h
  | succ m ih => exact fun v1 v3 => tlp (
   .lI v3 v2 (fun c1 =>
    .na v3 fun i2 =>
    .ix xB a0 i2 fun x3 =>
    .cl (RS x3) fun r4 =>
    .vN 0 r4 (
     .an 0 0 <|
     .an 0 0 <|
     .ag 3 <|
     .ct zo a0 none (some i2) fun s5 =>
     .un Ee a0 <|
     .an 0 1 <|
     .an 0 1 <|
     .cl (jN s5 x3) fun r6 =>
     .an 0 2 <|
     .vM 0 r6 (
      .ret (.inl false)) <|
     .le ze x3.Exprs <|
     .lp (Qq a0 v2 v3 x3.Exprs (x3.Exprs.length : Int) x3 n v1 0) fun ⟨o7_0, o7_1⟩ =>
     .eI x3.Many 0 (fun c8 =>
      .go (ih o7_0 (w64 (v3 + 1)))) fun c8 =>
     .cl (kq x3.By) fun r9 =>
     .go (ih (w64 (o7_0 + r9)) (w64 (v3 + 1)))) <|
    .an 0 0 <|
    .an 0 0 <|
    .an 0 0 <|
    .an 0 0 <|
    .an 0 0 <|
    .ret (.inl false)) fun c1 =>
   .ret (.inr (v1, v3)))
def jU (n : Nat) (a0 : (List GItem)) : Option Bool :=
 if 12 < (a0.length : Int) then
  some false
 else
 (yG n a0 (a0.length : Int) n 0 0).bind fun o2 =>
 match o2 with
 | .inl o2_0 =>
  some o2_0
 | .inr (⟨o2_1_0, o2_1_1⟩) =>
  some (decide (o2_1_0 <= 150))
theorem VN (n : Nat) : X6 (jU n) := fun a0 => tc (
 .le zo a0 <|
 .lI 12 (a0.length : Int) (fun c1 =>
  .ret false) fun c1 =>
 .le zo a0 <|
 .l2 (Qr n a0 (a0.length : Int) n 0 0) (fun o2_0 =>
  .ret o2_0) fun ⟨o2_1_0, o2_1_1⟩ =>
 .gD o2_1_0 150 <|
 .ret (decide (o2_1_0 <= 150))) (zw Tryd.func38)
def qF (a0 : (List GItem)) : Option Bool := jU (a0.length + (a0.map fun x => x.Exprs.length).sum + 5) a0
theorem Jd (a0 : (List GItem)) (r : Bool) (h : qF a0 = some r) : ∃ n, jU n a0 = some r := ⟨_, h⟩
theorem KP : X6 qF := fun a0 r h => (Jd a0 r h).elim fun n hn => VN n a0 r hn
def vP : Option (List (List UInt8)) :=
 some [[108, 111, 99, 97, 108], [114, 101, 115], [111, 117, 116]]
theorem JW : Oc vP 79 [] [] fun r => (.val false [.own 1 (eL wr r)], []) := tc (
 .ret [[108, 111, 99, 97, 108], [114, 101, 115], [111, 117, 116]]) (zw Tryd.func79)
def wq (a0 : Bool) (e0 : (List UInt8)) : Option (List UInt8) :=
 match a0 with
 | true =>
  if zd 1 (e0.length + [116, 114, 117, 101].length) then
  some (e0 ++ [116, 114, 117, 101])
  else none
 | false =>
  if zd 1 (e0.length + [102, 97, 108, 115, 101].length) then
  some (e0 ++ [102, 97, 108, 115, 101])
  else none
theorem Zs (a0 : Bool) (e0 : (List UInt8)) : Oc (wq a0 e0) 97 [.obj 1 (eL za e0)] [vr 0, vb a0] fun r => (.val false [.own 1 (eL za r)], [.dead]) := tc (
 .vM 0 a0 (
  .os [116, 114, 117, 101] <|
  .ap 1 zb e0 [116, 114, 117, 101] fun n1 =>
  .ret (e0 ++ [116, 114, 117, 101])) <|
 .os [102, 97, 108, 115, 101] <|
 .ap 1 zb e0 [102, 97, 108, 115, 101] fun n1 =>
 .ret (e0 ++ [102, 97, 108, 115, 101])) (zw Tryd.func97)
def jv (a0 : Bool) (e0 : (List UInt8)) : Option (List UInt8) :=
 (wq a0 e0).bind fun r1 =>
 some r1
theorem XV (a0 : Bool) (e0 : (List UInt8)) : Oc (jv a0 e0) 63 [.obj 1 (eL za e0)] [vr 0, vb a0] fun r => (.val false [.own 1 (eL za r)], [.dead]) := tc (
 .cl (Zs a0 e0) fun r1 =>
 .ret r1) (zw Tryd.func63)
def wa (F : GValue → (List UInt8) → Option (List UInt8)) : Prop := ∀ (a0 : GValue) (e0 : (List UInt8)), Oc (F a0 e0) 29 [.obj 1 (eL za e0)] [.val true (Xe a0), vr 0] fun r => (.val false [.own 1 (eL za r)], [.dead])
def yo (G_impl_Value_text : GValue → (List UInt8) → Option (List UInt8)) (v0 : (List UInt8)) (v1 : Int) : Nat → Int → (List UInt8) → Option (Int × (List UInt8))
  | 0, _, _ => none
  | m + 1, v2, v3 =>
  if v2 < v1 then
   (z6 v2).bind fun i2 =>
   (v0[i2]?).bind fun x3 =>
   if ((x3.toNat : Nat) : Int) = 34 then
    if zd 1 (v3.length + [(92 : UInt8)].length) then
    if zd 1 ((v3 ++ [(92 : UInt8)]).length + [x3].length) then
    yo G_impl_Value_text v0 v1 m (w64 (v2 + 1)) ((v3 ++ [(92 : UInt8)]) ++ [x3])
    else none
    else none
   else
   if ((x3.toNat : Nat) : Int) = 92 then
    if zd 1 (v3.length + [(92 : UInt8)].length) then
    if zd 1 ((v3 ++ [(92 : UInt8)]).length + [x3].length) then
    yo G_impl_Value_text v0 v1 m (w64 (v2 + 1)) ((v3 ++ [(92 : UInt8)]) ++ [x3])
    else none
    else none
   else
   if zd 1 (v3.length + [x3].length) then
   yo G_impl_Value_text v0 v1 m (w64 (v2 + 1)) (v3 ++ [x3])
   else none
  else
  some (v2, v3)
theorem XW (G_impl_Value_text : GValue → (List UInt8) → Option (List UInt8)) (H_impl_Value_text : wa G_impl_Value_text) (v0 : (List UInt8)) (v1 : Int) (m : Nat) : ∀ (v2 : Int) (v3 : (List UInt8)), Ol (yo G_impl_Value_text v0 v1 m v2 v3) 29 (zY Tryd.f29 0) ⟨[(1, vr 1), (41, vq za v0), (42, vi v1), (43, vi v2)], [.dead, .obj 1 (eL za v3)], 1⟩ fun o => match o with | ⟨o_0, o_1⟩ => (.exit 1, ⟨[(1, vr 1), (41, vq za v0), (42, vi v1), (43, vi o_0), (44, vb false)], [.dead, .obj 1 (eL za o_1)], 1⟩) := by
  induction m with
  | zero => intro v2 v3 o h; cases h
  | succ m ih => exact fun v2 v3 => tlp (
   .lI v2 v1 (fun c1 =>
    .na v2 fun i2 =>
    .ix0 za v0 i2 fun x3 =>
    .eI ((x3.toNat : Nat) : Int) 34 (fun c4 =>
     .pl zb [(92 : UInt8)] <|
     .ap 1 zb v3 [(92 : UInt8)] fun n5 =>
     .pl zb [x3] <|
     .ap 1 zb (v3 ++ [(92 : UInt8)]) [x3] fun n6 =>
     .go (ih (w64 (v2 + 1)) ((v3 ++ [(92 : UInt8)]) ++ [x3]))) fun c4 =>
    .eI ((x3.toNat : Nat) : Int) 92 (fun c5 =>
     .pl zb [(92 : UInt8)] <|
     .ap 1 zb v3 [(92 : UInt8)] fun n6 =>
     .pl zb [x3] <|
     .ap 1 zb (v3 ++ [(92 : UInt8)]) [x3] fun n7 =>
     .go (ih (w64 (v2 + 1)) ((v3 ++ [(92 : UInt8)]) ++ [x3]))) fun c5 =>
    .pl zb [x3] <|
    .ap 1 zb v3 [x3] fun n6 =>
    .go (ih (w64 (v2 + 1)) (v3 ++ [x3]))) fun c1 =>
   .ret (v2, v3))
def zF (G_impl_Value_text : GValue → (List UInt8) → Option (List UInt8)) (v0 : UInt8) (v1 : (List GValue)) (v2 : Int) (a0 : GValue) : Nat → Int → (List UInt8) → Option (Int × (List UInt8))
  | 0, _, _ => none
  | m + 1, v3, v4 =>
  if v3 < v2 then
   (z6 v3).bind fun i2 =>
   (v1[i2]?).bind fun x3 =>
   if 0 < v3 then
    if zd 1 (v4.length + [44, 32].length) then
    if a0.Kind = 5 then
     (a0.K[i2]?).bind fun x7 =>
     if zd 1 ((v4 ++ [44, 32]).length + x7.length) then
     if zd 1 (((v4 ++ [44, 32]) ++ x7).length + [32, 61, 32].length) then
     (G_impl_Value_text x3 (((v4 ++ [44, 32]) ++ x7) ++ [32, 61, 32])).bind fun r10 =>
     zF G_impl_Value_text v0 v1 v2 a0 m (w64 (v3 + 1)) r10
     else none
     else none
    else
    (G_impl_Value_text x3 (v4 ++ [44, 32])).bind fun r7 =>
    zF G_impl_Value_text v0 v1 v2 a0 m (w64 (v3 + 1)) r7
    else none
   else
   if a0.Kind = 5 then
    (a0.K[i2]?).bind fun x6 =>
    if zd 1 (v4.length + x6.length) then
    if zd 1 ((v4 ++ x6).length + [32, 61, 32].length) then
    (G_impl_Value_text x3 ((v4 ++ x6) ++ [32, 61, 32])).bind fun r9 =>
    zF G_impl_Value_text v0 v1 v2 a0 m (w64 (v3 + 1)) r9
    else none
    else none
   else
   (G_impl_Value_text x3 v4).bind fun r6 =>
   zF G_impl_Value_text v0 v1 v2 a0 m (w64 (v3 + 1)) r6
  else
  some (v3, v4)
theorem Za (G_impl_Value_text : GValue → (List UInt8) → Option (List UInt8)) (H_impl_Value_text : wa G_impl_Value_text) (v0 : UInt8) (v1 : (List GValue)) (v2 : Int) (a0 : GValue) (m : Nat) : ∀ (v3 : Int) (v4 : (List UInt8)), Ol (zF G_impl_Value_text v0 v1 v2 a0 m v3 v4) 29 (zY Tryd.f29 1) ⟨[(1, vr 1), (2, vp 2 0), (8, .val false [.int .u8 ((v0.toNat : Nat) : Int)]), (72, vq w7 v1), (73, vi v2), (74, vi v3)], [.dead, .obj 1 (eL za v4), .var (Xe a0)], 1⟩ fun o => match o with | ⟨o_0, o_1⟩ => (.exit 3, ⟨[(1, vr 1), (2, vp 2 0), (8, .val false [.int .u8 ((v0.toNat : Nat) : Int)]), (72, vq w7 v1), (73, vi v2), (74, vi o_0), (75, vb false)], [.dead, .obj 1 (eL za o_1), .var (Xe a0)], 1⟩) := by
  induction m with
  | zero => intro v3 v4 o h; cases h
  | succ m ih => exact fun v3 v4 => tlp (
   .lI v3 v2 (fun c1 =>
    .na v3 fun i2 =>
    .ix X8 v1 i2 fun x3 =>
    .lI 0 v3 (fun c4 =>
     .os [44, 32] <|
     .ap 1 zb v4 [44, 32] fun n5 =>
     .eI a0.Kind 5 (fun c6 =>
      .ag 1 <|
      .ix0 (z7 za) a0.K i2 fun x7 =>
      .ap 1 zb (v4 ++ [44, 32]) x7 fun n8 =>
      .os [32, 61, 32] <|
      .ap 1 zb ((v4 ++ [44, 32]) ++ x7) [32, 61, 32] fun n9 =>
      .cl (H_impl_Value_text x3 (((v4 ++ [44, 32]) ++ x7) ++ [32, 61, 32])) fun r10 =>
      .go (ih (w64 (v3 + 1)) r10)) fun c6 =>
     .cl (H_impl_Value_text x3 (v4 ++ [44, 32])) fun r7 =>
     .go (ih (w64 (v3 + 1)) r7)) fun c4 =>
    .eI a0.Kind 5 (fun c5 =>
     .ag 1 <|
     .ix0 (z7 za) a0.K i2 fun x6 =>
     .ap 1 zb v4 x6 fun n7 =>
     .os [32, 61, 32] <|
     .ap 1 zb (v4 ++ x6) [32, 61, 32] fun n8 =>
     .cl (H_impl_Value_text x3 ((v4 ++ x6) ++ [32, 61, 32])) fun r9 =>
     .go (ih (w64 (v3 + 1)) r9)) fun c5 =>
    .cl (H_impl_Value_text x3 v4) fun r6 =>
    .go (ih (w64 (v3 + 1)) r6)) fun c1 =>
   .ret (v3, v4))
def qS (G_impl_Value_text : GValue → (List UInt8) → Option (List UInt8)) (n : Nat) (a0 : GValue) (e0 : (List UInt8)) : Option (List UInt8) :=
 if a0.Kind = 0 then
  if zd 1 (e0.length + [110, 117, 108, 108].length) then
  some (e0 ++ [110, 117, 108, 108])
  else none
 else
 if a0.Kind = 1 then
  (jv (decide (a0.N = 1)) e0).bind fun r3 =>
  some r3
 else
 if a0.Kind = 2 then
  (qq a0.N 10 e0).bind fun r4 =>
  some r4
 else
 if a0.Kind = 6 then
  if zd 1 (e0.length + [(63 : UInt8)].length) then
  some (e0 ++ [(63 : UInt8)])
  else none
 else
 if a0.Kind = 3 then
  if zd 1 (e0.length + [(34 : UInt8)].length) then
  (yo G_impl_Value_text a0.S (a0.S.length : Int) n 0 (e0 ++ [(34 : UInt8)])).bind fun ⟨o7_0, o7_1⟩ =>
  if zd 1 (o7_1.length + [(34 : UInt8)].length) then
  some (o7_1 ++ [(34 : UInt8)])
  else none
  else none
 else
 if a0.Kind = 5 then
  if zd 1 (e0.length + [(123 : UInt8)].length) then
  (zF G_impl_Value_text (125 : UInt8) a0.L (a0.L.length : Int) a0 n 0 (e0 ++ [(123 : UInt8)])).bind fun ⟨o8_0, o8_1⟩ =>
  if zd 1 (o8_1.length + [(125 : UInt8)].length) then
  some (o8_1 ++ [(125 : UInt8)])
  else none
  else none
 else
 if zd 1 (e0.length + [(91 : UInt8)].length) then
 (zF G_impl_Value_text (93 : UInt8) a0.L (a0.L.length : Int) a0 n 0 (e0 ++ [(91 : UInt8)])).bind fun ⟨o8_0, o8_1⟩ =>
 if zd 1 (o8_1.length + [(93 : UInt8)].length) then
 some (o8_1 ++ [(93 : UInt8)])
 else none
 else none
theorem JX (G_impl_Value_text : GValue → (List UInt8) → Option (List UInt8)) (H_impl_Value_text : wa G_impl_Value_text) (n : Nat) : wa (qS G_impl_Value_text n) := fun a0 e0 => tc (
 .eI a0.Kind 0 (fun c1 =>
  .os [110, 117, 108, 108] <|
  .ap 1 zb e0 [110, 117, 108, 108] fun n2 =>
  .ret (e0 ++ [110, 117, 108, 108])) fun c1 =>
 .eI a0.Kind 1 (fun c2 =>
  .eD a0.N 1 <|
  .cl (XV (decide (a0.N = 1)) e0) fun r3 =>
  .ret r3) fun c2 =>
 .eI a0.Kind 2 (fun c3 =>
  .cl (WV a0.N 10 e0) fun r4 =>
  .ret r4) fun c3 =>
 .eI a0.Kind 6 (fun c4 =>
  .pl zb [(63 : UInt8)] <|
  .ap 1 zb e0 [(63 : UInt8)] fun n5 =>
  .ret (e0 ++ [(63 : UInt8)])) fun c4 =>
 .eI a0.Kind 3 (fun c5 =>
  .pl zb [(34 : UInt8)] <|
  .ap 1 zb e0 [(34 : UInt8)] fun n6 =>
  .le za a0.S <|
  .lp (XW G_impl_Value_text H_impl_Value_text a0.S (a0.S.length : Int) n 0 (e0 ++ [(34 : UInt8)])) fun ⟨o7_0, o7_1⟩ =>
  .pl zb [(34 : UInt8)] <|
  .ap 1 zb o7_1 [(34 : UInt8)] fun n8 =>
  .ret (o7_1 ++ [(34 : UInt8)])) fun c5 =>
 .eI a0.Kind 5 (fun c6 =>
  .pl zb [(123 : UInt8)] <|
  .ap 1 zb e0 [(123 : UInt8)] fun n7 =>
  .le w7 a0.L <|
  .lp (Za G_impl_Value_text H_impl_Value_text (125 : UInt8) a0.L (a0.L.length : Int) a0 n 0 (e0 ++ [(123 : UInt8)])) fun ⟨o8_0, o8_1⟩ =>
  .pl zb [(125 : UInt8)] <|
  .ap 1 zb o8_1 [(125 : UInt8)] fun n9 =>
  .ret (o8_1 ++ [(125 : UInt8)])) fun c6 =>
 .pl zb [(91 : UInt8)] <|
 .ap 1 zb e0 [(91 : UInt8)] fun n7 =>
 .le w7 a0.L <|
 .lp (Za G_impl_Value_text H_impl_Value_text (93 : UInt8) a0.L (a0.L.length : Int) a0 n 0 (e0 ++ [(91 : UInt8)])) fun ⟨o8_0, o8_1⟩ =>
 .pl zb [(93 : UInt8)] <|
 .ap 1 zb o8_1 [(93 : UInt8)] fun n9 =>
 .ret (o8_1 ++ [(93 : UInt8)])) (zw Tryd.func29)
def ym : Nat → GValue → (List UInt8) → Option (List UInt8)
 | 0, _, _ => none
 | n + 1, a0, e0 => qS (ym n) n a0 e0
theorem Qs (n : Nat) : wa (ym n) := by
 induction n with
 | zero => exact fun _ _ _ h => (by rw [ym] at h; cases h)
 | succ n ih =>
  have ih_impl_Value_text := ih
  exact fun a0 e0 r h => JX (ym n) ih_impl_Value_text n a0 e0 r (by rw [ym] at h; exact h)
theorem MZ {G : GValue → List UInt8 → Option (List UInt8)} {a : List UInt8} (ha : a.length <= 2 ^ 30) : ∀ (l p acc : List UInt8) (m : Nat), a = p ++ l → l.length < m → acc.length + 2 * l.length <= 2 ^ 39 + 2 ^ 25 → ∃ z, yo G a (a.length : Int) m (p.length : Int) acc = some (z, acc ++ ZG l) := by
 intro l
 induction l with
 | nil =>
  intro p acc m he hm _
  obtain ⟨m, rfl, _⟩ := zi hm
  exact ⟨_, by rw [yo, he, List.append_nil, if_neg (by omega), ZG, List.append_nil]⟩
 | cons x l ih =>
  intro p acc m he hm hb
  obtain ⟨m, rfl, hm'⟩ := zi hm
  have hlen : a.length = p.length + (l.length + 1) := by rw [he]; simp
  have hg : a[p.length]? = some x := by rw [he]; exact zN p x l
  simp only [List.length_cons] at hb hm'
  have e1 : ((x.toNat : Nat) : Int) = 34 ↔ x = 34 := ⟨fun h => UInt8.toNat_inj.1 (by show x.toNat = 34; omega), fun h => by rw [h]; rfl⟩
  have e2 : ((x.toNat : Nat) : Int) = 92 ↔ x = 92 := ⟨fun h => UInt8.toNat_inj.1 (by show x.toNat = 92; omega), fun h => by rw [h]; rfl⟩
  by_cases c : x = 34 ∨ x = 92
  ·obtain ⟨z, hz⟩ := ih (p ++ [x]) (acc ++ [92] ++ [x]) m (by rw [he]; simp) (by omega) (by simp only [List.length_append, List.length_cons, List.length_nil]; omega)
   refine ⟨z, ?_⟩
   rw [yo, if_pos (by omega), zg, Option.bind_some, hg, Option.bind_some, if_pos (zc (by decide) (by simp only [List.length_cons, List.length_nil]; omega)), if_pos (zc (by decide) (by simp only [List.length_append, List.length_cons, List.length_nil]; omega)), zZ p x (by omega), hz, ZG, if_pos c]
   rcases c with c | c
   ·rw [if_pos (e1.2 c)]; simp
   ·rw [if_pos (e2.2 c)]; simp
  ·obtain ⟨z, hz⟩ := ih (p ++ [x]) (acc ++ [x]) m (by rw [he]; simp) (by omega) (by simp only [List.length_append, List.length_cons, List.length_nil]; omega)
   refine ⟨z, ?_⟩
   rw [yo, if_pos (by omega), zg, Option.bind_some, hg, Option.bind_some, if_neg (fun h => c (.inl (e1.1 h))), if_neg (fun h => c (.inr (e2.1 h))), if_pos (zc (by decide) (by simp only [List.length_cons, List.length_nil]; omega)), zZ p x (by omega), hz, ZG, if_neg c]
   simp
theorem VO {G : GValue → List UInt8 → Option (List UInt8)} {v0 : UInt8} {a : GValue} {M : Nat} (hM : M <= 2 ^ 39) (hA : vsz a <= 2 ^ 20) (hk : a.Kind = 5 → a.K.length = a.L.length) (hG : ∀ x ∈ a.L, (∀ b : List UInt8, b.length <= M → G x b = some (b ++ jy x)) ∧ (jy x).length <= 23 * vsz x + 21) :
  ∀ (l p : List GValue) (kp k : List (List UInt8)) (acc : List UInt8) (m : Nat), a.L = p ++ l → (a.Kind = 5 → a.K = kp ++ k ∧ kp.length = p.length) → l.length < m → acc.length + 30 * wT l + 23 * bsz k <= M →
  ∃ z, zF G v0 a.L (a.L.length : Int) a m (p.length : Int) acc = some (z, acc ++ jW (decide (a.Kind = 5)) (decide (p = [])) k l) := by
 have hv := PG a
 have hl := PF a.L
 intro l
 induction l with
 | nil =>
  intro p kp k acc m he _ hm _
  obtain ⟨m, rfl, _⟩ := zi hm
  exact ⟨_, by rw [zF, he, List.append_nil, if_neg (by omega), jW, List.append_nil]⟩
 | cons x l ih =>
  intro p kp k acc m he hkk hm hb
  obtain ⟨m, rfl, hm'⟩ := zi hm
  have hlen : a.L.length = p.length + (l.length + 1) := by rw [he]; simp
  have hg : a.L[p.length]? = some x := by rw [he]; exact zN p x l
  obtain ⟨g1, g2⟩ := hG x (by rw [he]; simp)
  simp only [wT, List.length_cons] at hb hm'
  have hp' : decide (p ++ [x] = []) = false := by simp
  by_cases c5 : a.Kind = 5
  ·obtain ⟨k1, k2⟩ := hkk c5
   have hkl := hk c5
   cases k with
   | nil => rw [k1, List.append_nil] at hkl; omega
   | cons y k =>
    rw [qM] at hb
    have hgk : a.K[p.length]? = some y := by rw [k1, <- k2]; exact zN kp y k
    have next := fun acc' ha => ih (p ++ [x]) (kp ++ [y]) k acc' m (by rw [he]; simp) (fun _ => ⟨by rw [k1]; simp, by simp [k2]⟩) (by omega) ha
    by_cases c0 : p = []
    ·subst c0
     obtain ⟨z, hz⟩ := next (acc ++ y ++ [32, 61, 32] ++ jy x) (by simp only [List.length_append, List.length_cons, List.length_nil]; omega)
     refine ⟨z, ?_⟩
     rw [zF, if_pos (by omega), zg, Option.bind_some, hg, Option.bind_some, if_neg (by simp), if_pos c5, hgk, Option.bind_some, if_pos (zc (by decide) (by omega)), if_pos (zc (by decide) (by simp only [List.length_append, List.length_cons, List.length_nil]; omega)), g1 _ (by simp only [List.length_append, List.length_cons, List.length_nil]; omega), Option.bind_some, zZ [] x (by simp), hz, hp', jW, decide_eq_true c5]
     simp
    ·have hpos : (0 : Int) < (p.length : Int) := by have := List.length_pos_iff.2 c0; omega
     obtain ⟨z, hz⟩ := next (acc ++ [44, 32] ++ y ++ [32, 61, 32] ++ jy x) (by simp only [List.length_append, List.length_cons, List.length_nil]; omega)
     refine ⟨z, ?_⟩
     rw [zF, if_pos (by omega), zg, Option.bind_some, hg, Option.bind_some, if_pos hpos, if_pos (zc (by decide) (by simp only [List.length_cons, List.length_nil]; omega)), if_pos c5, hgk, Option.bind_some, if_pos (zc (by decide) (by simp only [List.length_append, List.length_cons, List.length_nil]; omega)), if_pos (zc (by decide) (by simp only [List.length_append, List.length_cons, List.length_nil]; omega)), g1 _ (by simp only [List.length_append, List.length_cons, List.length_nil]; omega), Option.bind_some, zZ p x (by omega), hz, hp', jW, decide_eq_true c5, decide_eq_false c0]
     simp
  ·have next := fun acc' ha => ih (p ++ [x]) kp k.tail acc' m (by rw [he]; simp) (fun e => absurd e c5) (by omega) ha
   have hbt := Va k
   by_cases c0 : p = []
   ·subst c0
    obtain ⟨z, hz⟩ := next (acc ++ jy x) (by simp only [List.length_append]; omega)
    refine ⟨z, ?_⟩
    rw [zF, if_pos (by omega), zg, Option.bind_some, hg, Option.bind_some, if_neg (by simp), if_neg c5, g1 _ (by omega), Option.bind_some, zZ [] x (by simp), hz, hp', jW, decide_eq_false c5]
    simp
   ·have hpos : (0 : Int) < (p.length : Int) := by have := List.length_pos_iff.2 c0; omega
    obtain ⟨z, hz⟩ := next (acc ++ [44, 32] ++ jy x) (by simp only [List.length_append, List.length_cons, List.length_nil]; omega)
    refine ⟨z, ?_⟩
    rw [zF, if_pos (by omega), zg, Option.bind_some, hg, Option.bind_some, if_pos hpos, if_pos (zc (by decide) (by simp only [List.length_cons, List.length_nil]; omega)), if_neg c5, g1 _ (by simp only [List.length_append, List.length_cons, List.length_nil]; omega), Option.bind_some, zZ p x (by omega), hz, hp', jW, decide_eq_false c5, decide_eq_false c0]
    simp
theorem OD : ∀ (d : Nat) (v : GValue) (b : List UInt8) (f : Nat), shV d v = true → vsz v <= 2 ^ 20 → b.length + d * 2 ^ 25 <= 2 ^ 39 → vsz v + 3 <= f → ym f v b = some (b ++ jy v)
 | 0, v, b, f, h, _, _, _ => by cases h
 | d + 1, v, b, f, h, hs, hb, hf => by
  obtain ⟨f, rfl, hf'⟩ : ∃ n, f = n + 1 ∧ vsz v + 2 <= n := ⟨f - 1, by omega, by omega⟩
  have hlen := WR (d + 1) v h
  rw [shV, Bool.and_eq_true, List.all_eq_true] at h
  obtain ⟨h1, h2⟩ := h
  obtain ⟨l1, l2, l3, l4⟩ := OO h1
  have hv := PG v
  have hvl := PF v.L
  have hG : ∀ x ∈ v.L, (∀ b : List UInt8, b.length <= 2 ^ 39 - d * 2 ^ 25 → ym f x b = some (b ++ jy x)) ∧ (jy x).length <= 23 * vsz x + 21 := fun x hx => by
   have := GB hx
   exact ⟨fun b hb' => OD d x b f (h2 x hx) (by omega) (by omega) (by omega), WR d x (h2 x hx)⟩
  rw [show ym (f + 1) v b = qS (ym f) f v b from rfl]
  unfold qS
  rw [Tg] at hlen ⊢
  by_cases k0 : v.Kind = 0
  ·rw [if_pos k0, if_pos k0, if_pos (zc (by decide) (by simp only [List.length_cons, List.length_nil]; omega))]
  rw [if_neg k0, if_neg k0]
  rw [if_neg k0] at hlen
  by_cases k1 : v.Kind = 1
  ·rw [if_pos k1, if_pos k1]
   unfold jv wq
   by_cases c : v.N = 1
   ·rw [if_pos c, decide_eq_true c]
    dsimp only
    rw [if_pos (zc (by decide) (by simp only [List.length_cons, List.length_nil]; omega))]; rfl
   ·rw [if_neg c, decide_eq_false c]
    dsimp only
    rw [if_pos (zc (by decide) (by simp only [List.length_cons, List.length_nil]; omega))]; rfl
  rw [if_neg k1, if_neg k1]
  rw [if_neg k1] at hlen
  by_cases k2 : v.Kind = 2
  ·have := l2 k2
   rw [if_pos k2, if_pos k2, show qq v.N 10 b = some (b ++ Lib.itoa v.N) from if_pos ⟨rfl, by omega, by omega, by omega⟩]; rfl
  rw [if_neg k2, if_neg k2]
  rw [if_neg k2] at hlen
  by_cases k6 : v.Kind = 6
  ·rw [if_pos k6, if_neg (show ¬ v.Kind = 3 by omega), if_pos k6, if_pos (zc (by decide) (by simp only [List.length_cons, List.length_nil]; omega))]
  rw [if_neg k6]
  by_cases k3 : v.Kind = 3
  ·have hel := ZH v.S
   rw [if_pos k3, if_pos k3, if_pos (zc (by decide) (by simp only [List.length_cons, List.length_nil]; omega))]
   obtain ⟨z, hz⟩ := MZ (G := ym f) (a := v.S) (by omega) v.S [] (b ++ [34]) f rfl (by omega) (by simp only [List.length_append, List.length_cons, List.length_nil]; omega)
   simp only [List.length_nil, Int.natCast_zero] at hz
   rw [hz, Option.bind_some]
   dsimp only
   rw [if_pos (zc (by decide) (by simp only [List.length_append, List.length_cons, List.length_nil]; omega))]
   simp [Yq]
  rw [if_neg k3, if_neg k3, if_neg k6]
  rw [if_neg k3, if_neg k6] at hlen
  by_cases k5 : v.Kind = 5
  ·rw [if_pos k5, if_pos k5, if_pos (zc (by decide) (by simp only [List.length_cons, List.length_nil]; omega))]
   rw [if_pos k5] at hlen
   obtain ⟨z, hz⟩ := VO (v0 := 125) (M := 2 ^ 39 - d * 2 ^ 25) (by omega) hs l3 hG v.L [] [] v.K (b ++ [123]) f rfl (fun _ => ⟨rfl, rfl⟩) (by omega) (by simp only [List.length_append, List.length_cons, List.length_nil]; omega)
   simp only [List.length_nil, Int.natCast_zero] at hz
   simp only [List.length_cons, List.length_append, List.length_nil] at hlen
   rw [hz, Option.bind_some, decide_eq_true k5]
   dsimp only
   rw [if_pos (zc (by decide) (by simp only [List.length_append, List.length_cons, List.length_nil, decide_true]; omega))]
   simp
  ·rw [if_neg k5, if_neg k5, if_pos (zc (by decide) (by simp only [List.length_cons, List.length_nil]; omega))]
   rw [if_neg k5] at hlen
   obtain ⟨z, hz⟩ := VO (v0 := 93) (M := 2 ^ 39 - d * 2 ^ 25) (by omega) hs l3 hG v.L [] [] v.K (b ++ [91]) f rfl (fun _ => ⟨rfl, rfl⟩) (by omega) (by simp only [List.length_append, List.length_cons, List.length_nil]; omega)
   simp only [List.length_nil, Int.natCast_zero] at hz
   simp only [List.length_cons, List.length_append, List.length_nil] at hlen
   rw [hz, Option.bind_some, decide_eq_false k5]
   dsimp only
   rw [if_pos (zc (by decide) (by simp only [List.length_append, List.length_cons, List.length_nil, decide_true]; omega))]
   simp
def yq (a0 : GValue) (e0 : (List UInt8)) : Option (List UInt8) := if shV 5 a0 = true ∧ vsz a0 <= 2 ^ 20 ∧ e0.length <= 2 ^ 38 then some (e0 ++ jy a0) else none
theorem BJ {v : GValue} {b : List UInt8} (h : shV 5 v = true) (hs : vsz v <= 2 ^ 20) (hb : b.length <= 2 ^ 38) : yq v b = some (b ++ jy v) := if_pos ⟨h, hs, hb⟩
theorem WE (a0 : GValue) (e0 : (List UInt8)) (r : (List UInt8)) (h : yq a0 e0 = some r) : ∃ n, ym n a0 e0 = some r := by
 unfold yq at h
 obtain ⟨⟨h0, h1, h2⟩, h⟩ := yg h
 exact ⟨vsz a0 + 3, by rw [<- h]; exact OD 5 a0 e0 _ h0 h1 (by omega) (Nat.le_refl _)⟩
theorem qG : wa yq := by
 intro a0 e0 r h
 obtain ⟨n, hn⟩ := WE a0 e0 r h
 exact (Qs n) a0 e0 r hn
def yB (a0 : Int) : Option Bool :=
 (xI a0 15 22).bind fun r1 =>
 some r1
theorem xp (a0 : Int) : Oc (yB a0) 131 [] [vi a0] fun r => (vb r, []) := tc (
 .cl (jt a0 15 22) fun r1 =>
 .ret r1) (zw Tryd.func131)
def qp (F : GExpr → Int → (List UInt8) → Option (List UInt8)) : Prop := ∀ (a0 : GExpr) (a1 : Int) (e0 : (List UInt8)), Oc (F a0 a1 e0) 113 [.obj 1 (eL za e0)] [.val true (yh a0), vr 0, vi a1] fun r => (.val false [.own 1 (eL za r)], [.dead])
def wR (F : GExpr → (List UInt8) → Option (List UInt8)) : Prop := ∀ (a0 : GExpr) (e0 : (List UInt8)), Oc (F a0 e0) 112 [.obj 1 (eL za e0)] [.val true (yh a0), vr 0] fun r => (.val false [.own 1 (eL za r)], [.dead])
def w5 (F : GExpr → (List UInt8) → Option (List UInt8)) : Prop := ∀ (a0 : GExpr) (e0 : (List UInt8)), Oc (F a0 e0) 80 [.obj 1 (eL za e0)] [.val true (yh a0), vr 0] fun r => (.val false [.own 1 (eL za r)], [.dead])
def wt (G_impl_Expr_text : GExpr → (List UInt8) → Option (List UInt8)) (a0 : GExpr) (a1 : Int) (e0 : (List UInt8)) : Option (List UInt8) :=
 (z6 a1).bind fun i1 =>
 (a0.Kids[i1]?).bind fun x2 =>
 if a0.Kind = 8 then
  (yB x2.Kind).bind fun r4 =>
  match r4 with
  | true =>
   if zd 1 (e0.length + [(40 : UInt8)].length) then
   (G_impl_Expr_text x2 (e0 ++ [(40 : UInt8)])).bind fun r6 =>
   if zd 1 (r6.length + [(41 : UInt8)].length) then
   some (r6 ++ [(41 : UInt8)])
   else none
   else none
  | false =>
   if x2.Kind = 13 then
    if zd 1 (e0.length + [(40 : UInt8)].length) then
    (G_impl_Expr_text x2 (e0 ++ [(40 : UInt8)])).bind fun r7 =>
    if zd 1 (r7.length + [(41 : UInt8)].length) then
    some (r7 ++ [(41 : UInt8)])
    else none
    else none
   else
   if x2.Kind = 14 then
    if zd 1 (e0.length + [(40 : UInt8)].length) then
    (G_impl_Expr_text x2 (e0 ++ [(40 : UInt8)])).bind fun r8 =>
    if zd 1 (r8.length + [(41 : UInt8)].length) then
    some (r8 ++ [(41 : UInt8)])
    else none
    else none
   else
   (G_impl_Expr_text x2 e0).bind fun r7 =>
   some r7
 else
 if a0.Kind = 9 then
  if a1 = 0 then
   (yB x2.Kind).bind fun r6 =>
   match r6 with
   | true =>
    if zd 1 (e0.length + [(40 : UInt8)].length) then
    (G_impl_Expr_text x2 (e0 ++ [(40 : UInt8)])).bind fun r8 =>
    if zd 1 (r8.length + [(41 : UInt8)].length) then
    some (r8 ++ [(41 : UInt8)])
    else none
    else none
   | false =>
    if x2.Kind = 13 then
     if zd 1 (e0.length + [(40 : UInt8)].length) then
     (G_impl_Expr_text x2 (e0 ++ [(40 : UInt8)])).bind fun r9 =>
     if zd 1 (r9.length + [(41 : UInt8)].length) then
     some (r9 ++ [(41 : UInt8)])
     else none
     else none
    else
    if x2.Kind = 14 then
     if zd 1 (e0.length + [(40 : UInt8)].length) then
     (G_impl_Expr_text x2 (e0 ++ [(40 : UInt8)])).bind fun r10 =>
     if zd 1 (r10.length + [(41 : UInt8)].length) then
     some (r10 ++ [(41 : UInt8)])
     else none
     else none
    else
    (G_impl_Expr_text x2 e0).bind fun r9 =>
    some r9
  else
  (yB a0.Kind).bind fun r6 =>
  match r6 with
  | true =>
   (yB x2.Kind).bind fun r7 =>
   match r7 with
   | true =>
    if zd 1 (e0.length + [(40 : UInt8)].length) then
    (G_impl_Expr_text x2 (e0 ++ [(40 : UInt8)])).bind fun r9 =>
    if zd 1 (r9.length + [(41 : UInt8)].length) then
    some (r9 ++ [(41 : UInt8)])
    else none
    else none
   | false =>
    (G_impl_Expr_text x2 e0).bind fun r8 =>
    some r8
  | false =>
   (G_impl_Expr_text x2 e0).bind fun r7 =>
   some r7
 else
 if a0.Kind = 13 then
  (yB x2.Kind).bind fun r6 =>
  match r6 with
  | true =>
   if zd 1 (e0.length + [(40 : UInt8)].length) then
   (G_impl_Expr_text x2 (e0 ++ [(40 : UInt8)])).bind fun r8 =>
   if zd 1 (r8.length + [(41 : UInt8)].length) then
   some (r8 ++ [(41 : UInt8)])
   else none
   else none
  | false =>
   (G_impl_Expr_text x2 e0).bind fun r7 =>
   some r7
 else
 if a0.Kind = 14 then
  (yB x2.Kind).bind fun r7 =>
  match r7 with
  | true =>
   if zd 1 (e0.length + [(40 : UInt8)].length) then
   (G_impl_Expr_text x2 (e0 ++ [(40 : UInt8)])).bind fun r9 =>
   if zd 1 (r9.length + [(41 : UInt8)].length) then
   some (r9 ++ [(41 : UInt8)])
   else none
   else none
  | false =>
   (G_impl_Expr_text x2 e0).bind fun r8 =>
   some r8
 else
 (yB a0.Kind).bind fun r7 =>
 match r7 with
 | true =>
  (yB x2.Kind).bind fun r8 =>
  match r8 with
  | true =>
   if zd 1 (e0.length + [(40 : UInt8)].length) then
   (G_impl_Expr_text x2 (e0 ++ [(40 : UInt8)])).bind fun r10 =>
   if zd 1 (r10.length + [(41 : UInt8)].length) then
   some (r10 ++ [(41 : UInt8)])
   else none
   else none
  | false =>
   (G_impl_Expr_text x2 e0).bind fun r9 =>
   some r9
 | false =>
  (G_impl_Expr_text x2 e0).bind fun r8 =>
  some r8
theorem Qt (G_impl_Expr_text : GExpr → (List UInt8) → Option (List UInt8)) (H_impl_Expr_text : w5 G_impl_Expr_text) : qp (wt G_impl_Expr_text) := fun a0 a1 e0 => tc (
 .na a1 fun i1 =>
 .ix zA a0.Kids i1 fun x2 =>
 .eI a0.Kind 8 (fun c3 =>
  .cl (xp x2.Kind) fun r4 =>
  .vM 1 r4 (
   .az 0 0 <|
   .az 0 0 <|
   .az 0 0 <|
   .pl zb [(40 : UInt8)] <|
   .ap 1 zb e0 [(40 : UInt8)] fun n5 =>
   .cl (H_impl_Expr_text x2 (e0 ++ [(40 : UInt8)])) fun r6 =>
   .pl zb [(41 : UInt8)] <|
   .ap 1 zb r6 [(41 : UInt8)] fun n7 =>
   .ret (r6 ++ [(41 : UInt8)])) <|
  .az 0 0 <|
  .eI x2.Kind 13 (fun c5 =>
   .az 6 0 <|
   .az 1 0 <|
   .pl zb [(40 : UInt8)] <|
   .ap 1 zb e0 [(40 : UInt8)] fun n6 =>
   .cl (H_impl_Expr_text x2 (e0 ++ [(40 : UInt8)])) fun r7 =>
   .pl zb [(41 : UInt8)] <|
   .ap 1 zb r7 [(41 : UInt8)] fun n8 =>
   .ret (r7 ++ [(41 : UInt8)])) fun c5 =>
  .eI x2.Kind 14 (fun c6 =>
   .az 2 0 <|
   .az 1 0 <|
   .pl zb [(40 : UInt8)] <|
   .ap 1 zb e0 [(40 : UInt8)] fun n7 =>
   .cl (H_impl_Expr_text x2 (e0 ++ [(40 : UInt8)])) fun r8 =>
   .pl zb [(41 : UInt8)] <|
   .ap 1 zb r8 [(41 : UInt8)] fun n9 =>
   .ret (r8 ++ [(41 : UInt8)])) fun c6 =>
  .az 2 0 <|
  .az 1 0 <|
  .cl (H_impl_Expr_text x2 e0) fun r7 =>
  .ret r7) fun c3 =>
 .eI a0.Kind 9 (fun c4 =>
  .eI a1 0 (fun c5 =>
   .cl (xp x2.Kind) fun r6 =>
   .vM 1 r6 (
    .az 0 0 <|
    .az 0 0 <|
    .az 0 0 <|
    .pl zb [(40 : UInt8)] <|
    .ap 1 zb e0 [(40 : UInt8)] fun n7 =>
    .cl (H_impl_Expr_text x2 (e0 ++ [(40 : UInt8)])) fun r8 =>
    .pl zb [(41 : UInt8)] <|
    .ap 1 zb r8 [(41 : UInt8)] fun n9 =>
    .ret (r8 ++ [(41 : UInt8)])) <|
   .az 0 0 <|
   .eI x2.Kind 13 (fun c7 =>
    .az 6 0 <|
    .az 1 0 <|
    .pl zb [(40 : UInt8)] <|
    .ap 1 zb e0 [(40 : UInt8)] fun n8 =>
    .cl (H_impl_Expr_text x2 (e0 ++ [(40 : UInt8)])) fun r9 =>
    .pl zb [(41 : UInt8)] <|
    .ap 1 zb r9 [(41 : UInt8)] fun n10 =>
    .ret (r9 ++ [(41 : UInt8)])) fun c7 =>
   .eI x2.Kind 14 (fun c8 =>
    .az 2 0 <|
    .az 1 0 <|
    .pl zb [(40 : UInt8)] <|
    .ap 1 zb e0 [(40 : UInt8)] fun n9 =>
    .cl (H_impl_Expr_text x2 (e0 ++ [(40 : UInt8)])) fun r10 =>
    .pl zb [(41 : UInt8)] <|
    .ap 1 zb r10 [(41 : UInt8)] fun n11 =>
    .ret (r10 ++ [(41 : UInt8)])) fun c8 =>
   .az 2 0 <|
   .az 1 0 <|
   .cl (H_impl_Expr_text x2 e0) fun r9 =>
   .ret r9) fun c5 =>
  .q (.eFo a0.Kind 13 (by omega)) <|
  .q (.eFo a0.Kind 14 (by omega)) <|
  .cl (xp a0.Kind) fun r6 =>
  .vM 1 r6 (
   .az 0 0 <|
   .az 0 0 <|
   .cl (xp x2.Kind) fun r7 =>
   .az 0 1 <|
   .vM 0 r7 (
    .az 0 0 <|
    .az 0 0 <|
    .az 0 0 <|
    .pl zb [(40 : UInt8)] <|
    .ap 1 zb e0 [(40 : UInt8)] fun n8 =>
    .cl (H_impl_Expr_text x2 (e0 ++ [(40 : UInt8)])) fun r9 =>
    .pl zb [(41 : UInt8)] <|
    .ap 1 zb r9 [(41 : UInt8)] fun n10 =>
    .ret (r9 ++ [(41 : UInt8)])) <|
   .az 0 0 <|
   .az 5 0 <|
   .az 1 0 <|
   .cl (H_impl_Expr_text x2 e0) fun r8 =>
   .ret r8) <|
  .az 0 0 <|
  .az 0 0 <|
  .az 0 0 <|
  .cl (H_impl_Expr_text x2 e0) fun r7 =>
  .ret r7) fun c4 =>
 .eI a0.Kind 13 (fun c5 =>
  .cl (xp x2.Kind) fun r6 =>
  .vM 1 r6 (
   .az 0 0 <|
   .az 0 0 <|
   .az 0 0 <|
   .pl zb [(40 : UInt8)] <|
   .ap 1 zb e0 [(40 : UInt8)] fun n7 =>
   .cl (H_impl_Expr_text x2 (e0 ++ [(40 : UInt8)])) fun r8 =>
   .pl zb [(41 : UInt8)] <|
   .ap 1 zb r8 [(41 : UInt8)] fun n9 =>
   .ret (r8 ++ [(41 : UInt8)])) <|
  .az 0 0 <|
  .az 5 0 <|
  .az 1 0 <|
  .cl (H_impl_Expr_text x2 e0) fun r7 =>
  .ret r7) fun c5 =>
 .eI a0.Kind 14 (fun c6 =>
  .cl (xp x2.Kind) fun r7 =>
  .vM 1 r7 (
   .az 0 0 <|
   .az 0 0 <|
   .az 0 0 <|
   .pl zb [(40 : UInt8)] <|
   .ap 1 zb e0 [(40 : UInt8)] fun n8 =>
   .cl (H_impl_Expr_text x2 (e0 ++ [(40 : UInt8)])) fun r9 =>
   .pl zb [(41 : UInt8)] <|
   .ap 1 zb r9 [(41 : UInt8)] fun n10 =>
   .ret (r9 ++ [(41 : UInt8)])) <|
  .az 0 0 <|
  .az 5 0 <|
  .az 1 0 <|
  .cl (H_impl_Expr_text x2 e0) fun r8 =>
  .ret r8) fun c6 =>
 .cl (xp a0.Kind) fun r7 =>
 .vM 1 r7 (
  .az 0 0 <|
  .az 0 0 <|
  .cl (xp x2.Kind) fun r8 =>
  .az 0 1 <|
  .vM 0 r8 (
   .az 0 0 <|
   .az 0 0 <|
   .az 0 0 <|
   .pl zb [(40 : UInt8)] <|
   .ap 1 zb e0 [(40 : UInt8)] fun n9 =>
   .cl (H_impl_Expr_text x2 (e0 ++ [(40 : UInt8)])) fun r10 =>
   .pl zb [(41 : UInt8)] <|
   .ap 1 zb r10 [(41 : UInt8)] fun n11 =>
   .ret (r10 ++ [(41 : UInt8)])) <|
  .az 0 0 <|
  .az 5 0 <|
  .az 1 0 <|
  .cl (H_impl_Expr_text x2 e0) fun r9 =>
  .ret r9) <|
 .az 0 0 <|
 .az 0 0 <|
 .az 0 0 <|
 .cl (H_impl_Expr_text x2 e0) fun r8 =>
 .ret r8) (zw Tryd.func113)
def zC (G_impl_Expr_text : GExpr → (List UInt8) → Option (List UInt8)) (v0 : (List GExpr)) (v1 : Int) (a0 : GExpr) : Nat → Int → (List UInt8) → Option (Int × (List UInt8))
  | 0, _, _ => none
  | m + 1, v2, e0 =>
  if v2 < v1 then
   (z6 v2).bind fun i2 =>
   (v0[i2]?).bind fun x3 =>
   if 0 < v2 then
    if zd 1 (e0.length + [44, 32].length) then
    if a0.Kind = 5 then
     (a0.K[i2]?).bind fun x7 =>
     if zd 1 ((e0 ++ [44, 32]).length + x7.length) then
     if zd 1 (((e0 ++ [44, 32]) ++ x7).length + [32, 61, 32].length) then
     (G_impl_Expr_text x3 (((e0 ++ [44, 32]) ++ x7) ++ [32, 61, 32])).bind fun r10 =>
     zC G_impl_Expr_text v0 v1 a0 m (w64 (v2 + 1)) r10
     else none
     else none
    else
    (G_impl_Expr_text x3 (e0 ++ [44, 32])).bind fun r7 =>
    zC G_impl_Expr_text v0 v1 a0 m (w64 (v2 + 1)) r7
    else none
   else
   if a0.Kind = 5 then
    (a0.K[i2]?).bind fun x6 =>
    if zd 1 (e0.length + x6.length) then
    if zd 1 ((e0 ++ x6).length + [32, 61, 32].length) then
    (G_impl_Expr_text x3 ((e0 ++ x6) ++ [32, 61, 32])).bind fun r9 =>
    zC G_impl_Expr_text v0 v1 a0 m (w64 (v2 + 1)) r9
    else none
    else none
   else
   (G_impl_Expr_text x3 e0).bind fun r6 =>
   zC G_impl_Expr_text v0 v1 a0 m (w64 (v2 + 1)) r6
  else
  some (v2, e0)
theorem YX (G_impl_Expr_text : GExpr → (List UInt8) → Option (List UInt8)) (H_impl_Expr_text : w5 G_impl_Expr_text) (v0 : (List GExpr)) (v1 : Int) (a0 : GExpr) (m : Nat) : ∀ (v2 : Int) (e0 : (List UInt8)), Ol (zC G_impl_Expr_text v0 v1 a0 m v2 e0) 112 (zY Tryd.f112 0) ⟨[(1, vr 1), (2, vp 2 0), (8, vq ze v0), (9, vi v1), (10, vi v2)], [.dead, .obj 1 (eL za e0), .var (yh a0)], 1⟩ fun o => match o with | ⟨o_0, o_1⟩ => (.exit 0, ⟨[(1, vr 1), (2, vp 2 0), (8, vq ze v0), (9, vi v1), (10, vi o_0), (11, vb false)], [.dead, .obj 1 (eL za o_1), .var (yh a0)], 1⟩) := by
  induction m with
  | zero => intro v2 e0 o h; cases h
  | succ m ih => exact fun v2 e0 => tlp (
   .lI v2 v1 (fun c1 =>
    .na v2 fun i2 =>
    .ix zA v0 i2 fun x3 =>
    .lI 0 v2 (fun c4 =>
     .os [44, 32] <|
     .ap 1 zb e0 [44, 32] fun n5 =>
     .eI a0.Kind 5 (fun c6 =>
      .ag 1 <|
      .ix0 (z7 za) a0.K i2 fun x7 =>
      .ap 1 zb (e0 ++ [44, 32]) x7 fun n8 =>
      .os [32, 61, 32] <|
      .ap 1 zb ((e0 ++ [44, 32]) ++ x7) [32, 61, 32] fun n9 =>
      .cl (H_impl_Expr_text x3 (((e0 ++ [44, 32]) ++ x7) ++ [32, 61, 32])) fun r10 =>
      .go (ih (w64 (v2 + 1)) r10)) fun c6 =>
     .cl (H_impl_Expr_text x3 (e0 ++ [44, 32])) fun r7 =>
     .go (ih (w64 (v2 + 1)) r7)) fun c4 =>
    .eI a0.Kind 5 (fun c5 =>
     .ag 1 <|
     .ix0 (z7 za) a0.K i2 fun x6 =>
     .ap 1 zb e0 x6 fun n7 =>
     .os [32, 61, 32] <|
     .ap 1 zb (e0 ++ x6) [32, 61, 32] fun n8 =>
     .cl (H_impl_Expr_text x3 ((e0 ++ x6) ++ [32, 61, 32])) fun r9 =>
     .go (ih (w64 (v2 + 1)) r9)) fun c5 =>
    .cl (H_impl_Expr_text x3 e0) fun r6 =>
    .go (ih (w64 (v2 + 1)) r6)) fun c1 =>
   .ret (v2, e0))
def wS (G_impl_Expr_text : GExpr → (List UInt8) → Option (List UInt8)) (n : Nat) (a0 : GExpr) (e0 : (List UInt8)) : Option (List UInt8) :=
 (zC G_impl_Expr_text a0.Kids (a0.Kids.length : Int) a0 n 0 e0).bind fun ⟨o1_0, o1_1⟩ =>
 some o1_1
theorem WF (G_impl_Expr_text : GExpr → (List UInt8) → Option (List UInt8)) (H_impl_Expr_text : w5 G_impl_Expr_text) (n : Nat) : wR (wS G_impl_Expr_text n) := fun a0 e0 => tc (
 .le ze a0.Kids <|
 .lp (YX G_impl_Expr_text H_impl_Expr_text a0.Kids (a0.Kids.length : Int) a0 n 0 e0) fun ⟨o1_0, o1_1⟩ =>
 .ret o1_1) (zw Tryd.func112)
def qf (G_impl_Expr_kidTexts : GExpr → (List UInt8) → Option (List UInt8)) (G_impl_Expr_kidText : GExpr → Int → (List UInt8) → Option (List UInt8)) (a0 : GExpr) (e0 : (List UInt8)) : Option (List UInt8) :=
 if a0.Kind = 0 then
  (yq (GValue.mk a0.Kind a0.N a0.S [] []) e0).bind fun r2 =>
  some r2
 else
 if a0.Kind = 1 then
  (yq (GValue.mk a0.Kind a0.N a0.S [] []) e0).bind fun r3 =>
  some r3
 else
 if a0.Kind = 2 then
  (yq (GValue.mk a0.Kind a0.N a0.S [] []) e0).bind fun r4 =>
  some r4
 else
 if a0.Kind = 3 then
  (yq (GValue.mk a0.Kind a0.N a0.S [] []) e0).bind fun r5 =>
  some r5
 else
 if a0.Kind = 4 then
  if zd 1 (e0.length + [(91 : UInt8)].length) then
  (G_impl_Expr_kidTexts a0 (e0 ++ [(91 : UInt8)])).bind fun r7 =>
  if zd 1 (r7.length + [(93 : UInt8)].length) then
  some (r7 ++ [(93 : UInt8)])
  else none
  else none
 else
 if a0.Kind = 5 then
  if zd 1 (e0.length + [(123 : UInt8)].length) then
  (G_impl_Expr_kidTexts a0 (e0 ++ [(123 : UInt8)])).bind fun r8 =>
  if zd 1 (r8.length + [(125 : UInt8)].length) then
  some (r8 ++ [(125 : UInt8)])
  else none
  else none
 else
 if a0.Kind = 6 then
  if zd 1 (e0.length + [(36 : UInt8)].length) then
  if zd 1 ((e0 ++ [(36 : UInt8)]).length + a0.S.length) then
  some ((e0 ++ [(36 : UInt8)]) ++ a0.S)
  else none
  else none
 else
 if a0.Kind = 7 then
  if zd 1 (e0.length + a0.S.length) then
  some (e0 ++ a0.S)
  else none
 else
 if a0.Kind = 10 then
  (z6 (w64 (a0.Kind - 10))).bind fun i10 =>
  ([[105, 110, 100, 101, 120], [107, 101, 121], [118, 97, 108]][i10]?).bind fun x11 =>
  if zd 1 (e0.length + x11.length) then
  some (e0 ++ x11)
  else none
 else
 if a0.Kind = 11 then
  (z6 (w64 (a0.Kind - 10))).bind fun i11 =>
  ([[105, 110, 100, 101, 120], [107, 101, 121], [118, 97, 108]][i11]?).bind fun x12 =>
  if zd 1 (e0.length + x12.length) then
  some (e0 ++ x12)
  else none
 else
 if a0.Kind = 12 then
  (z6 (w64 (a0.Kind - 10))).bind fun i12 =>
  ([[105, 110, 100, 101, 120], [107, 101, 121], [118, 97, 108]][i12]?).bind fun x13 =>
  if zd 1 (e0.length + x13.length) then
  some (e0 ++ x13)
  else none
 else
 if a0.Kind = 8 then
  (G_impl_Expr_kidText a0 0 e0).bind fun r13 =>
  if zd 1 (r13.length + [(46 : UInt8)].length) then
  if zd 1 ((r13 ++ [(46 : UInt8)]).length + a0.S.length) then
  some ((r13 ++ [(46 : UInt8)]) ++ a0.S)
  else none
  else none
 else
 if a0.Kind = 9 then
  (G_impl_Expr_kidText a0 0 e0).bind fun r14 =>
  if zd 1 (r14.length + [(91 : UInt8)].length) then
  (G_impl_Expr_kidText a0 1 (r14 ++ [(91 : UInt8)])).bind fun r16 =>
  if zd 1 (r16.length + [(93 : UInt8)].length) then
  some (r16 ++ [(93 : UInt8)])
  else none
  else none
 else
 if a0.Kind = 13 then
  if zd 1 (e0.length + [(33 : UInt8)].length) then
  (G_impl_Expr_kidText a0 0 (e0 ++ [(33 : UInt8)])).bind fun r16 =>
  some r16
  else none
 else
 if a0.Kind = 14 then
  if zd 1 (e0.length + [(45 : UInt8)].length) then
  (G_impl_Expr_kidText a0 0 (e0 ++ [(45 : UInt8)])).bind fun r17 =>
  some r17
  else none
 else
 if a0.Kind = 22 then
  (G_impl_Expr_kidText a0 0 e0).bind fun r17 =>
  if zd 1 (r17.length + [32, 63, 32].length) then
  (G_impl_Expr_kidText a0 1 (r17 ++ [32, 63, 32])).bind fun r19 =>
  if zd 1 (r19.length + [32, 58, 32].length) then
  (G_impl_Expr_kidText a0 2 (r19 ++ [32, 58, 32])).bind fun r21 =>
  some r21
  else none
  else none
 else
 if a0.Kind = 23 then
  if zd 1 (e0.length + a0.S.length) then
  if zd 1 ((e0 ++ a0.S).length + [(40 : UInt8)].length) then
  (G_impl_Expr_kidTexts a0 ((e0 ++ a0.S) ++ [(40 : UInt8)])).bind fun r20 =>
  if zd 1 (r20.length + [(41 : UInt8)].length) then
  some (r20 ++ [(41 : UInt8)])
  else none
  else none
  else none
 else
 (z6 (w64 (a0.Kind - 15))).bind fun i18 =>
 ([[42], [43], [45], [61, 61], [60], [38, 38], [124, 124]][i18]?).bind fun x19 =>
 (G_impl_Expr_kidText a0 0 e0).bind fun r20 =>
 if ([32] : List UInt8).length + x19.length <= 1000000 then
 if (([32] : List UInt8) ++ x19).length + ([32] : List UInt8).length <= 1000000 then
 if zd 1 (r20.length + ((([32] : List UInt8) ++ x19) ++ ([32] : List UInt8)).length) then
 (G_impl_Expr_kidText a0 1 (r20 ++ ((([32] : List UInt8) ++ x19) ++ ([32] : List UInt8)))).bind fun r24 =>
 some r24
 else none
 else none
 else none
theorem KQ (G_impl_Expr_kidTexts : GExpr → (List UInt8) → Option (List UInt8)) (G_impl_Expr_kidText : GExpr → Int → (List UInt8) → Option (List UInt8)) (H_impl_Expr_kidTexts : wR G_impl_Expr_kidTexts) (H_impl_Expr_kidText : qp G_impl_Expr_kidText) : w5 (qf G_impl_Expr_kidTexts G_impl_Expr_kidText) := fun a0 e0 => tc (
 .eI a0.Kind 0 (fun c1 =>
  .vw (L7 za) [] <|
  .vw WN [] <|
  .cl (qG (GValue.mk a0.Kind a0.N a0.S [] []) e0) fun r2 =>
  .cn jp r2 <|
  .ret r2) fun c1 =>
 .eI a0.Kind 1 (fun c2 =>
  .vw (L7 za) [] <|
  .vw WN [] <|
  .cl (qG (GValue.mk a0.Kind a0.N a0.S [] []) e0) fun r3 =>
  .cn jp r3 <|
  .ret r3) fun c2 =>
 .eI a0.Kind 2 (fun c3 =>
  .vw (L7 za) [] <|
  .vw WN [] <|
  .cl (qG (GValue.mk a0.Kind a0.N a0.S [] []) e0) fun r4 =>
  .cn jp r4 <|
  .ret r4) fun c3 =>
 .eI a0.Kind 3 (fun c4 =>
  .vw (L7 za) [] <|
  .vw WN [] <|
  .cl (qG (GValue.mk a0.Kind a0.N a0.S [] []) e0) fun r5 =>
  .cn jp r5 <|
  .ret r5) fun c4 =>
 .eI a0.Kind 4 (fun c5 =>
  .pl zb [(91 : UInt8)] <|
  .ap 1 zb e0 [(91 : UInt8)] fun n6 =>
  .cl (H_impl_Expr_kidTexts a0 (e0 ++ [(91 : UInt8)])) fun r7 =>
  .pl zb [(93 : UInt8)] <|
  .ap 1 zb r7 [(93 : UInt8)] fun n8 =>
  .ret (r7 ++ [(93 : UInt8)])) fun c5 =>
 .eI a0.Kind 5 (fun c6 =>
  .pl zb [(123 : UInt8)] <|
  .ap 1 zb e0 [(123 : UInt8)] fun n7 =>
  .cl (H_impl_Expr_kidTexts a0 (e0 ++ [(123 : UInt8)])) fun r8 =>
  .pl zb [(125 : UInt8)] <|
  .ap 1 zb r8 [(125 : UInt8)] fun n9 =>
  .ret (r8 ++ [(125 : UInt8)])) fun c6 =>
 .eI a0.Kind 6 (fun c7 =>
  .pl zb [(36 : UInt8)] <|
  .ap 1 zb e0 [(36 : UInt8)] fun n8 =>
  .ap 1 zb (e0 ++ [(36 : UInt8)]) a0.S fun n9 =>
  .ret ((e0 ++ [(36 : UInt8)]) ++ a0.S)) fun c7 =>
 .eI a0.Kind 7 (fun c8 =>
  .ap 1 zb e0 a0.S fun n9 =>
  .ret (e0 ++ a0.S)) fun c8 =>
 .eI a0.Kind 10 (fun c9 =>
  .na (w64 (a0.Kind - 10)) fun i10 =>
  .ix0 wr [[105, 110, 100, 101, 120], [107, 101, 121], [118, 97, 108]] i10 fun x11 =>
  .ag 0 <|
  .os x11 <|
  .ap 1 zb e0 x11 fun n12 =>
  .ret (e0 ++ x11)) fun c9 =>
 .eI a0.Kind 11 (fun c10 =>
  .na (w64 (a0.Kind - 10)) fun i11 =>
  .ix0 wr [[105, 110, 100, 101, 120], [107, 101, 121], [118, 97, 108]] i11 fun x12 =>
  .ag 0 <|
  .os x12 <|
  .ap 1 zb e0 x12 fun n13 =>
  .ret (e0 ++ x12)) fun c10 =>
 .eI a0.Kind 12 (fun c11 =>
  .na (w64 (a0.Kind - 10)) fun i12 =>
  .ix0 wr [[105, 110, 100, 101, 120], [107, 101, 121], [118, 97, 108]] i12 fun x13 =>
  .ag 0 <|
  .os x13 <|
  .ap 1 zb e0 x13 fun n14 =>
  .ret (e0 ++ x13)) fun c11 =>
 .eI a0.Kind 8 (fun c12 =>
  .cl (H_impl_Expr_kidText a0 0 e0) fun r13 =>
  .pl zb [(46 : UInt8)] <|
  .ap 1 zb r13 [(46 : UInt8)] fun n14 =>
  .ap 1 zb (r13 ++ [(46 : UInt8)]) a0.S fun n15 =>
  .ret ((r13 ++ [(46 : UInt8)]) ++ a0.S)) fun c12 =>
 .eI a0.Kind 9 (fun c13 =>
  .cl (H_impl_Expr_kidText a0 0 e0) fun r14 =>
  .pl zb [(91 : UInt8)] <|
  .ap 1 zb r14 [(91 : UInt8)] fun n15 =>
  .cl (H_impl_Expr_kidText a0 1 (r14 ++ [(91 : UInt8)])) fun r16 =>
  .pl zb [(93 : UInt8)] <|
  .ap 1 zb r16 [(93 : UInt8)] fun n17 =>
  .ret (r16 ++ [(93 : UInt8)])) fun c13 =>
 .eI a0.Kind 13 (fun c14 =>
  .pl zb [(33 : UInt8)] <|
  .ap 1 zb e0 [(33 : UInt8)] fun n15 =>
  .cl (H_impl_Expr_kidText a0 0 (e0 ++ [(33 : UInt8)])) fun r16 =>
  .ret r16) fun c14 =>
 .eI a0.Kind 14 (fun c15 =>
  .pl zb [(45 : UInt8)] <|
  .ap 1 zb e0 [(45 : UInt8)] fun n16 =>
  .cl (H_impl_Expr_kidText a0 0 (e0 ++ [(45 : UInt8)])) fun r17 =>
  .ret r17) fun c15 =>
 .eI a0.Kind 22 (fun c16 =>
  .cl (H_impl_Expr_kidText a0 0 e0) fun r17 =>
  .os [32, 63, 32] <|
  .ap 1 zb r17 [32, 63, 32] fun n18 =>
  .cl (H_impl_Expr_kidText a0 1 (r17 ++ [32, 63, 32])) fun r19 =>
  .os [32, 58, 32] <|
  .ap 1 zb r19 [32, 58, 32] fun n20 =>
  .cl (H_impl_Expr_kidText a0 2 (r19 ++ [32, 58, 32])) fun r21 =>
  .ret r21) fun c16 =>
 .eI a0.Kind 23 (fun c17 =>
  .ap 1 zb e0 a0.S fun n18 =>
  .pl zb [(40 : UInt8)] <|
  .ap 1 zb (e0 ++ a0.S) [(40 : UInt8)] fun n19 =>
  .cl (H_impl_Expr_kidTexts a0 ((e0 ++ a0.S) ++ [(40 : UInt8)])) fun r20 =>
  .pl zb [(41 : UInt8)] <|
  .ap 1 zb r20 [(41 : UInt8)] fun n21 =>
  .ret (r20 ++ [(41 : UInt8)])) fun c17 =>
 .na (w64 (a0.Kind - 15)) fun i18 =>
 .ix0 wr [[42], [43], [45], [61, 61], [60], [38, 38], [124, 124]] i18 fun x19 =>
 .ag 0 <|
 .cl (H_impl_Expr_kidText a0 0 e0) fun r20 =>
 .fs ([32] : List UInt8) x19 fun n21 =>
 .fs (([32] : List UInt8) ++ x19) ([32] : List UInt8) fun n22 =>
 .os ((([32] : List UInt8) ++ x19) ++ ([32] : List UInt8)) <|
 .ap 1 zb r20 ((([32] : List UInt8) ++ x19) ++ ([32] : List UInt8)) fun n23 =>
 .cl (H_impl_Expr_kidText a0 1 (r20 ++ ((([32] : List UInt8) ++ x19) ++ ([32] : List UInt8)))) fun r24 =>
 .ret r24) (zw Tryd.func80)
mutual
def y4 : Nat → GExpr → Int → (List UInt8) → Option (List UInt8)
 | 0, _, _, _ => none
 | n + 1, a0, a1, e0 => wt (zQ n) a0 a1 e0
def yy : Nat → GExpr → (List UInt8) → Option (List UInt8)
 | 0, _, _ => none
 | n + 1, a0, e0 => wS (zQ n) n a0 e0
def zQ : Nat → GExpr → (List UInt8) → Option (List UInt8)
 | 0, _, _ => none
 | n + 1, a0, e0 => qf (yy n) (y4 n) a0 e0
end
theorem je (n : Nat) : qp (y4 n) ∧ wR (yy n) ∧ w5 (zQ n) := by
 induction n with
 | zero => exact ⟨fun _ _ _ _ h => (by rw [y4] at h; cases h), fun _ _ _ h => (by rw [yy] at h; cases h), fun _ _ _ h => (by rw [zQ] at h; cases h)⟩
 | succ n ih =>
  obtain ⟨ih_impl_Expr_kidText, ih_impl_Expr_kidTexts, ih_impl_Expr_text⟩ := ih
  exact ⟨fun a0 a1 e0 r h => Qt (zQ n) ih_impl_Expr_text a0 a1 e0 r (by rw [y4] at h; exact h),
   fun a0 e0 r h => WF (zQ n) ih_impl_Expr_text n a0 e0 r (by rw [yy] at h; exact h),
   fun a0 e0 r h => KQ (yy n) (y4 n) ih_impl_Expr_kidTexts ih_impl_Expr_kidText a0 e0 r (by rw [zQ] at h; exact h)⟩
def Zx (a0 : GExpr) (a1 : Int) (e0 : (List UInt8)) : Option (List UInt8) := none
theorem XF (a0 : GExpr) (a1 : Int) (e0 : (List UInt8)) (r : (List UInt8)) (h : Zx a0 a1 e0 = some r) : ∃ n, y4 n a0 a1 e0 = some r := by cases h
def Zt (a0 : GExpr) (e0 : (List UInt8)) : Option (List UInt8) := none
theorem Xh (a0 : GExpr) (e0 : (List UInt8)) (r : (List UInt8)) (h : Zt a0 e0 = some r) : ∃ n, yy n a0 e0 = some r := by cases h
theorem LH {G : GExpr → List UInt8 → Option (List UInt8)} {a : GExpr} {M : Nat} (hM : M <= 2 ^ 39) (hA : xsz a <= 2 ^ 20) (hk : a.Kind = 5 → a.K.length = a.Kids.length) (hG : ∀ x ∈ a.Kids, (∀ b : List UInt8, b.length <= M → G x b = some (b ++ zq x)) ∧ (zq x).length <= 31 * xsz x + 21) :
  ∀ (l p : List GExpr) (kp k : List (List UInt8)) (acc : List UInt8) (m : Nat), a.Kids = p ++ l → (a.Kind = 5 → a.K = kp ++ k ∧ kp.length = p.length) → l.length < m → acc.length + 40 * zx l + 31 * bsz k <= M →
  ∃ z, zC G a.Kids (a.Kids.length : Int) a m (p.length : Int) acc = some (z, acc ++ yW (decide (a.Kind = 5)) (decide (p = [])) k l) := by
 have hv := xN a
 have hl := yd a.Kids
 intro l
 induction l with
 | nil =>
  intro p kp k acc m he _ hm _
  obtain ⟨m, rfl, _⟩ := zi hm
  exact ⟨_, by rw [zC, he, List.append_nil, if_neg (by omega), yW, List.append_nil]⟩
 | cons x l ih =>
  intro p kp k acc m he hkk hm hb
  obtain ⟨m, rfl, hm'⟩ := zi hm
  have hlen : a.Kids.length = p.length + (l.length + 1) := by rw [he]; simp
  have hg : a.Kids[p.length]? = some x := by rw [he]; exact zN p x l
  obtain ⟨g1, g2⟩ := hG x (by rw [he]; simp)
  simp only [zx, List.length_cons] at hb hm'
  have hp' : decide (p ++ [x] = []) = false := by simp
  by_cases c5 : a.Kind = 5
  ·obtain ⟨k1, k2⟩ := hkk c5
   have hkl := hk c5
   cases k with
   | nil => rw [k1, List.append_nil] at hkl; omega
   | cons y k =>
    rw [qM] at hb
    have hgk : a.K[p.length]? = some y := by rw [k1, <- k2]; exact zN kp y k
    have next := fun acc' ha => ih (p ++ [x]) (kp ++ [y]) k acc' m (by rw [he]; simp) (fun _ => ⟨by rw [k1]; simp, by simp [k2]⟩) (by omega) ha
    by_cases c0 : p = []
    ·subst c0
     obtain ⟨z, hz⟩ := next (acc ++ y ++ [32, 61, 32] ++ zq x) (by simp only [List.length_append, List.length_cons, List.length_nil]; omega)
     refine ⟨z, ?_⟩
     rw [zC, if_pos (by omega), zg, Option.bind_some, hg, Option.bind_some, if_neg (by simp), if_pos c5, hgk, Option.bind_some, if_pos (zc (by decide) (by omega)), if_pos (zc (by decide) (by simp only [List.length_append, List.length_cons, List.length_nil]; omega)), g1 _ (by simp only [List.length_append, List.length_cons, List.length_nil]; omega), Option.bind_some, zZ [] x (by simp), hz, hp', yW, decide_eq_true c5]
     simp
    ·have hpos : (0 : Int) < (p.length : Int) := by have := List.length_pos_iff.2 c0; omega
     obtain ⟨z, hz⟩ := next (acc ++ [44, 32] ++ y ++ [32, 61, 32] ++ zq x) (by simp only [List.length_append, List.length_cons, List.length_nil]; omega)
     refine ⟨z, ?_⟩
     rw [zC, if_pos (by omega), zg, Option.bind_some, hg, Option.bind_some, if_pos hpos, if_pos (zc (by decide) (by simp only [List.length_cons, List.length_nil]; omega)), if_pos c5, hgk, Option.bind_some, if_pos (zc (by decide) (by simp only [List.length_append, List.length_cons, List.length_nil]; omega)), if_pos (zc (by decide) (by simp only [List.length_append, List.length_cons, List.length_nil]; omega)), g1 _ (by simp only [List.length_append, List.length_cons, List.length_nil]; omega), Option.bind_some, zZ p x (by omega), hz, hp', yW, decide_eq_true c5, decide_eq_false c0]
     simp
  ·have next := fun acc' ha => ih (p ++ [x]) kp k.tail acc' m (by rw [he]; simp) (fun e => absurd e c5) (by omega) ha
   have hbt := Va k
   by_cases c0 : p = []
   ·subst c0
    obtain ⟨z, hz⟩ := next (acc ++ zq x) (by simp only [List.length_append]; omega)
    refine ⟨z, ?_⟩
    rw [zC, if_pos (by omega), zg, Option.bind_some, hg, Option.bind_some, if_neg (by simp), if_neg c5, g1 _ (by omega), Option.bind_some, zZ [] x (by simp), hz, hp', yW, decide_eq_false c5]
    simp
   ·have hpos : (0 : Int) < (p.length : Int) := by have := List.length_pos_iff.2 c0; omega
    obtain ⟨z, hz⟩ := next (acc ++ [44, 32] ++ zq x) (by simp only [List.length_append, List.length_cons, List.length_nil]; omega)
    refine ⟨z, ?_⟩
    rw [zC, if_pos (by omega), zg, Option.bind_some, hg, Option.bind_some, if_pos hpos, if_pos (zc (by decide) (by simp only [List.length_cons, List.length_nil]; omega)), if_neg c5, g1 _ (by simp only [List.length_append, List.length_cons, List.length_nil]; omega), Option.bind_some, zZ p x (by omega), hz, hp', yW, decide_eq_false c5, decide_eq_false c0]
    simp
theorem BK {k : Int} (h : 0 <= k ∧ k <= 23) : k = 0 ∨ k = 1 ∨ k = 2 ∨ k = 3 ∨ k = 4 ∨ k = 5 ∨ k = 6 ∨ k = 7 ∨ k = 8 ∨ k = 9 ∨ k = 10 ∨ k = 11 ∨ k = 12 ∨ k = 13 ∨ k = 14 ∨ k = 15 ∨ k = 16 ∨ k = 17 ∨ k = 18 ∨ k = 19 ∨ k = 20 ∨ k = 21 ∨ k = 22 ∨ k = 23 := by omega
theorem jJ {l : List GExpr} {n i : Nat} (h : l.length = n) (hi : i < n) : ∃ x, l[i]? = some x ∧ x ∈ l := ⟨l[i]'(by omega), List.getElem?_eq_getElem _, List.getElem_mem _⟩
def xh (k : Int) (i : Nat) : Nat := if k = 8 ∨ (k = 9 ∧ i = 0) then 2 else if k = 13 ∨ k = 14 ∨ (15 <= k ∧ k <= 22) then 1 else 0
theorem TH (k : Int) : yB k = some (decide (15 <= k ∧ k <= 22)) := by
 unfold yB xI
 by_cases h1 : 15 <= k
 ·rw [if_pos h1]; simp [h1]
 ·rw [if_neg h1]; simp [h1]
theorem Na {G : GExpr → List UInt8 → Option (List UInt8)} {M i : Nat} {a x : GExpr} (hM : M <= 2 ^ 39) (hx : a.Kids[i]? = some x) (hl : (zq x).length <= 2 ^ 26) (hG : ∀ b : List UInt8, b.length <= M + 1 → G x b = some (b ++ zq x)) {b : List UInt8} (hb : b.length <= M) : wt G a ((i : Nat) : Int) b = some (b ++ brk (xh a.Kind i) x.Kind (zq x)) := by
  have B : (if zd 1 (b.length + [(40 : UInt8)].length) then
   (G x (b ++ [(40 : UInt8)])).bind fun r6 =>
   if zd 1 (r6.length + [(41 : UInt8)].length) then
   some (r6 ++ [(41 : UInt8)])
   else none
   else none) = some (b ++ (40 :: (zq x ++ [41]))) := by
    rw [if_pos (zc (by decide) (by simp only [List.length_cons, List.length_nil]; omega)), hG _ (by simp only [List.length_append, List.length_cons, List.length_nil]; omega), Option.bind_some, if_pos (zc (by decide) (by simp only [List.length_append, List.length_cons, List.length_nil]; omega))]
    simp
  have Q : (G x b).bind (fun r => some r) = some (b ++ zq x) := by rw [hG b (by omega)]; rfl
  unfold wt
  rw [zg, Option.bind_some, hx, Option.bind_some, B, Q, TH, TH]
  simp only [Option.bind_some]
  by_cases c : 15 <= x.Kind ∧ x.Kind <= 22
  · have b1 : brk 1 x.Kind (zq x) = 40 :: (zq x ++ [41]) := if_pos (.inl ⟨by decide, c⟩)
    have b2 : brk 2 x.Kind (zq x) = 40 :: (zq x ++ [41]) := if_pos (.inl ⟨by decide, c⟩)
    have b0 : brk 0 x.Kind (zq x) = zq x := if_neg (by omega)
    rw [decide_eq_true c]
    unfold xh
    by_cases k8 : a.Kind = 8
    · rw [if_pos k8]
      dsimp only
      rw [if_pos (.inl k8), b2]
    rw [if_neg k8]
    by_cases k9 : a.Kind = 9
    · rw [if_pos k9]
      by_cases i0 : i = 0
      · rw [if_pos (by omega)]
        dsimp only
        rw [if_pos (.inr ⟨k9, i0⟩), b2]
      · rw [if_neg (by omega), if_neg (by omega), if_neg (by omega), b0, decide_eq_false (by omega)]
    rw [if_neg k9, if_neg (show ¬ (a.Kind = 8 ∨ a.Kind = 9 ∧ i = 0) by omega)]
    by_cases k13 : a.Kind = 13
    · rw [if_pos k13, if_pos (.inl k13), b1]
    rw [if_neg k13]
    by_cases k14 : a.Kind = 14
    · rw [if_pos k14, if_pos (.inr (.inl k14)), b1]
    rw [if_neg k14]
    by_cases kb : 15 <= a.Kind ∧ a.Kind <= 22
    · rw [decide_eq_true kb, if_pos (.inr (.inr kb)), b1]
    · rw [decide_eq_false kb, if_neg (by omega), b0]
  · have b1 : brk 1 x.Kind (zq x) = zq x := if_neg (by omega)
    have b0 : brk 0 x.Kind (zq x) = zq x := if_neg (by omega)
    have b2 : (if x.Kind = 13 then some (b ++ (40 :: (zq x ++ [41]))) else if x.Kind = 14 then some (b ++ (40 :: (zq x ++ [41]))) else some (b ++ zq x)) = some (b ++ brk 2 x.Kind (zq x)) := by
      unfold brk
      by_cases e1 : x.Kind = 13
      · rw [if_pos e1, if_pos (.inr ⟨rfl, .inl e1⟩)]
      · rw [if_neg e1]
        by_cases e2 : x.Kind = 14
        · rw [if_pos e2, if_pos (.inr ⟨rfl, .inr e2⟩)]
        · rw [if_neg e2, if_neg (by omega)]
    rw [decide_eq_false c]
    simp only [b2]
    unfold xh
    by_cases k8 : a.Kind = 8
    · rw [if_pos k8, if_pos (.inl k8)]
    rw [if_neg k8]
    by_cases k9 : a.Kind = 9
    · rw [if_pos k9]
      by_cases i0 : i = 0
      · rw [if_pos (by omega), if_pos (.inr ⟨k9, i0⟩)]
      · rw [if_neg (by omega), if_neg (by omega), if_neg (by omega), b0, decide_eq_false (by omega)]
    rw [if_neg k9, if_neg (show ¬ (a.Kind = 8 ∨ a.Kind = 9 ∧ i = 0) by omega)]
    by_cases k13 : a.Kind = 13
    · rw [if_pos k13, if_pos (.inl k13), b1]
    rw [if_neg k13]
    by_cases k14 : a.Kind = 14
    · rw [if_pos k14, if_pos (.inr (.inl k14)), b1]
    rw [if_neg k14]
    by_cases kb : 15 <= a.Kind ∧ a.Kind <= 22
    · rw [decide_eq_true kb, if_pos (.inr (.inr kb)), b1]
    · rw [decide_eq_false kb, if_neg (by omega), b0]
theorem G4 {v : GExpr} {w : GValue} (k : w.Kind = v.Kind) (n : w.N = v.N) (s : w.S = v.S) (kk : w.K = []) (l : w.L = []) (hv : qN v = true) (h : v.Kind = 0 ∨ v.Kind = 1 ∨ v.Kind = 2 ∨ v.Kind = 3) : shV 5 w = true ∧ jy w = zq v := by
 obtain ⟨l1, l2, l3, l4, l5, l6, l7, l8, l9, l10, l11⟩ := ZI hv
 constructor
 ·rw [shV, Bool.and_eq_true]
  refine ⟨?_, by rw [l]; rfl⟩
  unfold PI
  rw [k, n, s, kk, l]
  rcases h with e | e | e | e
  ·rw [if_pos (.inl e)]
   exact decide_eq_true ⟨l10 (by omega) (by omega), l11 (by omega) (by omega) (by omega) (by omega) (by omega), rfl, rfl⟩
  ·rw [if_neg (show ¬ (v.Kind = 0 ∨ v.Kind = 6) by omega), if_pos e]
   exact decide_eq_true ⟨l2 e, l11 (by omega) (by omega) (by omega) (by omega) (by omega), rfl, rfl⟩
  ·rw [if_neg (show ¬ (v.Kind = 0 ∨ v.Kind = 6) by omega), if_neg (show ¬ v.Kind = 1 by omega), if_pos e]
   have := l3 e
   exact decide_eq_true ⟨⟨by omega, this.2⟩, l11 (by omega) (by omega) (by omega) (by omega) (by omega), rfl, rfl⟩
  ·rw [if_neg (show ¬ (v.Kind = 0 ∨ v.Kind = 6) by omega), if_neg (show ¬ v.Kind = 1 by omega), if_neg (show ¬ v.Kind = 2 by omega), if_pos e, Bool.and_eq_true]
   exact ⟨l9 e, decide_eq_true ⟨l10 (by omega) (by omega), rfl, rfl⟩⟩
 ·rw [Tg, xO, k, n, s]
  rcases h with e | e | e | e
  ·rw [if_pos e, if_pos e]
  ·rw [if_neg (show ¬ v.Kind = 0 by omega), if_neg (show ¬ v.Kind = 0 by omega), if_pos e, if_pos e]
  ·rw [if_neg (show ¬ v.Kind = 0 by omega), if_neg (show ¬ v.Kind = 0 by omega), if_neg (show ¬ v.Kind = 1 by omega), if_neg (show ¬ v.Kind = 1 by omega), if_pos e, if_pos e]
  ·rw [if_neg (show ¬ v.Kind = 0 by omega), if_neg (show ¬ v.Kind = 0 by omega), if_neg (show ¬ v.Kind = 1 by omega), if_neg (show ¬ v.Kind = 1 by omega), if_neg (show ¬ v.Kind = 2 by omega), if_neg (show ¬ v.Kind = 2 by omega), if_pos e, if_pos e]
theorem HZ {v : GExpr} (hv : qN v = true) (h : v.Kind = 0 ∨ v.Kind = 1 ∨ v.Kind = 2 ∨ v.Kind = 3) : shV 5 (GValue.mk v.Kind v.N v.S [] []) = true ∧ jy (GValue.mk v.Kind v.N v.S [] []) = zq v := G4 rfl rfl rfl rfl rfl hv h
theorem Ea {Gl : GExpr → List UInt8 → Option (List UInt8)} {Gk : GExpr → Int → List UInt8 → Option (List UInt8)} {M : Nat} {v : GExpr} {b : List UInt8} (hM : M <= 2 ^ 38) (hs : xsz v <= 2 ^ 20) (hv : qN v = true) (hlen : ∀ x ∈ v.Kids, (zq x).length <= 31 * xsz x + 21)
  (hl : ∀ b : List UInt8, b.length <= M → Gl v b = some (b ++ yW (decide (v.Kind = 5)) true v.K v.Kids)) (hll : (yW (decide (v.Kind = 5)) true v.K v.Kids).length <= 2 ^ 25)
  (hk : ∀ (i : Nat) x, v.Kids[i]? = some x → ∀ b : List UInt8, b.length <= M → Gk v ((i : Nat) : Int) b = some (b ++ brk (xh v.Kind i) x.Kind (zq x))) (hb : b.length + 2 ^ 27 <= M) : qf Gl Gk v b = some (b ++ zq v) := by
 obtain ⟨l1, l2, l3, l4, l5, l6, l7, l8, l9, l10, l11⟩ := ZI hv
 have hxv := xN v
 have kx : ∀ (m i : Nat) x, v.Kids[i]? = some x → yU m i v.Kids = brk m x.Kind (zq x) ∧ (brk m x.Kind (zq x)).length <= 2 ^ 25 + 2 := fun m i x hx => by
  have h1 := List.mem_of_getElem? hx
  have h2 := hlen x h1
  have h3 := yz h1
  have h4 := Th m x.Kind (zq x)
  exact ⟨Vb m _ i x hx, by omega⟩
 have lit : (v.Kind = 0 ∨ v.Kind = 1 ∨ v.Kind = 2 ∨ v.Kind = 3) → (yq (GValue.mk v.Kind v.N v.S [] []) b).bind (fun r => some r) = some (b ++ zq v) := fun h => by
  obtain ⟨q1, q2⟩ := HZ hv h
  rw [show yq (GValue.mk v.Kind v.N v.S [] []) b = some (b ++ jy (GValue.mk v.Kind v.N v.S [] [])) from if_pos ⟨q1, by show v.S.length + bsz [] + wT [] <= _; simp only [show bsz [] = 0 from rfl, wT]; omega, by omega⟩, q2]; rfl
 have k0 : ∀ x, v.Kids[0]? = some x → ∀ b : List UInt8, b.length <= M → Gk v 0 b = some (b ++ brk (xh v.Kind 0) x.Kind (zq x)) := fun x hx b hb => hk 0 x hx b hb
 have k1 : ∀ x, v.Kids[1]? = some x → ∀ b : List UInt8, b.length <= M → Gk v 1 b = some (b ++ brk (xh v.Kind 1) x.Kind (zq x)) := fun x hx b hb => hk 1 x hx b hb
 have k2 : ∀ x, v.Kids[2]? = some x → ∀ b : List UInt8, b.length <= M → Gk v 2 b = some (b ++ brk (xh v.Kind 2) x.Kind (zq x)) := fun x hx b hb => hk 2 x hx b hb
 have hsg := Jp v.Kind
 unfold qf
 by_cases e0 : v.Kind = 0
 ·rw [if_pos e0]
  exact lit (by omega)
 rw [if_neg e0]
 by_cases e1 : v.Kind = 1
 ·rw [if_pos e1]
  exact lit (by omega)
 rw [if_neg e1]
 by_cases e2 : v.Kind = 2
 ·rw [if_pos e2]
  exact lit (by omega)
 rw [if_neg e2]
 by_cases e3 : v.Kind = 3
 ·rw [if_pos e3]
  exact lit (by omega)
 rw [if_neg e3]
 by_cases e4 : v.Kind = 4
 ·rw [if_pos e4]
  rw [xO, if_neg (show ¬ v.Kind = 0 by omega), if_neg (show ¬ v.Kind = 1 by omega), if_neg (show ¬ v.Kind = 2 by omega), if_neg (show ¬ v.Kind = 3 by omega), if_pos e4]
  rw [decide_eq_false (show ¬ v.Kind = 5 by omega)] at hl hll
  rw [if_pos (zc (by decide) (by simp only [List.length_append, List.length_cons, List.length_nil]; omega)), hl _ (by simp only [List.length_append, List.length_cons, List.length_nil]; omega), Option.bind_some, if_pos (zc (by decide) (by simp only [List.length_append, List.length_cons, List.length_nil]; omega))]
  simp
 rw [if_neg e4]
 by_cases e5 : v.Kind = 5
 ·rw [if_pos e5]
  rw [xO, if_neg (show ¬ v.Kind = 0 by omega), if_neg (show ¬ v.Kind = 1 by omega), if_neg (show ¬ v.Kind = 2 by omega), if_neg (show ¬ v.Kind = 3 by omega), if_neg (show ¬ v.Kind = 4 by omega), if_pos e5]
  rw [decide_eq_true e5] at hl hll
  rw [if_pos (zc (by decide) (by simp only [List.length_append, List.length_cons, List.length_nil]; omega)), hl _ (by simp only [List.length_append, List.length_cons, List.length_nil]; omega), Option.bind_some, if_pos (zc (by decide) (by simp only [List.length_append, List.length_cons, List.length_nil]; omega))]
  simp
 rw [if_neg e5]
 by_cases e6 : v.Kind = 6
 ·rw [if_pos e6]
  rw [xO, if_neg (show ¬ v.Kind = 0 by omega), if_neg (show ¬ v.Kind = 1 by omega), if_neg (show ¬ v.Kind = 2 by omega), if_neg (show ¬ v.Kind = 3 by omega), if_neg (show ¬ v.Kind = 4 by omega), if_neg (show ¬ v.Kind = 5 by omega), if_pos e6]
  rw [if_pos (zc (by decide) (by simp only [List.length_append, List.length_cons, List.length_nil]; omega)), if_pos (zc (by decide) (by simp only [List.length_append, List.length_cons, List.length_nil]; omega))]
  simp
 rw [if_neg e6]
 by_cases e7 : v.Kind = 7
 ·rw [if_pos e7]
  rw [xO, if_neg (show ¬ v.Kind = 0 by omega), if_neg (show ¬ v.Kind = 1 by omega), if_neg (show ¬ v.Kind = 2 by omega), if_neg (show ¬ v.Kind = 3 by omega), if_neg (show ¬ v.Kind = 4 by omega), if_neg (show ¬ v.Kind = 5 by omega), if_neg (show ¬ v.Kind = 6 by omega), if_pos e7]
  rw [if_pos (zc (by decide) (by omega))]
 rw [if_neg e7]
 by_cases e10 : v.Kind = 10
 ·rw [if_pos e10]
  rw [xO, if_neg (show ¬ v.Kind = 0 by omega), if_neg (show ¬ v.Kind = 1 by omega), if_neg (show ¬ v.Kind = 2 by omega), if_neg (show ¬ v.Kind = 3 by omega), if_neg (show ¬ v.Kind = 4 by omega), if_neg (show ¬ v.Kind = 5 by omega), if_neg (show ¬ v.Kind = 6 by omega), if_neg (show ¬ v.Kind = 7 by omega), if_neg (show ¬ v.Kind = 8 by omega), if_neg (show ¬ v.Kind = 9 by omega), if_pos e10]
  rw [e10, show z6 (w64 (10 - 10)) = some 0 by decide, Option.bind_some, show ([[105, 110, 100, 101, 120], [107, 101, 121], [118, 97, 108]] : List (List UInt8))[0]? = some [105, 110, 100, 101, 120] from rfl, Option.bind_some, if_pos (zc (by decide) (by simp only [List.length_append, List.length_cons, List.length_nil]; omega))]
 rw [if_neg e10]
 by_cases e11 : v.Kind = 11
 ·rw [if_pos e11]
  rw [xO, if_neg (show ¬ v.Kind = 0 by omega), if_neg (show ¬ v.Kind = 1 by omega), if_neg (show ¬ v.Kind = 2 by omega), if_neg (show ¬ v.Kind = 3 by omega), if_neg (show ¬ v.Kind = 4 by omega), if_neg (show ¬ v.Kind = 5 by omega), if_neg (show ¬ v.Kind = 6 by omega), if_neg (show ¬ v.Kind = 7 by omega), if_neg (show ¬ v.Kind = 8 by omega), if_neg (show ¬ v.Kind = 9 by omega), if_neg (show ¬ v.Kind = 10 by omega), if_pos e11]
  rw [e11, show z6 (w64 (11 - 10)) = some 1 by decide, Option.bind_some, show ([[105, 110, 100, 101, 120], [107, 101, 121], [118, 97, 108]] : List (List UInt8))[1]? = some [107, 101, 121] from rfl, Option.bind_some, if_pos (zc (by decide) (by simp only [List.length_append, List.length_cons, List.length_nil]; omega))]
 rw [if_neg e11]
 by_cases e12 : v.Kind = 12
 ·rw [if_pos e12]
  rw [xO, if_neg (show ¬ v.Kind = 0 by omega), if_neg (show ¬ v.Kind = 1 by omega), if_neg (show ¬ v.Kind = 2 by omega), if_neg (show ¬ v.Kind = 3 by omega), if_neg (show ¬ v.Kind = 4 by omega), if_neg (show ¬ v.Kind = 5 by omega), if_neg (show ¬ v.Kind = 6 by omega), if_neg (show ¬ v.Kind = 7 by omega), if_neg (show ¬ v.Kind = 8 by omega), if_neg (show ¬ v.Kind = 9 by omega), if_neg (show ¬ v.Kind = 10 by omega), if_neg (show ¬ v.Kind = 11 by omega), if_pos e12]
  rw [e12, show z6 (w64 (12 - 10)) = some 2 by decide, Option.bind_some, show ([[105, 110, 100, 101, 120], [107, 101, 121], [118, 97, 108]] : List (List UInt8))[2]? = some [118, 97, 108] from rfl, Option.bind_some, if_pos (zc (by decide) (by simp only [List.length_append, List.length_cons, List.length_nil]; omega))]
 rw [if_neg e12]
 by_cases e8 : v.Kind = 8
 ·rw [if_pos e8]
  rw [xO, if_neg (show ¬ v.Kind = 0 by omega), if_neg (show ¬ v.Kind = 1 by omega), if_neg (show ¬ v.Kind = 2 by omega), if_neg (show ¬ v.Kind = 3 by omega), if_neg (show ¬ v.Kind = 4 by omega), if_neg (show ¬ v.Kind = 5 by omega), if_neg (show ¬ v.Kind = 6 by omega), if_neg (show ¬ v.Kind = 7 by omega), if_pos e8]
  obtain ⟨x0, g0, m0⟩ := jJ (i := 0) (l6 (.inl e8)) (by decide)
  have md0 : xh v.Kind 0 = 2 := by unfold xh; rw [e8]; rfl
  obtain ⟨p0, q0⟩ := kx 2 0 x0 g0
  have h0 := k0 x0 g0
  rw [md0] at h0
  rw [h0 _ (by omega), Option.bind_some, if_pos (zc (by decide) (by simp only [List.length_append, List.length_cons, List.length_nil]; omega)), if_pos (zc (by decide) (by simp only [List.length_append, List.length_cons, List.length_nil]; omega)), p0]
  simp
 rw [if_neg e8]
 by_cases e9 : v.Kind = 9
 ·rw [if_pos e9]
  rw [xO, if_neg (show ¬ v.Kind = 0 by omega), if_neg (show ¬ v.Kind = 1 by omega), if_neg (show ¬ v.Kind = 2 by omega), if_neg (show ¬ v.Kind = 3 by omega), if_neg (show ¬ v.Kind = 4 by omega), if_neg (show ¬ v.Kind = 5 by omega), if_neg (show ¬ v.Kind = 6 by omega), if_neg (show ¬ v.Kind = 7 by omega), if_neg (show ¬ v.Kind = 8 by omega), if_pos e9]
  obtain ⟨x0, g0, m0⟩ := jJ (i := 0) (l7 (.inl e9)) (by decide)
  obtain ⟨x1, g1, m1⟩ := jJ (i := 1) (l7 (.inl e9)) (by decide)
  have md0 : xh v.Kind 0 = 2 := by unfold xh; rw [e9]; rfl
  have md1 : xh v.Kind 1 = 0 := by unfold xh; rw [e9]; rfl
  obtain ⟨p0, q0⟩ := kx 2 0 x0 g0
  obtain ⟨p1, q1⟩ := kx 0 1 x1 g1
  have h0 := k0 x0 g0
  rw [md0] at h0
  have h1 := k1 x1 g1
  rw [md1] at h1
  rw [h0 _ (by omega), Option.bind_some, if_pos (zc (by decide) (by simp only [List.length_append, List.length_cons, List.length_nil]; omega)), h1 _ (by simp only [List.length_append, List.length_cons, List.length_nil]; omega), Option.bind_some, if_pos (zc (by decide) (by simp only [List.length_append, List.length_cons, List.length_nil]; omega)), p0, p1]
  simp
 rw [if_neg e9]
 by_cases e13 : v.Kind = 13
 ·rw [if_pos e13]
  rw [xO, if_neg (show ¬ v.Kind = 0 by omega), if_neg (show ¬ v.Kind = 1 by omega), if_neg (show ¬ v.Kind = 2 by omega), if_neg (show ¬ v.Kind = 3 by omega), if_neg (show ¬ v.Kind = 4 by omega), if_neg (show ¬ v.Kind = 5 by omega), if_neg (show ¬ v.Kind = 6 by omega), if_neg (show ¬ v.Kind = 7 by omega), if_neg (show ¬ v.Kind = 8 by omega), if_neg (show ¬ v.Kind = 9 by omega), if_neg (show ¬ v.Kind = 10 by omega), if_neg (show ¬ v.Kind = 11 by omega), if_neg (show ¬ v.Kind = 12 by omega), if_pos e13]
  obtain ⟨x0, g0, m0⟩ := jJ (i := 0) (l6 (.inr (.inl e13))) (by decide)
  have md0 : xh v.Kind 0 = 1 := by unfold xh; rw [e13]; rfl
  obtain ⟨p0, q0⟩ := kx 1 0 x0 g0
  have h0 := k0 x0 g0
  rw [md0] at h0
  rw [if_pos (zc (by decide) (by simp only [List.length_append, List.length_cons, List.length_nil]; omega)), h0 _ (by simp only [List.length_append, List.length_cons, List.length_nil]; omega), p0]
  simp
 rw [if_neg e13]
 by_cases e14 : v.Kind = 14
 ·rw [if_pos e14]
  rw [xO, if_neg (show ¬ v.Kind = 0 by omega), if_neg (show ¬ v.Kind = 1 by omega), if_neg (show ¬ v.Kind = 2 by omega), if_neg (show ¬ v.Kind = 3 by omega), if_neg (show ¬ v.Kind = 4 by omega), if_neg (show ¬ v.Kind = 5 by omega), if_neg (show ¬ v.Kind = 6 by omega), if_neg (show ¬ v.Kind = 7 by omega), if_neg (show ¬ v.Kind = 8 by omega), if_neg (show ¬ v.Kind = 9 by omega), if_neg (show ¬ v.Kind = 10 by omega), if_neg (show ¬ v.Kind = 11 by omega), if_neg (show ¬ v.Kind = 12 by omega), if_neg (show ¬ v.Kind = 13 by omega), if_pos e14]
  obtain ⟨x0, g0, m0⟩ := jJ (i := 0) (l6 (.inr (.inr e14))) (by decide)
  have md0 : xh v.Kind 0 = 1 := by unfold xh; rw [e14]; rfl
  obtain ⟨p0, q0⟩ := kx 1 0 x0 g0
  have h0 := k0 x0 g0
  rw [md0] at h0
  rw [if_pos (zc (by decide) (by simp only [List.length_append, List.length_cons, List.length_nil]; omega)), h0 _ (by simp only [List.length_append, List.length_cons, List.length_nil]; omega), p0]
  simp
 rw [if_neg e14]
 by_cases e22 : v.Kind = 22
 ·rw [if_pos e22]
  rw [xO, if_neg (show ¬ v.Kind = 0 by omega), if_neg (show ¬ v.Kind = 1 by omega), if_neg (show ¬ v.Kind = 2 by omega), if_neg (show ¬ v.Kind = 3 by omega), if_neg (show ¬ v.Kind = 4 by omega), if_neg (show ¬ v.Kind = 5 by omega), if_neg (show ¬ v.Kind = 6 by omega), if_neg (show ¬ v.Kind = 7 by omega), if_neg (show ¬ v.Kind = 8 by omega), if_neg (show ¬ v.Kind = 9 by omega), if_neg (show ¬ v.Kind = 10 by omega), if_neg (show ¬ v.Kind = 11 by omega), if_neg (show ¬ v.Kind = 12 by omega), if_neg (show ¬ v.Kind = 13 by omega), if_neg (show ¬ v.Kind = 14 by omega), if_pos e22]
  obtain ⟨x0, g0, m0⟩ := jJ (i := 0) (l8 e22) (by decide)
  obtain ⟨x1, g1, m1⟩ := jJ (i := 1) (l8 e22) (by decide)
  obtain ⟨x2, g2, m2⟩ := jJ (i := 2) (l8 e22) (by decide)
  have md0 : xh v.Kind 0 = 1 := by unfold xh; rw [e22]; rfl
  have md1 : xh v.Kind 1 = 1 := by unfold xh; rw [e22]; rfl
  have md2 : xh v.Kind 2 = 1 := by unfold xh; rw [e22]; rfl
  obtain ⟨p0, q0⟩ := kx 1 0 x0 g0
  obtain ⟨p1, q1⟩ := kx 1 1 x1 g1
  obtain ⟨p2, q2⟩ := kx 1 2 x2 g2
  have h0 := k0 x0 g0
  rw [md0] at h0
  have h1 := k1 x1 g1
  rw [md1] at h1
  have h2 := k2 x2 g2
  rw [md2] at h2
  rw [h0 _ (by omega), Option.bind_some, if_pos (zc (by decide) (by simp only [List.length_append, List.length_cons, List.length_nil]; omega)), h1 _ (by simp only [List.length_append, List.length_cons, List.length_nil]; omega), Option.bind_some, if_pos (zc (by decide) (by simp only [List.length_append, List.length_cons, List.length_nil]; omega)), h2 _ (by simp only [List.length_append, List.length_cons, List.length_nil]; omega), Option.bind_some, p0, p1, p2]
  simp
 rw [if_neg e22]
 by_cases e23 : v.Kind = 23
 ·rw [if_pos e23]
  rw [xO, if_neg (show ¬ v.Kind = 0 by omega), if_neg (show ¬ v.Kind = 1 by omega), if_neg (show ¬ v.Kind = 2 by omega), if_neg (show ¬ v.Kind = 3 by omega), if_neg (show ¬ v.Kind = 4 by omega), if_neg (show ¬ v.Kind = 5 by omega), if_neg (show ¬ v.Kind = 6 by omega), if_neg (show ¬ v.Kind = 7 by omega), if_neg (show ¬ v.Kind = 8 by omega), if_neg (show ¬ v.Kind = 9 by omega), if_neg (show ¬ v.Kind = 10 by omega), if_neg (show ¬ v.Kind = 11 by omega), if_neg (show ¬ v.Kind = 12 by omega), if_neg (show ¬ v.Kind = 13 by omega), if_neg (show ¬ v.Kind = 14 by omega), if_neg (show ¬ v.Kind = 22 by omega), if_pos e23]
  rw [decide_eq_false (show ¬ v.Kind = 5 by omega)] at hl hll
  rw [if_pos (zc (by decide) (by omega)), if_pos (zc (by decide) (by simp only [List.length_append, List.length_cons, List.length_nil]; omega)), hl _ (by simp only [List.length_append, List.length_cons, List.length_nil]; omega), Option.bind_some, if_pos (zc (by decide) (by simp only [List.length_append, List.length_cons, List.length_nil]; omega))]
  simp
 rw [if_neg e23]
 rw [xO, if_neg e0, if_neg e1, if_neg e2, if_neg e3, if_neg e4, if_neg e5, if_neg e6, if_neg e7, if_neg e8, if_neg e9, if_neg e10, if_neg e11, if_neg e12, if_neg e13, if_neg e14, if_neg e22, if_neg e23]
 have hb15 : 15 <= v.Kind ∧ v.Kind <= 21 := by omega
 obtain ⟨x0, g0, m0⟩ := jJ (i := 0) (l7 (.inr hb15)) (by decide)
 obtain ⟨x1, g1, m1⟩ := jJ (i := 1) (l7 (.inr hb15)) (by decide)
 have md0 : xh v.Kind 0 = 1 := by unfold xh; rw [if_neg (by omega), if_pos (by omega)]
 have md1 : xh v.Kind 1 = 1 := by unfold xh; rw [if_neg (by omega), if_pos (by omega)]
 obtain ⟨p0, q0⟩ := kx 1 0 x0 g0
 obtain ⟨p1, q1⟩ := kx 1 1 x1 g1
 have h0 := k0 x0 g0
 rw [md0] at h0
 have h1 := k1 x1 g1
 rw [md1] at h1
 have sg : ∃ s : List UInt8, (z6 (w64 (v.Kind - 15))).bind (fun i => ([[42], [43], [45], [61, 61], [60], [38, 38], [124, 124]] : List (List UInt8))[i]?) = some s ∧ WS v.Kind = 32 :: (s ++ [32]) ∧ s.length <= 2 := by
  have hk7 : v.Kind = 15 ∨ v.Kind = 16 ∨ v.Kind = 17 ∨ v.Kind = 18 ∨ v.Kind = 19 ∨ v.Kind = 20 ∨ v.Kind = 21 := by omega
  rcases hk7 with e | e | e | e | e | e | e <;> rw [e]
  ·exact ⟨[42], by rw [show z6 (w64 (15 - 15)) = some 0 by decide]; rfl, rfl, by decide⟩
  ·exact ⟨[43], by rw [show z6 (w64 (16 - 15)) = some 1 by decide]; rfl, rfl, by decide⟩
  ·exact ⟨[45], by rw [show z6 (w64 (17 - 15)) = some 2 by decide]; rfl, rfl, by decide⟩
  ·exact ⟨[61, 61], by rw [show z6 (w64 (18 - 15)) = some 3 by decide]; rfl, rfl, by decide⟩
  ·exact ⟨[60], by rw [show z6 (w64 (19 - 15)) = some 4 by decide]; rfl, rfl, by decide⟩
  ·exact ⟨[38, 38], by rw [show z6 (w64 (20 - 15)) = some 5 by decide]; rfl, rfl, by decide⟩
  ·exact ⟨[124, 124], by rw [show z6 (w64 (21 - 15)) = some 6 by decide]; rfl, rfl, by decide⟩
 obtain ⟨s, s1, s2, s3⟩ := sg
 obtain ⟨i, i1, i2⟩ := Option.bind_eq_some_iff.1 s1
 rw [i1, Option.bind_some, i2, Option.bind_some, h0 _ (by omega), Option.bind_some, if_pos (by simp only [List.length_cons, List.length_nil]; omega), if_pos (by simp only [List.length_append, List.length_cons, List.length_nil]; omega), if_pos (zc (by decide) (by simp only [List.length_append, List.length_cons, List.length_nil]; omega)), h1 _ (by simp only [List.length_append, List.length_cons, List.length_nil]; omega), p0, p1, s2]
 simp
theorem OE : ∀ (d : Nat) (v : GExpr) (b : List UInt8) (f : Nat), frX d v = true → xsz v <= 2 ^ 20 → b.length + d * 2 ^ 28 <= 2 ^ 38 → 4 * xsz v + 8 <= f → zQ f v b = some (b ++ zq v)
 | 0, v, b, f, h, _, _, _ => by simp [frX] at h
 | d + 1, v, b, f, h, hs, hb, hf => by
  rw [frX, Bool.and_eq_true, List.all_eq_true] at h
  obtain ⟨h1, h2⟩ := h
  obtain ⟨l1, l2, l3, l4, l5, _⟩ := ZI h1
  obtain ⟨f, rfl, hf'⟩ : ∃ n, f = n + 2 ∧ 4 * xsz v + 6 <= n := ⟨f - 2, by omega, by omega⟩
  have hv := xN v
  have hkl := yd v.Kids
  have hx : ∀ x ∈ v.Kids, 1 + xsz x <= zx v.Kids := fun x hx => yz hx
  have hlen : ∀ x ∈ v.Kids, (zq x).length <= 31 * xsz x + 21 := fun x hx => xb d x (h2 x hx)
  have say : ∀ x ∈ v.Kids, ∀ b : List UInt8, b.length <= 2 ^ 38 - d * 2 ^ 28 → zQ f x b = some (b ++ zq x) := fun x hx' b hb' => by
   have := hx x hx'
   exact OE d x b f (h2 x hx') (by omega) (by omega) (by omega)
  have hd : d * 2 ^ 28 + 2 ^ 28 <= 2 ^ 38 := by omega
  rw [show zQ (f + 2) v b = qf (yy (f + 1)) (y4 (f + 1)) v b from rfl]
  refine Ea (M := 2 ^ 38 - d * 2 ^ 28 - 1 - 2 ^ 26) (by omega) hs h1 hlen (fun b hb' => ?_) ?_ (fun i x hx' b hb' => ?_) (by omega)
  ·rw [show yy (f + 1) v b = wS (zQ f) f v b from rfl]
   unfold wS
   obtain ⟨z, hz⟩ := LH (G := zQ f) (M := 2 ^ 38 - d * 2 ^ 28) (by omega) hs l4 (fun x hx' => ⟨fun b hb => say x hx' b hb, hlen x hx'⟩) v.Kids [] [] v.K b f rfl (fun _ => ⟨rfl, rfl⟩) (by omega) (by omega)
   simp only [List.length_nil, Int.natCast_zero] at hz
   rw [hz]; simp
  ·by_cases c5 : v.Kind = 5
   ·rw [decide_eq_true c5]
    have := kB (p := fun x => frX d x = true) (fun x hx => xb d x hx) true v.Kids true v.K (fun x hx => h2 x hx) (fun _ => by rw [l4 c5]; exact Nat.le_refl _)
    rw [if_pos rfl] at this; omega
   ·rw [decide_eq_false c5]
    have := kB (p := fun x => frX d x = true) (fun x hx => xb d x hx) false v.Kids true v.K (fun x hx => h2 x hx) (fun e => by cases e)
    rw [if_neg (by decide)] at this; omega
  ·have hm := List.mem_of_getElem? hx'
   have := hx x hm
   have := hlen x hm
   rw [show y4 (f + 1) v ((i : Nat) : Int) b = wt (zQ f) v ((i : Nat) : Int) b from rfl]
   exact Na (M := 2 ^ 38 - d * 2 ^ 28 - 1) (by omega) hx' (by omega) (fun b hb => say x hm b (by omega)) (by omega)
noncomputable def xa (a0 : GExpr) (e0 : (List UInt8)) : Option (List UInt8) := if frX 10 a0 = true ∧ xsz a0 <= 2 ^ 20 ∧ e0.length <= 2 ^ 37 then some (e0 ++ zq a0) else none
theorem WG {v : GExpr} {b : List UInt8} (h : frX 10 v = true) (hs : xsz v <= 2 ^ 20) (hb : b.length <= 2 ^ 37) : xa v b = some (b ++ zq v) := if_pos ⟨h, hs, hb⟩
theorem Qu (a0 : GExpr) (e0 : (List UInt8)) (r : (List UInt8)) (h : xa a0 e0 = some r) : ∃ n, zQ n a0 e0 = some r := by
 unfold xa at h
 obtain ⟨⟨h0, h1, h2⟩, h⟩ := yg h
 exact ⟨4 * xsz a0 + 8, by rw [<- h]; exact OE 10 a0 e0 _ h0 h1 (by omega) (Nat.le_refl _)⟩
theorem LI : qp Zx := by
 intro a0 a1 e0 r h
 obtain ⟨n, hn⟩ := XF a0 a1 e0 r h
 exact (je n).1 a0 a1 e0 r hn
theorem OF : wR Zt := by
 intro a0 e0 r h
 obtain ⟨n, hn⟩ := Xh a0 e0 r h
 exact (je n).2.1 a0 e0 r hn
theorem qT : w5 xa := by
 intro a0 e0 r h
 obtain ⟨n, hn⟩ := Qu a0 e0 r h
 exact (je n).2.2 a0 e0 r hn
def YY (F : GItem → (List UInt8) → Option (List UInt8)) : Prop := ∀ (a0 : GItem) (e0 : (List UInt8)), Oc (F a0 e0) 39 [.obj 1 (eL za e0)] [.val true (yn a0), vr 0] fun r => (.val false [.own 1 (eL za r)], [.dead])
def yp (v0 : (List GExpr)) (v1 : Int) (a0 : GItem) : Nat → Int → (List UInt8) → Option (Int × (List UInt8))
  | 0, _, _ => none
  | m + 1, v2, v3 =>
  if v2 < v1 then
   (z6 v2).bind fun i2 =>
   (v0[i2]?).bind fun x3 =>
   if zd 1 (v3.length + [(32 : UInt8)].length) then
   (a0.Names[i2]?).bind fun x5 =>
   if zd 1 ((v3 ++ [(32 : UInt8)]).length + x5.length) then
   if zd 1 (((v3 ++ [(32 : UInt8)]) ++ x5).length + [32, 61, 32].length) then
   (xa x3 (((v3 ++ [(32 : UInt8)]) ++ x5) ++ [32, 61, 32])).bind fun r8 =>
   yp v0 v1 a0 m (w64 (v2 + 1)) r8
   else none
   else none
   else none
  else
  some (v2, v3)
theorem jw (v0 : (List GExpr)) (v1 : Int) (a0 : GItem) (m : Nat) : ∀ (v2 : Int) (v3 : (List UInt8)), Ol (yp v0 v1 a0 m v2 v3) 39 (zY Tryd.f39 0) ⟨[(1, vr 1), (2, vp 2 0), (48, vq ze v0), (49, vi v1), (50, vi v2)], [.dead, .obj 1 (eL za v3), .var (yn a0)], 1⟩ fun o => match o with | ⟨o_0, o_1⟩ => (.exit 1, ⟨[(1, vr 1), (2, vp 2 0), (48, vq ze v0), (49, vi v1), (50, vi o_0), (51, vb false)], [.dead, .obj 1 (eL za o_1), .var (yn a0)], 1⟩) := by
  induction m with
  | zero => intro v2 v3 o h; cases h
  | succ m ih => exact fun v2 v3 => tlp (
   .lI v2 v1 (fun c1 =>
    .na v2 fun i2 =>
    .ix zA v0 i2 fun x3 =>
    .pl zb [(32 : UInt8)] <|
    .ap 1 zb v3 [(32 : UInt8)] fun n4 =>
    .ag 1 <|
    .ix0 (z7 za) a0.Names i2 fun x5 =>
    .ap 1 zb (v3 ++ [(32 : UInt8)]) x5 fun n6 =>
    .os [32, 61, 32] <|
    .ap 1 zb ((v3 ++ [(32 : UInt8)]) ++ x5) [32, 61, 32] fun n7 =>
    .cl (qT x3 (((v3 ++ [(32 : UInt8)]) ++ x5) ++ [32, 61, 32])) fun r8 =>
    .go (ih (w64 (v2 + 1)) r8)) fun c1 =>
   .ret (v2, v3))
def jx (n : Nat) (a0 : GItem) (e0 : (List UInt8)) : Option (List UInt8) :=
 (vP).bind fun r1 =>
 (z6 a0.Kind).bind fun i2 =>
 (r1[i2]?).bind fun x3 =>
 if zd 1 (e0.length + x3.length) then
 if zd 1 ((e0 ++ x3).length + [(32 : UInt8)].length) then
 if zd 1 (((e0 ++ x3) ++ [(32 : UInt8)]).length + a0.Name.length) then
 if a0.Kind = 1 then
  if a0.Many = 1 then
   if zd 1 ((((e0 ++ x3) ++ [(32 : UInt8)]) ++ a0.Name).length + [32, 99, 111, 117, 110, 116, 32].length) then
   (xa a0.By ((((e0 ++ x3) ++ [(32 : UInt8)]) ++ a0.Name) ++ [32, 99, 111, 117, 110, 116, 32])).bind fun r10 =>
   if zd 1 (r10.length + [32, 123].length) then
   (yp a0.Exprs (a0.Exprs.length : Int) a0 n 0 (r10 ++ [32, 123])).bind fun ⟨o12_0, o12_1⟩ =>
   if zd 1 (o12_1.length + [32, 125].length) then
   some (o12_1 ++ [32, 125])
   else none
   else none
   else none
  else
  if a0.Many = 2 then
   if zd 1 ((((e0 ++ x3) ++ [(32 : UInt8)]) ++ a0.Name).length + [32, 101, 97, 99, 104, 32].length) then
   (xa a0.By ((((e0 ++ x3) ++ [(32 : UInt8)]) ++ a0.Name) ++ [32, 101, 97, 99, 104, 32])).bind fun r11 =>
   if zd 1 (r11.length + [32, 123].length) then
   (yp a0.Exprs (a0.Exprs.length : Int) a0 n 0 (r11 ++ [32, 123])).bind fun ⟨o13_0, o13_1⟩ =>
   if zd 1 (o13_1.length + [32, 125].length) then
   some (o13_1 ++ [32, 125])
   else none
   else none
   else none
  else
  if zd 1 ((((e0 ++ x3) ++ [(32 : UInt8)]) ++ a0.Name).length + [32, 123].length) then
  (yp a0.Exprs (a0.Exprs.length : Int) a0 n 0 ((((e0 ++ x3) ++ [(32 : UInt8)]) ++ a0.Name) ++ [32, 123])).bind fun ⟨o11_0, o11_1⟩ =>
  if zd 1 (o11_1.length + [32, 125].length) then
  some (o11_1 ++ [32, 125])
  else none
  else none
 else
 (a0.Exprs[0]?).bind fun x8 =>
 if zd 1 ((((e0 ++ x3) ++ [(32 : UInt8)]) ++ a0.Name).length + [32, 61, 32].length) then
 (xa x8 ((((e0 ++ x3) ++ [(32 : UInt8)]) ++ a0.Name) ++ [32, 61, 32])).bind fun r10 =>
 some r10
 else none
 else none
 else none
 else none
theorem KR (n : Nat) : YY (jx n) := fun a0 e0 => tc (
 .cl (JW) fun r1 =>
 .na a0.Kind fun i2 =>
 .ix0 wr r1 i2 fun x3 =>
 .ag 0 <|
 .os x3 <|
 .ap 1 zb e0 x3 fun n4 =>
 .pl zb [(32 : UInt8)] <|
 .ap 1 zb (e0 ++ x3) [(32 : UInt8)] fun n5 =>
 .ap 1 zb ((e0 ++ x3) ++ [(32 : UInt8)]) a0.Name fun n6 =>
 .eI a0.Kind 1 (fun c7 =>
  .eI a0.Many 1 (fun c8 =>
   .os [32, 99, 111, 117, 110, 116, 32] <|
   .ap 1 zb (((e0 ++ x3) ++ [(32 : UInt8)]) ++ a0.Name) [32, 99, 111, 117, 110, 116, 32] fun n9 =>
   .cl (qT a0.By ((((e0 ++ x3) ++ [(32 : UInt8)]) ++ a0.Name) ++ [32, 99, 111, 117, 110, 116, 32])) fun r10 =>
   .os [32, 123] <|
   .ap 1 zb r10 [32, 123] fun n11 =>
   .le ze a0.Exprs <|
   .lp (jw a0.Exprs (a0.Exprs.length : Int) a0 n 0 (r10 ++ [32, 123])) fun ⟨o12_0, o12_1⟩ =>
   .os [32, 125] <|
   .ap 1 zb o12_1 [32, 125] fun n13 =>
   .ret (o12_1 ++ [32, 125])) fun c8 =>
  .eI a0.Many 2 (fun c9 =>
   .os [32, 101, 97, 99, 104, 32] <|
   .ap 1 zb (((e0 ++ x3) ++ [(32 : UInt8)]) ++ a0.Name) [32, 101, 97, 99, 104, 32] fun n10 =>
   .cl (qT a0.By ((((e0 ++ x3) ++ [(32 : UInt8)]) ++ a0.Name) ++ [32, 101, 97, 99, 104, 32])) fun r11 =>
   .os [32, 123] <|
   .ap 1 zb r11 [32, 123] fun n12 =>
   .le ze a0.Exprs <|
   .lp (jw a0.Exprs (a0.Exprs.length : Int) a0 n 0 (r11 ++ [32, 123])) fun ⟨o13_0, o13_1⟩ =>
   .os [32, 125] <|
   .ap 1 zb o13_1 [32, 125] fun n14 =>
   .ret (o13_1 ++ [32, 125])) fun c9 =>
  .os [32, 123] <|
  .ap 1 zb (((e0 ++ x3) ++ [(32 : UInt8)]) ++ a0.Name) [32, 123] fun n10 =>
  .le ze a0.Exprs <|
  .lp (jw a0.Exprs (a0.Exprs.length : Int) a0 n 0 ((((e0 ++ x3) ++ [(32 : UInt8)]) ++ a0.Name) ++ [32, 123])) fun ⟨o11_0, o11_1⟩ =>
  .os [32, 125] <|
  .ap 1 zb o11_1 [32, 125] fun n12 =>
  .ret (o11_1 ++ [32, 125])) fun c7 =>
 .nl 0 <|
 .ix zA a0.Exprs 0 fun x8 =>
 .os [32, 61, 32] <|
 .ap 1 zb (((e0 ++ x3) ++ [(32 : UInt8)]) ++ a0.Name) [32, 61, 32] fun n9 =>
 .cl (qT x8 ((((e0 ++ x3) ++ [(32 : UInt8)]) ++ a0.Name) ++ [32, 61, 32])) fun r10 =>
 .ret r10) (zw Tryd.func39)
theorem Oo {x : GItem} (hs : itz x <= 2 ^ 20) (hex : x.Exprs.all (frX 10) = true) : ∀ (es pe : List GExpr) (ns pn : List (List UInt8)) (acc : List UInt8) (m : Nat), x.Exprs = pe ++ es → x.Names = pn ++ ns → pe.length = pn.length → es.length = ns.length → es.length < m → acc.length + 31 * zx es + 31 * bsz ns <= 2 ^ 36 →
  ∃ z, yp x.Exprs (x.Exprs.length : Int) x m (pe.length : Int) acc = some (z, acc ++ jX ns es) := by
 unfold itz at hs
 have hl := yd x.Exprs
 intro es
 induction es with
 | nil =>
  intro pe ns pn acc m he hn hp hq hm hb
  obtain ⟨m, rfl, _⟩ := zi hm
  cases ns with
  | nil => exact ⟨_, by rw [yp, he, List.append_nil, if_neg (by omega), jX, List.append_nil]; simp⟩
  | cons n ns => simp at hq
 | cons e es ih =>
  intro pe ns pn acc m he hn hp hq hm hb
  obtain ⟨m, rfl, hm'⟩ := zi hm
  cases ns with
  | nil => simp at hq
  | cons n ns =>
   simp only [List.length_cons] at hq hm'
   rw [qM] at hb
   simp only [zx] at hb
   have hlen : x.Exprs.length = pe.length + (es.length + 1) := by rw [he]; simp
   have hge : x.Exprs[pe.length]? = some e := by rw [he]; exact zN pe e es
   have hgn : x.Names[pe.length]? = some n := by rw [hn, hp]; exact zN pn n ns
   have hfe : frX 10 e = true := List.all_eq_true.1 hex e (by rw [he]; simp)
   have hxe := yz (l := x.Exprs) (v := e) (by rw [he]; simp)
   have hse := xb 10 e hfe
   obtain ⟨z, hz⟩ := ih (pe ++ [e]) ns (pn ++ [n]) (acc ++ [32] ++ n ++ [32, 61, 32] ++ zq e) m (by rw [he]; simp) (by rw [hn]; simp) (by simp [hp]) (by omega) (by omega) (by simp only [List.length_append, List.length_cons, List.length_nil]; omega)
   refine ⟨z, ?_⟩
   rw [yp, if_pos (by omega), zg, Option.bind_some, hge, Option.bind_some, if_pos (zc (by decide) (by simp only [List.length_cons, List.length_nil]; omega)), hgn, Option.bind_some, if_pos (zc (by decide) (by simp only [List.length_append, List.length_cons, List.length_nil]; omega)), if_pos (zc (by decide) (by simp only [List.length_append, List.length_cons, List.length_nil]; omega)), WG hfe (by omega) (by simp only [List.length_append, List.length_cons, List.length_nil]; omega), Option.bind_some, zZ pe e (by omega), hz, jX]
   simp
theorem G5 {x : GItem} {n : Nat} {acc : List UInt8} (hx : ItTx x) (hs : itz x <= 2 ^ 20) (hn : itz x < n) (hb : acc.length <= 2 ^ 35) : jx n x acc = some (acc ++ itT x) := by
 have hlen := Wh hx
 have hs' := hs
 unfold itz at hs' hn
 have hel := yd x.Exprs
 have hat := XA x.Names x.Exprs hx.ex
 have hnm := jg x.Names
 have wd : ∃ i, z6 x.Kind = some i ∧ ([[108, 111, 99, 97, 108], [114, 101, 115], [111, 117, 116]] : List (List UInt8))[i]? = some (jz x.Kind) := by
  have hk := hx.k
  have hk3 : x.Kind = 0 ∨ x.Kind = 1 ∨ x.Kind = 2 := by omega
  rcases hk3 with e | e | e <;> rw [e]
  ·exact ⟨0, rfl, rfl⟩
  ·exact ⟨1, rfl, rfl⟩
  ·exact ⟨2, rfl, rfl⟩
 obtain ⟨i, i1, i2⟩ := wd
 have hw := Jr x.Kind
 unfold jx
 rw [show vP = some [[108, 111, 99, 97, 108], [114, 101, 115], [111, 117, 116]] from rfl, Option.bind_some, i1, Option.bind_some, i2, Option.bind_some, if_pos (zc (by decide) (by omega)), if_pos (zc (by decide) (by simp only [List.length_append, List.length_cons, List.length_nil]; omega)), if_pos (zc (by decide) (by simp only [List.length_append, List.length_cons, List.length_nil]; omega))]
 have attr : ∀ (b : List UInt8), b.length <= 2 ^ 35 + 2 ^ 34 → x.Kind = 1 → ∃ z, yp x.Exprs (x.Exprs.length : Int) x n 0 b = some (z, b ++ jX x.Names x.Exprs) := fun b hb' k1 => by
  obtain ⟨z, hz⟩ := Oo hs hx.ex x.Exprs [] x.Names [] b n rfl rfl rfl (by rw [hx.nm k1]) (by omega) (by omega)
  simp only [List.length_nil, Int.natCast_zero] at hz
  exact ⟨z, hz⟩
 by_cases k1 : x.Kind = 1
 ·have hT : itT x = jz x.Kind ++ (32 :: (x.Name ++ ((if x.Many = 1 then [32, 99, 111, 117, 110, 116, 32] ++ zq x.By else if x.Many = 2 then [32, 101, 97, 99, 104, 32] ++ zq x.By else []) ++ ([32, 123] ++ (jX x.Names x.Exprs ++ [32, 125]))))) := by unfold itT; rw [if_pos k1]
  rw [if_pos k1, hT]
  by_cases m1 : x.Many = 1
  ·have fb := hx.bf k1 (by omega)
   have lb := xb 10 x.By fb
   obtain ⟨z, hz⟩ := attr (acc ++ jz x.Kind ++ [32] ++ x.Name ++ [32, 99, 111, 117, 110, 116, 32] ++ zq x.By ++ [32, 123]) (by simp only [List.length_append, List.length_cons, List.length_nil]; omega) k1
   rw [if_pos m1, if_pos m1, if_pos (zc (by decide) (by simp only [List.length_append, List.length_cons, List.length_nil]; omega)), WG fb (by omega) (by simp only [List.length_append, List.length_cons, List.length_nil]; omega), Option.bind_some, if_pos (zc (by decide) (by simp only [List.length_append, List.length_cons, List.length_nil]; omega)), hz, Option.bind_some]
   dsimp only
   rw [if_pos (zc (by decide) (by simp only [List.length_append, List.length_cons, List.length_nil]; omega))]
   simp
  ·rw [if_neg m1, if_neg m1]
   by_cases m2 : x.Many = 2
   ·have fb := hx.bf k1 (by omega)
    have lb := xb 10 x.By fb
    obtain ⟨z, hz⟩ := attr (acc ++ jz x.Kind ++ [32] ++ x.Name ++ [32, 101, 97, 99, 104, 32] ++ zq x.By ++ [32, 123]) (by simp only [List.length_append, List.length_cons, List.length_nil]; omega) k1
    rw [if_pos m2, if_pos m2, if_pos (zc (by decide) (by simp only [List.length_append, List.length_cons, List.length_nil]; omega)), WG fb (by omega) (by simp only [List.length_append, List.length_cons, List.length_nil]; omega), Option.bind_some, if_pos (zc (by decide) (by simp only [List.length_append, List.length_cons, List.length_nil]; omega)), hz, Option.bind_some]
    dsimp only
    rw [if_pos (zc (by decide) (by simp only [List.length_append, List.length_cons, List.length_nil]; omega))]
    simp
   ·obtain ⟨z, hz⟩ := attr (acc ++ jz x.Kind ++ [32] ++ x.Name ++ [32, 123]) (by simp only [List.length_append, List.length_cons, List.length_nil]; omega) k1
    rw [if_neg m2, if_neg m2, if_pos (zc (by decide) (by simp only [List.length_append, List.length_cons, List.length_nil]; omega)), hz, Option.bind_some]
    dsimp only
    rw [if_pos (zc (by decide) (by simp only [List.length_append, List.length_cons, List.length_nil]; omega))]
    simp
 ·have hT : itT x = jz x.Kind ++ (32 :: (x.Name ++ ([32, 61, 32] ++ Vc x.Exprs))) := by unfold itT; rw [if_neg k1]
  have h1 := hx.one k1
  rw [if_neg k1, hT]
  cases hE : x.Exprs with
  | nil => rw [hE] at h1; simp at h1
  | cons e es =>
   have hfe : frX 10 e = true := List.all_eq_true.1 hx.ex e (by rw [hE]; simp)
   have hxe := yz (l := x.Exprs) (v := e) (by rw [hE]; simp)
   rw [show (e :: es)[0]? = some e from rfl, Option.bind_some, if_pos (zc (by decide) (by simp only [List.length_append, List.length_cons, List.length_nil]; omega)), WG hfe (by omega) (by simp only [List.length_append, List.length_cons, List.length_nil]; omega)]
   simp [Vc]
open Classical in
noncomputable def qg (a0 : GItem) (e0 : (List UInt8)) : Option (List UInt8) := if itz a0 <= 2 ^ 20 ∧ e0.length <= 2 ^ 35 ∧ ItTx a0 then some (e0 ++ itT a0) else none
theorem Nb {x : GItem} {b : List UInt8} (hs : itz x <= 2 ^ 20) (hb : b.length <= 2 ^ 35) (hx : ItTx x) : qg x b = some (b ++ itT x) := if_pos ⟨hs, hb, hx⟩
theorem Qv (a0 : GItem) (e0 : (List UInt8)) (r : (List UInt8)) (h : qg a0 e0 = some r) : ∃ n, jx n a0 e0 = some r := by
 unfold qg at h
 obtain ⟨⟨h0, h1, h2⟩, h⟩ := yg h
 exact ⟨itz a0 + 1, by rw [<- h]; exact G5 h2 h0 (Nat.lt_succ_self _) h1⟩
theorem JY : YY qg := fun a0 e0 r h => (Qv a0 e0 r h).elim fun n hn => KR n a0 e0 r hn
def Yu (F : (List GItem) → Option (List UInt8)) : Prop := ∀ (a0 : (List GItem)), Oc (F a0) 17 [] [vq zo a0] fun r => (.val false [.own 1 (eL za r)], [])
def xi (a0 : (List GItem)) (v1 : Int) : Nat → Int → (List UInt8) → Option (Int × (List UInt8))
  | 0, _, _ => none
  | m + 1, v2, v3 =>
  if v2 < v1 then
   (z6 v2).bind fun i2 =>
   (a0[i2]?).bind fun x3 =>
   (qg x3 v3).bind fun r4 =>
   if zd 1 (r4.length + [(10 : UInt8)].length) then
   xi a0 v1 m (w64 (v2 + 1)) (r4 ++ [(10 : UInt8)])
   else none
  else
  some (v2, v3)
theorem XX (a0 : (List GItem)) (v1 : Int) (m : Nat) : ∀ (v2 : Int) (v3 : (List UInt8)), Ol (xi a0 v1 m v2 v3) 17 (zY Tryd.f17 0) ⟨[(3, vr 0), (10, vq zo a0), (11, vi v1), (12, vi v2)], [.obj 1 (eL za v3)], 0⟩ fun o => match o with | ⟨o_0, o_1⟩ => (.exit 0, ⟨[(3, vr 0), (10, vq zo a0), (11, vi v1), (12, vi o_0), (13, vb false)], [.obj 1 (eL za o_1)], 0⟩) := by
  induction m with
  | zero => intro v2 v3 o h; cases h
  | succ m ih => exact fun v2 v3 => tlp (
   .lI v2 v1 (fun c1 =>
    .na v2 fun i2 =>
    .ix xB a0 i2 fun x3 =>
    .cl (JY x3 v3) fun r4 =>
    .pl zb [(10 : UInt8)] <|
    .ap 1 zb r4 [(10 : UInt8)] fun n5 =>
    .go (ih (w64 (v2 + 1)) (r4 ++ [(10 : UInt8)]))) fun c1 =>
   .ret (v2, v3))
def qU (n : Nat) (a0 : (List GItem)) : Option (List UInt8) :=
 (qF a0).bind fun r1 =>
 match r1 with
 | true =>
  (xi a0 (a0.length : Int) n 0 []).bind fun ⟨o2_0, o2_1⟩ =>
  some o2_1
 | false =>
  some []
theorem JZ (n : Nat) : Yu (qU n) := fun a0 => tc (
 .cl (KP a0) fun r1 =>
 .vN 0 r1 (
  .le zo a0 <|
  .lp (XX a0 (a0.length : Int) n 0 []) fun ⟨o2_0, o2_1⟩ =>
  .ret o2_1) <|
 .ret []) (zw Tryd.func17)
def wO (a0 : (List GItem)) : Option (List UInt8) := qU (a0.length + 5) a0
theorem WH (a0 : (List GItem)) (r : (List UInt8)) (h : wO a0 = some r) : ∃ n, qU n a0 = some r := ⟨_, h⟩
theorem Je : Yu wO := fun a0 r h => (WH a0 r h).elim fun n hn => JZ n a0 r hn
end
end Go.Am.Try
