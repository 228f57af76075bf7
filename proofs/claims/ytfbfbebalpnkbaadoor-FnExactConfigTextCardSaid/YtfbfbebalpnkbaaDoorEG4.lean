/- The functions of the program in plain Lean, and that the machine answers as they do; conditions at each theorem. -/
import Derived.Test.YtfbfbebalpnkbaaDoorEG3
set_option linter.unusedVariables false
set_option linter.unusedSimpArgs false
namespace Go.Am.Try
open Go.Am Go.Proofs
set_option linter.unusedVariables false
set_option maxRecDepth 20000
set_option maxHeartbeats 2000000
noncomputable section
def XY (F : (List UInt8) → (List UInt8) → Option Bool) : Prop := ∀ (a0 : (List UInt8)) (a1 : (List UInt8)), Oc (F a0 a1) 9 [] [vq za a0, vq za a1] fun r => (vb r, [])
def wb (a0 : (List UInt8)) (a1 : (List UInt8)) : Nat → Int → Option (Bool ⊕ Int)
  | 0, _ => none
  | m + 1, v2 =>
  if v2 < (a0.length : Int) then
   (z6 v2).bind fun i2 =>
   (a0[i2]?).bind fun x3 =>
   (a1[i2]?).bind fun x4 =>
   if ((x3.toNat : Nat) : Int) = ((x4.toNat : Nat) : Int) then
    wb a0 a1 m (w64 (v2 + 1))
   else
   some (.inl false)
  else
  some (.inr v2)
theorem Jf (a0 : (List UInt8)) (a1 : (List UInt8)) (m : Nat) : ∀ (v2 : Int), Ol (wb a0 a1 m v2) 9 (zY Tryd.f9 0) ⟨[(0, vq za a0), (1, vq za a1), (5, vi v2)], [], 0⟩ fun o => match o with | .inl o_0 => (.ret, ⟨[(4, vb o_0)], [], 0⟩) | .inr (o_1) => (.exit 0, ⟨[(0, vq za a0), (1, vq za a1), (5, vi o_1), (14, vb false)], [], 0⟩) := by
  induction m with
  | zero => intro v2 o h; cases h
  | succ m ih => exact fun v2 => tlp (
   .le za a0 <|
   .lI v2 (a0.length : Int) (fun c1 =>
    .na v2 fun i2 =>
    .ix0 za a0 i2 fun x3 =>
    .ag 1 <|
    .ix0 za a1 i2 fun x4 =>
    .eI ((x3.toNat : Nat) : Int) ((x4.toNat : Nat) : Int) (fun c5 =>
     .go (ih (w64 (v2 + 1)))) fun c5 =>
    .ret (.inl false)) fun c1 =>
   .ret (.inr v2))
def ZA (n : Nat) (a0 : (List UInt8)) (a1 : (List UInt8)) : Option Bool :=
 if (a0.length : Int) = (a1.length : Int) then
  (wb a0 a1 n 0).bind fun o2 =>
  match o2 with
  | .inl o2_0 =>
   some o2_0
  | .inr (o2_1) =>
   some true
 else
 some false
theorem RU (n : Nat) : XY (ZA n) := fun a0 a1 => tc (
 .le za a0 <|
 .le za a1 <|
 .eI (a0.length : Int) (a1.length : Int) (fun c1 =>
  .l2 (Jf a0 a1 n 0) (fun o2_0 =>
   .ret o2_0) fun o2_1 =>
  .ret true) fun c1 =>
 .ret false) (zw Tryd.func9)
theorem P3 {a : List UInt8} (ha : a.length <= 2 ^ 40) : ∀ (d i m : Nat), i + d = a.length → d < m → ∃ z, wb a a m (i : Int) = some (.inr z) := by
 intro d
 induction d with
 | zero =>
  intro i m hi hm
  obtain ⟨m, rfl, _⟩ := zi hm
  exact ⟨_, by rw [wb, if_neg (by omega)]⟩
 | succ d ih =>
  intro i m hi hm
  obtain ⟨m, rfl, hm'⟩ := zi hm
  have hil : i < a.length := by omega
  rw [wb, if_pos (by omega), zg, Option.bind_some, zu hil, Option.bind_some, Option.bind_some, if_pos rfl, yi (by omega)]
  exact ih (i + 1) m (by omega) (by omega)
def yC (a0 : (List UInt8)) (a1 : (List UInt8)) : Option Bool := if a0 = a1 ∧ a0.length <= 2 ^ 40 then some true else none
theorem Ka (a0 : (List UInt8)) (a1 : (List UInt8)) (r : Bool) (h : yC a0 a1 = some r) : ∃ n, ZA n a0 a1 = some r := by
 unfold yC at h
 obtain ⟨⟨he, ha⟩, h2⟩ := yg h
 clear h
 subst he
 refine ⟨a0.length + 1, ?_⟩
 obtain ⟨z, hz⟩ := P3 ha a0.length 0 (a0.length + 1) (by omega) (by omega)
 rw [show ((0 : Nat) : Int) = 0 from rfl] at hz
 unfold ZA
 rw [if_pos rfl, hz]; exact h2
theorem jV : XY yC := fun a0 a1 r h => (Ka a0 a1 r h).elim fun n hn => RU n a0 a1 r hn
def X7 (F : (List (List UInt8)) → (List (List UInt8)) → Option Bool) : Prop := ∀ (a0 : (List (List UInt8))) (a1 : (List (List UInt8))), Oc (F a0 a1) 65 [] [vq (z7 za) a0, vq (z7 za) a1] fun r => (vb r, [])
def xL (a0 : (List (List UInt8))) (a1 : (List (List UInt8))) : Nat → Int → Option (Bool ⊕ Int)
  | 0, _ => none
  | m + 1, v2 =>
  if v2 < (a0.length : Int) then
   (z6 v2).bind fun i2 =>
   (a0[i2]?).bind fun x3 =>
   (a1[i2]?).bind fun x4 =>
   (yC x3 x4).bind fun r5 =>
   match r5 with
   | true =>
    xL a0 a1 m (w64 (v2 + 1))
   | false =>
    some (.inl false)
  else
  some (.inr v2)
theorem Qw (a0 : (List (List UInt8))) (a1 : (List (List UInt8))) (m : Nat) : ∀ (v2 : Int), Ol (xL a0 a1 m v2) 65 (zY Tryd.f65 0) ⟨[(0, vq (z7 za) a0), (1, vq (z7 za) a1), (5, vi v2)], [], 0⟩ fun o => match o with | .inl o_0 => (.ret, ⟨[(4, vb o_0)], [], 0⟩) | .inr (o_1) => (.exit 0, ⟨[(0, vq (z7 za) a0), (1, vq (z7 za) a1), (5, vi o_1), (14, vb false)], [], 0⟩) := by
  induction m with
  | zero => intro v2 o h; cases h
  | succ m ih => exact fun v2 => tlp (
   .le (z7 za) a0 <|
   .lI v2 (a0.length : Int) (fun c1 =>
    .na v2 fun i2 =>
    .ix0 (z7 za) a0 i2 fun x3 =>
    .ag 1 <|
    .ix0 (z7 za) a1 i2 fun x4 =>
    .cl (jV x3 x4) fun r5 =>
    .vN 0 r5 (
     .go (ih (w64 (v2 + 1)))) <|
    .ret (.inl false)) fun c1 =>
   .ret (.inr v2))
def Zu (n : Nat) (a0 : (List (List UInt8))) (a1 : (List (List UInt8))) : Option Bool :=
 if (a0.length : Int) = (a1.length : Int) then
  (xL a0 a1 n 0).bind fun o2 =>
  match o2 with
  | .inl o2_0 =>
   some o2_0
  | .inr (o2_1) =>
   some true
 else
 some false
theorem VP (n : Nat) : X7 (Zu n) := fun a0 a1 => tc (
 .le (z7 za) a0 <|
 .le (z7 za) a1 <|
 .eI (a0.length : Int) (a1.length : Int) (fun c1 =>
  .l2 (Qw a0 a1 n 0) (fun o2_0 =>
   .ret o2_0) fun o2_1 =>
  .ret true) fun c1 =>
 .ret false) (zw Tryd.func65)
theorem Uo {a : List (List UInt8)} (ha : bsz a <= 2 ^ 40) : ∀ (d i m : Nat), i + d = a.length → d < m → ∃ z, xL a a m (i : Int) = some (.inr z) := by
 have hl := jg a
 intro d
 induction d with
 | zero =>
  intro i m hi hm
  obtain ⟨m, rfl, _⟩ := zi hm
  exact ⟨_, by rw [xL, if_neg (by omega)]⟩
 | succ d ih =>
  intro i m hi hm
  obtain ⟨m, rfl, hm'⟩ := zi hm
  have hil : i < a.length := by omega
  have hx := YC (List.getElem_mem hil)
  rw [xL, if_pos (by omega), zg, Option.bind_some, zu hil, Option.bind_some, Option.bind_some]
  unfold yC
  rw [if_pos ⟨rfl, by omega⟩, Option.bind_some, yi (by omega)]
  exact ih (i + 1) m (by omega) (by omega)
def xT (a0 : (List (List UInt8))) (a1 : (List (List UInt8))) : Option Bool := if a0 = a1 ∧ bsz a0 <= 2 ^ 40 then some true else none
theorem Jg (a0 : (List (List UInt8))) (a1 : (List (List UInt8))) (r : Bool) (h : xT a0 a1 = some r) : ∃ n, Zu n a0 a1 = some r := by
 unfold xT at h
 obtain ⟨⟨he, ha⟩, h2⟩ := yg h
 clear h
 subst he
 have hl := jg a0
 refine ⟨a0.length + 1, ?_⟩
 obtain ⟨z, hz⟩ := Uo ha a0.length 0 (a0.length + 1) (by omega) (by omega)
 rw [show ((0 : Nat) : Int) = 0 from rfl] at hz
 unfold Zu
 rw [if_pos rfl, hz]; exact h2
theorem YZ : X7 xT := fun a0 a1 r h => (Jg a0 a1 r h).elim fun n hn => VP n a0 a1 r hn
def kW (F : (List GExpr) → (List GExpr) → Option Bool) : Prop := ∀ (a0 : (List GExpr)) (a1 : (List GExpr)), Oc (F a0 a1) 82 [] [vq ze a0, vq ze a1] fun r => (vb r, [])
def jE (F : GExpr → GExpr → Option Bool) : Prop := ∀ (a0 : GExpr) (a1 : GExpr), Oc (F a0 a1) 81 [] [.val true (yh a0), .val true (yh a1)] fun r => (vb r, [])
def wc (G_laws_eqExpr : GExpr → GExpr → Option Bool) (a0 : (List GExpr)) (a1 : (List GExpr)) : Nat → Int → Option (Bool ⊕ Int)
  | 0, _ => none
  | m + 1, v2 =>
  if v2 < (a0.length : Int) then
   (z6 v2).bind fun i2 =>
   (a0[i2]?).bind fun x3 =>
   (a1[i2]?).bind fun x4 =>
   (G_laws_eqExpr x3 x4).bind fun r5 =>
   match r5 with
   | true =>
    wc G_laws_eqExpr a0 a1 m (w64 (v2 + 1))
   | false =>
    some (.inl false)
  else
  some (.inr v2)
theorem Jh (G_laws_eqExpr : GExpr → GExpr → Option Bool) (H_laws_eqExpr : jE G_laws_eqExpr) (a0 : (List GExpr)) (a1 : (List GExpr)) (m : Nat) : ∀ (v2 : Int), Ol (wc G_laws_eqExpr a0 a1 m v2) 82 (zY Tryd.f82 0) ⟨[(0, vq ze a0), (1, vq ze a1), (5, vi v2)], [], 0⟩ fun o => match o with | .inl o_0 => (.ret, ⟨[(4, vb o_0)], [], 0⟩) | .inr (o_1) => (.exit 0, ⟨[(0, vq ze a0), (1, vq ze a1), (5, vi o_1), (14, vb false)], [], 0⟩) := by
  induction m with
  | zero => intro v2 o h; cases h
  | succ m ih => exact fun v2 => tlp (
   .le ze a0 <|
   .lI v2 (a0.length : Int) (fun c1 =>
    .na v2 fun i2 =>
    .ix zA a0 i2 fun x3 =>
    .ag 1 <|
    .ix zA a1 i2 fun x4 =>
    .cl (H_laws_eqExpr x3 x4) fun r5 =>
    .vN 0 r5 (
     .go (ih (w64 (v2 + 1)))) <|
    .ret (.inl false)) fun c1 =>
   .ret (.inr v2))
def kX (G_laws_eqExpr : GExpr → GExpr → Option Bool) (n : Nat) (a0 : (List GExpr)) (a1 : (List GExpr)) : Option Bool :=
 if (a0.length : Int) = (a1.length : Int) then
  (wc G_laws_eqExpr a0 a1 n 0).bind fun o2 =>
  match o2 with
  | .inl o2_0 =>
   some o2_0
  | .inr (o2_1) =>
   some true
 else
 some false
theorem RV (G_laws_eqExpr : GExpr → GExpr → Option Bool) (H_laws_eqExpr : jE G_laws_eqExpr) (n : Nat) : kW (kX G_laws_eqExpr n) := fun a0 a1 => tc (
 .le ze a0 <|
 .le ze a1 <|
 .eI (a0.length : Int) (a1.length : Int) (fun c1 =>
  .l2 (Jh G_laws_eqExpr H_laws_eqExpr a0 a1 n 0) (fun o2_0 =>
   .ret o2_0) fun o2_1 =>
  .ret true) fun c1 =>
 .ret false) (zw Tryd.func82)
def Yn (G_laws_eqExprS : (List GExpr) → (List GExpr) → Option Bool) (a0 : GExpr) (a1 : GExpr) : Option Bool :=
 if a0.Kind = a1.Kind then
  if a0.N = a1.N then
   (yC a0.S a1.S).bind fun r3 =>
   match r3 with
   | true =>
    (xT a0.K a1.K).bind fun r4 =>
    match r4 with
    | true =>
     (G_laws_eqExprS a0.Kids a1.Kids).bind fun r5 =>
     match r5 with
     | true =>
      some true
     | false =>
      some false
    | false =>
     some false
   | false =>
    some false
  else
  some false
 else
 some false
theorem Up (G_laws_eqExprS : (List GExpr) → (List GExpr) → Option Bool) (H_laws_eqExprS : kW G_laws_eqExprS) : jE (Yn G_laws_eqExprS) := fun a0 a1 => tc (
 .eI a0.Kind a1.Kind (fun c1 =>
  .eI a0.N a1.N (fun c2 =>
   .cl (jV a0.S a1.S) fun r3 =>
   .vN 0 r3 (
    .cl (YZ a0.K a1.K) fun r4 =>
    .vN 0 r4 (
     .cl (H_laws_eqExprS a0.Kids a1.Kids) fun r5 =>
     .vN 0 r5 (
      .ret true) <|
     .ret false) <|
    .ret false) <|
   .ret false) fun c2 =>
  .ret false) fun c1 =>
 .ret false) (zw Tryd.func81)
mutual
def xM : Nat → (List GExpr) → (List GExpr) → Option Bool
 | 0, _, _ => none
 | n + 1, a0, a1 => kX (wn n) n a0 a1
def wn : Nat → GExpr → GExpr → Option Bool
 | 0, _, _ => none
 | n + 1, a0, a1 => Yn (xM n) a0 a1
end
theorem Xa (n : Nat) : kW (xM n) ∧ jE (wn n) := by
 induction n with
 | zero => exact ⟨fun _ _ _ h => (by rw [xM] at h; cases h), fun _ _ _ h => (by rw [wn] at h; cases h)⟩
 | succ n ih =>
  obtain ⟨ih_laws_eqExprS, ih_laws_eqExpr⟩ := ih
  exact ⟨fun a0 a1 r h => RV (wn n) ih_laws_eqExpr n a0 a1 r (by rw [xM] at h; exact h),
   fun a0 a1 r h => Up (xM n) ih_laws_eqExprS a0 a1 r (by rw [wn] at h; exact h)⟩
theorem TJ {G : GExpr → GExpr → Option Bool} {a : List GExpr} {f : Nat} (ha : a.length <= 2 ^ 40) (hf : a.length < f) (hG : ∀ v ∈ a, G v v = some true) : kX G f a a = some true := by
 have loop : ∀ (d i m : Nat), i + d = a.length → d < m → ∃ z, wc G a a m (i : Int) = some (.inr z) := by
  intro d
  induction d with
  | zero =>
   intro i m hi hm
   obtain ⟨m, rfl, _⟩ := zi hm
   exact ⟨_, by rw [wc, if_neg (by omega)]⟩
  | succ d ih =>
   intro i m hi hm
   obtain ⟨m, rfl, hm'⟩ := zi hm
   have hil : i < a.length := by omega
   rw [wc, if_pos (by omega), zg, Option.bind_some, zu hil, Option.bind_some, Option.bind_some, hG _ (List.getElem_mem hil), Option.bind_some, yi (by omega)]
   exact ih (i + 1) m (by omega) (by omega)
 obtain ⟨z, hz⟩ := loop a.length 0 f (by omega) (by omega)
 rw [show ((0 : Nat) : Int) = 0 from rfl] at hz
 unfold kX
 rw [if_pos rfl, hz]; rfl
theorem P4 : ∀ (N : Nat) (v : GExpr), xsz v < N → xsz v <= 2 ^ 40 → ∀ f : Nat, 2 * xsz v + 3 <= f → wn f v v = some true := by
 intro N
 induction N with
 | zero => intro v hv; omega
 | succ N ih =>
  intro v hv hs f hf
  obtain ⟨f, rfl, _⟩ := zi (show 0 < f by omega)
  obtain ⟨f, rfl, _⟩ := zi (show 0 < f by omega)
  have he := xN v
  have hl := yd v.Kids
  rw [wn]
  unfold Yn yC xT
  rw [if_pos rfl, if_pos rfl, if_pos (show v.S = v.S ∧ v.S.length <= 2 ^ 40 from ⟨rfl, by omega⟩), Option.bind_some]
  dsimp only
  rw [if_pos (show v.K = v.K ∧ bsz v.K <= 2 ^ 40 from ⟨rfl, by omega⟩), Option.bind_some]
  dsimp only
  rw [xM, TJ (by omega) (by omega) fun x hx => ?_]
  ·rfl
  ·have := yz hx
   exact ih x (by omega) (by omega) f (by omega)
open Classical in
noncomputable def jf (a0 : (List GExpr)) (a1 : (List GExpr)) : Option Bool := if a0 = a1 ∧ zx a0 <= 2 ^ 40 then some true else none
theorem Kb (a0 : (List GExpr)) (a1 : (List GExpr)) (r : Bool) (h : jf a0 a1 = some r) : ∃ n, xM n a0 a1 = some r := by
 unfold jf at h
 obtain ⟨⟨he, ha⟩, h2⟩ := yg h
 clear h
 subst he
 have hl := yd a0
 refine ⟨2 * zx a0 + 5, ?_⟩
 rw [xM, TJ (by omega) (by omega) fun x hx => ?_, h2]
 have := yz hx
 exact P4 _ x (Nat.lt_succ_self _) (by omega) _ (by omega)
open Classical in
noncomputable def jF (a0 : GExpr) (a1 : GExpr) : Option Bool := if a0 = a1 ∧ xsz a0 <= 2 ^ 40 then some true else none
theorem KS (a0 : GExpr) (a1 : GExpr) (r : Bool) (h : jF a0 a1 = some r) : ∃ n, wn n a0 a1 = some r := by
 unfold jF at h
 obtain ⟨⟨he, ha⟩, h2⟩ := yg h
 clear h
 subst he
 exact ⟨2 * xsz a0 + 3, by rw [<- h2]; exact P4 _ a0 (Nat.lt_succ_self _) ha _ (Nat.le_refl _)⟩
theorem VQ : kW jf := by
 intro a0 a1 r h
 obtain ⟨n, hn⟩ := Kb a0 a1 r h
 exact (Xa n).1 a0 a1 r hn
theorem RW : jE jF := by
 intro a0 a1 r h
 obtain ⟨n, hn⟩ := KS a0 a1 r h
 exact (Xa n).2 a0 a1 r hn
def jG (a0 : GItem) (a1 : GItem) : Option Bool :=
 if a0.Kind = a1.Kind then
  (yC a0.Name a1.Name).bind fun r2 =>
  match r2 with
  | true =>
   if a0.Many = a1.Many then
    (jF a0.By a1.By).bind fun r4 =>
    match r4 with
    | true =>
     (xT a0.Names a1.Names).bind fun r5 =>
     match r5 with
     | true =>
      (jf a0.Exprs a1.Exprs).bind fun r6 =>
      match r6 with
      | true =>
       some true
      | false =>
       some false
     | false =>
      some false
    | false =>
     some false
   else
   some false
  | false =>
   some false
 else
 some false
theorem RX (a0 : GItem) (a1 : GItem) : Oc (jG a0 a1) 40 [] [.val true (yn a0), .val true (yn a1)] fun r => (vb r, []) := tc (
 .eI a0.Kind a1.Kind (fun c1 =>
  .cl (jV a0.Name a1.Name) fun r2 =>
  .vN 0 r2 (
   .eI a0.Many a1.Many (fun c3 =>
    .cl (RW a0.By a1.By) fun r4 =>
    .vN 0 r4 (
     .cl (YZ a0.Names a1.Names) fun r5 =>
     .vN 0 r5 (
      .cl (VQ a0.Exprs a1.Exprs) fun r6 =>
      .vN 0 r6 (
       .ret true) <|
      .ret false) <|
     .ret false) <|
    .ret false) fun c3 =>
   .ret false) <|
  .ret false) fun c1 =>
 .ret false) (zw Tryd.func40)
def XZ (F : (List GItem) → (List GItem) → Option Bool) : Prop := ∀ (a0 : (List GItem)) (a1 : (List GItem)), Oc (F a0 a1) 18 [] [vq zo a0, vq zo a1] fun r => (vb r, [])
def we (a0 : (List GItem)) (a1 : (List GItem)) : Nat → Int → Option (Bool ⊕ Int)
  | 0, _ => none
  | m + 1, v2 =>
  if v2 < (a0.length : Int) then
   (z6 v2).bind fun i2 =>
   (a0[i2]?).bind fun x3 =>
   (a1[i2]?).bind fun x4 =>
   (jG x3 x4).bind fun r5 =>
   match r5 with
   | true =>
    we a0 a1 m (w64 (v2 + 1))
   | false =>
    some (.inl false)
  else
  some (.inr v2)
theorem Ji (a0 : (List GItem)) (a1 : (List GItem)) (m : Nat) : ∀ (v2 : Int), Ol (we a0 a1 m v2) 18 (zY Tryd.f18 0) ⟨[(0, vq zo a0), (1, vq zo a1), (5, vi v2)], [], 0⟩ fun o => match o with | .inl o_0 => (.ret, ⟨[(4, vb o_0)], [], 0⟩) | .inr (o_1) => (.exit 0, ⟨[(0, vq zo a0), (1, vq zo a1), (5, vi o_1), (14, vb false)], [], 0⟩) := by
  induction m with
  | zero => intro v2 o h; cases h
  | succ m ih => exact fun v2 => tlp (
   .le zo a0 <|
   .lI v2 (a0.length : Int) (fun c1 =>
    .na v2 fun i2 =>
    .ix xB a0 i2 fun x3 =>
    .ag 1 <|
    .ix xB a1 i2 fun x4 =>
    .cl (RX x3 x4) fun r5 =>
    .vN 0 r5 (
     .go (ih (w64 (v2 + 1)))) <|
    .ret (.inl false)) fun c1 =>
   .ret (.inr v2))
def ZB (n : Nat) (a0 : (List GItem)) (a1 : (List GItem)) : Option Bool :=
 if (a0.length : Int) = (a1.length : Int) then
  (we a0 a1 n 0).bind fun o2 =>
  match o2 with
  | .inl o2_0 =>
   some o2_0
  | .inr (o2_1) =>
   some true
 else
 some false
theorem RY (n : Nat) : XZ (ZB n) := fun a0 a1 => tc (
 .le zo a0 <|
 .le zo a1 <|
 .eI (a0.length : Int) (a1.length : Int) (fun c1 =>
  .l2 (Ji a0 a1 n 0) (fun o2_0 =>
   .ret o2_0) fun o2_1 =>
  .ret true) fun c1 =>
 .ret false) (zw Tryd.func18)
theorem P5 {a : List GItem} (ha : a.length <= 2 ^ 40) (hG : ∀ v ∈ a, jG v v = some true) : ∀ (d i m : Nat), i + d = a.length → d < m → ∃ z, we a a m (i : Int) = some (.inr z) := by
 intro d
 induction d with
 | zero =>
  intro i m hi hm
  obtain ⟨m, rfl, _⟩ := zi hm
  exact ⟨_, by rw [we, if_neg (by omega)]⟩
 | succ d ih =>
  intro i m hi hm
  obtain ⟨m, rfl, hm'⟩ := zi hm
  have hil : i < a.length := by omega
  rw [we, if_pos (by omega), zg, Option.bind_some, zu hil, Option.bind_some, Option.bind_some, hG _ (List.getElem_mem hil), Option.bind_some, yi (by omega)]
  exact ih (i + 1) m (by omega) (by omega)
theorem Nc {v : GItem} (h : itz v <= 2 ^ 39) : jG v v = some true := by
 unfold itz at h
 unfold jG yC jF xT jf
 rw [if_pos rfl, if_pos ⟨rfl, by omega⟩, Option.bind_some]
 dsimp only
 rw [if_pos rfl, if_pos ⟨rfl, by omega⟩, Option.bind_some]
 dsimp only
 rw [if_pos ⟨rfl, by omega⟩, Option.bind_some]
 dsimp only
 rw [if_pos ⟨rfl, by omega⟩, Option.bind_some]
open Classical in
noncomputable def wV (a0 : (List GItem)) (a1 : (List GItem)) : Option Bool := if a0 = a1 ∧ yE a0 <= 2 ^ 39 then some true else none
theorem Bb {s : List GItem} (h : yE s <= 2 ^ 39) : wV s s = some true := if_pos ⟨rfl, h⟩
theorem Kc (a0 : (List GItem)) (a1 : (List GItem)) (r : Bool) (h : wV a0 a1 = some r) : ∃ n, ZB n a0 a1 = some r := by
 unfold wV at h
 obtain ⟨⟨he, ha⟩, h2⟩ := yg h
 clear h
 subst he
 have hl := ql a0
 refine ⟨a0.length + 1, ?_⟩
 obtain ⟨z, hz⟩ := P5 (a := a0) (by omega) (fun v hv => Nc (by have := ZJ hv; omega)) a0.length 0 (a0.length + 1) (by omega) (by omega)
 rw [show ((0 : Nat) : Int) = 0 from rfl] at hz
 unfold ZB
 rw [if_pos rfl, hz]; exact h2
theorem VR : XZ wV := fun a0 a1 r h => (Kc a0 a1 r h).elim fun n hn => RY n a0 a1 r hn
def Xb (F : Int → (List UInt8) → Option (Int × (List UInt8))) : Prop := ∀ (a0 : Int) (e0 : (List UInt8)), Oc (F a0 e0) 12 [.obj 1 (eL za e0)] [vr 0, vi a0] fun r => (vi r.1, [.obj 1 (eL za r.2)])
def xr : Nat → Int → Int → (List UInt8) → Option (Int × Int × (List UInt8))
  | 0, _, _, _ => none
  | m + 1, a0, v1, e0 =>
  if v1 < (e0.length : Int) then
   (z6 v1).bind fun i2 =>
   (e0[i2]?).bind fun x3 =>
   xr m (w64 (a0 + 1)) (w64 (v1 + 1)) (e0.set i2 (b8 a0))
  else
  some (a0, v1, e0)
theorem WI (m : Nat) : ∀ (a0 : Int) (v1 : Int) (e0 : (List UInt8)), Ol (xr m a0 v1 e0) 12 (zY Tryd.f12 0) ⟨[(0, vr 0), (1, vi a0), (5, vi v1)], [.obj 1 (eL za e0)], 1⟩ fun o => match o with | ⟨o_0, o_1, o_2⟩ => (.exit 0, ⟨[(0, vr 0), (1, vi o_0), (5, vi o_1), (9, vb false)], [.obj 1 (eL za o_2)], 1⟩) := by
  induction m with
  | zero => intro a0 v1 e0 o h; cases h
  | succ m ih => exact fun a0 v1 e0 => tlp (
   .le za e0 <|
   .lI v1 (e0.length : Int) (fun c1 =>
    .na v1 fun i2 =>
    .ix0 za e0 i2 fun x3 =>
    .ag 0 <|
    .sl (e := za) (x := (b8 a0)) (c := [.int .u8 (((b8 a0).toNat : Nat) : Int)]) rfl e0 i2 <|
    .go (ih (w64 (a0 + 1)) (w64 (v1 + 1)) (e0.set i2 (b8 a0)))) fun c1 =>
   .ret (a0, v1, e0))
def vQ (n : Nat) (a0 : Int) (e0 : (List UInt8)) : Option (Int × (List UInt8)) :=
 (xr n a0 0 e0).bind fun ⟨o1_0, o1_1, o1_2⟩ =>
 some (o1_0, o1_2)
theorem KT (n : Nat) : Xb (vQ n) := fun a0 e0 => tc (
 .lp (WI n a0 0 e0) fun ⟨o1_0, o1_1, o1_2⟩ =>
 .ret (o1_0, o1_2)) (zw Tryd.func12)
theorem RZ : ∀ (l p : List UInt8) (k : Int) (m : Nat), 0 <= k → k + 2 * l.length <= 2 ^ 41 → p.length + l.length <= 2 ^ 41 → l.length < m → ∃ z, xr m k (p.length : Int) (p ++ l) = some (k + l.length, z, p ++ mB k l) := by
 intro l
 induction l with
 | nil =>
  intro p k m _ _ _ hm
  obtain ⟨m, rfl, _⟩ := zi hm
  exact ⟨_, by rw [xr, if_neg (We p)]; simp [mB]; rfl⟩
 | cons x l ih =>
  intro p k m h0 h1 h2 hm
  obtain ⟨m, rfl, hm'⟩ := zi hm
  simp only [List.length_cons] at h1 h2 hm'
  obtain ⟨z, hz⟩ := ih (p ++ [b8 k]) (k + 1) m (by omega) (by omega) (by simp; omega) (by omega)
  rw [xr, if_pos (Jm p x l), zg, Option.bind_some, zN, Option.bind_some, wX, zZ p (b8 k) (by omega), yF (x := k + 1) (by omega) (by omega), ZF p (b8 k) l, hz]
  refine ⟨z, ?_⟩
  rw [mB, ZF p (b8 k) (mB (k + 1) l)]
  simp only [List.length_cons]
  rw [show k + 1 + (l.length : Int) = k + ((l.length + 1 : Nat) : Int) by omega]
def yJ (a0 : Int) (e0 : (List UInt8)) : Option (Int × (List UInt8)) := if 0 <= a0 ∧ a0 + 2 * e0.length <= 2 ^ 41 then some (a0 + e0.length, mB a0 e0) else none
theorem kw {a : Int} {s : List UInt8} (h0 : 0 <= a) (h1 : a + 2 * s.length <= 2 ^ 41) : yJ a s = some (a + s.length, mB a s) := if_pos ⟨h0, h1⟩
theorem Qx (a0 : Int) (e0 : (List UInt8)) (r : (Int × (List UInt8))) (h : yJ a0 e0 = some r) : ∃ n, vQ n a0 e0 = some r := by
 unfold yJ at h
 obtain ⟨⟨h0, h1⟩, h⟩ := yg h
 obtain ⟨z, hz⟩ := RZ e0 [] a0 (e0.length + 1) h0 h1 (by simp; omega) (by omega)
 refine ⟨e0.length + 1, ?_⟩
 unfold vQ
 simp only [List.nil_append, List.length_nil, Int.natCast_zero] at hz
 rw [hz]
 exact h
theorem wP : Xb yJ := fun a0 e0 r h => (Qx a0 e0 r h).elim fun n hn => KT n a0 e0 r hn
def Yv (F : Int → (List (List UInt8)) → Option (Int × (List (List UInt8)))) : Prop := ∀ (a0 : Int) (e0 : (List (List UInt8))), Oc (F a0 e0) 41 [.obj 1 (eL (wQ 1 za) e0)] [vr 0, vi a0] fun r => (vi r.1, [.obj 1 (eL (wQ 1 za) r.2)])
def xj : Nat → Int → Int → (List (List UInt8)) → Option (Int × Int × (List (List UInt8)))
  | 0, _, _, _ => none
  | m + 1, a0, v1, e0 =>
  if v1 < (e0.length : Int) then
   (z6 v1).bind fun i2 =>
   (e0[i2]?).bind fun x3 =>
   (yJ a0 x3).bind fun ⟨r4_0, r4_1⟩ =>
   xj m r4_0 (w64 (v1 + 1)) (e0.set i2 r4_1)
  else
  some (a0, v1, e0)
theorem Wa (m : Nat) : ∀ (a0 : Int) (v1 : Int) (e0 : (List (List UInt8))), Ol (xj m a0 v1 e0) 41 (zY Tryd.f41 0) ⟨[(0, vr 0), (1, vi a0), (5, vi v1)], [.obj 1 (eL (wQ 1 za) e0)], 1⟩ fun o => match o with | ⟨o_0, o_1, o_2⟩ => (.exit 0, ⟨[(0, vr 0), (1, vi o_0), (5, vi o_1), (9, vb false)], [.obj 1 (eL (wQ 1 za) o_2)], 1⟩) := by
  induction m with
  | zero => intro a0 v1 e0 o h; cases h
  | succ m ih => exact fun a0 v1 e0 => tlp (
   .le (wQ 1 za) e0 <|
   .lI v1 (e0.length : Int) (fun c1 =>
    .na v1 fun i2 =>
    .ix0 (wQ 1 za) e0 i2 fun x3 =>
    .ag 0 <|
    .cl (wP a0 x3) fun ⟨r4_0, r4_1⟩ =>
    .ag 1 <|
    .sl (e := (wQ 1 za)) (x := r4_1) (c := [.own 1 (eL za r4_1)]) rfl e0 i2 <|
    .go (ih r4_0 (w64 (v1 + 1)) (e0.set i2 r4_1))) fun c1 =>
   .ret (a0, v1, e0))
def vg (n : Nat) (a0 : Int) (e0 : (List (List UInt8))) : Option (Int × (List (List UInt8))) :=
 (xj n a0 0 e0).bind fun ⟨o1_0, o1_1, o1_2⟩ =>
 some (o1_0, o1_2)
theorem Kd (n : Nat) : Yv (vg n) := fun a0 e0 => tc (
 .lp (Wa n a0 0 e0) fun ⟨o1_0, o1_1, o1_2⟩ =>
 .ret (o1_0, o1_2)) (zw Tryd.func41)
theorem VS : ∀ (l p : List (List UInt8)) (k : Int) (m : Nat), 0 <= k → k + 2 * bsz l <= 2 ^ 41 → p.length + l.length <= 2 ^ 41 → l.length < m → ∃ z, xj m k (p.length : Int) (p ++ l) = some (k + cB l, z, p ++ mBB k l) := by
 intro l
 induction l with
 | nil =>
  intro p k m _ _ _ hm
  obtain ⟨m, rfl, _⟩ := zi hm
  exact ⟨_, by rw [xj, if_neg (We p)]; simp [mBB, cB]; rfl⟩
 | cons x l ih =>
  intro p k m h0 h1 h2 hm
  obtain ⟨m, rfl, hm'⟩ := zi hm
  rw [qM] at h1
  simp only [List.length_cons] at h2 hm'
  obtain ⟨z, hz⟩ := ih (p ++ [mB k x]) (k + x.length) m (by omega) (by omega) (by simp; omega) (by omega)
  rw [xj, if_pos (Jm p x l), zg, Option.bind_some, zN, Option.bind_some, kw (by omega) (by omega), Option.bind_some]
  dsimp only
  rw [wX, zZ p (mB k x) (by omega), ZF p (mB k x) l, hz]
  refine ⟨z, ?_⟩
  rw [mBB, ZF p (mB k x) (mBB (k + x.length) l), Ej]
  rw [show k + (x.length : Int) + (cB l : Int) = k + ((x.length + cB l : Nat) : Int) by omega]
def xl (a0 : Int) (e0 : (List (List UInt8))) : Option (Int × (List (List UInt8))) := if 0 <= a0 ∧ a0 + 2 * bsz e0 <= 2 ^ 41 then some (a0 + cB e0, mBB a0 e0) else none
theorem Yo {a : Int} {s : List (List UInt8)} (h0 : 0 <= a) (h1 : a + 2 * bsz s <= 2 ^ 41) : xl a s = some (a + cB s, mBB a s) := if_pos ⟨h0, h1⟩
theorem WJ (a0 : Int) (e0 : (List (List UInt8))) (r : (Int × (List (List UInt8)))) (h : xl a0 e0 = some r) : ∃ n, vg n a0 e0 = some r := by
 unfold xl at h
 obtain ⟨⟨h0, h1⟩, h⟩ := yg h
 have := jg e0
 obtain ⟨z, hz⟩ := VS e0 [] a0 (e0.length + 1) h0 h1 (by simp; omega) (by omega)
 refine ⟨e0.length + 1, ?_⟩
 unfold vg
 simp only [List.nil_append, List.length_nil, Int.natCast_zero] at hz
 rw [hz]
 exact h
theorem kz : Yv xl := fun a0 e0 r h => (WJ a0 e0 r h).elim fun n hn => Kd n a0 e0 r hn
def qh (F : Int → (List GExpr) → Option (Int × (List GExpr))) : Prop := ∀ (a0 : Int) (e0 : (List GExpr)), Oc (F a0 e0) 42 [.obj 5 (eL yD e0)] [vr 0, vi a0] fun r => (vi r.1, [.obj 5 (eL yD r.2)])
def xt (G_laws_markExprS : Int → (List GExpr) → Option (Int × (List GExpr))) : Nat → Int → Int → (List GExpr) → Option (Int × Int × (List GExpr))
  | 0, _, _, _ => none
  | m + 1, a0, v1, e0 =>
  if v1 < (e0.length : Int) then
   (z6 v1).bind fun i2 =>
   (e0[i2]?).bind fun x3 =>
   ((e0.set i2 (GExpr.mk a0 x3.N x3.S x3.K x3.Kids))[i2]?).bind fun x4 =>
   (((e0.set i2 (GExpr.mk a0 x3.N x3.S x3.K x3.Kids)).set i2 (GExpr.mk x4.Kind (w64 (a0 + 1)) x4.S x4.K x4.Kids))[i2]?).bind fun x5 =>
   (yJ (w64 ((w64 (a0 + 1)) + 1)) x5.S).bind fun ⟨r6_0, r6_1⟩ =>
   ((((e0.set i2 (GExpr.mk a0 x3.N x3.S x3.K x3.Kids)).set i2 (GExpr.mk x4.Kind (w64 (a0 + 1)) x4.S x4.K x4.Kids)).set i2 (GExpr.mk x5.Kind x5.N r6_1 x5.K x5.Kids))[i2]?).bind fun x7 =>
   (xl r6_0 x7.K).bind fun ⟨r8_0, r8_1⟩ =>
   (((((e0.set i2 (GExpr.mk a0 x3.N x3.S x3.K x3.Kids)).set i2 (GExpr.mk x4.Kind (w64 (a0 + 1)) x4.S x4.K x4.Kids)).set i2 (GExpr.mk x5.Kind x5.N r6_1 x5.K x5.Kids)).set i2 (GExpr.mk x7.Kind x7.N x7.S r8_1 x7.Kids))[i2]?).bind fun x9 =>
   (G_laws_markExprS r8_0 x9.Kids).bind fun ⟨r10_0, r10_1⟩ =>
   xt G_laws_markExprS m r10_0 (w64 (v1 + 1)) (((((e0.set i2 (GExpr.mk a0 x3.N x3.S x3.K x3.Kids)).set i2 (GExpr.mk x4.Kind (w64 (a0 + 1)) x4.S x4.K x4.Kids)).set i2 (GExpr.mk x5.Kind x5.N r6_1 x5.K x5.Kids)).set i2 (GExpr.mk x7.Kind x7.N x7.S r8_1 x7.Kids)).set i2 (GExpr.mk x9.Kind x9.N x9.S x9.K r10_1))
  else
  some (a0, v1, e0)
theorem WK (G_laws_markExprS : Int → (List GExpr) → Option (Int × (List GExpr))) (H_laws_markExprS : qh G_laws_markExprS) (m : Nat) : ∀ (a0 : Int) (v1 : Int) (e0 : (List GExpr)), Ol (xt G_laws_markExprS m a0 v1 e0) 42 (zY Tryd.f42 0) ⟨[(0, vr 0), (1, vi a0), (5, vi v1)], [.obj 5 (eL yD e0)], 1⟩ fun o => match o with | ⟨o_0, o_1, o_2⟩ => (.exit 0, ⟨[(0, vr 0), (1, vi o_0), (5, vi o_1), (9, vb false)], [.obj 5 (eL yD o_2)], 1⟩) := by
  induction m with
  | zero => intro a0 v1 e0 o h; cases h
  | succ m ih => exact fun a0 v1 e0 => tlp (
   .le yD e0 <|
   .lI v1 (e0.length : Int) (fun c1 =>
    .na v1 fun i2 =>
    .ix xq e0 i2 fun x3 =>
    .ag 0 <|
    .sl (xq (GExpr.mk a0 x3.N x3.S x3.K x3.Kids)) e0 i2 <|
    .ag 1 <|
    .ix xq (e0.set i2 (GExpr.mk a0 x3.N x3.S x3.K x3.Kids)) i2 fun x4 =>
    .ag 0 <|
    .sl (xq (GExpr.mk x4.Kind (w64 (a0 + 1)) x4.S x4.K x4.Kids)) (e0.set i2 (GExpr.mk a0 x3.N x3.S x3.K x3.Kids)) i2 <|
    .ag 2 <|
    .ix xq ((e0.set i2 (GExpr.mk a0 x3.N x3.S x3.K x3.Kids)).set i2 (GExpr.mk x4.Kind (w64 (a0 + 1)) x4.S x4.K x4.Kids)) i2 fun x5 =>
    .ag 0 <|
    .cl (wP (w64 ((w64 (a0 + 1)) + 1)) x5.S) fun ⟨r6_0, r6_1⟩ =>
    .ag 1 <|
    .sl (xq (GExpr.mk x5.Kind x5.N r6_1 x5.K x5.Kids)) ((e0.set i2 (GExpr.mk a0 x3.N x3.S x3.K x3.Kids)).set i2 (GExpr.mk x4.Kind (w64 (a0 + 1)) x4.S x4.K x4.Kids)) i2 <|
    .ag 4 <|
    .ix xq (((e0.set i2 (GExpr.mk a0 x3.N x3.S x3.K x3.Kids)).set i2 (GExpr.mk x4.Kind (w64 (a0 + 1)) x4.S x4.K x4.Kids)).set i2 (GExpr.mk x5.Kind x5.N r6_1 x5.K x5.Kids)) i2 fun x7 =>
    .ag 0 <|
    .cl (kz r6_0 x7.K) fun ⟨r8_0, r8_1⟩ =>
    .ag 1 <|
    .sl (xq (GExpr.mk x7.Kind x7.N x7.S r8_1 x7.Kids)) (((e0.set i2 (GExpr.mk a0 x3.N x3.S x3.K x3.Kids)).set i2 (GExpr.mk x4.Kind (w64 (a0 + 1)) x4.S x4.K x4.Kids)).set i2 (GExpr.mk x5.Kind x5.N r6_1 x5.K x5.Kids)) i2 <|
    .ag 6 <|
    .ix xq ((((e0.set i2 (GExpr.mk a0 x3.N x3.S x3.K x3.Kids)).set i2 (GExpr.mk x4.Kind (w64 (a0 + 1)) x4.S x4.K x4.Kids)).set i2 (GExpr.mk x5.Kind x5.N r6_1 x5.K x5.Kids)).set i2 (GExpr.mk x7.Kind x7.N x7.S r8_1 x7.Kids)) i2 fun x9 =>
    .ag 0 <|
    .cl (H_laws_markExprS r8_0 x9.Kids) fun ⟨r10_0, r10_1⟩ =>
    .ag 1 <|
    .sl (xq (GExpr.mk x9.Kind x9.N x9.S x9.K r10_1)) ((((e0.set i2 (GExpr.mk a0 x3.N x3.S x3.K x3.Kids)).set i2 (GExpr.mk x4.Kind (w64 (a0 + 1)) x4.S x4.K x4.Kids)).set i2 (GExpr.mk x5.Kind x5.N r6_1 x5.K x5.Kids)).set i2 (GExpr.mk x7.Kind x7.N x7.S r8_1 x7.Kids)) i2 <|
    .go (ih r10_0 (w64 (v1 + 1)) (((((e0.set i2 (GExpr.mk a0 x3.N x3.S x3.K x3.Kids)).set i2 (GExpr.mk x4.Kind (w64 (a0 + 1)) x4.S x4.K x4.Kids)).set i2 (GExpr.mk x5.Kind x5.N r6_1 x5.K x5.Kids)).set i2 (GExpr.mk x7.Kind x7.N x7.S r8_1 x7.Kids)).set i2 (GExpr.mk x9.Kind x9.N x9.S x9.K r10_1)))) fun c1 =>
   .ret (a0, v1, e0))
def vR (G_laws_markExprS : Int → (List GExpr) → Option (Int × (List GExpr))) (n : Nat) (a0 : Int) (e0 : (List GExpr)) : Option (Int × (List GExpr)) :=
 (xt G_laws_markExprS n a0 0 e0).bind fun ⟨o1_0, o1_1, o1_2⟩ =>
 some (o1_0, o1_2)
theorem KU (G_laws_markExprS : Int → (List GExpr) → Option (Int × (List GExpr))) (H_laws_markExprS : qh G_laws_markExprS) (n : Nat) : qh (vR G_laws_markExprS n) := fun a0 e0 => tc (
 .lp (WK G_laws_markExprS H_laws_markExprS n a0 0 e0) fun ⟨o1_0, o1_1, o1_2⟩ =>
 .ret (o1_0, o1_2)) (zw Tryd.func42)
def yK : Nat → Int → (List GExpr) → Option (Int × (List GExpr))
 | 0, _, _ => none
 | n + 1, a0, e0 => vR (yK n) n a0 e0
theorem Jj (n : Nat) : qh (yK n) := by
 induction n with
 | zero => exact fun _ _ _ h => (by rw [yK] at h; cases h)
 | succ n ih =>
  have ih_laws_markExprS := ih
  exact fun a0 e0 r h => KU (yK n) ih_laws_markExprS n a0 e0 r (by rw [yK] at h; exact h)
theorem Ta {G : Int → List GExpr → Option (Int × List GExpr)} : ∀ (l p : List GExpr) (k : Int) (m : Nat), (∀ v ∈ l, ∀ i : Int, 0 <= i → i + 2 * zx v.Kids <= 2 ^ 41 → G i v.Kids = some (i + cXs v.Kids, mXs i v.Kids)) → 0 <= k → k + 2 * zx l <= 2 ^ 41 → p.length + l.length <= 2 ^ 41 → l.length < m → ∃ z, xt G m k (p.length : Int) (p ++ l) = some (k + cXs l, z, p ++ mXs k l) := by
 intro l
 induction l with
 | nil =>
  intro p k m _ _ _ _ hm
  obtain ⟨m, rfl, _⟩ := zi hm
  exact ⟨_, by rw [xt, if_neg (We p)]; simp [mXs, cXs]; rfl⟩
 | cons x l ih =>
  intro p k m hG h0 h1 h2 hm
  obtain ⟨m, rfl, hm'⟩ := zi hm
  simp only [List.length_cons] at h2 hm'
  have hx := hG x List.mem_cons_self
  have hc := U0 x
  obtain ⟨kd, n, s, kk, ks⟩ := x
  have hb := ZV kk
  have hd := Wg ks
  simp only [zx, xsz] at h1
  simp only [cX, xsz] at hc
  simp only [GExpr.Kids] at hx
  obtain ⟨z, hz⟩ := ih (p ++ [mX k (.mk kd n s kk ks)]) (k + cX (.mk kd n s kk ks)) m (fun v hv => hG v (List.mem_cons_of_mem _ hv)) (by omega) (by simp only [cX]; omega) (by simp; omega) (by omega)
  rw [xt, if_pos (Jm p _ l), zg, Option.bind_some, zN, Option.bind_some]
  simp only [wX, zN, Option.bind_some, GExpr.Kind, GExpr.N, GExpr.S, GExpr.K, GExpr.Kids]
  rw [yF (x := k + 1) (by omega) (by omega), yF (x := k + 1 + 1) (by omega) (by omega), kw (by omega) (by omega)]
  simp only [Option.bind_some, wX, zN, GExpr.Kind, GExpr.N, GExpr.S, GExpr.K, GExpr.Kids]
  rw [Yo (by omega) (by omega)]
  simp only [Option.bind_some, wX, zN, GExpr.Kind, GExpr.N, GExpr.S, GExpr.K, GExpr.Kids]
  rw [hx _ (by omega) (by omega)]
  simp only [Option.bind_some, wX, zN, GExpr.Kind, GExpr.N, GExpr.S, GExpr.K, GExpr.Kids]
  refine ⟨z, ?_⟩
  rw [zZ p (mX k (.mk kd n s kk ks)) (by omega), show GExpr.mk k (k + 1) (mB (k + 1 + 1) s) (mBB (k + 1 + 1 + s.length) kk) (mXs (k + 1 + 1 + s.length + cB kk) ks) = mX k (.mk kd n s kk ks) by simp only [mX], ZF p _ l,
   show k + 1 + 1 + (s.length : Int) + (cB kk : Int) + (cXs ks : Int) = k + ((cX (.mk kd n s kk ks) : Nat) : Int) by simp only [cX]; omega, hz]
  simp only [mXs, cXs, List.append_assoc, List.singleton_append]
  rw [show k + ((cX (.mk kd n s kk ks) : Nat) : Int) + (cXs l : Int) = k + ((cX (.mk kd n s kk ks) + cXs l : Nat) : Int) by omega]
theorem Oq : ∀ (N : Nat) (l : List GExpr), zx l < N → ∀ (k : Int) (f : Nat), 0 <= k → k + 2 * zx l <= 2 ^ 41 → zx l + 2 <= f → yK f k l = some (k + cXs l, mXs k l) := by
 intro N
 induction N with
 | zero => intro l hl; omega
 | succ N ih =>
  intro l hl k f h0 h1 hf
  obtain ⟨f, rfl, _⟩ := zi (show 0 < f by omega)
  have hlen := yd l
  rw [yK]
  unfold vR
  obtain ⟨z, hz⟩ := Ta (G := yK f) l [] k f (fun v hv i g0 g1 => by
   have := yz hv
   have := xN v
   exact ih v.Kids (by omega) i f g0 g1 (by omega)) h0 h1 (by simp; omega) (by omega)
  simp only [List.nil_append, List.length_nil, Int.natCast_zero] at hz
  rw [hz]; rfl
def w6 (a0 : Int) (e0 : (List GExpr)) : Option (Int × (List GExpr)) := if 0 <= a0 ∧ a0 + 2 * zx e0 <= 2 ^ 41 then some (a0 + cXs e0, mXs a0 e0) else none
theorem Jk {a : Int} {s : List GExpr} (h0 : 0 <= a) (h1 : a + 2 * zx s <= 2 ^ 41) : w6 a s = some (a + cXs s, mXs a s) := if_pos ⟨h0, h1⟩
theorem Qy (a0 : Int) (e0 : (List GExpr)) (r : (Int × (List GExpr))) (h : w6 a0 e0 = some r) : ∃ n, yK n a0 e0 = some r := by
 unfold w6 at h
 obtain ⟨⟨h0, h1⟩, h⟩ := yg h
 exact ⟨zx e0 + 2, by rw [Oq _ e0 (Nat.lt_succ_self _) a0 _ h0 h1 (Nat.le_refl _), h]⟩
theorem Yw : qh w6 := by
 intro a0 e0 r h
 obtain ⟨n, hn⟩ := Qy a0 e0 r h
 exact (Jj n) a0 e0 r hn
def Xc (F : Int → (List GItem) → Option (Int × (List GItem))) : Prop := ∀ (a0 : Int) (e0 : (List GItem)), Oc (F a0 e0) 19 [.obj 10 (eL wW e0)] [vr 0, vi a0] fun r => (vi r.1, [.obj 10 (eL wW r.2)])
def xu : Nat → Int → Int → (List GItem) → Option (Int × Int × (List GItem))
  | 0, _, _, _ => none
  | m + 1, a0, v1, e0 =>
  if v1 < (e0.length : Int) then
   (z6 v1).bind fun i2 =>
   (e0[i2]?).bind fun x3 =>
   ((e0.set i2 (GItem.mk a0 x3.Name x3.Many x3.By x3.Names x3.Exprs))[i2]?).bind fun x4 =>
   (yJ (w64 (a0 + 1)) x4.Name).bind fun ⟨r5_0, r5_1⟩ =>
   (((e0.set i2 (GItem.mk a0 x3.Name x3.Many x3.By x3.Names x3.Exprs)).set i2 (GItem.mk x4.Kind r5_1 x4.Many x4.By x4.Names x4.Exprs))[i2]?).bind fun x6 =>
   ((((e0.set i2 (GItem.mk a0 x3.Name x3.Many x3.By x3.Names x3.Exprs)).set i2 (GItem.mk x4.Kind r5_1 x4.Many x4.By x4.Names x4.Exprs)).set i2 (GItem.mk x6.Kind x6.Name r5_0 x6.By x6.Names x6.Exprs))[i2]?).bind fun x7 =>
   (((((e0.set i2 (GItem.mk a0 x3.Name x3.Many x3.By x3.Names x3.Exprs)).set i2 (GItem.mk x4.Kind r5_1 x4.Many x4.By x4.Names x4.Exprs)).set i2 (GItem.mk x6.Kind x6.Name r5_0 x6.By x6.Names x6.Exprs)).set i2 (GItem.mk x7.Kind x7.Name x7.Many (GExpr.mk (w64 (r5_0 + 1)) x7.By.N x7.By.S x7.By.K x7.By.Kids) x7.Names x7.Exprs))[i2]?).bind fun x8 =>
   ((((((e0.set i2 (GItem.mk a0 x3.Name x3.Many x3.By x3.Names x3.Exprs)).set i2 (GItem.mk x4.Kind r5_1 x4.Many x4.By x4.Names x4.Exprs)).set i2 (GItem.mk x6.Kind x6.Name r5_0 x6.By x6.Names x6.Exprs)).set i2 (GItem.mk x7.Kind x7.Name x7.Many (GExpr.mk (w64 (r5_0 + 1)) x7.By.N x7.By.S x7.By.K x7.By.Kids) x7.Names x7.Exprs)).set i2 (GItem.mk x8.Kind x8.Name x8.Many (GExpr.mk x8.By.Kind (w64 ((w64 (r5_0 + 1)) + 1)) x8.By.S x8.By.K x8.By.Kids) x8.Names x8.Exprs))[i2]?).bind fun x9 =>
   (yJ (w64 ((w64 ((w64 (r5_0 + 1)) + 1)) + 1)) x9.By.S).bind fun ⟨r10_0, r10_1⟩ =>
   (((((((e0.set i2 (GItem.mk a0 x3.Name x3.Many x3.By x3.Names x3.Exprs)).set i2 (GItem.mk x4.Kind r5_1 x4.Many x4.By x4.Names x4.Exprs)).set i2 (GItem.mk x6.Kind x6.Name r5_0 x6.By x6.Names x6.Exprs)).set i2 (GItem.mk x7.Kind x7.Name x7.Many (GExpr.mk (w64 (r5_0 + 1)) x7.By.N x7.By.S x7.By.K x7.By.Kids) x7.Names x7.Exprs)).set i2 (GItem.mk x8.Kind x8.Name x8.Many (GExpr.mk x8.By.Kind (w64 ((w64 (r5_0 + 1)) + 1)) x8.By.S x8.By.K x8.By.Kids) x8.Names x8.Exprs)).set i2 (GItem.mk x9.Kind x9.Name x9.Many (GExpr.mk x9.By.Kind x9.By.N r10_1 x9.By.K x9.By.Kids) x9.Names x9.Exprs))[i2]?).bind fun x11 =>
   (xl r10_0 x11.By.K).bind fun ⟨r12_0, r12_1⟩ =>
   ((((((((e0.set i2 (GItem.mk a0 x3.Name x3.Many x3.By x3.Names x3.Exprs)).set i2 (GItem.mk x4.Kind r5_1 x4.Many x4.By x4.Names x4.Exprs)).set i2 (GItem.mk x6.Kind x6.Name r5_0 x6.By x6.Names x6.Exprs)).set i2 (GItem.mk x7.Kind x7.Name x7.Many (GExpr.mk (w64 (r5_0 + 1)) x7.By.N x7.By.S x7.By.K x7.By.Kids) x7.Names x7.Exprs)).set i2 (GItem.mk x8.Kind x8.Name x8.Many (GExpr.mk x8.By.Kind (w64 ((w64 (r5_0 + 1)) + 1)) x8.By.S x8.By.K x8.By.Kids) x8.Names x8.Exprs)).set i2 (GItem.mk x9.Kind x9.Name x9.Many (GExpr.mk x9.By.Kind x9.By.N r10_1 x9.By.K x9.By.Kids) x9.Names x9.Exprs)).set i2 (GItem.mk x11.Kind x11.Name x11.Many (GExpr.mk x11.By.Kind x11.By.N x11.By.S r12_1 x11.By.Kids) x11.Names x11.Exprs))[i2]?).bind fun x13 =>
   (w6 r12_0 x13.By.Kids).bind fun ⟨r14_0, r14_1⟩ =>
   (((((((((e0.set i2 (GItem.mk a0 x3.Name x3.Many x3.By x3.Names x3.Exprs)).set i2 (GItem.mk x4.Kind r5_1 x4.Many x4.By x4.Names x4.Exprs)).set i2 (GItem.mk x6.Kind x6.Name r5_0 x6.By x6.Names x6.Exprs)).set i2 (GItem.mk x7.Kind x7.Name x7.Many (GExpr.mk (w64 (r5_0 + 1)) x7.By.N x7.By.S x7.By.K x7.By.Kids) x7.Names x7.Exprs)).set i2 (GItem.mk x8.Kind x8.Name x8.Many (GExpr.mk x8.By.Kind (w64 ((w64 (r5_0 + 1)) + 1)) x8.By.S x8.By.K x8.By.Kids) x8.Names x8.Exprs)).set i2 (GItem.mk x9.Kind x9.Name x9.Many (GExpr.mk x9.By.Kind x9.By.N r10_1 x9.By.K x9.By.Kids) x9.Names x9.Exprs)).set i2 (GItem.mk x11.Kind x11.Name x11.Many (GExpr.mk x11.By.Kind x11.By.N x11.By.S r12_1 x11.By.Kids) x11.Names x11.Exprs)).set i2 (GItem.mk x13.Kind x13.Name x13.Many (GExpr.mk x13.By.Kind x13.By.N x13.By.S x13.By.K r14_1) x13.Names x13.Exprs))[i2]?).bind fun x15 =>
   (xl r14_0 x15.Names).bind fun ⟨r16_0, r16_1⟩ =>
   ((((((((((e0.set i2 (GItem.mk a0 x3.Name x3.Many x3.By x3.Names x3.Exprs)).set i2 (GItem.mk x4.Kind r5_1 x4.Many x4.By x4.Names x4.Exprs)).set i2 (GItem.mk x6.Kind x6.Name r5_0 x6.By x6.Names x6.Exprs)).set i2 (GItem.mk x7.Kind x7.Name x7.Many (GExpr.mk (w64 (r5_0 + 1)) x7.By.N x7.By.S x7.By.K x7.By.Kids) x7.Names x7.Exprs)).set i2 (GItem.mk x8.Kind x8.Name x8.Many (GExpr.mk x8.By.Kind (w64 ((w64 (r5_0 + 1)) + 1)) x8.By.S x8.By.K x8.By.Kids) x8.Names x8.Exprs)).set i2 (GItem.mk x9.Kind x9.Name x9.Many (GExpr.mk x9.By.Kind x9.By.N r10_1 x9.By.K x9.By.Kids) x9.Names x9.Exprs)).set i2 (GItem.mk x11.Kind x11.Name x11.Many (GExpr.mk x11.By.Kind x11.By.N x11.By.S r12_1 x11.By.Kids) x11.Names x11.Exprs)).set i2 (GItem.mk x13.Kind x13.Name x13.Many (GExpr.mk x13.By.Kind x13.By.N x13.By.S x13.By.K r14_1) x13.Names x13.Exprs)).set i2 (GItem.mk x15.Kind x15.Name x15.Many x15.By r16_1 x15.Exprs))[i2]?).bind fun x17 =>
   (w6 r16_0 x17.Exprs).bind fun ⟨r18_0, r18_1⟩ =>
   xu m r18_0 (w64 (v1 + 1)) ((((((((((e0.set i2 (GItem.mk a0 x3.Name x3.Many x3.By x3.Names x3.Exprs)).set i2 (GItem.mk x4.Kind r5_1 x4.Many x4.By x4.Names x4.Exprs)).set i2 (GItem.mk x6.Kind x6.Name r5_0 x6.By x6.Names x6.Exprs)).set i2 (GItem.mk x7.Kind x7.Name x7.Many (GExpr.mk (w64 (r5_0 + 1)) x7.By.N x7.By.S x7.By.K x7.By.Kids) x7.Names x7.Exprs)).set i2 (GItem.mk x8.Kind x8.Name x8.Many (GExpr.mk x8.By.Kind (w64 ((w64 (r5_0 + 1)) + 1)) x8.By.S x8.By.K x8.By.Kids) x8.Names x8.Exprs)).set i2 (GItem.mk x9.Kind x9.Name x9.Many (GExpr.mk x9.By.Kind x9.By.N r10_1 x9.By.K x9.By.Kids) x9.Names x9.Exprs)).set i2 (GItem.mk x11.Kind x11.Name x11.Many (GExpr.mk x11.By.Kind x11.By.N x11.By.S r12_1 x11.By.Kids) x11.Names x11.Exprs)).set i2 (GItem.mk x13.Kind x13.Name x13.Many (GExpr.mk x13.By.Kind x13.By.N x13.By.S x13.By.K r14_1) x13.Names x13.Exprs)).set i2 (GItem.mk x15.Kind x15.Name x15.Many x15.By r16_1 x15.Exprs)).set i2 (GItem.mk x17.Kind x17.Name x17.Many x17.By x17.Names r18_1))
  else
  some (a0, v1, e0)
theorem WL (m : Nat) : ∀ (a0 : Int) (v1 : Int) (e0 : (List GItem)), Ol (xu m a0 v1 e0) 19 (zY Tryd.f19 0) ⟨[(0, vr 0), (1, vi a0), (5, vi v1)], [.obj 10 (eL wW e0)], 1⟩ fun o => match o with | ⟨o_0, o_1, o_2⟩ => (.exit 0, ⟨[(0, vr 0), (1, vi o_0), (5, vi o_1), (9, vb false)], [.obj 10 (eL wW o_2)], 1⟩) := by
  induction m with
  | zero => intro a0 v1 e0 o h; cases h
  | succ m ih => exact fun a0 v1 e0 => tlp (
   .le wW e0 <|
   .lI v1 (e0.length : Int) (fun c1 =>
    .na v1 fun i2 =>
    .ix yc e0 i2 fun x3 =>
    .ag 0 <|
    .sl (yc (GItem.mk a0 x3.Name x3.Many x3.By x3.Names x3.Exprs)) e0 i2 <|
    .ag 1 <|
    .ix yc (e0.set i2 (GItem.mk a0 x3.Name x3.Many x3.By x3.Names x3.Exprs)) i2 fun x4 =>
    .ag 0 <|
    .cl (wP (w64 (a0 + 1)) x4.Name) fun ⟨r5_0, r5_1⟩ =>
    .ag 1 <|
    .sl (yc (GItem.mk x4.Kind r5_1 x4.Many x4.By x4.Names x4.Exprs)) (e0.set i2 (GItem.mk a0 x3.Name x3.Many x3.By x3.Names x3.Exprs)) i2 <|
    .ag 3 <|
    .ix yc ((e0.set i2 (GItem.mk a0 x3.Name x3.Many x3.By x3.Names x3.Exprs)).set i2 (GItem.mk x4.Kind r5_1 x4.Many x4.By x4.Names x4.Exprs)) i2 fun x6 =>
    .ag 0 <|
    .sl (yc (GItem.mk x6.Kind x6.Name r5_0 x6.By x6.Names x6.Exprs)) ((e0.set i2 (GItem.mk a0 x3.Name x3.Many x3.By x3.Names x3.Exprs)).set i2 (GItem.mk x4.Kind r5_1 x4.Many x4.By x4.Names x4.Exprs)) i2 <|
    .ag 4 <|
    .ix yc (((e0.set i2 (GItem.mk a0 x3.Name x3.Many x3.By x3.Names x3.Exprs)).set i2 (GItem.mk x4.Kind r5_1 x4.Many x4.By x4.Names x4.Exprs)).set i2 (GItem.mk x6.Kind x6.Name r5_0 x6.By x6.Names x6.Exprs)) i2 fun x7 =>
    .ag 0 <|
    .sl (yc (GItem.mk x7.Kind x7.Name x7.Many (GExpr.mk (w64 (r5_0 + 1)) x7.By.N x7.By.S x7.By.K x7.By.Kids) x7.Names x7.Exprs)) (((e0.set i2 (GItem.mk a0 x3.Name x3.Many x3.By x3.Names x3.Exprs)).set i2 (GItem.mk x4.Kind r5_1 x4.Many x4.By x4.Names x4.Exprs)).set i2 (GItem.mk x6.Kind x6.Name r5_0 x6.By x6.Names x6.Exprs)) i2 <|
    .ag 5 <|
    .ix yc ((((e0.set i2 (GItem.mk a0 x3.Name x3.Many x3.By x3.Names x3.Exprs)).set i2 (GItem.mk x4.Kind r5_1 x4.Many x4.By x4.Names x4.Exprs)).set i2 (GItem.mk x6.Kind x6.Name r5_0 x6.By x6.Names x6.Exprs)).set i2 (GItem.mk x7.Kind x7.Name x7.Many (GExpr.mk (w64 (r5_0 + 1)) x7.By.N x7.By.S x7.By.K x7.By.Kids) x7.Names x7.Exprs)) i2 fun x8 =>
    .ag 0 <|
    .sl (yc (GItem.mk x8.Kind x8.Name x8.Many (GExpr.mk x8.By.Kind (w64 ((w64 (r5_0 + 1)) + 1)) x8.By.S x8.By.K x8.By.Kids) x8.Names x8.Exprs)) ((((e0.set i2 (GItem.mk a0 x3.Name x3.Many x3.By x3.Names x3.Exprs)).set i2 (GItem.mk x4.Kind r5_1 x4.Many x4.By x4.Names x4.Exprs)).set i2 (GItem.mk x6.Kind x6.Name r5_0 x6.By x6.Names x6.Exprs)).set i2 (GItem.mk x7.Kind x7.Name x7.Many (GExpr.mk (w64 (r5_0 + 1)) x7.By.N x7.By.S x7.By.K x7.By.Kids) x7.Names x7.Exprs)) i2 <|
    .ag 6 <|
    .ix yc (((((e0.set i2 (GItem.mk a0 x3.Name x3.Many x3.By x3.Names x3.Exprs)).set i2 (GItem.mk x4.Kind r5_1 x4.Many x4.By x4.Names x4.Exprs)).set i2 (GItem.mk x6.Kind x6.Name r5_0 x6.By x6.Names x6.Exprs)).set i2 (GItem.mk x7.Kind x7.Name x7.Many (GExpr.mk (w64 (r5_0 + 1)) x7.By.N x7.By.S x7.By.K x7.By.Kids) x7.Names x7.Exprs)).set i2 (GItem.mk x8.Kind x8.Name x8.Many (GExpr.mk x8.By.Kind (w64 ((w64 (r5_0 + 1)) + 1)) x8.By.S x8.By.K x8.By.Kids) x8.Names x8.Exprs)) i2 fun x9 =>
    .ag 0 <|
    .cl (wP (w64 ((w64 ((w64 (r5_0 + 1)) + 1)) + 1)) x9.By.S) fun ⟨r10_0, r10_1⟩ =>
    .ag 1 <|
    .sl (yc (GItem.mk x9.Kind x9.Name x9.Many (GExpr.mk x9.By.Kind x9.By.N r10_1 x9.By.K x9.By.Kids) x9.Names x9.Exprs)) (((((e0.set i2 (GItem.mk a0 x3.Name x3.Many x3.By x3.Names x3.Exprs)).set i2 (GItem.mk x4.Kind r5_1 x4.Many x4.By x4.Names x4.Exprs)).set i2 (GItem.mk x6.Kind x6.Name r5_0 x6.By x6.Names x6.Exprs)).set i2 (GItem.mk x7.Kind x7.Name x7.Many (GExpr.mk (w64 (r5_0 + 1)) x7.By.N x7.By.S x7.By.K x7.By.Kids) x7.Names x7.Exprs)).set i2 (GItem.mk x8.Kind x8.Name x8.Many (GExpr.mk x8.By.Kind (w64 ((w64 (r5_0 + 1)) + 1)) x8.By.S x8.By.K x8.By.Kids) x8.Names x8.Exprs)) i2 <|
    .ag 8 <|
    .ix yc ((((((e0.set i2 (GItem.mk a0 x3.Name x3.Many x3.By x3.Names x3.Exprs)).set i2 (GItem.mk x4.Kind r5_1 x4.Many x4.By x4.Names x4.Exprs)).set i2 (GItem.mk x6.Kind x6.Name r5_0 x6.By x6.Names x6.Exprs)).set i2 (GItem.mk x7.Kind x7.Name x7.Many (GExpr.mk (w64 (r5_0 + 1)) x7.By.N x7.By.S x7.By.K x7.By.Kids) x7.Names x7.Exprs)).set i2 (GItem.mk x8.Kind x8.Name x8.Many (GExpr.mk x8.By.Kind (w64 ((w64 (r5_0 + 1)) + 1)) x8.By.S x8.By.K x8.By.Kids) x8.Names x8.Exprs)).set i2 (GItem.mk x9.Kind x9.Name x9.Many (GExpr.mk x9.By.Kind x9.By.N r10_1 x9.By.K x9.By.Kids) x9.Names x9.Exprs)) i2 fun x11 =>
    .ag 0 <|
    .cl (kz r10_0 x11.By.K) fun ⟨r12_0, r12_1⟩ =>
    .ag 1 <|
    .sl (yc (GItem.mk x11.Kind x11.Name x11.Many (GExpr.mk x11.By.Kind x11.By.N x11.By.S r12_1 x11.By.Kids) x11.Names x11.Exprs)) ((((((e0.set i2 (GItem.mk a0 x3.Name x3.Many x3.By x3.Names x3.Exprs)).set i2 (GItem.mk x4.Kind r5_1 x4.Many x4.By x4.Names x4.Exprs)).set i2 (GItem.mk x6.Kind x6.Name r5_0 x6.By x6.Names x6.Exprs)).set i2 (GItem.mk x7.Kind x7.Name x7.Many (GExpr.mk (w64 (r5_0 + 1)) x7.By.N x7.By.S x7.By.K x7.By.Kids) x7.Names x7.Exprs)).set i2 (GItem.mk x8.Kind x8.Name x8.Many (GExpr.mk x8.By.Kind (w64 ((w64 (r5_0 + 1)) + 1)) x8.By.S x8.By.K x8.By.Kids) x8.Names x8.Exprs)).set i2 (GItem.mk x9.Kind x9.Name x9.Many (GExpr.mk x9.By.Kind x9.By.N r10_1 x9.By.K x9.By.Kids) x9.Names x9.Exprs)) i2 <|
    .ag 10 <|
    .ix yc (((((((e0.set i2 (GItem.mk a0 x3.Name x3.Many x3.By x3.Names x3.Exprs)).set i2 (GItem.mk x4.Kind r5_1 x4.Many x4.By x4.Names x4.Exprs)).set i2 (GItem.mk x6.Kind x6.Name r5_0 x6.By x6.Names x6.Exprs)).set i2 (GItem.mk x7.Kind x7.Name x7.Many (GExpr.mk (w64 (r5_0 + 1)) x7.By.N x7.By.S x7.By.K x7.By.Kids) x7.Names x7.Exprs)).set i2 (GItem.mk x8.Kind x8.Name x8.Many (GExpr.mk x8.By.Kind (w64 ((w64 (r5_0 + 1)) + 1)) x8.By.S x8.By.K x8.By.Kids) x8.Names x8.Exprs)).set i2 (GItem.mk x9.Kind x9.Name x9.Many (GExpr.mk x9.By.Kind x9.By.N r10_1 x9.By.K x9.By.Kids) x9.Names x9.Exprs)).set i2 (GItem.mk x11.Kind x11.Name x11.Many (GExpr.mk x11.By.Kind x11.By.N x11.By.S r12_1 x11.By.Kids) x11.Names x11.Exprs)) i2 fun x13 =>
    .ag 0 <|
    .cl (Yw r12_0 x13.By.Kids) fun ⟨r14_0, r14_1⟩ =>
    .ag 1 <|
    .sl (yc (GItem.mk x13.Kind x13.Name x13.Many (GExpr.mk x13.By.Kind x13.By.N x13.By.S x13.By.K r14_1) x13.Names x13.Exprs)) (((((((e0.set i2 (GItem.mk a0 x3.Name x3.Many x3.By x3.Names x3.Exprs)).set i2 (GItem.mk x4.Kind r5_1 x4.Many x4.By x4.Names x4.Exprs)).set i2 (GItem.mk x6.Kind x6.Name r5_0 x6.By x6.Names x6.Exprs)).set i2 (GItem.mk x7.Kind x7.Name x7.Many (GExpr.mk (w64 (r5_0 + 1)) x7.By.N x7.By.S x7.By.K x7.By.Kids) x7.Names x7.Exprs)).set i2 (GItem.mk x8.Kind x8.Name x8.Many (GExpr.mk x8.By.Kind (w64 ((w64 (r5_0 + 1)) + 1)) x8.By.S x8.By.K x8.By.Kids) x8.Names x8.Exprs)).set i2 (GItem.mk x9.Kind x9.Name x9.Many (GExpr.mk x9.By.Kind x9.By.N r10_1 x9.By.K x9.By.Kids) x9.Names x9.Exprs)).set i2 (GItem.mk x11.Kind x11.Name x11.Many (GExpr.mk x11.By.Kind x11.By.N x11.By.S r12_1 x11.By.Kids) x11.Names x11.Exprs)) i2 <|
    .ag 12 <|
    .ix yc ((((((((e0.set i2 (GItem.mk a0 x3.Name x3.Many x3.By x3.Names x3.Exprs)).set i2 (GItem.mk x4.Kind r5_1 x4.Many x4.By x4.Names x4.Exprs)).set i2 (GItem.mk x6.Kind x6.Name r5_0 x6.By x6.Names x6.Exprs)).set i2 (GItem.mk x7.Kind x7.Name x7.Many (GExpr.mk (w64 (r5_0 + 1)) x7.By.N x7.By.S x7.By.K x7.By.Kids) x7.Names x7.Exprs)).set i2 (GItem.mk x8.Kind x8.Name x8.Many (GExpr.mk x8.By.Kind (w64 ((w64 (r5_0 + 1)) + 1)) x8.By.S x8.By.K x8.By.Kids) x8.Names x8.Exprs)).set i2 (GItem.mk x9.Kind x9.Name x9.Many (GExpr.mk x9.By.Kind x9.By.N r10_1 x9.By.K x9.By.Kids) x9.Names x9.Exprs)).set i2 (GItem.mk x11.Kind x11.Name x11.Many (GExpr.mk x11.By.Kind x11.By.N x11.By.S r12_1 x11.By.Kids) x11.Names x11.Exprs)).set i2 (GItem.mk x13.Kind x13.Name x13.Many (GExpr.mk x13.By.Kind x13.By.N x13.By.S x13.By.K r14_1) x13.Names x13.Exprs)) i2 fun x15 =>
    .ag 0 <|
    .cl (kz r14_0 x15.Names) fun ⟨r16_0, r16_1⟩ =>
    .ag 1 <|
    .sl (yc (GItem.mk x15.Kind x15.Name x15.Many x15.By r16_1 x15.Exprs)) ((((((((e0.set i2 (GItem.mk a0 x3.Name x3.Many x3.By x3.Names x3.Exprs)).set i2 (GItem.mk x4.Kind r5_1 x4.Many x4.By x4.Names x4.Exprs)).set i2 (GItem.mk x6.Kind x6.Name r5_0 x6.By x6.Names x6.Exprs)).set i2 (GItem.mk x7.Kind x7.Name x7.Many (GExpr.mk (w64 (r5_0 + 1)) x7.By.N x7.By.S x7.By.K x7.By.Kids) x7.Names x7.Exprs)).set i2 (GItem.mk x8.Kind x8.Name x8.Many (GExpr.mk x8.By.Kind (w64 ((w64 (r5_0 + 1)) + 1)) x8.By.S x8.By.K x8.By.Kids) x8.Names x8.Exprs)).set i2 (GItem.mk x9.Kind x9.Name x9.Many (GExpr.mk x9.By.Kind x9.By.N r10_1 x9.By.K x9.By.Kids) x9.Names x9.Exprs)).set i2 (GItem.mk x11.Kind x11.Name x11.Many (GExpr.mk x11.By.Kind x11.By.N x11.By.S r12_1 x11.By.Kids) x11.Names x11.Exprs)).set i2 (GItem.mk x13.Kind x13.Name x13.Many (GExpr.mk x13.By.Kind x13.By.N x13.By.S x13.By.K r14_1) x13.Names x13.Exprs)) i2 <|
    .ag 14 <|
    .ix yc (((((((((e0.set i2 (GItem.mk a0 x3.Name x3.Many x3.By x3.Names x3.Exprs)).set i2 (GItem.mk x4.Kind r5_1 x4.Many x4.By x4.Names x4.Exprs)).set i2 (GItem.mk x6.Kind x6.Name r5_0 x6.By x6.Names x6.Exprs)).set i2 (GItem.mk x7.Kind x7.Name x7.Many (GExpr.mk (w64 (r5_0 + 1)) x7.By.N x7.By.S x7.By.K x7.By.Kids) x7.Names x7.Exprs)).set i2 (GItem.mk x8.Kind x8.Name x8.Many (GExpr.mk x8.By.Kind (w64 ((w64 (r5_0 + 1)) + 1)) x8.By.S x8.By.K x8.By.Kids) x8.Names x8.Exprs)).set i2 (GItem.mk x9.Kind x9.Name x9.Many (GExpr.mk x9.By.Kind x9.By.N r10_1 x9.By.K x9.By.Kids) x9.Names x9.Exprs)).set i2 (GItem.mk x11.Kind x11.Name x11.Many (GExpr.mk x11.By.Kind x11.By.N x11.By.S r12_1 x11.By.Kids) x11.Names x11.Exprs)).set i2 (GItem.mk x13.Kind x13.Name x13.Many (GExpr.mk x13.By.Kind x13.By.N x13.By.S x13.By.K r14_1) x13.Names x13.Exprs)).set i2 (GItem.mk x15.Kind x15.Name x15.Many x15.By r16_1 x15.Exprs)) i2 fun x17 =>
    .ag 0 <|
    .cl (Yw r16_0 x17.Exprs) fun ⟨r18_0, r18_1⟩ =>
    .ag 1 <|
    .sl (yc (GItem.mk x17.Kind x17.Name x17.Many x17.By x17.Names r18_1)) (((((((((e0.set i2 (GItem.mk a0 x3.Name x3.Many x3.By x3.Names x3.Exprs)).set i2 (GItem.mk x4.Kind r5_1 x4.Many x4.By x4.Names x4.Exprs)).set i2 (GItem.mk x6.Kind x6.Name r5_0 x6.By x6.Names x6.Exprs)).set i2 (GItem.mk x7.Kind x7.Name x7.Many (GExpr.mk (w64 (r5_0 + 1)) x7.By.N x7.By.S x7.By.K x7.By.Kids) x7.Names x7.Exprs)).set i2 (GItem.mk x8.Kind x8.Name x8.Many (GExpr.mk x8.By.Kind (w64 ((w64 (r5_0 + 1)) + 1)) x8.By.S x8.By.K x8.By.Kids) x8.Names x8.Exprs)).set i2 (GItem.mk x9.Kind x9.Name x9.Many (GExpr.mk x9.By.Kind x9.By.N r10_1 x9.By.K x9.By.Kids) x9.Names x9.Exprs)).set i2 (GItem.mk x11.Kind x11.Name x11.Many (GExpr.mk x11.By.Kind x11.By.N x11.By.S r12_1 x11.By.Kids) x11.Names x11.Exprs)).set i2 (GItem.mk x13.Kind x13.Name x13.Many (GExpr.mk x13.By.Kind x13.By.N x13.By.S x13.By.K r14_1) x13.Names x13.Exprs)).set i2 (GItem.mk x15.Kind x15.Name x15.Many x15.By r16_1 x15.Exprs)) i2 <|
    .go (ih r18_0 (w64 (v1 + 1)) ((((((((((e0.set i2 (GItem.mk a0 x3.Name x3.Many x3.By x3.Names x3.Exprs)).set i2 (GItem.mk x4.Kind r5_1 x4.Many x4.By x4.Names x4.Exprs)).set i2 (GItem.mk x6.Kind x6.Name r5_0 x6.By x6.Names x6.Exprs)).set i2 (GItem.mk x7.Kind x7.Name x7.Many (GExpr.mk (w64 (r5_0 + 1)) x7.By.N x7.By.S x7.By.K x7.By.Kids) x7.Names x7.Exprs)).set i2 (GItem.mk x8.Kind x8.Name x8.Many (GExpr.mk x8.By.Kind (w64 ((w64 (r5_0 + 1)) + 1)) x8.By.S x8.By.K x8.By.Kids) x8.Names x8.Exprs)).set i2 (GItem.mk x9.Kind x9.Name x9.Many (GExpr.mk x9.By.Kind x9.By.N r10_1 x9.By.K x9.By.Kids) x9.Names x9.Exprs)).set i2 (GItem.mk x11.Kind x11.Name x11.Many (GExpr.mk x11.By.Kind x11.By.N x11.By.S r12_1 x11.By.Kids) x11.Names x11.Exprs)).set i2 (GItem.mk x13.Kind x13.Name x13.Many (GExpr.mk x13.By.Kind x13.By.N x13.By.S x13.By.K r14_1) x13.Names x13.Exprs)).set i2 (GItem.mk x15.Kind x15.Name x15.Many x15.By r16_1 x15.Exprs)).set i2 (GItem.mk x17.Kind x17.Name x17.Many x17.By x17.Names r18_1)))) fun c1 =>
   .ret (a0, v1, e0))
def vS (n : Nat) (a0 : Int) (e0 : (List GItem)) : Option (Int × (List GItem)) :=
 (xu n a0 0 e0).bind fun ⟨o1_0, o1_1, o1_2⟩ =>
 some (o1_0, o1_2)
theorem KV (n : Nat) : Xc (vS n) := fun a0 e0 => tc (
 .lp (WL n a0 0 e0) fun ⟨o1_0, o1_1, o1_2⟩ =>
 .ret (o1_0, o1_2)) (zw Tryd.func19)
theorem Tb : ∀ (l p : List GItem) (k : Int) (m : Nat), 0 <= k → k + 4 * yE l <= 2 ^ 39 → p.length + l.length <= 2 ^ 40 → l.length < m → ∃ z, xu m k (p.length : Int) (p ++ l) = some (k + Yr l, z, p ++ Jq k l) := by
 intro l
 induction l with
 | nil =>
  intro p k m _ _ _ hm
  obtain ⟨m, rfl, _⟩ := zi hm
  exact ⟨_, by rw [xu, if_neg (We p)]; simp [Jq, Yr]; rfl⟩
 | cons x l ih =>
  intro p k m h0 h1 h2 hm
  obtain ⟨m, rfl, hm'⟩ := zi hm
  simp only [List.length_cons] at h2 hm'
  have hc := Nr x
  simp only [yE] at h1
  obtain ⟨z, hz⟩ := ih (p ++ [mIt k x]) (k + cIt x) m (by omega) (by omega) (by simp; omega) (by omega)
  have b1 := xN x.By
  have b2 := Bl x.By
  have b3 := ZV x.By.K
  have b4 := Wg x.By.Kids
  have b5 := U0 x.By
  have b6 := ZV x.Names
  have b7 := Wg x.Exprs
  have hmE : mIt k x = .mk k (mB (k + 1) x.Name) (k + 1 + x.Name.length) (mX (k + 1 + x.Name.length + 1) x.By) (mBB (k + 1 + x.Name.length + 1 + cX x.By) x.Names) (mXs (k + 1 + x.Name.length + 1 + cX x.By + cB x.Names) x.Exprs) := rfl
  have hcE : cIt x = 2 + x.Name.length + cX x.By + cB x.Names + cXs x.Exprs := rfl
  have q1 := Bm (k + 1 + x.Name.length + 1) x.By
  have fin : some (k + ((cIt x : Nat) : Int) + ((Yr l : Nat) : Int), z, p ++ [mIt k x] ++ Jq (k + cIt x) l) = some (k + ((Yr (x :: l) : Nat) : Int), z, p ++ Jq k (x :: l)) := by
   simp only [Jq, Yr, List.append_assoc, List.singleton_append]
   rw [show k + ((cIt x : Nat) : Int) + ((Yr l : Nat) : Int) = k + ((cIt x + Yr l : Nat) : Int) by omega]
  unfold itz at h1 hc
  refine ⟨z, Eq.trans ?_ (hz.trans fin)⟩
  clear hz fin ih
  generalize mIt k x = mx at *
  generalize cIt x = cx at *
  generalize cX x.By = co at *
  generalize xsz x.By = vo at *
  generalize hmo : mX (k + 1 + x.Name.length + 1) x.By = mo at *
  subst hmE
  obtain ⟨kd, nm, my, ⟨ok, on, os, okk, ol⟩, ns, es⟩ := x
  simp only [GItem.Name, GItem.By, GItem.Names, GItem.Exprs, GExpr.S, GExpr.K, GExpr.Kids] at *
  rw [xu, if_pos (Jm p _ l), zg, Option.bind_some, zN, Option.bind_some]
  simp only [wX, zN, Option.bind_some, GItem.Kind, GItem.Name, GItem.Many, GItem.By, GItem.Names, GItem.Exprs, GExpr.Kind, GExpr.N, GExpr.S, GExpr.K, GExpr.Kids]
  rw [yF (x := k + 1) (by omega) (by omega), kw (by omega) (by omega)]
  simp only [wX, zN, Option.bind_some, GItem.Kind, GItem.Name, GItem.Many, GItem.By, GItem.Names, GItem.Exprs, GExpr.Kind, GExpr.N, GExpr.S, GExpr.K, GExpr.Kids]
  rw [yF (x := k + 1 + (nm.length : Int) + 1) (by omega) (by omega), yF (x := k + 1 + (nm.length : Int) + 1 + 1) (by omega) (by omega), yF (x := k + 1 + (nm.length : Int) + 1 + 1 + 1) (by omega) (by omega), kw (by omega) (by omega)]
  simp only [wX, zN, Option.bind_some, GItem.Kind, GItem.Name, GItem.Many, GItem.By, GItem.Names, GItem.Exprs, GExpr.Kind, GExpr.N, GExpr.S, GExpr.K, GExpr.Kids]
  rw [Yo (by omega) (by omega)]
  simp only [wX, zN, Option.bind_some, GItem.Kind, GItem.Name, GItem.Many, GItem.By, GItem.Names, GItem.Exprs, GExpr.Kind, GExpr.N, GExpr.S, GExpr.K, GExpr.Kids]
  rw [Jk (by omega) (by omega)]
  simp only [wX, zN, Option.bind_some, GItem.Kind, GItem.Name, GItem.Many, GItem.By, GItem.Names, GItem.Exprs, GExpr.Kind, GExpr.N, GExpr.S, GExpr.K, GExpr.Kids]
  rw [show k + 1 + (nm.length : Int) + 1 + 1 + 1 + (os.length : Int) + (cB okk : Int) + (cXs ol : Int) = k + 1 + (nm.length : Int) + 1 + (co : Int) by omega, Yo (by omega) (by omega)]
  simp only [wX, zN, Option.bind_some, GItem.Kind, GItem.Name, GItem.Many, GItem.By, GItem.Names, GItem.Exprs, GExpr.Kind, GExpr.N, GExpr.S, GExpr.K, GExpr.Kids]
  rw [Jk (by omega) (by omega)]
  simp only [wX, zN, Option.bind_some, GItem.Kind, GItem.Name, GItem.Many, GItem.By, GItem.Names, GItem.Exprs, GExpr.Kind, GExpr.N, GExpr.S, GExpr.K, GExpr.Kids]
  rw [<- q1, zZ p (GItem.mk k (mB (k + 1) nm) (k + 1 + nm.length) mo (mBB (k + 1 + nm.length + 1 + co) ns) (mXs (k + 1 + nm.length + 1 + co + cB ns) es)) (by omega), ZF p _ l,
   show k + 1 + (nm.length : Int) + 1 + (co : Int) + (cB ns : Int) + (cXs es : Int) = k + (cx : Int) by omega]
def qi (a0 : Int) (e0 : (List GItem)) : Option (Int × (List GItem)) := if 0 <= a0 ∧ a0 + 4 * yE e0 <= 2 ^ 39 then some (a0 + Yr e0, Jq a0 e0) else none
theorem P6 {a : Int} {s : List GItem} (h0 : 0 <= a) (h1 : a + 4 * yE s <= 2 ^ 39) : qi a s = some (a + Yr s, Jq a s) := if_pos ⟨h0, h1⟩
theorem Qz (a0 : Int) (e0 : (List GItem)) (r : (Int × (List GItem))) (h : qi a0 e0 = some r) : ∃ n, vS n a0 e0 = some r := by
 unfold qi at h
 obtain ⟨⟨h0, h1⟩, h⟩ := yg h
 have := ql e0
 obtain ⟨z, hz⟩ := Tb e0 [] a0 (e0.length + 1) h0 h1 (by simp; omega) (by omega)
 refine ⟨e0.length + 1, ?_⟩
 unfold vS
 simp only [List.nil_append, List.length_nil, Int.natCast_zero] at hz
 rw [hz]
 exact h
theorem Ke : Xc qi := fun a0 e0 r h => (Qz a0 e0 r h).elim fun n hn => KV n a0 e0 r hn
def Xd (F : (List UInt8) → Int → Option Int) : Prop := ∀ (a0 : (List UInt8)) (a1 : Int), Oc (F a0 a1) 13 [] [vq za a0, vi a1] fun r => (vi r, [])
def xv (a0 : (List UInt8)) : Nat → Int → Int → Option (Int ⊕ (Int × Int))
  | 0, _, _ => none
  | m + 1, a1, v2 =>
  if v2 < (a0.length : Int) then
   (z6 v2).bind fun i2 =>
   (a0[i2]?).bind fun x3 =>
   if ((x3.toNat : Nat) : Int) = (((b8 a1).toNat : Nat) : Int) then
    xv a0 m (w64 (a1 + 1)) (w64 (v2 + 1))
   else
   some (.inl (-1))
  else
  some (.inr (a1, v2))
theorem WM (a0 : (List UInt8)) (m : Nat) : ∀ (a1 : Int) (v2 : Int), Ol (xv a0 m a1 v2) 13 (zY Tryd.f13 0) ⟨[(0, vq za a0), (1, vi a1), (5, vi v2)], [], 0⟩ fun o => match o with | .inl o_0 => (.ret, ⟨[(4, vi o_0)], [], 0⟩) | .inr (⟨o_1_0, o_1_1⟩) => (.exit 0, ⟨[(0, vq za a0), (1, vi o_1_0), (5, vi o_1_1), (9, vb false)], [], 0⟩) := by
  induction m with
  | zero => intro a1 v2 o h; cases h
  | succ m ih => exact fun a1 v2 => tlp (
   .le za a0 <|
   .lI v2 (a0.length : Int) (fun c1 =>
    .na v2 fun i2 =>
    .ix0 za a0 i2 fun x3 =>
    .eI ((x3.toNat : Nat) : Int) (((b8 a1).toNat : Nat) : Int) (fun c4 =>
     .go (ih (w64 (a1 + 1)) (w64 (v2 + 1)))) fun c4 =>
    .ret (.inl (-1))) fun c1 =>
   .ret (.inr (a1, v2)))
def vT (n : Nat) (a0 : (List UInt8)) (a1 : Int) : Option Int :=
 (xv a0 n a1 0).bind fun o1 =>
 match o1 with
 | .inl o1_0 =>
  some o1_0
 | .inr (⟨o1_1_0, o1_1_1⟩) =>
  some o1_1_0
theorem KW (n : Nat) : Xd (vT n) := fun a0 a1 => tc (
 .l2 (WM a0 n a1 0) (fun o1_0 =>
  .ret o1_0) fun ⟨o1_1_0, o1_1_1⟩ =>
 .ret o1_1_0) (zw Tryd.func13)
theorem Td {a : List UInt8} : ∀ (l p : List UInt8) (k : Int) (m : Nat), a = p ++ l → mB k l = l → 0 <= k → k + 2 * l.length <= 2 ^ 41 → p.length + l.length <= 2 ^ 41 → l.length < m → ∃ z, xv a m k (p.length : Int) = some (.inr (k + l.length, z)) := by
 intro l
 induction l with
 | nil =>
  intro p k m ha _ _ _ _ hm
  subst ha
  obtain ⟨m, rfl, _⟩ := zi hm
  exact ⟨_, by rw [xv, if_neg (We p)]; simp; rfl⟩
 | cons x l ih =>
  intro p k m ha hm0 h0 h1 h2 hm
  obtain ⟨m, rfl, hm'⟩ := zi hm
  simp only [List.length_cons] at h1 h2 hm'
  rw [mB] at hm0
  obtain ⟨e1, e2⟩ := List.cons.inj hm0
  obtain ⟨z, hz⟩ := ih (p ++ [x]) (k + 1) m (by rw [ha]; simp) e2 (by omega) (by omega) (by simp; omega) (by omega)
  refine ⟨z, ?_⟩
  rw [xv, if_pos (by rw [ha]; exact Jm p x l), zg, Option.bind_some, show a[p.length]? = some x by rw [ha]; exact zN p x l, Option.bind_some, if_pos (by rw [e1]), zZ p x (by omega), yF (x := k + 1) (by omega) (by omega), hz]
  simp only [List.length_cons]
  rw [show k + 1 + (l.length : Int) = k + ((l.length + 1 : Nat) : Int) by omega]
def qj (a0 : (List UInt8)) (a1 : Int) : Option Int := if mB a1 a0 = a0 ∧ 0 <= a1 ∧ a1 + 2 * a0.length <= 2 ^ 41 then some (a1 + a0.length) else none
theorem P7 {a : Int} {s : List UInt8} (h : mB a s = s) (h0 : 0 <= a) (h1 : a + 2 * s.length <= 2 ^ 41) : qj s a = some (a + s.length) := if_pos ⟨h, h0, h1⟩
theorem Q0 (a0 : (List UInt8)) (a1 : Int) (r : Int) (h : qj a0 a1 = some r) : ∃ n, vT n a0 a1 = some r := by
 unfold qj at h
 obtain ⟨⟨he, h0, h1⟩, h⟩ := yg h
 obtain ⟨z, hz⟩ := Td (a := a0) a0 [] a1 (a0.length + 1) rfl he h0 h1 (by simp; omega) (by omega)
 refine ⟨a0.length + 1, ?_⟩
 unfold vT
 simp only [List.length_nil, Int.natCast_zero] at hz
 rw [hz]
 exact h
theorem Kf : Xd qj := fun a0 a1 r h => (Q0 a0 a1 r h).elim fun n hn => KW n a0 a1 r hn
def qk (a0 : (List GItem)) : Option Bool :=
 (qY a0 1048576).bind fun r1 =>
 if r1 < 0 then
  some true
 else
 (ja a0).bind fun r3 =>
 (qQ r3).bind fun r4 =>
 (wO r3).bind fun r5 =>
 (yC r5 r4).bind fun r6 =>
 match r6 with
 | true =>
  (wV r3 r3).bind fun r7 =>
  match r7 with
  | true =>
   (qi 1 r3).bind fun ⟨r8_0, r8_1⟩ =>
   if r8_0 < 0 then
    none
   else
   (yJ 1 r5).bind fun ⟨r10_0, r10_1⟩ =>
   (qj r10_1 1).bind fun r11 =>
   if r11 < 0 then
    none
   else
   if r11 = r10_0 then
    some true
   else
   none
  | false =>
   none
 | false =>
  none
theorem ok_laws_FnExactConfigText (a0 : (List GItem)) : Oc (qk a0) 4 [] [vq zo a0] fun r => (vb r, []) := tc (
 .cl (VB a0 1048576) fun r1 =>
 .lI r1 0 (fun c2 =>
  .ret true) fun c2 =>
 .cl (VE a0) fun r3 =>
 .vo Wc r3 <|
 .cl (QZ r3) fun r4 =>
 .cn jp r4 <|
 .ag 1 <|
 .vo Wc r3 <|
 .cl (Je r3) fun r5 =>
 .cn jp r5 <|
 .vw zb r5 <|
 .vw zb r4 <|
 .cl (jV r5 r4) fun r6 =>
 .vN 0 r6 (
  .ag 4 <|
  .vo Wc r3 <|
  .vo Wc r3 <|
  .cl (VR r3 r3) fun r7 =>
  .vN 0 r7 (
   .cl (Ke 1 r3) fun ⟨r8_0, r8_1⟩ =>
   .lI r8_0 0 (fun c9 =>
    .no) fun c9 =>
   .vw zb r5 <|
   .vw zb r4 <|
   .ag 4 <|
   .an 2 3 <|
   .cl (wP 1 r5) fun ⟨r10_0, r10_1⟩ =>
   .vw zb r10_1 <|
   .cl (Kf r10_1 1) fun r11 =>
   .lI r11 0 (fun c12 =>
    .no) fun c12 =>
   .eI r11 r10_0 (fun c13 =>
    .ag 9 <|
    .vo Wc r3 <|
    .ag 7 <|
    .cn jp r5 <|
    .vw zb r5 <|
    .vw zb r4 <|
    .ag 6 <|
    .an 0 5 <|
    .vw zb r10_1 <|
    .ag 0 <|
    .q (.lF c12) <|
    .q (.eT c13) <|
    .ret true) fun c13 =>
   .no) <|
  .no) <|
 .no) (zw Tryd.func4)
end
end Go.Am.Try
