
/- The functions of the program in plain Lean, and that the machine answers as they do; conditions at each theorem. -/
import Derived.Test.YtjmhaigcaidloaaGreatDoorXG3
set_option linter.unusedVariables false
set_option linter.unusedSimpArgs false
namespace Go.Am.Try
open Go.Am Go.Proofs
set_option linter.unusedVariables false
set_option maxRecDepth 20000
set_option maxHeartbeats 2000000
noncomputable section
def wE (a0 : GState) (a1 : GEvent) : Option (GState × Bool) :=
 (xh a0).bind fun r1 =>
 (jU a0 a1).bind fun r2 =>
 match r2 with
 | true =>
  (ye (GState.mk (w64 (r1.Serial + 1)) r1.Open r1.Pending r1.Act r1.Entries) a1.Addr).bind fun ⟨r3_0, r3_1⟩ =>
  if a1.Kind = 0 then
   some ((GState.mk (w64 (r1.Serial + 1)) true r1.Pending r1.Act r1.Entries), true)
  else
  if a1.Kind = 1 then
   (zU a1.Addr).bind fun r6 =>
   some ((GState.mk (w64 (r1.Serial + 1)) r1.Open r6 a1.Act r1.Entries), true)
  else
  if a1.Kind = 2 then
   (zU a1.Addr).bind fun r7 =>
   (xY a1.Val).bind fun r8 =>
   (yO a1.Deps).bind fun r9 =>
   match r3_1 with
   | true =>
    (zv r3_0).bind fun i10 =>
    (r1.Entries[i10]?).bind fun x11 =>
    some ((GState.mk (w64 (r1.Serial + 1)) r1.Open [] 0 (r1.Entries.set i10 (GEntry.mk r7 r8 r9 false (w64 (r1.Serial + 1))))), true)
   | false =>
    (w6 r3_0 r1.Entries [(GEntry.mk r7 r8 r9 false (w64 (r1.Serial + 1)))]).bind fun r10 =>
    some ((GState.mk (w64 (r1.Serial + 1)) r1.Open [] 0 r10), true)
  else
  if a1.Kind = 3 then
   (w7 r3_0 (w64 (r3_0 + 1)) r1.Entries).bind fun r8 =>
   some ((GState.mk (w64 (r1.Serial + 1)) r1.Open [] 0 r8), true)
  else
  if a1.Kind = 4 then
   (qz false (w64 (r1.Serial + 1)) r1.Open r1.Act r1.Pending r1.Entries).bind fun r9 =>
   some ((GState.mk r9.Serial true [] 0 r9.Entries), true)
  else
  if a1.Kind = 6 then
   (qz true (w64 (r1.Serial + 1)) r1.Open r1.Act r1.Pending r1.Entries).bind fun r10 =>
   some ((GState.mk r10.Serial false [] 0 r10.Entries), true)
  else
  if a1.Kind = 5 then
   some ((GState.mk (w64 (r1.Serial + 1)) false [] 0 r1.Entries), true)
  else
  some ((GState.mk (w64 (r1.Serial + 1)) r1.Open [] 0 r1.Entries), true)
 | false =>
  some (r1, false)
theorem Te (a0 : GState) (a1 : GEvent) : Oc (wE a0 a1) 80 [] [.val true (zV a0), .val true (jq a1)] fun r => (.tup [(true, (Zf r.1)), (false, [.bool r.2])], []) := tc (
 .cl (XR a0) fun r1 =>
 .cl (Vt a0 a1) fun r2 =>
 .vN 0 r2 (
  .vw zF r1.Pending <|
  .vo zL r1.Entries <|
  .cl (qE (GState.mk (w64 (r1.Serial + 1)) r1.Open r1.Pending r1.Act r1.Entries) a1.Addr) fun ⟨r3_0, r3_1⟩ =>
  .eI a1.Kind 0 (fun c4 =>
   .ret ((GState.mk (w64 (r1.Serial + 1)) true r1.Pending r1.Act r1.Entries), true)) fun c4 =>
  .eI a1.Kind 1 (fun c5 =>
   .cl (xA a1.Addr) fun r6 =>
   .ret ((GState.mk (w64 (r1.Serial + 1)) r1.Open r6 a1.Act r1.Entries), true)) fun c5 =>
  .eI a1.Kind 2 (fun c6 =>
   .cl (xA a1.Addr) fun r7 =>
   .cl (XQ a1.Val) fun r8 =>
   .cl (ZC a1.Deps) fun r9 =>
   .vM 0 r3_1 (
    .na r3_0 fun i10 =>
    .ix z7 r1.Entries i10 fun x11 =>
    .ag 0 <|
    .sl (z7 (GEntry.mk r7 r8 r9 false (w64 (r1.Serial + 1)))) r1.Entries i10 <|
    .ret ((GState.mk (w64 (r1.Serial + 1)) r1.Open [] 0 (r1.Entries.set i10 (GEntry.mk r7 r8 r9 false (w64 (r1.Serial + 1))))), true)) <|
   .cl (ZQ r3_0 r1.Entries [(GEntry.mk r7 r8 r9 false (w64 (r1.Serial + 1)))]) fun r10 =>
   .ret ((GState.mk (w64 (r1.Serial + 1)) r1.Open [] 0 r10), true)) fun c6 =>
  .eI a1.Kind 3 (fun c7 =>
   .cl (QB r3_0 (w64 (r3_0 + 1)) r1.Entries) fun r8 =>
   .ret ((GState.mk (w64 (r1.Serial + 1)) r1.Open [] 0 r8), true)) fun c7 =>
  .eI a1.Kind 4 (fun c8 =>
   .q (.eFo a1.Kind 6 (by omega)) <|
   .cl (YQ false (w64 (r1.Serial + 1)) r1.Open r1.Act r1.Pending r1.Entries) fun r9 =>
   .q (.eT c8) <|
   .ret ((GState.mk r9.Serial true [] 0 r9.Entries), true)) fun c8 =>
  .eI a1.Kind 6 (fun c9 =>
   .q (.eT c9) <|
   .cl (YQ true (w64 (r1.Serial + 1)) r1.Open r1.Act r1.Pending r1.Entries) fun r10 =>
   .q (.eF c8) <|
   .ret ((GState.mk r10.Serial false [] 0 r10.Entries), true)) fun c9 =>
  .eI a1.Kind 5 (fun c10 =>
   .ret ((GState.mk (w64 (r1.Serial + 1)) false [] 0 r1.Entries), true)) fun c10 =>
  .ret ((GState.mk (w64 (r1.Serial + 1)) r1.Open [] 0 r1.Entries), true)) <|
 .ret (r1, false)) (zf Tryz.func80)
def Yn (F : GHistory → Option ((List GState) × Bool)) : Prop := ∀ (a0 : GHistory), Oc (F a0) 91 [] [.val true (yD a0)] fun r => (.tup [(false, [.own 5 (eL Ze r.1)]), (false, [.bool r.2])], [])
def yG (v0 : (List GEvent)) (v1 : Int) : Nat → Int → (List GState) → Option ((Bool × (List GState)) ⊕ (Int × (List GState)))
  | 0, _, _ => none
  | m + 1, v2, v3 =>
  if v2 < v1 then
   (zv v2).bind fun i2 =>
   (v0[i2]?).bind fun x3 =>
   (Z2 x3).bind fun r4 =>
   match r4 with
   | true =>
    (v3[i2]?).bind fun x5 =>
    (wE x5 x3).bind fun ⟨r6_0, r6_1⟩ =>
    ((v3.set i2 x5)[i2]?).bind fun x7 =>
    match r6_1 with
    | true =>
     if yr 72 (((v3.set i2 x5).set i2 (GState.mk x7.Serial x7.Open x7.Pending x7.Act x5.Entries)).length + [r6_0].length) then
     yG v0 v1 m (w64 (v2 + 1)) (((v3.set i2 x5).set i2 (GState.mk x7.Serial x7.Open x7.Pending x7.Act x5.Entries)) ++ [r6_0])
     else none
    | false =>
     some (.inl (false, []))
   | false =>
    some (.inl (false, []))
  else
  some (.inr (v2, v3))
theorem Wm (v0 : (List GEvent)) (v1 : Int) (m : Nat) : ∀ (v2 : Int) (v3 : (List GState)), Ol (yG v0 v1 m v2 v3) 91 (zO Tryz.f91 0) ⟨[(4, vr 0), (33, vq zD v0), (34, vi v1), (35, vi v2)], [.obj 5 (eL Ze v3)], 0⟩ fun o => match o with | .inl ⟨o_0_0, o_0_1⟩ => (.ret, ⟨[(2, vr 0), (3, vb o_0_0)], [.obj 5 (eL Ze o_0_1)], 0⟩) | .inr (⟨o_1_0, o_1_1⟩) => (.exit 0, ⟨[(4, vr 0), (33, vq zD v0), (34, vi v1), (35, vi o_1_0), (36, vb false)], [.obj 5 (eL Ze o_1_1)], 0⟩) := by
  induction m with
  | zero => intro v2 v3 o h; cases h
  | succ m ih => exact fun v2 v3 => tlp (
   .lI v2 v1 (fun c1 =>
    .na v2 fun i2 =>
    .ix kE v0 i2 fun x3 =>
    .cl (Ut x3) fun r4 =>
    .vN 0 r4 (
     .ag 3 <|
     .ix YM v3 i2 fun x5 =>
     .ag 0 <|
     .vw zF x5.Pending <|
     .vo zL x5.Entries <|
     .cl (Te x5 x3) fun ⟨r6_0, r6_1⟩ =>
     .cn jg r6_0.Pending <|
     .cn zL r6_0.Entries <|
     .ag 1 <|
     .sl (YM x5) v3 i2 <|
     .ix YM (v3.set i2 x5) i2 fun x7 =>
     .sl (YM (GState.mk x7.Serial x7.Open x7.Pending x7.Act x5.Entries)) (v3.set i2 x5) i2 <|
     .vN 0 r6_1 (
      .ao 72 DU ((v3.set i2 x5).set i2 (GState.mk x7.Serial x7.Open x7.Pending x7.Act x5.Entries)) [r6_0] fun n8 =>
      .go (ih (w64 (v2 + 1)) (((v3.set i2 x5).set i2 (GState.mk x7.Serial x7.Open x7.Pending x7.Act x5.Entries)) ++ [r6_0]))) <|
     .ret (.inl (false, []))) <|
    .ret (.inl (false, []))) fun c1 =>
   .ret (.inr (v2, v3)))
def qF (n : Nat) (a0 : GHistory) : Option ((List GState) × Bool) :=
 (km a0.Base).bind fun r1 =>
 match r1 with
 | true =>
  if 300 < (a0.Events.length : Int) then
   some ([], false)
  else
  (y4 a0.Safe 0 (a0.Events.length : Int)).bind fun r3 =>
  match r3 with
  | true =>
   (xh a0.Base).bind fun r4 =>
   (yG a0.Events (a0.Events.length : Int) n 0 [r4]).bind fun o5 =>
   match o5 with
   | .inl ⟨o5_0_0, o5_0_1⟩ =>
    some (o5_0_1, o5_0_0)
   | .inr (⟨o5_1_0, o5_1_1⟩) =>
    some (o5_1_1, true)
  | false =>
   some ([], false)
 | false =>
  some ([], false)
theorem QT (n : Nat) : Yn (qF n) := fun a0 => tc (
 .cl (Us a0.Base) fun r1 =>
 .vN 0 r1 (
  .an 0 0 <|
  .an 0 0 <|
  .le zD a0.Events <|
  .an 0 0 <|
  .lI 300 (a0.Events.length : Int) (fun c2 =>
   .an 0 0 <|
   .ret ([], false)) fun c2 =>
  .an 0 0 <|
  .le zD a0.Events <|
  .cl (wC a0.Safe 0 (a0.Events.length : Int)) fun r3 =>
  .vN 2 r3 (
   .cl (XR a0.Base) fun r4 =>
   .le zD a0.Events <|
   .l2 (Wm a0.Events (a0.Events.length : Int) n 0 [r4]) (fun ⟨o5_0_0, o5_0_1⟩ =>
    .ret (o5_0_1, o5_0_0)) fun ⟨o5_1_0, o5_1_1⟩ =>
   .ret (o5_1_1, true)) <|
  .ret ([], false)) <|
 .an 0 0 <|
 .an 0 0 <|
 .an 0 0 <|
 .an 0 0 <|
 .ret ([], false)) (zf Tryz.func91)
def wt (a0 : GHistory) : Option ((List GState) × Bool) := qF (a0.Events.length + 5) a0
theorem WG (a0 : GHistory) (r : ((List GState) × Bool)) (h : wt a0 = some r) : ∃ n, qF n a0 = some r := ⟨_, h⟩
theorem Q9 : Yn wt := fun a0 r h => (WG a0 r h).elim fun n hn => QT n a0 r hn
def ZX (a0 : GHistory) (a1 : Int) : Option (GState × Bool) :=
 (wt a0).bind fun ⟨r1_0, r1_1⟩ =>
 match r1_1 with
 | true =>
  (y4 a1 a0.Base.Serial (w64 (a0.Base.Serial + (a0.Events.length : Int)))).bind fun r2 =>
  match r2 with
  | true =>
   (zv (w64 (a1 - a0.Base.Serial))).bind fun i3 =>
   (r1_0[i3]?).bind fun x4 =>
   some (x4, true)
  | false =>
   some ((GState.mk 0 false [] 0 []), false)
 | false =>
  some ((GState.mk 0 false [] 0 []), false)
theorem PA (a0 : GHistory) (a1 : Int) : Oc (ZX a0 a1) 35 [] [.val true (yD a0), vi a1] fun r => (.tup [(true, (Zf r.1)), (false, [.bool r.2])], []) := tc (
 .cl (Q9 a0) fun ⟨r1_0, r1_1⟩ =>
 .vN 0 r1_1 (
  .an 0 0 <|
  .an 0 0 <|
  .an 0 0 <|
  .an 0 0 <|
  .an 0 0 <|
  .an 0 0 <|
  .an 0 0 <|
  .an 0 0 <|
  .an 0 0 <|
  .le zD a0.Events <|
  .an 0 0 <|
  .an 0 0 <|
  .cl (wC a1 a0.Base.Serial (w64 (a0.Base.Serial + (a0.Events.length : Int)))) fun r2 =>
  .an 0 1 <|
  .an 0 1 <|
  .vN 0 r2 (
   .na (w64 (a1 - a0.Base.Serial)) fun i3 =>
   .ix YM r1_0 i3 fun x4 =>
   .ag 0 <|
   .ret (x4, true)) <|
  .ret ((GState.mk 0 false [] 0 []), false)) <|
 .an 0 0 <|
 .an 0 0 <|
 .an 0 0 <|
 .an 0 0 <|
 .an 0 0 <|
 .an 0 0 <|
 .an 0 0 <|
 .an 0 0 <|
 .an 0 0 <|
 .an 0 0 <|
 .an 0 0 <|
 .an 0 0 <|
 .an 0 0 <|
 .ret ((GState.mk 0 false [] 0 []), false)) (zf Tryz.func35)
def QU (F : (List UInt8) → (List UInt8) → Option Bool) : Prop := ∀ (a0 : (List UInt8)) (a1 : (List UInt8)), Oc (F a0 a1) 38 [] [vq za a0, vq za a1] fun r => (vb r, [])
def wJ (a0 : (List UInt8)) (a1 : (List UInt8)) : Nat → Int → Option (Bool ⊕ Int)
  | 0, _ => none
  | m + 1, v2 =>
  if v2 < (a0.length : Int) then
   (zv v2).bind fun i2 =>
   (a0[i2]?).bind fun x3 =>
   (a1[i2]?).bind fun x4 =>
   if ((x3.toNat : Nat) : Int) = ((x4.toNat : Nat) : Int) then
    wJ a0 a1 m (w64 (v2 + 1))
   else
   some (.inl false)
  else
  some (.inr v2)
theorem Vu (a0 : (List UInt8)) (a1 : (List UInt8)) (m : Nat) : ∀ (v2 : Int), Ol (wJ a0 a1 m v2) 38 (zO Tryz.f38 0) ⟨[(0, vq za a0), (1, vq za a1), (5, vi v2)], [], 0⟩ fun o => match o with | .inl o_0 => (.ret, ⟨[(4, vb o_0)], [], 0⟩) | .inr (o_1) => (.exit 0, ⟨[(0, vq za a0), (1, vq za a1), (5, vi o_1), (14, vb false)], [], 0⟩) := by
  induction m with
  | zero => intro v2 o h; cases h
  | succ m ih => exact fun v2 => tlp (
   .le za a0 <|
   .lI v2 (a0.length : Int) (fun c1 =>
    .na v2 fun i2 =>
    .ix0 za a0 i2 fun x3 =>
    .ag 1 <|
    .ix0 za a1 i2 fun x4 =>
    .eI ((x3.toNat : Nat) : Int) ((x4.toNat : Nat) : Int) (fun c5 =>
     .go (ih (w64 (v2 + 1)))) fun c5 =>
    .ret (.inl false)) fun c1 =>
   .ret (.inr v2))
def Xf (n : Nat) (a0 : (List UInt8)) (a1 : (List UInt8)) : Option Bool :=
 if (a0.length : Int) = (a1.length : Int) then
  (wJ a0 a1 n 0).bind fun o2 =>
  match o2 with
  | .inl o2_0 =>
   some o2_0
  | .inr (o2_1) =>
   some true
 else
 some false
theorem PB (n : Nat) : QU (Xf n) := fun a0 a1 => tc (
 .le za a0 <|
 .le za a1 <|
 .eI (a0.length : Int) (a1.length : Int) (fun c1 =>
  .l2 (Vu a0 a1 n 0) (fun o2_0 =>
   .ret o2_0) fun o2_1 =>
  .ret true) fun c1 =>
 .ret false) (zf Tryz.func38)
theorem Mz {a : List UInt8} (ha : a.length <= 2 ^ 40) : ∀ (d i m : Nat), i + d = a.length → d < m → ∃ z, wJ a a m (i : Int) = some (.inr z) := by
 intro d
 induction d with
 | zero =>
  intro i m hi hm
  obtain ⟨m, rfl, _⟩ := zg hm
  exact ⟨_, by rw [wJ, if_neg (by omega)]⟩
 | succ d ih =>
  intro i m hi hm
  obtain ⟨m, rfl, hm'⟩ := zg hm
  have hil : i < a.length := by omega
  rw [wJ, if_pos (by omega), zd, Option.bind_some, zl hil, Option.bind_some, Option.bind_some, if_pos rfl, zG (by omega)]
  exact ih (i + 1) m (by omega) (by omega)
def yk (a0 : (List UInt8)) (a1 : (List UInt8)) : Option Bool := if a0 = a1 ∧ a0.length <= 2 ^ 40 then some true else none
theorem Rl (a0 : (List UInt8)) (a1 : (List UInt8)) (r : Bool) (h : yk a0 a1 = some r) : ∃ n, Xf n a0 a1 = some r := by
 unfold yk at h
 obtain ⟨⟨he, ha⟩, h2⟩ := zE h
 clear h
 subst he
 refine ⟨a0.length + 1, ?_⟩
 obtain ⟨z, hz⟩ := Mz ha a0.length 0 (a0.length + 1) (by omega) (by omega)
 rw [show ((0 : Nat) : Int) = 0 from rfl] at hz
 unfold Xf
 rw [if_pos rfl, hz]; exact h2
theorem qG : QU yk := fun a0 a1 r h => (Rl a0 a1 r h).elim fun n hn => PB n a0 a1 r hn
def Qt (F : (List (List UInt8)) → (List (List UInt8)) → Option Bool) : Prop := ∀ (a0 : (List (List UInt8))) (a1 : (List (List UInt8))), Oc (F a0 a1) 63 [] [vq (zr za) a0, vq (zr za) a1] fun r => (vb r, [])
def wu (a0 : (List (List UInt8))) (a1 : (List (List UInt8))) : Nat → Int → Option (Bool ⊕ Int)
  | 0, _ => none
  | m + 1, v2 =>
  if v2 < (a0.length : Int) then
   (zv v2).bind fun i2 =>
   (a0[i2]?).bind fun x3 =>
   (a1[i2]?).bind fun x4 =>
   (yk x3 x4).bind fun r5 =>
   match r5 with
   | true =>
    wu a0 a1 m (w64 (v2 + 1))
   | false =>
    some (.inl false)
  else
  some (.inr v2)
theorem Kt (a0 : (List (List UInt8))) (a1 : (List (List UInt8))) (m : Nat) : ∀ (v2 : Int), Ol (wu a0 a1 m v2) 63 (zO Tryz.f63 0) ⟨[(0, vq (zr za) a0), (1, vq (zr za) a1), (5, vi v2)], [], 0⟩ fun o => match o with | .inl o_0 => (.ret, ⟨[(4, vb o_0)], [], 0⟩) | .inr (o_1) => (.exit 0, ⟨[(0, vq (zr za) a0), (1, vq (zr za) a1), (5, vi o_1), (14, vb false)], [], 0⟩) := by
  induction m with
  | zero => intro v2 o h; cases h
  | succ m ih => exact fun v2 => tlp (
   .le (zr za) a0 <|
   .lI v2 (a0.length : Int) (fun c1 =>
    .na v2 fun i2 =>
    .ix0 (zr za) a0 i2 fun x3 =>
    .ag 1 <|
    .ix0 (zr za) a1 i2 fun x4 =>
    .cl (qG x3 x4) fun r5 =>
    .vN 0 r5 (
     .go (ih (w64 (v2 + 1)))) <|
    .ret (.inl false)) fun c1 =>
   .ret (.inr v2))
def YG (n : Nat) (a0 : (List (List UInt8))) (a1 : (List (List UInt8))) : Option Bool :=
 if (a0.length : Int) = (a1.length : Int) then
  (wu a0 a1 n 0).bind fun o2 =>
  match o2 with
  | .inl o2_0 =>
   some o2_0
  | .inr (o2_1) =>
   some true
 else
 some false
theorem Uu (n : Nat) : Qt (YG n) := fun a0 a1 => tc (
 .le (zr za) a0 <|
 .le (zr za) a1 <|
 .eI (a0.length : Int) (a1.length : Int) (fun c1 =>
  .l2 (Kt a0 a1 n 0) (fun o2_0 =>
   .ret o2_0) fun o2_1 =>
  .ret true) fun c1 =>
 .ret false) (zf Tryz.func63)
theorem OR {a : List (List UInt8)} (ha : bsz a <= 2 ^ 40) : ∀ (d i m : Nat), i + d = a.length → d < m → ∃ z, wu a a m (i : Int) = some (.inr z) := by
 have hl := qk a
 intro d
 induction d with
 | zero =>
  intro i m hi hm
  obtain ⟨m, rfl, _⟩ := zg hm
  exact ⟨_, by rw [wu, if_neg (by omega)]⟩
 | succ d ih =>
  intro i m hi hm
  obtain ⟨m, rfl, hm'⟩ := zg hm
  have hil : i < a.length := by omega
  have hx := Z6 (List.getElem_mem hil)
  rw [wu, if_pos (by omega), zd, Option.bind_some, zl hil, Option.bind_some, Option.bind_some]
  unfold yk
  rw [if_pos ⟨rfl, by omega⟩, Option.bind_some, zG (by omega)]
  exact ih (i + 1) m (by omega) (by omega)
def xb (a0 : (List (List UInt8))) (a1 : (List (List UInt8))) : Option Bool := if a0 = a1 ∧ bsz a0 <= 2 ^ 40 then some true else none
theorem Vv (a0 : (List (List UInt8))) (a1 : (List (List UInt8))) (r : Bool) (h : xb a0 a1 = some r) : ∃ n, YG n a0 a1 = some r := by
 unfold xb at h
 obtain ⟨⟨he, ha⟩, h2⟩ := zE h
 clear h
 subst he
 have hl := qk a0
 refine ⟨a0.length + 1, ?_⟩
 obtain ⟨z, hz⟩ := OR ha a0.length 0 (a0.length + 1) (by omega) (by omega)
 rw [show ((0 : Nat) : Int) = 0 from rfl] at hz
 unfold YG
 rw [if_pos rfl, hz]; exact h2
theorem Yh : Qt xb := fun a0 a1 r h => (Vv a0 a1 r h).elim fun n hn => Uu n a0 a1 r hn
def vI (F : (List GValue) → (List GValue) → Option Bool) : Prop := ∀ (a0 : (List GValue)) (a1 : (List GValue)), Oc (F a0 a1) 144 [] [vq zh a0, vq zh a1] fun r => (vb r, [])
def kn (F : GValue → GValue → Option Bool) : Prop := ∀ (a0 : GValue) (a1 : GValue), Oc (F a0 a1) 82 [] [.val true (zA a0), .val true (zA a1)] fun r => (vb r, [])
def wv (G_laws_eqValue : GValue → GValue → Option Bool) (a0 : (List GValue)) (a1 : (List GValue)) : Nat → Int → Option (Bool ⊕ Int)
  | 0, _ => none
  | m + 1, v2 =>
  if v2 < (a0.length : Int) then
   (zv v2).bind fun i2 =>
   (a0[i2]?).bind fun x3 =>
   (a1[i2]?).bind fun x4 =>
   (G_laws_eqValue x3 x4).bind fun r5 =>
   match r5 with
   | true =>
    wv G_laws_eqValue a0 a1 m (w64 (v2 + 1))
   | false =>
    some (.inl false)
  else
  some (.inr v2)
theorem Ku (G_laws_eqValue : GValue → GValue → Option Bool) (H_laws_eqValue : kn G_laws_eqValue) (a0 : (List GValue)) (a1 : (List GValue)) (m : Nat) : ∀ (v2 : Int), Ol (wv G_laws_eqValue a0 a1 m v2) 144 (zO Tryz.f144 0) ⟨[(0, vq zh a0), (1, vq zh a1), (5, vi v2)], [], 0⟩ fun o => match o with | .inl o_0 => (.ret, ⟨[(4, vb o_0)], [], 0⟩) | .inr (o_1) => (.exit 0, ⟨[(0, vq zh a0), (1, vq zh a1), (5, vi o_1), (14, vb false)], [], 0⟩) := by
  induction m with
  | zero => intro v2 o h; cases h
  | succ m ih => exact fun v2 => tlp (
   .le zh a0 <|
   .lI v2 (a0.length : Int) (fun c1 =>
    .na v2 fun i2 =>
    .ix yp a0 i2 fun x3 =>
    .ag 1 <|
    .ix yp a1 i2 fun x4 =>
    .cl (H_laws_eqValue x3 x4) fun r5 =>
    .vN 0 r5 (
     .go (ih (w64 (v2 + 1)))) <|
    .ret (.inl false)) fun c1 =>
   .ret (.inr v2))
def vJ (G_laws_eqValue : GValue → GValue → Option Bool) (n : Nat) (a0 : (List GValue)) (a1 : (List GValue)) : Option Bool :=
 if (a0.length : Int) = (a1.length : Int) then
  (wv G_laws_eqValue a0 a1 n 0).bind fun o2 =>
  match o2 with
  | .inl o2_0 =>
   some o2_0
  | .inr (o2_1) =>
   some true
 else
 some false
theorem Uv (G_laws_eqValue : GValue → GValue → Option Bool) (H_laws_eqValue : kn G_laws_eqValue) (n : Nat) : vI (vJ G_laws_eqValue n) := fun a0 a1 => tc (
 .le zh a0 <|
 .le zh a1 <|
 .eI (a0.length : Int) (a1.length : Int) (fun c1 =>
  .l2 (Ku G_laws_eqValue H_laws_eqValue a0 a1 n 0) (fun o2_0 =>
   .ret o2_0) fun o2_1 =>
  .ret true) fun c1 =>
 .ret false) (zf Tryz.func144)
def Xg (G_laws_eqValueS : (List GValue) → (List GValue) → Option Bool) (a0 : GValue) (a1 : GValue) : Option Bool :=
 if a0.Kind = a1.Kind then
  if a0.N = a1.N then
   (yk a0.S a1.S).bind fun r3 =>
   match r3 with
   | true =>
    (xb a0.K a1.K).bind fun r4 =>
    match r4 with
    | true =>
     (G_laws_eqValueS a0.L a1.L).bind fun r5 =>
     match r5 with
     | true =>
      some true
     | false =>
      some false
    | false =>
     some false
   | false =>
    some false
  else
  some false
 else
 some false
theorem PC (G_laws_eqValueS : (List GValue) → (List GValue) → Option Bool) (H_laws_eqValueS : vI G_laws_eqValueS) : kn (Xg G_laws_eqValueS) := fun a0 a1 => tc (
 .eI a0.Kind a1.Kind (fun c1 =>
  .eI a0.N a1.N (fun c2 =>
   .cl (qG a0.S a1.S) fun r3 =>
   .vN 0 r3 (
    .cl (Yh a0.K a1.K) fun r4 =>
    .vN 0 r4 (
     .cl (H_laws_eqValueS a0.L a1.L) fun r5 =>
     .vN 0 r5 (
      .ret true) <|
     .ret false) <|
    .ret false) <|
   .ret false) fun c2 =>
  .ret false) fun c1 =>
 .ret false) (zf Tryz.func82)
mutual
def xL : Nat → (List GValue) → (List GValue) → Option Bool
 | 0, _, _ => none
 | n + 1, a0, a1 => vJ (ww n) n a0 a1
def ww : Nat → GValue → GValue → Option Bool
 | 0, _, _ => none
 | n + 1, a0, a1 => Xg (xL n) a0 a1
end
theorem XS (n : Nat) : vI (xL n) ∧ kn (ww n) := by
 induction n with
 | zero => exact ⟨fun _ _ _ h => (by rw [xL] at h; cases h), fun _ _ _ h => (by rw [ww] at h; cases h)⟩
 | succ n ih =>
  obtain ⟨ih_laws_eqValueS, ih_laws_eqValue⟩ := ih
  exact ⟨fun a0 a1 r h => Uv (ww n) ih_laws_eqValue n a0 a1 r (by rw [xL] at h; exact h),
   fun a0 a1 r h => PC (xL n) ih_laws_eqValueS a0 a1 r (by rw [ww] at h; exact h)⟩
theorem Uw {G : GValue → GValue → Option Bool} {a : List GValue} {f : Nat} (ha : a.length <= 2 ^ 40) (hf : a.length < f) (hG : ∀ v ∈ a, G v v = some true) : vJ G f a a = some true := by
 have loop : ∀ (d i m : Nat), i + d = a.length → d < m → ∃ z, wv G a a m (i : Int) = some (.inr z) := by
  intro d
  induction d with
  | zero =>
   intro i m hi hm
   obtain ⟨m, rfl, _⟩ := zg hm
   exact ⟨_, by rw [wv, if_neg (by omega)]⟩
  | succ d ih =>
   intro i m hi hm
   obtain ⟨m, rfl, hm'⟩ := zg hm
   have hil : i < a.length := by omega
   rw [wv, if_pos (by omega), zd, Option.bind_some, zl hil, Option.bind_some, Option.bind_some, hG _ (List.getElem_mem hil), Option.bind_some, zG (by omega)]
   exact ih (i + 1) m (by omega) (by omega)
 obtain ⟨z, hz⟩ := loop a.length 0 f (by omega) (by omega)
 rw [show ((0 : Nat) : Int) = 0 from rfl] at hz
 unfold vJ
 rw [if_pos rfl, hz]; rfl
theorem Oj : ∀ (N : Nat) (v : GValue), vsz v < N → vsz v <= 2 ^ 40 → ∀ f : Nat, 2 * vsz v + 3 <= f → ww f v v = some true := by
 intro N
 induction N with
 | zero => intro v hv; omega
 | succ N ih =>
  intro v hv hs f hf
  obtain ⟨f, rfl, _⟩ := zg (show 0 < f by omega)
  obtain ⟨f, rfl, _⟩ := zg (show 0 < f by omega)
  have he := xT v
  have hl := yH v.L
  rw [ww]
  unfold Xg yk xb
  rw [if_pos rfl, if_pos rfl, if_pos (show v.S = v.S ∧ v.S.length <= 2 ^ 40 from ⟨rfl, by omega⟩), Option.bind_some]
  dsimp only
  rw [if_pos (show v.K = v.K ∧ bsz v.K <= 2 ^ 40 from ⟨rfl, by omega⟩), Option.bind_some]
  dsimp only
  rw [xL, Uw (by omega) (by omega) fun x hx => ?_]
  ·rfl
  ·have := wa hx
   exact ih x (by omega) (by omega) f (by omega)
open Classical in
noncomputable def YH (a0 : (List GValue)) (a1 : (List GValue)) : Option Bool := if a0 = a1 ∧ yy a0 <= 2 ^ 40 then some true else none
theorem Vw (a0 : (List GValue)) (a1 : (List GValue)) (r : Bool) (h : YH a0 a1 = some r) : ∃ n, xL n a0 a1 = some r := by
 unfold YH at h
 obtain ⟨⟨he, ha⟩, h2⟩ := zE h
 clear h
 subst he
 have hl := yH a0
 refine ⟨2 * yy a0 + 5, ?_⟩
 rw [xL, Uw (by omega) (by omega) fun x hx => ?_, h2]
 have := wa hx
 exact Oj _ x (Nat.lt_succ_self _) (by omega) _ (by omega)
open Classical in
noncomputable def qj (a0 : GValue) (a1 : GValue) : Option Bool := if a0 = a1 ∧ vsz a0 <= 2 ^ 40 then some true else none
theorem Rm (a0 : GValue) (a1 : GValue) (r : Bool) (h : qj a0 a1 = some r) : ∃ n, ww n a0 a1 = some r := by
 unfold qj at h
 obtain ⟨⟨he, ha⟩, h2⟩ := zE h
 clear h
 subst he
 exact ⟨2 * vsz a0 + 3, by rw [<- h2]; exact Oj _ a0 (Nat.lt_succ_self _) ha _ (Nat.le_refl _)⟩
theorem DI : vI YH := by
 intro a0 a1 r h
 obtain ⟨n, hn⟩ := Vw a0 a1 r h
 exact (XS n).1 a0 a1 r hn
theorem Qu : kn qj := by
 intro a0 a1 r h
 obtain ⟨n, hn⟩ := Rm a0 a1 r h
 exact (XS n).2 a0 a1 r hn
def ko (a0 : GEntry) (a1 : GEntry) : Option Bool :=
 (yk a0.Addr a1.Addr).bind fun r1 =>
 match r1 with
 | true =>
  (qj a0.Val a1.Val).bind fun r2 =>
  match r2 with
  | true =>
   (xb a0.Deps a1.Deps).bind fun r3 =>
   match r3 with
   | true =>
    if a0.Taint = true then
     if a1.Taint = true then
      if a0.Turned = a1.Turned then
       some true
      else
      some false
     else
     some false
    else
    if a1.Taint = true then
     some false
    else
    if a0.Turned = a1.Turned then
     some true
    else
    some false
   | false =>
    some false
  | false =>
   some false
 | false =>
  some false
theorem Ux (a0 : GEntry) (a1 : GEntry) : Oc (ko a0 a1) 143 [] [.val true (jp a0), .val true (jp a1)] fun r => (vb r, []) := tc (
 .cl (qG a0.Addr a1.Addr) fun r1 =>
 .vN 0 r1 (
  .cl (Qu a0.Val a1.Val) fun r2 =>
  .vN 0 r2 (
   .cl (Yh a0.Deps a1.Deps) fun r3 =>
   .vN 0 r3 (
    .sp (a0.Taint = true) (fun c4 =>
     .sp (a1.Taint = true) (fun c5 =>
      .eb c4 c5 <|
      .eI a0.Turned a1.Turned (fun c6 =>
       .ret true) fun c6 =>
      .ret false) fun c5 =>
     .eb c4 (bF c5) <|
     .ret false) fun c4 =>
    .sp (a1.Taint = true) (fun c5 =>
     .eb (bF c4) c5 <|
     .ret false) fun c5 =>
    .eb (bF c4) (bF c5) <|
    .eI a0.Turned a1.Turned (fun c6 =>
     .ret true) fun c6 =>
    .ret false) <|
   .ret false) <|
  .ret false) <|
 .ret false) (zf Tryz.func143)
def Qv (F : (List GEntry) → (List GEntry) → Option Bool) : Prop := ∀ (a0 : (List GEntry)) (a1 : (List GEntry)), Oc (F a0 a1) 81 [] [vq zj a0, vq zj a1] fun r => (vb r, [])
def wx (a0 : (List GEntry)) (a1 : (List GEntry)) : Nat → Int → Option (Bool ⊕ Int)
  | 0, _ => none
  | m + 1, v2 =>
  if v2 < (a0.length : Int) then
   (zv v2).bind fun i2 =>
   (a0[i2]?).bind fun x3 =>
   (a1[i2]?).bind fun x4 =>
   (ko x3 x4).bind fun r5 =>
   match r5 with
   | true =>
    wx a0 a1 m (w64 (v2 + 1))
   | false =>
    some (.inl false)
  else
  some (.inr v2)
theorem Kv (a0 : (List GEntry)) (a1 : (List GEntry)) (m : Nat) : ∀ (v2 : Int), Ol (wx a0 a1 m v2) 81 (zO Tryz.f81 0) ⟨[(0, vq zj a0), (1, vq zj a1), (5, vi v2)], [], 0⟩ fun o => match o with | .inl o_0 => (.ret, ⟨[(4, vb o_0)], [], 0⟩) | .inr (o_1) => (.exit 0, ⟨[(0, vq zj a0), (1, vq zj a1), (5, vi o_1), (14, vb false)], [], 0⟩) := by
  induction m with
  | zero => intro v2 o h; cases h
  | succ m ih => exact fun v2 => tlp (
   .le zj a0 <|
   .lI v2 (a0.length : Int) (fun c1 =>
    .na v2 fun i2 =>
    .ix zT a0 i2 fun x3 =>
    .ag 1 <|
    .ix zT a1 i2 fun x4 =>
    .cl (Ux x3 x4) fun r5 =>
    .vN 0 r5 (
     .go (ih (w64 (v2 + 1)))) <|
    .ret (.inl false)) fun c1 =>
   .ret (.inr v2))
def YI (n : Nat) (a0 : (List GEntry)) (a1 : (List GEntry)) : Option Bool :=
 if (a0.length : Int) = (a1.length : Int) then
  (wx a0 a1 n 0).bind fun o2 =>
  match o2 with
  | .inl o2_0 =>
   some o2_0
  | .inr (o2_1) =>
   some true
 else
 some false
theorem Uy (n : Nat) : Qv (YI n) := fun a0 a1 => tc (
 .le zj a0 <|
 .le zj a1 <|
 .eI (a0.length : Int) (a1.length : Int) (fun c1 =>
  .l2 (Kv a0 a1 n 0) (fun o2_0 =>
   .ret o2_0) fun o2_1 =>
  .ret true) fun c1 =>
 .ret false) (zf Tryz.func81)
theorem OS {a : List GEntry} (ha : a.length <= 2 ^ 40) (hG : ∀ v ∈ a, ko v v = some true) : ∀ (d i m : Nat), i + d = a.length → d < m → ∃ z, wx a a m (i : Int) = some (.inr z) := by
 intro d
 induction d with
 | zero =>
  intro i m hi hm
  obtain ⟨m, rfl, _⟩ := zg hm
  exact ⟨_, by rw [wx, if_neg (by omega)]⟩
 | succ d ih =>
  intro i m hi hm
  obtain ⟨m, rfl, hm'⟩ := zg hm
  have hil : i < a.length := by omega
  rw [wx, if_pos (by omega), zd, Option.bind_some, zl hil, Option.bind_some, Option.bind_some, hG _ (List.getElem_mem hil), Option.bind_some, zG (by omega)]
  exact ih (i + 1) m (by omega) (by omega)
theorem GO {v : GEntry} (h : esz v <= 2 ^ 39) : ko v v = some true := by
 unfold esz at h
 unfold ko yk qj xb
 rw [if_pos ⟨rfl, by omega⟩, Option.bind_some]
 dsimp only
 rw [if_pos ⟨rfl, by omega⟩, Option.bind_some]
 dsimp only
 rw [if_pos ⟨rfl, by omega⟩, Option.bind_some]
 dsimp only
 rw [if_pos rfl]
 cases v.Taint <;> rfl
open Classical in
noncomputable def qH (a0 : (List GEntry)) (a1 : (List GEntry)) : Option Bool := if a0 = a1 ∧ zY a0 <= 2 ^ 39 then some true else none
theorem Ry {s : List GEntry} (h : zY s <= 2 ^ 39) : qH s s = some true := if_pos ⟨rfl, h⟩
theorem Vx (a0 : (List GEntry)) (a1 : (List GEntry)) (r : Bool) (h : qH a0 a1 = some r) : ∃ n, YI n a0 a1 = some r := by
 unfold qH at h
 obtain ⟨⟨he, ha⟩, h2⟩ := zE h
 clear h
 subst he
 have hl := ql a0
 refine ⟨a0.length + 1, ?_⟩
 obtain ⟨z, hz⟩ := OS (a := a0) (by omega) (fun v hv => GO (by have := Xn hv; omega)) a0.length 0 (a0.length + 1) (by omega) (by omega)
 rw [show ((0 : Nat) : Int) = 0 from rfl] at hz
 unfold YI
 rw [if_pos rfl, hz]; exact h2
theorem WH : Qv qH := fun a0 a1 r h => (Vx a0 a1 r h).elim fun n hn => Uy n a0 a1 r hn
def kq (a0 : GState) (a1 : GState) : Option Bool :=
 if a0.Serial = a1.Serial then
  if a0.Open = true then
   if a1.Open = true then
    (yk a0.Pending a1.Pending).bind fun r4 =>
    match r4 with
    | true =>
     if a0.Act = a1.Act then
      (qH a0.Entries a1.Entries).bind fun r6 =>
      match r6 with
      | true =>
       some true
      | false =>
       some false
     else
     some false
    | false =>
     some false
   else
   some false
  else
  if a1.Open = true then
   some false
  else
  (yk a0.Pending a1.Pending).bind fun r4 =>
  match r4 with
  | true =>
   if a0.Act = a1.Act then
    (qH a0.Entries a1.Entries).bind fun r6 =>
    match r6 with
    | true =>
     some true
    | false =>
     some false
   else
   some false
  | false =>
   some false
 else
 some false
theorem Qw (a0 : GState) (a1 : GState) : Oc (kq a0 a1) 21 [] [.val true (zV a0), .val true (zV a1)] fun r => (vb r, []) := tc (
 .eI a0.Serial a1.Serial (fun c1 =>
  .sp (a0.Open = true) (fun c2 =>
   .sp (a1.Open = true) (fun c3 =>
    .eb c2 c3 <|
    .cl (qG a0.Pending a1.Pending) fun r4 =>
    .vN 0 r4 (
     .eI a0.Act a1.Act (fun c5 =>
      .cl (WH a0.Entries a1.Entries) fun r6 =>
      .vN 0 r6 (
       .ret true) <|
      .ret false) fun c5 =>
     .ret false) <|
    .ret false) fun c3 =>
   .eb c2 (bF c3) <|
   .ret false) fun c2 =>
  .sp (a1.Open = true) (fun c3 =>
   .eb (bF c2) c3 <|
   .ret false) fun c3 =>
  .eb (bF c2) (bF c3) <|
  .cl (qG a0.Pending a1.Pending) fun r4 =>
  .vN 0 r4 (
   .eI a0.Act a1.Act (fun c5 =>
    .cl (WH a0.Entries a1.Entries) fun r6 =>
    .vN 0 r6 (
     .ret true) <|
    .ret false) fun c5 =>
   .ret false) <|
  .ret false) fun c1 =>
 .ret false) (zf Tryz.func21)
def kr (a0 : GEvent) (a1 : GEvent) : Option Bool :=
 if a0.Kind = a1.Kind then
  (yk a0.Addr a1.Addr).bind fun r2 =>
  match r2 with
  | true =>
   if a0.Act = a1.Act then
    (qj a0.Val a1.Val).bind fun r4 =>
    match r4 with
    | true =>
     (xb a0.Deps a1.Deps).bind fun r5 =>
     match r5 with
     | true =>
      some true
     | false =>
      some false
    | false =>
     some false
   else
   some false
  | false =>
   some false
 else
 some false
theorem Uz (a0 : GEvent) (a1 : GEvent) : Oc (kr a0 a1) 22 [] [.val true (jq a0), .val true (jq a1)] fun r => (vb r, []) := tc (
 .eI a0.Kind a1.Kind (fun c1 =>
  .cl (qG a0.Addr a1.Addr) fun r2 =>
  .vN 0 r2 (
   .eI a0.Act a1.Act (fun c3 =>
    .cl (Qu a0.Val a1.Val) fun r4 =>
    .vN 0 r4 (
     .cl (Yh a0.Deps a1.Deps) fun r5 =>
     .vN 0 r5 (
      .ret true) <|
     .ret false) <|
    .ret false) fun c3 =>
   .ret false) <|
  .ret false) fun c1 =>
 .ret false) (zf Tryz.func22)
def Qx (F : (List GEvent) → (List GEvent) → Option Bool) : Prop := ∀ (a0 : (List GEvent)) (a1 : (List GEvent)), Oc (F a0 a1) 90 [] [vq zD a0, vq zD a1] fun r => (vb r, [])
def wy (a0 : (List GEvent)) (a1 : (List GEvent)) : Nat → Int → Option (Bool ⊕ Int)
  | 0, _ => none
  | m + 1, v2 =>
  if v2 < (a0.length : Int) then
   (zv v2).bind fun i2 =>
   (a0[i2]?).bind fun x3 =>
   (a1[i2]?).bind fun x4 =>
   (kr x3 x4).bind fun r5 =>
   match r5 with
   | true =>
    wy a0 a1 m (w64 (v2 + 1))
   | false =>
    some (.inl false)
  else
  some (.inr v2)
theorem Kw (a0 : (List GEvent)) (a1 : (List GEvent)) (m : Nat) : ∀ (v2 : Int), Ol (wy a0 a1 m v2) 90 (zO Tryz.f90 0) ⟨[(0, vq zD a0), (1, vq zD a1), (5, vi v2)], [], 0⟩ fun o => match o with | .inl o_0 => (.ret, ⟨[(4, vb o_0)], [], 0⟩) | .inr (o_1) => (.exit 0, ⟨[(0, vq zD a0), (1, vq zD a1), (5, vi o_1), (14, vb false)], [], 0⟩) := by
  induction m with
  | zero => intro v2 o h; cases h
  | succ m ih => exact fun v2 => tlp (
   .le zD a0 <|
   .lI v2 (a0.length : Int) (fun c1 =>
    .na v2 fun i2 =>
    .ix kE a0 i2 fun x3 =>
    .ag 1 <|
    .ix kE a1 i2 fun x4 =>
    .cl (Uz x3 x4) fun r5 =>
    .vN 0 r5 (
     .go (ih (w64 (v2 + 1)))) <|
    .ret (.inl false)) fun c1 =>
   .ret (.inr v2))
def YJ (n : Nat) (a0 : (List GEvent)) (a1 : (List GEvent)) : Option Bool :=
 if (a0.length : Int) = (a1.length : Int) then
  (wy a0 a1 n 0).bind fun o2 =>
  match o2 with
  | .inl o2_0 =>
   some o2_0
  | .inr (o2_1) =>
   some true
 else
 some false
theorem U0 (n : Nat) : Qx (YJ n) := fun a0 a1 => tc (
 .le zD a0 <|
 .le zD a1 <|
 .eI (a0.length : Int) (a1.length : Int) (fun c1 =>
  .l2 (Kw a0 a1 n 0) (fun o2_0 =>
   .ret o2_0) fun o2_1 =>
  .ret true) fun c1 =>
 .ret false) (zf Tryz.func90)
theorem OT {a : List GEvent} (ha : a.length <= 2 ^ 40) (hG : ∀ v ∈ a, kr v v = some true) : ∀ (d i m : Nat), i + d = a.length → d < m → ∃ z, wy a a m (i : Int) = some (.inr z) := by
 intro d
 induction d with
 | zero =>
  intro i m hi hm
  obtain ⟨m, rfl, _⟩ := zg hm
  exact ⟨_, by rw [wy, if_neg (by omega)]⟩
 | succ d ih =>
  intro i m hi hm
  obtain ⟨m, rfl, hm'⟩ := zg hm
  have hil : i < a.length := by omega
  rw [wy, if_pos (by omega), zd, Option.bind_some, zl hil, Option.bind_some, Option.bind_some, hG _ (List.getElem_mem hil), Option.bind_some, zG (by omega)]
  exact ih (i + 1) m (by omega) (by omega)
theorem GP {v : GEvent} (h : qm v <= 2 ^ 39) : kr v v = some true := by
 unfold qm at h
 unfold kr yk qj xb
 rw [if_pos rfl, if_pos ⟨rfl, by omega⟩, Option.bind_some]
 dsimp only
 rw [if_pos rfl, if_pos ⟨rfl, by omega⟩, Option.bind_some]
 dsimp only
 rw [if_pos ⟨rfl, by omega⟩, Option.bind_some]
open Classical in
noncomputable def jF (a0 : (List GEvent)) (a1 : (List GEvent)) : Option Bool := if a0 = a1 ∧ yo a0 <= 2 ^ 39 then some true else none
theorem Ns {s : List GEvent} (h : yo s <= 2 ^ 39) : jF s s = some true := if_pos ⟨rfl, h⟩
theorem Vy (a0 : (List GEvent)) (a1 : (List GEvent)) (r : Bool) (h : jF a0 a1 = some r) : ∃ n, YJ n a0 a1 = some r := by
 unfold jF at h
 obtain ⟨⟨he, ha⟩, h2⟩ := zE h
 clear h
 subst he
 have hl := Zj a0
 refine ⟨a0.length + 1, ?_⟩
 obtain ⟨z, hz⟩ := OT (a := a0) (by omega) (fun v hv => GP (by have := V7 hv; omega)) a0.length 0 (a0.length + 1) (by omega) (by omega)
 rw [show ((0 : Nat) : Int) = 0 from rfl] at hz
 unfold YJ
 rw [if_pos rfl, hz]; exact h2
theorem Tf : Qx jF := fun a0 a1 r h => (Vy a0 a1 r h).elim fun n hn => U0 n a0 a1 r hn
def jl (a0 : GHistory) (a1 : GHistory) : Option Bool :=
 (kq a0.Base a1.Base).bind fun r1 =>
 match r1 with
 | true =>
  (jF a0.Events a1.Events).bind fun r2 =>
  match r2 with
  | true =>
   if a0.Safe = a1.Safe then
    some true
   else
   some false
  | false =>
   some false
 | false =>
  some false
theorem XT (a0 : GHistory) (a1 : GHistory) : Oc (jl a0 a1) 30 [] [.val true (yD a0), .val true (yD a1)] fun r => (vb r, []) := tc (
 .cl (Qw a0.Base a1.Base) fun r1 =>
 .vN 0 r1 (
  .cl (Tf a0.Events a1.Events) fun r2 =>
  .vN 0 r2 (
   .eI a0.Safe a1.Safe (fun c3 =>
    .ret true) fun c3 =>
   .ret false) <|
  .ret false) <|
 .ret false) (zf Tryz.func30)
def WI (F : Int → (List UInt8) → Option (Int × (List UInt8))) : Prop := ∀ (a0 : Int) (e0 : (List UInt8)), Oc (F a0 e0) 39 [.obj 1 (eL za e0)] [vr 0, vi a0] fun r => (vi r.1, [.obj 1 (eL za r.2)])
def xP : Nat → Int → Int → (List UInt8) → Option (Int × Int × (List UInt8))
  | 0, _, _, _ => none
  | m + 1, a0, v1, e0 =>
  if v1 < (e0.length : Int) then
   (zv v1).bind fun i2 =>
   (e0[i2]?).bind fun x3 =>
   xP m (w64 (a0 + 1)) (w64 (v1 + 1)) (e0.set i2 (b8 a0))
  else
  some (a0, v1, e0)
theorem J6 (m : Nat) : ∀ (a0 : Int) (v1 : Int) (e0 : (List UInt8)), Ol (xP m a0 v1 e0) 39 (zO Tryz.f39 0) ⟨[(0, vr 0), (1, vi a0), (5, vi v1)], [.obj 1 (eL za e0)], 1⟩ fun o => match o with | ⟨o_0, o_1, o_2⟩ => (.exit 0, ⟨[(0, vr 0), (1, vi o_0), (5, vi o_1), (9, vb false)], [.obj 1 (eL za o_2)], 1⟩) := by
  induction m with
  | zero => intro a0 v1 e0 o h; cases h
  | succ m ih => exact fun a0 v1 e0 => tlp (
   .le za e0 <|
   .lI v1 (e0.length : Int) (fun c1 =>
    .na v1 fun i2 =>
    .ix0 za e0 i2 fun x3 =>
    .ag 0 <|
    .sl (e := za) (x := (b8 a0)) (c := [.int .u8 (((b8 a0).toNat : Nat) : Int)]) rfl e0 i2 <|
    .go (ih (w64 (a0 + 1)) (w64 (v1 + 1)) (e0.set i2 (b8 a0)))) fun c1 =>
   .ret (a0, v1, e0))
def Yi (n : Nat) (a0 : Int) (e0 : (List UInt8)) : Option (Int × (List UInt8)) :=
 (xP n a0 0 e0).bind fun ⟨o1_0, o1_1, o1_2⟩ =>
 some (o1_0, o1_2)
theorem Tg (n : Nat) : WI (Yi n) := fun a0 e0 => tc (
 .lp (J6 n a0 0 e0) fun ⟨o1_0, o1_1, o1_2⟩ =>
 .ret (o1_0, o1_2)) (zf Tryz.func39)
theorem PD : ∀ (l p : List UInt8) (k : Int) (m : Nat), 0 <= k → k + 2 * l.length <= 2 ^ 41 → p.length + l.length <= 2 ^ 41 → l.length < m → ∃ z, xP m k (p.length : Int) (p ++ l) = some (k + l.length, z, p ++ mB k l) := by
 intro l
 induction l with
 | nil =>
  intro p k m _ _ _ hm
  obtain ⟨m, rfl, _⟩ := zg hm
  exact ⟨_, by rw [xP, if_neg (w4 p)]; simp [mB]; rfl⟩
 | cons x l ih =>
  intro p k m h0 h1 h2 hm
  obtain ⟨m, rfl, hm'⟩ := zg hm
  simp only [List.length_cons] at h1 h2 hm'
  obtain ⟨z, hz⟩ := ih (p ++ [b8 k]) (k + 1) m (by omega) (by omega) (by simp; omega) (by omega)
  rw [xP, if_pos (Zi p x l), zd, Option.bind_some, zM, Option.bind_some, wz, yJ p (b8 k) (by omega), yj (x := k + 1) (by omega) (by omega), WM p (b8 k) l, hz]
  refine ⟨z, ?_⟩
  rw [mB, WM p (b8 k) (mB (k + 1) l)]
  simp only [List.length_cons]
  rw [show k + 1 + (l.length : Int) = k + ((l.length + 1 : Nat) : Int) by omega]
def yu (a0 : Int) (e0 : (List UInt8)) : Option (Int × (List UInt8)) := if 0 <= a0 ∧ a0 + 2 * e0.length <= 2 ^ 41 then some (a0 + e0.length, mB a0 e0) else none
theorem q4 {a : Int} {s : List UInt8} (h0 : 0 <= a) (h1 : a + 2 * s.length <= 2 ^ 41) : yu a s = some (a + s.length, mB a s) := if_pos ⟨h0, h1⟩
theorem Kx (a0 : Int) (e0 : (List UInt8)) (r : (Int × (List UInt8))) (h : yu a0 e0 = some r) : ∃ n, Yi n a0 e0 = some r := by
 unfold yu at h
 obtain ⟨⟨h0, h1⟩, h⟩ := zE h
 obtain ⟨z, hz⟩ := PD e0 [] a0 (e0.length + 1) h0 h1 (by simp; omega) (by omega)
 refine ⟨e0.length + 1, ?_⟩
 unfold Yi
 simp only [List.nil_append, List.length_nil, Int.natCast_zero] at hz
 rw [hz]
 exact h
theorem xB : WI yu := fun a0 e0 r h => (Kx a0 e0 r h).elim fun n hn => Tg n a0 e0 r hn
def XU (F : Int → (List (List UInt8)) → Option (Int × (List (List UInt8)))) : Prop := ∀ (a0 : Int) (e0 : (List (List UInt8))), Oc (F a0 e0) 64 [.obj 1 (eL (y0 1 za) e0)] [vr 0, vi a0] fun r => (vi r.1, [.obj 1 (eL (y0 1 za) r.2)])
def xp : Nat → Int → Int → (List (List UInt8)) → Option (Int × Int × (List (List UInt8)))
  | 0, _, _, _ => none
  | m + 1, a0, v1, e0 =>
  if v1 < (e0.length : Int) then
   (zv v1).bind fun i2 =>
   (e0[i2]?).bind fun x3 =>
   (yu a0 x3).bind fun ⟨r4_0, r4_1⟩ =>
   xp m r4_0 (w64 (v1 + 1)) (e0.set i2 r4_1)
  else
  some (a0, v1, e0)
theorem QV (m : Nat) : ∀ (a0 : Int) (v1 : Int) (e0 : (List (List UInt8))), Ol (xp m a0 v1 e0) 64 (zO Tryz.f64 0) ⟨[(0, vr 0), (1, vi a0), (5, vi v1)], [.obj 1 (eL (y0 1 za) e0)], 1⟩ fun o => match o with | ⟨o_0, o_1, o_2⟩ => (.exit 0, ⟨[(0, vr 0), (1, vi o_0), (5, vi o_1), (9, vb false)], [.obj 1 (eL (y0 1 za) o_2)], 1⟩) := by
  induction m with
  | zero => intro a0 v1 e0 o h; cases h
  | succ m ih => exact fun a0 v1 e0 => tlp (
   .le (y0 1 za) e0 <|
   .lI v1 (e0.length : Int) (fun c1 =>
    .na v1 fun i2 =>
    .ix0 (y0 1 za) e0 i2 fun x3 =>
    .ag 0 <|
    .cl (xB a0 x3) fun ⟨r4_0, r4_1⟩ =>
    .ag 1 <|
    .sl (e := (y0 1 za)) (x := r4_1) (c := [.own 1 (eL za r4_1)]) rfl e0 i2 <|
    .go (ih r4_0 (w64 (v1 + 1)) (e0.set i2 r4_1))) fun c1 =>
   .ret (a0, v1, e0))
def ZD (n : Nat) (a0 : Int) (e0 : (List (List UInt8))) : Option (Int × (List (List UInt8))) :=
 (xp n a0 0 e0).bind fun ⟨o1_0, o1_1, o1_2⟩ =>
 some (o1_0, o1_2)
theorem Rn (n : Nat) : XU (ZD n) := fun a0 e0 => tc (
 .lp (QV n a0 0 e0) fun ⟨o1_0, o1_1, o1_2⟩ =>
 .ret (o1_0, o1_2)) (zf Tryz.func64)
theorem U1 : ∀ (l p : List (List UInt8)) (k : Int) (m : Nat), 0 <= k → k + 2 * bsz l <= 2 ^ 41 → p.length + l.length <= 2 ^ 41 → l.length < m → ∃ z, xp m k (p.length : Int) (p ++ l) = some (k + cB l, z, p ++ mBB k l) := by
 intro l
 induction l with
 | nil =>
  intro p k m _ _ _ hm
  obtain ⟨m, rfl, _⟩ := zg hm
  exact ⟨_, by rw [xp, if_neg (w4 p)]; simp [mBB, cB]; rfl⟩
 | cons x l ih =>
  intro p k m h0 h1 h2 hm
  obtain ⟨m, rfl, hm'⟩ := zg hm
  rw [MH] at h1
  simp only [List.length_cons] at h2 hm'
  obtain ⟨z, hz⟩ := ih (p ++ [mB k x]) (k + x.length) m (by omega) (by omega) (by simp; omega) (by omega)
  rw [xp, if_pos (Zi p x l), zd, Option.bind_some, zM, Option.bind_some, q4 (by omega) (by omega), Option.bind_some]
  dsimp only
  rw [wz, yJ p (mB k x) (by omega), WM p (mB k x) l, hz]
  refine ⟨z, ?_⟩
  rw [mBB, WM p (mB k x) (mBB (k + x.length) l), NM]
  rw [show k + (x.length : Int) + (cB l : Int) = k + ((x.length + cB l : Nat) : Int) by omega]
def yA (a0 : Int) (e0 : (List (List UInt8))) : Option (Int × (List (List UInt8))) := if 0 <= a0 ∧ a0 + 2 * bsz e0 <= 2 ^ 41 then some (a0 + cB e0, mBB a0 e0) else none
theorem ve {a : Int} {s : List (List UInt8)} (h0 : 0 <= a) (h1 : a + 2 * bsz s <= 2 ^ 41) : yA a s = some (a + cB s, mBB a s) := if_pos ⟨h0, h1⟩
theorem J7 (a0 : Int) (e0 : (List (List UInt8))) (r : (Int × (List (List UInt8)))) (h : yA a0 e0 = some r) : ∃ n, ZD n a0 e0 = some r := by
 unfold yA at h
 obtain ⟨⟨h0, h1⟩, h⟩ := zE h
 have := qk e0
 obtain ⟨z, hz⟩ := U1 e0 [] a0 (e0.length + 1) h0 h1 (by simp; omega) (by omega)
 refine ⟨e0.length + 1, ?_⟩
 unfold ZD
 simp only [List.nil_append, List.length_nil, Int.natCast_zero] at hz
 rw [hz]
 exact h
theorem q5 : XU yA := fun a0 e0 r h => (J7 a0 e0 r h).elim fun n hn => Rn n a0 e0 r hn
def qO (F : Int → (List GValue) → Option (Int × (List GValue))) : Prop := ∀ (a0 : Int) (e0 : (List GValue)), Oc (F a0 e0) 145 [.obj 5 (eL zt e0)] [vr 0, vi a0] fun r => (vi r.1, [.obj 5 (eL zt r.2)])
def xq (G_laws_markValueS : Int → (List GValue) → Option (Int × (List GValue))) : Nat → Int → Int → (List GValue) → Option (Int × Int × (List GValue))
  | 0, _, _, _ => none
  | m + 1, a0, v1, e0 =>
  if v1 < (e0.length : Int) then
   (zv v1).bind fun i2 =>
   (e0[i2]?).bind fun x3 =>
   ((e0.set i2 (GValue.mk a0 x3.N x3.S x3.K x3.L))[i2]?).bind fun x4 =>
   (((e0.set i2 (GValue.mk a0 x3.N x3.S x3.K x3.L)).set i2 (GValue.mk x4.Kind (w64 (a0 + 1)) x4.S x4.K x4.L))[i2]?).bind fun x5 =>
   (yu (w64 ((w64 (a0 + 1)) + 1)) x5.S).bind fun ⟨r6_0, r6_1⟩ =>
   ((((e0.set i2 (GValue.mk a0 x3.N x3.S x3.K x3.L)).set i2 (GValue.mk x4.Kind (w64 (a0 + 1)) x4.S x4.K x4.L)).set i2 (GValue.mk x5.Kind x5.N r6_1 x5.K x5.L))[i2]?).bind fun x7 =>
   (yA r6_0 x7.K).bind fun ⟨r8_0, r8_1⟩ =>
   (((((e0.set i2 (GValue.mk a0 x3.N x3.S x3.K x3.L)).set i2 (GValue.mk x4.Kind (w64 (a0 + 1)) x4.S x4.K x4.L)).set i2 (GValue.mk x5.Kind x5.N r6_1 x5.K x5.L)).set i2 (GValue.mk x7.Kind x7.N x7.S r8_1 x7.L))[i2]?).bind fun x9 =>
   (G_laws_markValueS r8_0 x9.L).bind fun ⟨r10_0, r10_1⟩ =>
   xq G_laws_markValueS m r10_0 (w64 (v1 + 1)) (((((e0.set i2 (GValue.mk a0 x3.N x3.S x3.K x3.L)).set i2 (GValue.mk x4.Kind (w64 (a0 + 1)) x4.S x4.K x4.L)).set i2 (GValue.mk x5.Kind x5.N r6_1 x5.K x5.L)).set i2 (GValue.mk x7.Kind x7.N x7.S r8_1 x7.L)).set i2 (GValue.mk x9.Kind x9.N x9.S x9.K r10_1))
  else
  some (a0, v1, e0)
theorem QW (G_laws_markValueS : Int → (List GValue) → Option (Int × (List GValue))) (H_laws_markValueS : qO G_laws_markValueS) (m : Nat) : ∀ (a0 : Int) (v1 : Int) (e0 : (List GValue)), Ol (xq G_laws_markValueS m a0 v1 e0) 145 (zO Tryz.f145 0) ⟨[(0, vr 0), (1, vi a0), (5, vi v1)], [.obj 5 (eL zt e0)], 1⟩ fun o => match o with | ⟨o_0, o_1, o_2⟩ => (.exit 0, ⟨[(0, vr 0), (1, vi o_0), (5, vi o_1), (9, vb false)], [.obj 5 (eL zt o_2)], 1⟩) := by
  induction m with
  | zero => intro a0 v1 e0 o h; cases h
  | succ m ih => exact fun a0 v1 e0 => tlp (
   .le zt e0 <|
   .lI v1 (e0.length : Int) (fun c1 =>
    .na v1 fun i2 =>
    .ix yl e0 i2 fun x3 =>
    .ag 0 <|
    .sl (yl (GValue.mk a0 x3.N x3.S x3.K x3.L)) e0 i2 <|
    .ag 1 <|
    .ix yl (e0.set i2 (GValue.mk a0 x3.N x3.S x3.K x3.L)) i2 fun x4 =>
    .ag 0 <|
    .sl (yl (GValue.mk x4.Kind (w64 (a0 + 1)) x4.S x4.K x4.L)) (e0.set i2 (GValue.mk a0 x3.N x3.S x3.K x3.L)) i2 <|
    .ag 2 <|
    .ix yl ((e0.set i2 (GValue.mk a0 x3.N x3.S x3.K x3.L)).set i2 (GValue.mk x4.Kind (w64 (a0 + 1)) x4.S x4.K x4.L)) i2 fun x5 =>
    .ag 0 <|
    .cl (xB (w64 ((w64 (a0 + 1)) + 1)) x5.S) fun ⟨r6_0, r6_1⟩ =>
    .ag 1 <|
    .sl (yl (GValue.mk x5.Kind x5.N r6_1 x5.K x5.L)) ((e0.set i2 (GValue.mk a0 x3.N x3.S x3.K x3.L)).set i2 (GValue.mk x4.Kind (w64 (a0 + 1)) x4.S x4.K x4.L)) i2 <|
    .ag 4 <|
    .ix yl (((e0.set i2 (GValue.mk a0 x3.N x3.S x3.K x3.L)).set i2 (GValue.mk x4.Kind (w64 (a0 + 1)) x4.S x4.K x4.L)).set i2 (GValue.mk x5.Kind x5.N r6_1 x5.K x5.L)) i2 fun x7 =>
    .ag 0 <|
    .cl (q5 r6_0 x7.K) fun ⟨r8_0, r8_1⟩ =>
    .ag 1 <|
    .sl (yl (GValue.mk x7.Kind x7.N x7.S r8_1 x7.L)) (((e0.set i2 (GValue.mk a0 x3.N x3.S x3.K x3.L)).set i2 (GValue.mk x4.Kind (w64 (a0 + 1)) x4.S x4.K x4.L)).set i2 (GValue.mk x5.Kind x5.N r6_1 x5.K x5.L)) i2 <|
    .ag 6 <|
    .ix yl ((((e0.set i2 (GValue.mk a0 x3.N x3.S x3.K x3.L)).set i2 (GValue.mk x4.Kind (w64 (a0 + 1)) x4.S x4.K x4.L)).set i2 (GValue.mk x5.Kind x5.N r6_1 x5.K x5.L)).set i2 (GValue.mk x7.Kind x7.N x7.S r8_1 x7.L)) i2 fun x9 =>
    .ag 0 <|
    .cl (H_laws_markValueS r8_0 x9.L) fun ⟨r10_0, r10_1⟩ =>
    .ag 1 <|
    .sl (yl (GValue.mk x9.Kind x9.N x9.S x9.K r10_1)) ((((e0.set i2 (GValue.mk a0 x3.N x3.S x3.K x3.L)).set i2 (GValue.mk x4.Kind (w64 (a0 + 1)) x4.S x4.K x4.L)).set i2 (GValue.mk x5.Kind x5.N r6_1 x5.K x5.L)).set i2 (GValue.mk x7.Kind x7.N x7.S r8_1 x7.L)) i2 <|
    .go (ih r10_0 (w64 (v1 + 1)) (((((e0.set i2 (GValue.mk a0 x3.N x3.S x3.K x3.L)).set i2 (GValue.mk x4.Kind (w64 (a0 + 1)) x4.S x4.K x4.L)).set i2 (GValue.mk x5.Kind x5.N r6_1 x5.K x5.L)).set i2 (GValue.mk x7.Kind x7.N x7.S r8_1 x7.L)).set i2 (GValue.mk x9.Kind x9.N x9.S x9.K r10_1)))) fun c1 =>
   .ret (a0, v1, e0))
def ZE (G_laws_markValueS : Int → (List GValue) → Option (Int × (List GValue))) (n : Nat) (a0 : Int) (e0 : (List GValue)) : Option (Int × (List GValue)) :=
 (xq G_laws_markValueS n a0 0 e0).bind fun ⟨o1_0, o1_1, o1_2⟩ =>
 some (o1_0, o1_2)
theorem Ro (G_laws_markValueS : Int → (List GValue) → Option (Int × (List GValue))) (H_laws_markValueS : qO G_laws_markValueS) (n : Nat) : qO (ZE G_laws_markValueS n) := fun a0 e0 => tc (
 .lp (QW G_laws_markValueS H_laws_markValueS n a0 0 e0) fun ⟨o1_0, o1_1, o1_2⟩ =>
 .ret (o1_0, o1_2)) (zf Tryz.func145)
def yB : Nat → Int → (List GValue) → Option (Int × (List GValue))
 | 0, _, _ => none
 | n + 1, a0, e0 => ZE (yB n) n a0 e0
theorem Ky (n : Nat) : qO (yB n) := by
 induction n with
 | zero => exact fun _ _ _ h => (by rw [yB] at h; cases h)
 | succ n ih =>
  have ih_laws_markValueS := ih
  exact fun a0 e0 r h => Ro (yB n) ih_laws_markValueS n a0 e0 r (by rw [yB] at h; exact h)
theorem U2 {G : Int → List GValue → Option (Int × List GValue)} : ∀ (l p : List GValue) (k : Int) (m : Nat), (∀ v ∈ l, ∀ i : Int, 0 <= i → i + 2 * yy v.L <= 2 ^ 41 → G i v.L = some (i + cVs v.L, mVs i v.L)) → 0 <= k → k + 2 * yy l <= 2 ^ 41 → p.length + l.length <= 2 ^ 41 → l.length < m → ∃ z, xq G m k (p.length : Int) (p ++ l) = some (k + cVs l, z, p ++ mVs k l) := by
 intro l
 induction l with
 | nil =>
  intro p k m _ _ _ _ hm
  obtain ⟨m, rfl, _⟩ := zg hm
  exact ⟨_, by rw [xq, if_neg (w4 p)]; simp [mVs, cVs]; rfl⟩
 | cons x l ih =>
  intro p k m hG h0 h1 h2 hm
  obtain ⟨m, rfl, hm'⟩ := zg hm
  simp only [List.length_cons] at h2 hm'
  have hx := hG x List.mem_cons_self
  have hc := Qz x
  obtain ⟨kd, n, s, kk, ks⟩ := x
  have hb := kw kk
  have hd := WN ks
  simp only [yy, vsz] at h1
  simp only [cV, vsz] at hc
  simp only [GValue.L] at hx
  obtain ⟨z, hz⟩ := ih (p ++ [mV k (.mk kd n s kk ks)]) (k + cV (.mk kd n s kk ks)) m (fun v hv => hG v (List.mem_cons_of_mem _ hv)) (by omega) (by simp only [cV]; omega) (by simp; omega) (by omega)
  rw [xq, if_pos (Zi p _ l), zd, Option.bind_some, zM, Option.bind_some]
  simp only [wz, zM, Option.bind_some, GValue.Kind, GValue.N, GValue.S, GValue.K, GValue.L]
  rw [yj (x := k + 1) (by omega) (by omega), yj (x := k + 1 + 1) (by omega) (by omega), q4 (by omega) (by omega)]
  simp only [Option.bind_some, wz, zM, GValue.Kind, GValue.N, GValue.S, GValue.K, GValue.L]
  rw [ve (by omega) (by omega)]
  simp only [Option.bind_some, wz, zM, GValue.Kind, GValue.N, GValue.S, GValue.K, GValue.L]
  rw [hx _ (by omega) (by omega)]
  simp only [Option.bind_some, wz, zM, GValue.Kind, GValue.N, GValue.S, GValue.K, GValue.L]
  refine ⟨z, ?_⟩
  rw [yJ p (mV k (.mk kd n s kk ks)) (by omega), show GValue.mk k (k + 1) (mB (k + 1 + 1) s) (mBB (k + 1 + 1 + s.length) kk) (mVs (k + 1 + 1 + s.length + cB kk) ks) = mV k (.mk kd n s kk ks) by simp only [mV], WM p _ l,
   show k + 1 + 1 + (s.length : Int) + (cB kk : Int) + (cVs ks : Int) = k + ((cV (.mk kd n s kk ks) : Nat) : Int) by simp only [cV]; omega, hz]
  simp only [mVs, cVs, List.append_assoc, List.singleton_append]
  rw [show k + ((cV (.mk kd n s kk ks) : Nat) : Int) + (cVs l : Int) = k + ((cV (.mk kd n s kk ks) + cVs l : Nat) : Int) by omega]
theorem M0 : ∀ (N : Nat) (l : List GValue), yy l < N → ∀ (k : Int) (f : Nat), 0 <= k → k + 2 * yy l <= 2 ^ 41 → yy l + 2 <= f → yB f k l = some (k + cVs l, mVs k l) := by
 intro N
 induction N with
 | zero => intro l hl; omega
 | succ N ih =>
  intro l hl k f h0 h1 hf
  obtain ⟨f, rfl, _⟩ := zg (show 0 < f by omega)
  have hlen := yH l
  rw [yB]
  unfold ZE
  obtain ⟨z, hz⟩ := U2 (G := yB f) l [] k f (fun v hv i g0 g1 => by
   have := wa hv
   have := xT v
   exact ih v.L (by omega) i f g0 g1 (by omega)) h0 h1 (by simp; omega) (by omega)
  simp only [List.nil_append, List.length_nil, Int.natCast_zero] at hz
  rw [hz]; rfl
def wK (a0 : Int) (e0 : (List GValue)) : Option (Int × (List GValue)) := if 0 <= a0 ∧ a0 + 2 * yy e0 <= 2 ^ 41 then some (a0 + cVs e0, mVs a0 e0) else none
theorem Kc {a : Int} {s : List GValue} (h0 : 0 <= a) (h1 : a + 2 * yy s <= 2 ^ 41) : wK a s = some (a + cVs s, mVs a s) := if_pos ⟨h0, h1⟩
theorem J8 (a0 : Int) (e0 : (List GValue)) (r : (Int × (List GValue))) (h : wK a0 e0 = some r) : ∃ n, yB n a0 e0 = some r := by
 unfold wK at h
 obtain ⟨⟨h0, h1⟩, h⟩ := zE h
 exact ⟨yy e0 + 2, by rw [M0 _ e0 (Nat.lt_succ_self _) a0 _ h0 h1 (Nat.le_refl _), h]⟩
theorem X4 : qO wK := by
 intro a0 e0 r h
 obtain ⟨n, hn⟩ := J8 a0 e0 r h
 exact (Ky n) a0 e0 r hn
def XV (F : Int → (List GEntry) → Option (Int × (List GEntry))) : Prop := ∀ (a0 : Int) (e0 : (List GEntry)), Oc (F a0 e0) 83 [.obj 9 (eL zz e0)] [vr 0, vi a0] fun r => (vi r.1, [.obj 9 (eL zz r.2)])
def xr : Nat → Int → Int → (List GEntry) → Option (Int × Int × (List GEntry))
  | 0, _, _, _ => none
  | m + 1, a0, v1, e0 =>
  if v1 < (e0.length : Int) then
   (zv v1).bind fun i2 =>
   (e0[i2]?).bind fun x3 =>
   (yu a0 x3.Addr).bind fun ⟨r4_0, r4_1⟩ =>
   ((e0.set i2 (GEntry.mk r4_1 x3.Val x3.Deps x3.Taint x3.Turned))[i2]?).bind fun x5 =>
   (((e0.set i2 (GEntry.mk r4_1 x3.Val x3.Deps x3.Taint x3.Turned)).set i2 (GEntry.mk x5.Addr (GValue.mk r4_0 x5.Val.N x5.Val.S x5.Val.K x5.Val.L) x5.Deps x5.Taint x5.Turned))[i2]?).bind fun x6 =>
   ((((e0.set i2 (GEntry.mk r4_1 x3.Val x3.Deps x3.Taint x3.Turned)).set i2 (GEntry.mk x5.Addr (GValue.mk r4_0 x5.Val.N x5.Val.S x5.Val.K x5.Val.L) x5.Deps x5.Taint x5.Turned)).set i2 (GEntry.mk x6.Addr (GValue.mk x6.Val.Kind (w64 (r4_0 + 1)) x6.Val.S x6.Val.K x6.Val.L) x6.Deps x6.Taint x6.Turned))[i2]?).bind fun x7 =>
   (yu (w64 ((w64 (r4_0 + 1)) + 1)) x7.Val.S).bind fun ⟨r8_0, r8_1⟩ =>
   (((((e0.set i2 (GEntry.mk r4_1 x3.Val x3.Deps x3.Taint x3.Turned)).set i2 (GEntry.mk x5.Addr (GValue.mk r4_0 x5.Val.N x5.Val.S x5.Val.K x5.Val.L) x5.Deps x5.Taint x5.Turned)).set i2 (GEntry.mk x6.Addr (GValue.mk x6.Val.Kind (w64 (r4_0 + 1)) x6.Val.S x6.Val.K x6.Val.L) x6.Deps x6.Taint x6.Turned)).set i2 (GEntry.mk x7.Addr (GValue.mk x7.Val.Kind x7.Val.N r8_1 x7.Val.K x7.Val.L) x7.Deps x7.Taint x7.Turned))[i2]?).bind fun x9 =>
   (yA r8_0 x9.Val.K).bind fun ⟨r10_0, r10_1⟩ =>
   ((((((e0.set i2 (GEntry.mk r4_1 x3.Val x3.Deps x3.Taint x3.Turned)).set i2 (GEntry.mk x5.Addr (GValue.mk r4_0 x5.Val.N x5.Val.S x5.Val.K x5.Val.L) x5.Deps x5.Taint x5.Turned)).set i2 (GEntry.mk x6.Addr (GValue.mk x6.Val.Kind (w64 (r4_0 + 1)) x6.Val.S x6.Val.K x6.Val.L) x6.Deps x6.Taint x6.Turned)).set i2 (GEntry.mk x7.Addr (GValue.mk x7.Val.Kind x7.Val.N r8_1 x7.Val.K x7.Val.L) x7.Deps x7.Taint x7.Turned)).set i2 (GEntry.mk x9.Addr (GValue.mk x9.Val.Kind x9.Val.N x9.Val.S r10_1 x9.Val.L) x9.Deps x9.Taint x9.Turned))[i2]?).bind fun x11 =>
   (wK r10_0 x11.Val.L).bind fun ⟨r12_0, r12_1⟩ =>
   (((((((e0.set i2 (GEntry.mk r4_1 x3.Val x3.Deps x3.Taint x3.Turned)).set i2 (GEntry.mk x5.Addr (GValue.mk r4_0 x5.Val.N x5.Val.S x5.Val.K x5.Val.L) x5.Deps x5.Taint x5.Turned)).set i2 (GEntry.mk x6.Addr (GValue.mk x6.Val.Kind (w64 (r4_0 + 1)) x6.Val.S x6.Val.K x6.Val.L) x6.Deps x6.Taint x6.Turned)).set i2 (GEntry.mk x7.Addr (GValue.mk x7.Val.Kind x7.Val.N r8_1 x7.Val.K x7.Val.L) x7.Deps x7.Taint x7.Turned)).set i2 (GEntry.mk x9.Addr (GValue.mk x9.Val.Kind x9.Val.N x9.Val.S r10_1 x9.Val.L) x9.Deps x9.Taint x9.Turned)).set i2 (GEntry.mk x11.Addr (GValue.mk x11.Val.Kind x11.Val.N x11.Val.S x11.Val.K r12_1) x11.Deps x11.Taint x11.Turned))[i2]?).bind fun x13 =>
   (yA r12_0 x13.Deps).bind fun ⟨r14_0, r14_1⟩ =>
   ((((((((e0.set i2 (GEntry.mk r4_1 x3.Val x3.Deps x3.Taint x3.Turned)).set i2 (GEntry.mk x5.Addr (GValue.mk r4_0 x5.Val.N x5.Val.S x5.Val.K x5.Val.L) x5.Deps x5.Taint x5.Turned)).set i2 (GEntry.mk x6.Addr (GValue.mk x6.Val.Kind (w64 (r4_0 + 1)) x6.Val.S x6.Val.K x6.Val.L) x6.Deps x6.Taint x6.Turned)).set i2 (GEntry.mk x7.Addr (GValue.mk x7.Val.Kind x7.Val.N r8_1 x7.Val.K x7.Val.L) x7.Deps x7.Taint x7.Turned)).set i2 (GEntry.mk x9.Addr (GValue.mk x9.Val.Kind x9.Val.N x9.Val.S r10_1 x9.Val.L) x9.Deps x9.Taint x9.Turned)).set i2 (GEntry.mk x11.Addr (GValue.mk x11.Val.Kind x11.Val.N x11.Val.S x11.Val.K r12_1) x11.Deps x11.Taint x11.Turned)).set i2 (GEntry.mk x13.Addr x13.Val r14_1 x13.Taint x13.Turned))[i2]?).bind fun x15 =>
   (((((((((e0.set i2 (GEntry.mk r4_1 x3.Val x3.Deps x3.Taint x3.Turned)).set i2 (GEntry.mk x5.Addr (GValue.mk r4_0 x5.Val.N x5.Val.S x5.Val.K x5.Val.L) x5.Deps x5.Taint x5.Turned)).set i2 (GEntry.mk x6.Addr (GValue.mk x6.Val.Kind (w64 (r4_0 + 1)) x6.Val.S x6.Val.K x6.Val.L) x6.Deps x6.Taint x6.Turned)).set i2 (GEntry.mk x7.Addr (GValue.mk x7.Val.Kind x7.Val.N r8_1 x7.Val.K x7.Val.L) x7.Deps x7.Taint x7.Turned)).set i2 (GEntry.mk x9.Addr (GValue.mk x9.Val.Kind x9.Val.N x9.Val.S r10_1 x9.Val.L) x9.Deps x9.Taint x9.Turned)).set i2 (GEntry.mk x11.Addr (GValue.mk x11.Val.Kind x11.Val.N x11.Val.S x11.Val.K r12_1) x11.Deps x11.Taint x11.Turned)).set i2 (GEntry.mk x13.Addr x13.Val r14_1 x13.Taint x13.Turned)).set i2 (GEntry.mk x15.Addr x15.Val x15.Deps (decide ((r14_0.tmod 3) = 0)) x15.Turned))[i2]?).bind fun x16 =>
   xr m (w64 ((w64 (r14_0 + 1)) + 1)) (w64 (v1 + 1)) (((((((((e0.set i2 (GEntry.mk r4_1 x3.Val x3.Deps x3.Taint x3.Turned)).set i2 (GEntry.mk x5.Addr (GValue.mk r4_0 x5.Val.N x5.Val.S x5.Val.K x5.Val.L) x5.Deps x5.Taint x5.Turned)).set i2 (GEntry.mk x6.Addr (GValue.mk x6.Val.Kind (w64 (r4_0 + 1)) x6.Val.S x6.Val.K x6.Val.L) x6.Deps x6.Taint x6.Turned)).set i2 (GEntry.mk x7.Addr (GValue.mk x7.Val.Kind x7.Val.N r8_1 x7.Val.K x7.Val.L) x7.Deps x7.Taint x7.Turned)).set i2 (GEntry.mk x9.Addr (GValue.mk x9.Val.Kind x9.Val.N x9.Val.S r10_1 x9.Val.L) x9.Deps x9.Taint x9.Turned)).set i2 (GEntry.mk x11.Addr (GValue.mk x11.Val.Kind x11.Val.N x11.Val.S x11.Val.K r12_1) x11.Deps x11.Taint x11.Turned)).set i2 (GEntry.mk x13.Addr x13.Val r14_1 x13.Taint x13.Turned)).set i2 (GEntry.mk x15.Addr x15.Val x15.Deps (decide ((r14_0.tmod 3) = 0)) x15.Turned)).set i2 (GEntry.mk x16.Addr x16.Val x16.Deps x16.Taint (w64 (r14_0 + 1))))
  else
  some (a0, v1, e0)
theorem QX (m : Nat) : ∀ (a0 : Int) (v1 : Int) (e0 : (List GEntry)), Ol (xr m a0 v1 e0) 83 (zO Tryz.f83 0) ⟨[(0, vr 0), (1, vi a0), (5, vi v1)], [.obj 9 (eL zz e0)], 1⟩ fun o => match o with | ⟨o_0, o_1, o_2⟩ => (.exit 0, ⟨[(0, vr 0), (1, vi o_0), (5, vi o_1), (9, vb false)], [.obj 9 (eL zz o_2)], 1⟩) := by
  induction m with
  | zero => intro a0 v1 e0 o h; cases h
  | succ m ih => exact fun a0 v1 e0 => tlp (
   .le zz e0 <|
   .lI v1 (e0.length : Int) (fun c1 =>
    .na v1 fun i2 =>
    .ix z7 e0 i2 fun x3 =>
    .ag 0 <|
    .cl (xB a0 x3.Addr) fun ⟨r4_0, r4_1⟩ =>
    .ag 1 <|
    .sl (z7 (GEntry.mk r4_1 x3.Val x3.Deps x3.Taint x3.Turned)) e0 i2 <|
    .ag 2 <|
    .ix z7 (e0.set i2 (GEntry.mk r4_1 x3.Val x3.Deps x3.Taint x3.Turned)) i2 fun x5 =>
    .ag 0 <|
    .sl (z7 (GEntry.mk x5.Addr (GValue.mk r4_0 x5.Val.N x5.Val.S x5.Val.K x5.Val.L) x5.Deps x5.Taint x5.Turned)) (e0.set i2 (GEntry.mk r4_1 x3.Val x3.Deps x3.Taint x3.Turned)) i2 <|
    .ag 3 <|
    .ix z7 ((e0.set i2 (GEntry.mk r4_1 x3.Val x3.Deps x3.Taint x3.Turned)).set i2 (GEntry.mk x5.Addr (GValue.mk r4_0 x5.Val.N x5.Val.S x5.Val.K x5.Val.L) x5.Deps x5.Taint x5.Turned)) i2 fun x6 =>
    .ag 0 <|
    .sl (z7 (GEntry.mk x6.Addr (GValue.mk x6.Val.Kind (w64 (r4_0 + 1)) x6.Val.S x6.Val.K x6.Val.L) x6.Deps x6.Taint x6.Turned)) ((e0.set i2 (GEntry.mk r4_1 x3.Val x3.Deps x3.Taint x3.Turned)).set i2 (GEntry.mk x5.Addr (GValue.mk r4_0 x5.Val.N x5.Val.S x5.Val.K x5.Val.L) x5.Deps x5.Taint x5.Turned)) i2 <|
    .ag 4 <|
    .ix z7 (((e0.set i2 (GEntry.mk r4_1 x3.Val x3.Deps x3.Taint x3.Turned)).set i2 (GEntry.mk x5.Addr (GValue.mk r4_0 x5.Val.N x5.Val.S x5.Val.K x5.Val.L) x5.Deps x5.Taint x5.Turned)).set i2 (GEntry.mk x6.Addr (GValue.mk x6.Val.Kind (w64 (r4_0 + 1)) x6.Val.S x6.Val.K x6.Val.L) x6.Deps x6.Taint x6.Turned)) i2 fun x7 =>
    .ag 0 <|
    .cl (xB (w64 ((w64 (r4_0 + 1)) + 1)) x7.Val.S) fun ⟨r8_0, r8_1⟩ =>
    .ag 1 <|
    .sl (z7 (GEntry.mk x7.Addr (GValue.mk x7.Val.Kind x7.Val.N r8_1 x7.Val.K x7.Val.L) x7.Deps x7.Taint x7.Turned)) (((e0.set i2 (GEntry.mk r4_1 x3.Val x3.Deps x3.Taint x3.Turned)).set i2 (GEntry.mk x5.Addr (GValue.mk r4_0 x5.Val.N x5.Val.S x5.Val.K x5.Val.L) x5.Deps x5.Taint x5.Turned)).set i2 (GEntry.mk x6.Addr (GValue.mk x6.Val.Kind (w64 (r4_0 + 1)) x6.Val.S x6.Val.K x6.Val.L) x6.Deps x6.Taint x6.Turned)) i2 <|
    .ag 6 <|
    .ix z7 ((((e0.set i2 (GEntry.mk r4_1 x3.Val x3.Deps x3.Taint x3.Turned)).set i2 (GEntry.mk x5.Addr (GValue.mk r4_0 x5.Val.N x5.Val.S x5.Val.K x5.Val.L) x5.Deps x5.Taint x5.Turned)).set i2 (GEntry.mk x6.Addr (GValue.mk x6.Val.Kind (w64 (r4_0 + 1)) x6.Val.S x6.Val.K x6.Val.L) x6.Deps x6.Taint x6.Turned)).set i2 (GEntry.mk x7.Addr (GValue.mk x7.Val.Kind x7.Val.N r8_1 x7.Val.K x7.Val.L) x7.Deps x7.Taint x7.Turned)) i2 fun x9 =>
    .ag 0 <|
    .cl (q5 r8_0 x9.Val.K) fun ⟨r10_0, r10_1⟩ =>
    .ag 1 <|
    .sl (z7 (GEntry.mk x9.Addr (GValue.mk x9.Val.Kind x9.Val.N x9.Val.S r10_1 x9.Val.L) x9.Deps x9.Taint x9.Turned)) ((((e0.set i2 (GEntry.mk r4_1 x3.Val x3.Deps x3.Taint x3.Turned)).set i2 (GEntry.mk x5.Addr (GValue.mk r4_0 x5.Val.N x5.Val.S x5.Val.K x5.Val.L) x5.Deps x5.Taint x5.Turned)).set i2 (GEntry.mk x6.Addr (GValue.mk x6.Val.Kind (w64 (r4_0 + 1)) x6.Val.S x6.Val.K x6.Val.L) x6.Deps x6.Taint x6.Turned)).set i2 (GEntry.mk x7.Addr (GValue.mk x7.Val.Kind x7.Val.N r8_1 x7.Val.K x7.Val.L) x7.Deps x7.Taint x7.Turned)) i2 <|
    .ag 8 <|
    .ix z7 (((((e0.set i2 (GEntry.mk r4_1 x3.Val x3.Deps x3.Taint x3.Turned)).set i2 (GEntry.mk x5.Addr (GValue.mk r4_0 x5.Val.N x5.Val.S x5.Val.K x5.Val.L) x5.Deps x5.Taint x5.Turned)).set i2 (GEntry.mk x6.Addr (GValue.mk x6.Val.Kind (w64 (r4_0 + 1)) x6.Val.S x6.Val.K x6.Val.L) x6.Deps x6.Taint x6.Turned)).set i2 (GEntry.mk x7.Addr (GValue.mk x7.Val.Kind x7.Val.N r8_1 x7.Val.K x7.Val.L) x7.Deps x7.Taint x7.Turned)).set i2 (GEntry.mk x9.Addr (GValue.mk x9.Val.Kind x9.Val.N x9.Val.S r10_1 x9.Val.L) x9.Deps x9.Taint x9.Turned)) i2 fun x11 =>
    .ag 0 <|
    .cl (X4 r10_0 x11.Val.L) fun ⟨r12_0, r12_1⟩ =>
    .ag 1 <|
    .sl (z7 (GEntry.mk x11.Addr (GValue.mk x11.Val.Kind x11.Val.N x11.Val.S x11.Val.K r12_1) x11.Deps x11.Taint x11.Turned)) (((((e0.set i2 (GEntry.mk r4_1 x3.Val x3.Deps x3.Taint x3.Turned)).set i2 (GEntry.mk x5.Addr (GValue.mk r4_0 x5.Val.N x5.Val.S x5.Val.K x5.Val.L) x5.Deps x5.Taint x5.Turned)).set i2 (GEntry.mk x6.Addr (GValue.mk x6.Val.Kind (w64 (r4_0 + 1)) x6.Val.S x6.Val.K x6.Val.L) x6.Deps x6.Taint x6.Turned)).set i2 (GEntry.mk x7.Addr (GValue.mk x7.Val.Kind x7.Val.N r8_1 x7.Val.K x7.Val.L) x7.Deps x7.Taint x7.Turned)).set i2 (GEntry.mk x9.Addr (GValue.mk x9.Val.Kind x9.Val.N x9.Val.S r10_1 x9.Val.L) x9.Deps x9.Taint x9.Turned)) i2 <|
    .ag 10 <|
    .ix z7 ((((((e0.set i2 (GEntry.mk r4_1 x3.Val x3.Deps x3.Taint x3.Turned)).set i2 (GEntry.mk x5.Addr (GValue.mk r4_0 x5.Val.N x5.Val.S x5.Val.K x5.Val.L) x5.Deps x5.Taint x5.Turned)).set i2 (GEntry.mk x6.Addr (GValue.mk x6.Val.Kind (w64 (r4_0 + 1)) x6.Val.S x6.Val.K x6.Val.L) x6.Deps x6.Taint x6.Turned)).set i2 (GEntry.mk x7.Addr (GValue.mk x7.Val.Kind x7.Val.N r8_1 x7.Val.K x7.Val.L) x7.Deps x7.Taint x7.Turned)).set i2 (GEntry.mk x9.Addr (GValue.mk x9.Val.Kind x9.Val.N x9.Val.S r10_1 x9.Val.L) x9.Deps x9.Taint x9.Turned)).set i2 (GEntry.mk x11.Addr (GValue.mk x11.Val.Kind x11.Val.N x11.Val.S x11.Val.K r12_1) x11.Deps x11.Taint x11.Turned)) i2 fun x13 =>
    .ag 0 <|
    .cl (q5 r12_0 x13.Deps) fun ⟨r14_0, r14_1⟩ =>
    .ag 1 <|
    .sl (z7 (GEntry.mk x13.Addr x13.Val r14_1 x13.Taint x13.Turned)) ((((((e0.set i2 (GEntry.mk r4_1 x3.Val x3.Deps x3.Taint x3.Turned)).set i2 (GEntry.mk x5.Addr (GValue.mk r4_0 x5.Val.N x5.Val.S x5.Val.K x5.Val.L) x5.Deps x5.Taint x5.Turned)).set i2 (GEntry.mk x6.Addr (GValue.mk x6.Val.Kind (w64 (r4_0 + 1)) x6.Val.S x6.Val.K x6.Val.L) x6.Deps x6.Taint x6.Turned)).set i2 (GEntry.mk x7.Addr (GValue.mk x7.Val.Kind x7.Val.N r8_1 x7.Val.K x7.Val.L) x7.Deps x7.Taint x7.Turned)).set i2 (GEntry.mk x9.Addr (GValue.mk x9.Val.Kind x9.Val.N x9.Val.S r10_1 x9.Val.L) x9.Deps x9.Taint x9.Turned)).set i2 (GEntry.mk x11.Addr (GValue.mk x11.Val.Kind x11.Val.N x11.Val.S x11.Val.K r12_1) x11.Deps x11.Taint x11.Turned)) i2 <|
    .q ⟨.nz 3, .b true, rfl⟩ <|
    .eD (r14_0.tmod 3) 0 <|
    .ag 12 <|
    .ix z7 (((((((e0.set i2 (GEntry.mk r4_1 x3.Val x3.Deps x3.Taint x3.Turned)).set i2 (GEntry.mk x5.Addr (GValue.mk r4_0 x5.Val.N x5.Val.S x5.Val.K x5.Val.L) x5.Deps x5.Taint x5.Turned)).set i2 (GEntry.mk x6.Addr (GValue.mk x6.Val.Kind (w64 (r4_0 + 1)) x6.Val.S x6.Val.K x6.Val.L) x6.Deps x6.Taint x6.Turned)).set i2 (GEntry.mk x7.Addr (GValue.mk x7.Val.Kind x7.Val.N r8_1 x7.Val.K x7.Val.L) x7.Deps x7.Taint x7.Turned)).set i2 (GEntry.mk x9.Addr (GValue.mk x9.Val.Kind x9.Val.N x9.Val.S r10_1 x9.Val.L) x9.Deps x9.Taint x9.Turned)).set i2 (GEntry.mk x11.Addr (GValue.mk x11.Val.Kind x11.Val.N x11.Val.S x11.Val.K r12_1) x11.Deps x11.Taint x11.Turned)).set i2 (GEntry.mk x13.Addr x13.Val r14_1 x13.Taint x13.Turned)) i2 fun x15 =>
    .ag 0 <|
    .sl (z7 (GEntry.mk x15.Addr x15.Val x15.Deps (decide ((r14_0.tmod 3) = 0)) x15.Turned)) (((((((e0.set i2 (GEntry.mk r4_1 x3.Val x3.Deps x3.Taint x3.Turned)).set i2 (GEntry.mk x5.Addr (GValue.mk r4_0 x5.Val.N x5.Val.S x5.Val.K x5.Val.L) x5.Deps x5.Taint x5.Turned)).set i2 (GEntry.mk x6.Addr (GValue.mk x6.Val.Kind (w64 (r4_0 + 1)) x6.Val.S x6.Val.K x6.Val.L) x6.Deps x6.Taint x6.Turned)).set i2 (GEntry.mk x7.Addr (GValue.mk x7.Val.Kind x7.Val.N r8_1 x7.Val.K x7.Val.L) x7.Deps x7.Taint x7.Turned)).set i2 (GEntry.mk x9.Addr (GValue.mk x9.Val.Kind x9.Val.N x9.Val.S r10_1 x9.Val.L) x9.Deps x9.Taint x9.Turned)).set i2 (GEntry.mk x11.Addr (GValue.mk x11.Val.Kind x11.Val.N x11.Val.S x11.Val.K r12_1) x11.Deps x11.Taint x11.Turned)).set i2 (GEntry.mk x13.Addr x13.Val r14_1 x13.Taint x13.Turned)) i2 <|
    .ag 13 <|
    .ix z7 ((((((((e0.set i2 (GEntry.mk r4_1 x3.Val x3.Deps x3.Taint x3.Turned)).set i2 (GEntry.mk x5.Addr (GValue.mk r4_0 x5.Val.N x5.Val.S x5.Val.K x5.Val.L) x5.Deps x5.Taint x5.Turned)).set i2 (GEntry.mk x6.Addr (GValue.mk x6.Val.Kind (w64 (r4_0 + 1)) x6.Val.S x6.Val.K x6.Val.L) x6.Deps x6.Taint x6.Turned)).set i2 (GEntry.mk x7.Addr (GValue.mk x7.Val.Kind x7.Val.N r8_1 x7.Val.K x7.Val.L) x7.Deps x7.Taint x7.Turned)).set i2 (GEntry.mk x9.Addr (GValue.mk x9.Val.Kind x9.Val.N x9.Val.S r10_1 x9.Val.L) x9.Deps x9.Taint x9.Turned)).set i2 (GEntry.mk x11.Addr (GValue.mk x11.Val.Kind x11.Val.N x11.Val.S x11.Val.K r12_1) x11.Deps x11.Taint x11.Turned)).set i2 (GEntry.mk x13.Addr x13.Val r14_1 x13.Taint x13.Turned)).set i2 (GEntry.mk x15.Addr x15.Val x15.Deps (decide ((r14_0.tmod 3) = 0)) x15.Turned)) i2 fun x16 =>
    .ag 0 <|
    .sl (z7 (GEntry.mk x16.Addr x16.Val x16.Deps x16.Taint (w64 (r14_0 + 1)))) ((((((((e0.set i2 (GEntry.mk r4_1 x3.Val x3.Deps x3.Taint x3.Turned)).set i2 (GEntry.mk x5.Addr (GValue.mk r4_0 x5.Val.N x5.Val.S x5.Val.K x5.Val.L) x5.Deps x5.Taint x5.Turned)).set i2 (GEntry.mk x6.Addr (GValue.mk x6.Val.Kind (w64 (r4_0 + 1)) x6.Val.S x6.Val.K x6.Val.L) x6.Deps x6.Taint x6.Turned)).set i2 (GEntry.mk x7.Addr (GValue.mk x7.Val.Kind x7.Val.N r8_1 x7.Val.K x7.Val.L) x7.Deps x7.Taint x7.Turned)).set i2 (GEntry.mk x9.Addr (GValue.mk x9.Val.Kind x9.Val.N x9.Val.S r10_1 x9.Val.L) x9.Deps x9.Taint x9.Turned)).set i2 (GEntry.mk x11.Addr (GValue.mk x11.Val.Kind x11.Val.N x11.Val.S x11.Val.K r12_1) x11.Deps x11.Taint x11.Turned)).set i2 (GEntry.mk x13.Addr x13.Val r14_1 x13.Taint x13.Turned)).set i2 (GEntry.mk x15.Addr x15.Val x15.Deps (decide ((r14_0.tmod 3) = 0)) x15.Turned)) i2 <|
    .go (ih (w64 ((w64 (r14_0 + 1)) + 1)) (w64 (v1 + 1)) (((((((((e0.set i2 (GEntry.mk r4_1 x3.Val x3.Deps x3.Taint x3.Turned)).set i2 (GEntry.mk x5.Addr (GValue.mk r4_0 x5.Val.N x5.Val.S x5.Val.K x5.Val.L) x5.Deps x5.Taint x5.Turned)).set i2 (GEntry.mk x6.Addr (GValue.mk x6.Val.Kind (w64 (r4_0 + 1)) x6.Val.S x6.Val.K x6.Val.L) x6.Deps x6.Taint x6.Turned)).set i2 (GEntry.mk x7.Addr (GValue.mk x7.Val.Kind x7.Val.N r8_1 x7.Val.K x7.Val.L) x7.Deps x7.Taint x7.Turned)).set i2 (GEntry.mk x9.Addr (GValue.mk x9.Val.Kind x9.Val.N x9.Val.S r10_1 x9.Val.L) x9.Deps x9.Taint x9.Turned)).set i2 (GEntry.mk x11.Addr (GValue.mk x11.Val.Kind x11.Val.N x11.Val.S x11.Val.K r12_1) x11.Deps x11.Taint x11.Turned)).set i2 (GEntry.mk x13.Addr x13.Val r14_1 x13.Taint x13.Turned)).set i2 (GEntry.mk x15.Addr x15.Val x15.Deps (decide ((r14_0.tmod 3) = 0)) x15.Turned)).set i2 (GEntry.mk x16.Addr x16.Val x16.Deps x16.Taint (w64 (r14_0 + 1)))))) fun c1 =>
   .ret (a0, v1, e0))
def ZF (n : Nat) (a0 : Int) (e0 : (List GEntry)) : Option (Int × (List GEntry)) :=
 (xr n a0 0 e0).bind fun ⟨o1_0, o1_1, o1_2⟩ =>
 some (o1_0, o1_2)
theorem Rp (n : Nat) : XV (ZF n) := fun a0 e0 => tc (
 .lp (QX n a0 0 e0) fun ⟨o1_0, o1_1, o1_2⟩ =>
 .ret (o1_0, o1_2)) (zf Tryz.func83)
theorem U3 : ∀ (l p : List GEntry) (k : Int) (m : Nat), 0 <= k → k + 4 * zY l <= 2 ^ 40 → p.length + l.length <= 2 ^ 40 → l.length < m → ∃ z, xr m k (p.length : Int) (p ++ l) = some (k + cEs l, z, p ++ mEs k l) := by
 intro l
 induction l with
 | nil =>
  intro p k m _ _ _ hm
  obtain ⟨m, rfl, _⟩ := zg hm
  exact ⟨_, by rw [xr, if_neg (w4 p)]; simp [mEs, cEs]; rfl⟩
 | cons x l ih =>
  intro p k m h0 h1 h2 hm
  obtain ⟨m, rfl, hm'⟩ := zg hm
  simp only [List.length_cons] at h2 hm'
  have hc := GW x
  simp only [zY] at h1
  obtain ⟨z, hz⟩ := ih (p ++ [mE k x]) (k + cE x) m (by omega) (by omega) (by simp; omega) (by omega)
  have hcv := Qz x.Val
  have hcd := kw x.Deps
  have hve := xT x.Val
  have hcq := Ll x.Val
  have hmq := Lm (k + x.Addr.length) x.Val
  have hb := kw x.Val.K
  have hd := WN x.Val.L
  have hmE : mE k x = .mk (mB k x.Addr) (mV (k + x.Addr.length) x.Val) (mBB (k + x.Addr.length + cV x.Val) x.Deps) (decide ((k + x.Addr.length + cV x.Val + cB x.Deps).tmod 3 = 0)) (k + x.Addr.length + cV x.Val + cB x.Deps + 1) := rfl
  have hcE : cE x = x.Addr.length + cV x.Val + cB x.Deps + 2 := rfl
  unfold esz at h1 hc
  obtain ⟨ad, v, dp, ta, tu⟩ := x
  obtain ⟨kd, n, s, kk, ks⟩ := v
  simp only [GEntry.Addr, GEntry.Val, GEntry.Deps, GValue.S, GValue.K, GValue.L] at *
  rw [xr, if_pos (Zi p _ l), zd, Option.bind_some, zM, Option.bind_some]
  simp only [GEntry.Addr, GEntry.Val, GEntry.Deps, GEntry.Taint, GEntry.Turned]
  rw [q4 (by omega) (by omega)]
  simp only [Option.bind_some, wz, zM, GValue.Kind, GValue.N, GValue.S, GValue.K, GValue.L, GEntry.Addr, GEntry.Val, GEntry.Deps, GEntry.Taint, GEntry.Turned]
  rw [yj (x := k + (ad.length : Int) + 1) (by omega) (by omega), yj (x := k + (ad.length : Int) + 1 + 1) (by omega) (by omega), q4 (by omega) (by omega)]
  simp only [Option.bind_some, wz, zM, GValue.Kind, GValue.N, GValue.S, GValue.K, GValue.L, GEntry.Addr, GEntry.Val, GEntry.Deps, GEntry.Taint, GEntry.Turned]
  rw [ve (by omega) (by omega)]
  simp only [Option.bind_some, wz, zM, GValue.Kind, GValue.N, GValue.S, GValue.K, GValue.L, GEntry.Addr, GEntry.Val, GEntry.Deps, GEntry.Taint, GEntry.Turned]
  rw [Kc (by omega) (by omega)]
  simp only [Option.bind_some, wz, zM, GValue.Kind, GValue.N, GValue.S, GValue.K, GValue.L, GEntry.Addr, GEntry.Val, GEntry.Deps, GEntry.Taint, GEntry.Turned]
  have e1 : k + (ad.length : Int) + 1 + 1 + (s.length : Int) + (cB kk : Int) + (cVs ks : Int) = k + (ad.length : Int) + (cV (.mk kd n s kk ks) : Int) := by omega
  rw [e1, ve (by omega) (by omega)]
  simp only [Option.bind_some, wz, zM, GValue.Kind, GValue.N, GValue.S, GValue.K, GValue.L, GEntry.Addr, GEntry.Val, GEntry.Deps, GEntry.Taint, GEntry.Turned]
  rw [yj (x := k + (ad.length : Int) + (cV (.mk kd n s kk ks) : Int) + (cB dp : Int) + 1) (by omega) (by omega), yj (x := k + (ad.length : Int) + (cV (.mk kd n s kk ks) : Int) + (cB dp : Int) + 1 + 1) (by omega) (by omega), <- hmq]
  refine ⟨z, Eq.trans ?_ (Eq.trans hz ?_)⟩
  ·congr 1
   ·omega
   ·exact yJ p (mE k _) (by omega)
   ·rw [List.append_assoc, List.singleton_append, hmE]; congr
  simp only [mEs, cEs, List.append_assoc, List.singleton_append]
  rw [show k + ((cE (.mk ad (.mk kd n s kk ks) dp ta tu) : Nat) : Int) + (cEs l : Int) = k + ((cE (.mk ad (.mk kd n s kk ks) dp ta tu) + cEs l : Nat) : Int) by omega]
def qP (a0 : Int) (e0 : (List GEntry)) : Option (Int × (List GEntry)) := if 0 <= a0 ∧ a0 + 4 * zY e0 <= 2 ^ 40 then some (a0 + cEs e0, mEs a0 e0) else none
theorem Kd {a : Int} {s : List GEntry} (h0 : 0 <= a) (h1 : a + 4 * zY s <= 2 ^ 40) : qP a s = some (a + cEs s, mEs a s) := if_pos ⟨h0, h1⟩
theorem J9 (a0 : Int) (e0 : (List GEntry)) (r : (Int × (List GEntry))) (h : qP a0 e0 = some r) : ∃ n, ZF n a0 e0 = some r := by
 unfold qP at h
 obtain ⟨⟨h0, h1⟩, h⟩ := zE h
 have := ql e0
 obtain ⟨z, hz⟩ := U3 e0 [] a0 (e0.length + 1) h0 h1 (by simp; omega) (by omega)
 refine ⟨e0.length + 1, ?_⟩
 unfold ZF
 simp only [List.nil_append, List.length_nil, Int.natCast_zero] at hz
 rw [hz]
 exact h
theorem Vz : XV qP := fun a0 e0 r h => (J9 a0 e0 r h).elim fun n hn => Rp n a0 e0 r hn
def xZ (a0_0 : Int) (a0_1 : Bool) (a0_3 : Int) (a1 : Int) (e0 : (List UInt8)) (e1 : (List GEntry)) : Option (Int × (List UInt8) × (List GEntry)) :=
 (yu a1 e0).bind fun ⟨r1_0, r1_1⟩ =>
 (qP r1_0 e1).bind fun ⟨r2_0, r2_1⟩ =>
 some (r2_0, r1_1, r2_1)
theorem ZG (a0_0 : Int) (a0_1 : Bool) (a0_3 : Int) (a1 : Int) (e0 : (List UInt8)) (e1 : (List GEntry)) : Oc (xZ a0_0 a0_1 a0_3 a1 e0 e1) 23 [.obj 1 (eL za e0), .obj 9 (eL zz e1)] [.val true [ci a0_0, .bool a0_1, .ref 0, ci a0_3, .ref 1], vi a1] fun r => (vi r.1, [.obj 1 (eL za r.2.1), .obj 9 (eL zz r.2.2)]) := tc (
 .cl (xB a1 e0) fun ⟨r1_0, r1_1⟩ =>
 .cl (Vz r1_0 e1) fun ⟨r2_0, r2_1⟩ =>
 .ret (r2_0, r1_1, r2_1)) (zf Tryz.func23)
def XW (F : Int → (List GEvent) → Option (Int × (List GEvent))) : Prop := ∀ (a0 : Int) (e0 : (List GEvent)), Oc (F a0 e0) 92 [.obj 9 (eL xD e0)] [vr 0, vi a0] fun r => (vi r.1, [.obj 9 (eL xD r.2)])
def xt : Nat → Int → Int → (List GEvent) → Option (Int × Int × (List GEvent))
  | 0, _, _, _ => none
  | m + 1, a0, v1, e0 =>
  if v1 < (e0.length : Int) then
   (zv v1).bind fun i2 =>
   (e0[i2]?).bind fun x3 =>
   ((e0.set i2 (GEvent.mk a0 x3.Addr x3.Act x3.Val x3.Deps))[i2]?).bind fun x4 =>
   (yu (w64 (a0 + 1)) x4.Addr).bind fun ⟨r5_0, r5_1⟩ =>
   (((e0.set i2 (GEvent.mk a0 x3.Addr x3.Act x3.Val x3.Deps)).set i2 (GEvent.mk x4.Kind r5_1 x4.Act x4.Val x4.Deps))[i2]?).bind fun x6 =>
   ((((e0.set i2 (GEvent.mk a0 x3.Addr x3.Act x3.Val x3.Deps)).set i2 (GEvent.mk x4.Kind r5_1 x4.Act x4.Val x4.Deps)).set i2 (GEvent.mk x6.Kind x6.Addr r5_0 x6.Val x6.Deps))[i2]?).bind fun x7 =>
   (((((e0.set i2 (GEvent.mk a0 x3.Addr x3.Act x3.Val x3.Deps)).set i2 (GEvent.mk x4.Kind r5_1 x4.Act x4.Val x4.Deps)).set i2 (GEvent.mk x6.Kind x6.Addr r5_0 x6.Val x6.Deps)).set i2 (GEvent.mk x7.Kind x7.Addr x7.Act (GValue.mk (w64 (r5_0 + 1)) x7.Val.N x7.Val.S x7.Val.K x7.Val.L) x7.Deps))[i2]?).bind fun x8 =>
   ((((((e0.set i2 (GEvent.mk a0 x3.Addr x3.Act x3.Val x3.Deps)).set i2 (GEvent.mk x4.Kind r5_1 x4.Act x4.Val x4.Deps)).set i2 (GEvent.mk x6.Kind x6.Addr r5_0 x6.Val x6.Deps)).set i2 (GEvent.mk x7.Kind x7.Addr x7.Act (GValue.mk (w64 (r5_0 + 1)) x7.Val.N x7.Val.S x7.Val.K x7.Val.L) x7.Deps)).set i2 (GEvent.mk x8.Kind x8.Addr x8.Act (GValue.mk x8.Val.Kind (w64 ((w64 (r5_0 + 1)) + 1)) x8.Val.S x8.Val.K x8.Val.L) x8.Deps))[i2]?).bind fun x9 =>
   (yu (w64 ((w64 ((w64 (r5_0 + 1)) + 1)) + 1)) x9.Val.S).bind fun ⟨r10_0, r10_1⟩ =>
   (((((((e0.set i2 (GEvent.mk a0 x3.Addr x3.Act x3.Val x3.Deps)).set i2 (GEvent.mk x4.Kind r5_1 x4.Act x4.Val x4.Deps)).set i2 (GEvent.mk x6.Kind x6.Addr r5_0 x6.Val x6.Deps)).set i2 (GEvent.mk x7.Kind x7.Addr x7.Act (GValue.mk (w64 (r5_0 + 1)) x7.Val.N x7.Val.S x7.Val.K x7.Val.L) x7.Deps)).set i2 (GEvent.mk x8.Kind x8.Addr x8.Act (GValue.mk x8.Val.Kind (w64 ((w64 (r5_0 + 1)) + 1)) x8.Val.S x8.Val.K x8.Val.L) x8.Deps)).set i2 (GEvent.mk x9.Kind x9.Addr x9.Act (GValue.mk x9.Val.Kind x9.Val.N r10_1 x9.Val.K x9.Val.L) x9.Deps))[i2]?).bind fun x11 =>
   (yA r10_0 x11.Val.K).bind fun ⟨r12_0, r12_1⟩ =>
   ((((((((e0.set i2 (GEvent.mk a0 x3.Addr x3.Act x3.Val x3.Deps)).set i2 (GEvent.mk x4.Kind r5_1 x4.Act x4.Val x4.Deps)).set i2 (GEvent.mk x6.Kind x6.Addr r5_0 x6.Val x6.Deps)).set i2 (GEvent.mk x7.Kind x7.Addr x7.Act (GValue.mk (w64 (r5_0 + 1)) x7.Val.N x7.Val.S x7.Val.K x7.Val.L) x7.Deps)).set i2 (GEvent.mk x8.Kind x8.Addr x8.Act (GValue.mk x8.Val.Kind (w64 ((w64 (r5_0 + 1)) + 1)) x8.Val.S x8.Val.K x8.Val.L) x8.Deps)).set i2 (GEvent.mk x9.Kind x9.Addr x9.Act (GValue.mk x9.Val.Kind x9.Val.N r10_1 x9.Val.K x9.Val.L) x9.Deps)).set i2 (GEvent.mk x11.Kind x11.Addr x11.Act (GValue.mk x11.Val.Kind x11.Val.N x11.Val.S r12_1 x11.Val.L) x11.Deps))[i2]?).bind fun x13 =>
   (wK r12_0 x13.Val.L).bind fun ⟨r14_0, r14_1⟩ =>
   (((((((((e0.set i2 (GEvent.mk a0 x3.Addr x3.Act x3.Val x3.Deps)).set i2 (GEvent.mk x4.Kind r5_1 x4.Act x4.Val x4.Deps)).set i2 (GEvent.mk x6.Kind x6.Addr r5_0 x6.Val x6.Deps)).set i2 (GEvent.mk x7.Kind x7.Addr x7.Act (GValue.mk (w64 (r5_0 + 1)) x7.Val.N x7.Val.S x7.Val.K x7.Val.L) x7.Deps)).set i2 (GEvent.mk x8.Kind x8.Addr x8.Act (GValue.mk x8.Val.Kind (w64 ((w64 (r5_0 + 1)) + 1)) x8.Val.S x8.Val.K x8.Val.L) x8.Deps)).set i2 (GEvent.mk x9.Kind x9.Addr x9.Act (GValue.mk x9.Val.Kind x9.Val.N r10_1 x9.Val.K x9.Val.L) x9.Deps)).set i2 (GEvent.mk x11.Kind x11.Addr x11.Act (GValue.mk x11.Val.Kind x11.Val.N x11.Val.S r12_1 x11.Val.L) x11.Deps)).set i2 (GEvent.mk x13.Kind x13.Addr x13.Act (GValue.mk x13.Val.Kind x13.Val.N x13.Val.S x13.Val.K r14_1) x13.Deps))[i2]?).bind fun x15 =>
   (yA r14_0 x15.Deps).bind fun ⟨r16_0, r16_1⟩ =>
   xt m r16_0 (w64 (v1 + 1)) (((((((((e0.set i2 (GEvent.mk a0 x3.Addr x3.Act x3.Val x3.Deps)).set i2 (GEvent.mk x4.Kind r5_1 x4.Act x4.Val x4.Deps)).set i2 (GEvent.mk x6.Kind x6.Addr r5_0 x6.Val x6.Deps)).set i2 (GEvent.mk x7.Kind x7.Addr x7.Act (GValue.mk (w64 (r5_0 + 1)) x7.Val.N x7.Val.S x7.Val.K x7.Val.L) x7.Deps)).set i2 (GEvent.mk x8.Kind x8.Addr x8.Act (GValue.mk x8.Val.Kind (w64 ((w64 (r5_0 + 1)) + 1)) x8.Val.S x8.Val.K x8.Val.L) x8.Deps)).set i2 (GEvent.mk x9.Kind x9.Addr x9.Act (GValue.mk x9.Val.Kind x9.Val.N r10_1 x9.Val.K x9.Val.L) x9.Deps)).set i2 (GEvent.mk x11.Kind x11.Addr x11.Act (GValue.mk x11.Val.Kind x11.Val.N x11.Val.S r12_1 x11.Val.L) x11.Deps)).set i2 (GEvent.mk x13.Kind x13.Addr x13.Act (GValue.mk x13.Val.Kind x13.Val.N x13.Val.S x13.Val.K r14_1) x13.Deps)).set i2 (GEvent.mk x15.Kind x15.Addr x15.Act x15.Val r16_1))
  else
  some (a0, v1, e0)
theorem QY (m : Nat) : ∀ (a0 : Int) (v1 : Int) (e0 : (List GEvent)), Ol (xt m a0 v1 e0) 92 (zO Tryz.f92 0) ⟨[(0, vr 0), (1, vi a0), (5, vi v1)], [.obj 9 (eL xD e0)], 1⟩ fun o => match o with | ⟨o_0, o_1, o_2⟩ => (.exit 0, ⟨[(0, vr 0), (1, vi o_0), (5, vi o_1), (9, vb false)], [.obj 9 (eL xD o_2)], 1⟩) := by
  induction m with
  | zero => intro a0 v1 e0 o h; cases h
  | succ m ih => exact fun a0 v1 e0 => tlp (
   .le xD e0 <|
   .lI v1 (e0.length : Int) (fun c1 =>
    .na v1 fun i2 =>
    .ix yf e0 i2 fun x3 =>
    .ag 0 <|
    .sl (yf (GEvent.mk a0 x3.Addr x3.Act x3.Val x3.Deps)) e0 i2 <|
    .ag 1 <|
    .ix yf (e0.set i2 (GEvent.mk a0 x3.Addr x3.Act x3.Val x3.Deps)) i2 fun x4 =>
    .ag 0 <|
    .cl (xB (w64 (a0 + 1)) x4.Addr) fun ⟨r5_0, r5_1⟩ =>
    .ag 1 <|
    .sl (yf (GEvent.mk x4.Kind r5_1 x4.Act x4.Val x4.Deps)) (e0.set i2 (GEvent.mk a0 x3.Addr x3.Act x3.Val x3.Deps)) i2 <|
    .ag 3 <|
    .ix yf ((e0.set i2 (GEvent.mk a0 x3.Addr x3.Act x3.Val x3.Deps)).set i2 (GEvent.mk x4.Kind r5_1 x4.Act x4.Val x4.Deps)) i2 fun x6 =>
    .ag 0 <|
    .sl (yf (GEvent.mk x6.Kind x6.Addr r5_0 x6.Val x6.Deps)) ((e0.set i2 (GEvent.mk a0 x3.Addr x3.Act x3.Val x3.Deps)).set i2 (GEvent.mk x4.Kind r5_1 x4.Act x4.Val x4.Deps)) i2 <|
    .ag 4 <|
    .ix yf (((e0.set i2 (GEvent.mk a0 x3.Addr x3.Act x3.Val x3.Deps)).set i2 (GEvent.mk x4.Kind r5_1 x4.Act x4.Val x4.Deps)).set i2 (GEvent.mk x6.Kind x6.Addr r5_0 x6.Val x6.Deps)) i2 fun x7 =>
    .ag 0 <|
    .sl (yf (GEvent.mk x7.Kind x7.Addr x7.Act (GValue.mk (w64 (r5_0 + 1)) x7.Val.N x7.Val.S x7.Val.K x7.Val.L) x7.Deps)) (((e0.set i2 (GEvent.mk a0 x3.Addr x3.Act x3.Val x3.Deps)).set i2 (GEvent.mk x4.Kind r5_1 x4.Act x4.Val x4.Deps)).set i2 (GEvent.mk x6.Kind x6.Addr r5_0 x6.Val x6.Deps)) i2 <|
    .ag 5 <|
    .ix yf ((((e0.set i2 (GEvent.mk a0 x3.Addr x3.Act x3.Val x3.Deps)).set i2 (GEvent.mk x4.Kind r5_1 x4.Act x4.Val x4.Deps)).set i2 (GEvent.mk x6.Kind x6.Addr r5_0 x6.Val x6.Deps)).set i2 (GEvent.mk x7.Kind x7.Addr x7.Act (GValue.mk (w64 (r5_0 + 1)) x7.Val.N x7.Val.S x7.Val.K x7.Val.L) x7.Deps)) i2 fun x8 =>
    .ag 0 <|
    .sl (yf (GEvent.mk x8.Kind x8.Addr x8.Act (GValue.mk x8.Val.Kind (w64 ((w64 (r5_0 + 1)) + 1)) x8.Val.S x8.Val.K x8.Val.L) x8.Deps)) ((((e0.set i2 (GEvent.mk a0 x3.Addr x3.Act x3.Val x3.Deps)).set i2 (GEvent.mk x4.Kind r5_1 x4.Act x4.Val x4.Deps)).set i2 (GEvent.mk x6.Kind x6.Addr r5_0 x6.Val x6.Deps)).set i2 (GEvent.mk x7.Kind x7.Addr x7.Act (GValue.mk (w64 (r5_0 + 1)) x7.Val.N x7.Val.S x7.Val.K x7.Val.L) x7.Deps)) i2 <|
    .ag 6 <|
    .ix yf (((((e0.set i2 (GEvent.mk a0 x3.Addr x3.Act x3.Val x3.Deps)).set i2 (GEvent.mk x4.Kind r5_1 x4.Act x4.Val x4.Deps)).set i2 (GEvent.mk x6.Kind x6.Addr r5_0 x6.Val x6.Deps)).set i2 (GEvent.mk x7.Kind x7.Addr x7.Act (GValue.mk (w64 (r5_0 + 1)) x7.Val.N x7.Val.S x7.Val.K x7.Val.L) x7.Deps)).set i2 (GEvent.mk x8.Kind x8.Addr x8.Act (GValue.mk x8.Val.Kind (w64 ((w64 (r5_0 + 1)) + 1)) x8.Val.S x8.Val.K x8.Val.L) x8.Deps)) i2 fun x9 =>
    .ag 0 <|
    .cl (xB (w64 ((w64 ((w64 (r5_0 + 1)) + 1)) + 1)) x9.Val.S) fun ⟨r10_0, r10_1⟩ =>
    .ag 1 <|
    .sl (yf (GEvent.mk x9.Kind x9.Addr x9.Act (GValue.mk x9.Val.Kind x9.Val.N r10_1 x9.Val.K x9.Val.L) x9.Deps)) (((((e0.set i2 (GEvent.mk a0 x3.Addr x3.Act x3.Val x3.Deps)).set i2 (GEvent.mk x4.Kind r5_1 x4.Act x4.Val x4.Deps)).set i2 (GEvent.mk x6.Kind x6.Addr r5_0 x6.Val x6.Deps)).set i2 (GEvent.mk x7.Kind x7.Addr x7.Act (GValue.mk (w64 (r5_0 + 1)) x7.Val.N x7.Val.S x7.Val.K x7.Val.L) x7.Deps)).set i2 (GEvent.mk x8.Kind x8.Addr x8.Act (GValue.mk x8.Val.Kind (w64 ((w64 (r5_0 + 1)) + 1)) x8.Val.S x8.Val.K x8.Val.L) x8.Deps)) i2 <|
    .ag 8 <|
    .ix yf ((((((e0.set i2 (GEvent.mk a0 x3.Addr x3.Act x3.Val x3.Deps)).set i2 (GEvent.mk x4.Kind r5_1 x4.Act x4.Val x4.Deps)).set i2 (GEvent.mk x6.Kind x6.Addr r5_0 x6.Val x6.Deps)).set i2 (GEvent.mk x7.Kind x7.Addr x7.Act (GValue.mk (w64 (r5_0 + 1)) x7.Val.N x7.Val.S x7.Val.K x7.Val.L) x7.Deps)).set i2 (GEvent.mk x8.Kind x8.Addr x8.Act (GValue.mk x8.Val.Kind (w64 ((w64 (r5_0 + 1)) + 1)) x8.Val.S x8.Val.K x8.Val.L) x8.Deps)).set i2 (GEvent.mk x9.Kind x9.Addr x9.Act (GValue.mk x9.Val.Kind x9.Val.N r10_1 x9.Val.K x9.Val.L) x9.Deps)) i2 fun x11 =>
    .ag 0 <|
    .cl (q5 r10_0 x11.Val.K) fun ⟨r12_0, r12_1⟩ =>
    .ag 1 <|
    .sl (yf (GEvent.mk x11.Kind x11.Addr x11.Act (GValue.mk x11.Val.Kind x11.Val.N x11.Val.S r12_1 x11.Val.L) x11.Deps)) ((((((e0.set i2 (GEvent.mk a0 x3.Addr x3.Act x3.Val x3.Deps)).set i2 (GEvent.mk x4.Kind r5_1 x4.Act x4.Val x4.Deps)).set i2 (GEvent.mk x6.Kind x6.Addr r5_0 x6.Val x6.Deps)).set i2 (GEvent.mk x7.Kind x7.Addr x7.Act (GValue.mk (w64 (r5_0 + 1)) x7.Val.N x7.Val.S x7.Val.K x7.Val.L) x7.Deps)).set i2 (GEvent.mk x8.Kind x8.Addr x8.Act (GValue.mk x8.Val.Kind (w64 ((w64 (r5_0 + 1)) + 1)) x8.Val.S x8.Val.K x8.Val.L) x8.Deps)).set i2 (GEvent.mk x9.Kind x9.Addr x9.Act (GValue.mk x9.Val.Kind x9.Val.N r10_1 x9.Val.K x9.Val.L) x9.Deps)) i2 <|
    .ag 10 <|
    .ix yf (((((((e0.set i2 (GEvent.mk a0 x3.Addr x3.Act x3.Val x3.Deps)).set i2 (GEvent.mk x4.Kind r5_1 x4.Act x4.Val x4.Deps)).set i2 (GEvent.mk x6.Kind x6.Addr r5_0 x6.Val x6.Deps)).set i2 (GEvent.mk x7.Kind x7.Addr x7.Act (GValue.mk (w64 (r5_0 + 1)) x7.Val.N x7.Val.S x7.Val.K x7.Val.L) x7.Deps)).set i2 (GEvent.mk x8.Kind x8.Addr x8.Act (GValue.mk x8.Val.Kind (w64 ((w64 (r5_0 + 1)) + 1)) x8.Val.S x8.Val.K x8.Val.L) x8.Deps)).set i2 (GEvent.mk x9.Kind x9.Addr x9.Act (GValue.mk x9.Val.Kind x9.Val.N r10_1 x9.Val.K x9.Val.L) x9.Deps)).set i2 (GEvent.mk x11.Kind x11.Addr x11.Act (GValue.mk x11.Val.Kind x11.Val.N x11.Val.S r12_1 x11.Val.L) x11.Deps)) i2 fun x13 =>
    .ag 0 <|
    .cl (X4 r12_0 x13.Val.L) fun ⟨r14_0, r14_1⟩ =>
    .ag 1 <|
    .sl (yf (GEvent.mk x13.Kind x13.Addr x13.Act (GValue.mk x13.Val.Kind x13.Val.N x13.Val.S x13.Val.K r14_1) x13.Deps)) (((((((e0.set i2 (GEvent.mk a0 x3.Addr x3.Act x3.Val x3.Deps)).set i2 (GEvent.mk x4.Kind r5_1 x4.Act x4.Val x4.Deps)).set i2 (GEvent.mk x6.Kind x6.Addr r5_0 x6.Val x6.Deps)).set i2 (GEvent.mk x7.Kind x7.Addr x7.Act (GValue.mk (w64 (r5_0 + 1)) x7.Val.N x7.Val.S x7.Val.K x7.Val.L) x7.Deps)).set i2 (GEvent.mk x8.Kind x8.Addr x8.Act (GValue.mk x8.Val.Kind (w64 ((w64 (r5_0 + 1)) + 1)) x8.Val.S x8.Val.K x8.Val.L) x8.Deps)).set i2 (GEvent.mk x9.Kind x9.Addr x9.Act (GValue.mk x9.Val.Kind x9.Val.N r10_1 x9.Val.K x9.Val.L) x9.Deps)).set i2 (GEvent.mk x11.Kind x11.Addr x11.Act (GValue.mk x11.Val.Kind x11.Val.N x11.Val.S r12_1 x11.Val.L) x11.Deps)) i2 <|
    .ag 12 <|
    .ix yf ((((((((e0.set i2 (GEvent.mk a0 x3.Addr x3.Act x3.Val x3.Deps)).set i2 (GEvent.mk x4.Kind r5_1 x4.Act x4.Val x4.Deps)).set i2 (GEvent.mk x6.Kind x6.Addr r5_0 x6.Val x6.Deps)).set i2 (GEvent.mk x7.Kind x7.Addr x7.Act (GValue.mk (w64 (r5_0 + 1)) x7.Val.N x7.Val.S x7.Val.K x7.Val.L) x7.Deps)).set i2 (GEvent.mk x8.Kind x8.Addr x8.Act (GValue.mk x8.Val.Kind (w64 ((w64 (r5_0 + 1)) + 1)) x8.Val.S x8.Val.K x8.Val.L) x8.Deps)).set i2 (GEvent.mk x9.Kind x9.Addr x9.Act (GValue.mk x9.Val.Kind x9.Val.N r10_1 x9.Val.K x9.Val.L) x9.Deps)).set i2 (GEvent.mk x11.Kind x11.Addr x11.Act (GValue.mk x11.Val.Kind x11.Val.N x11.Val.S r12_1 x11.Val.L) x11.Deps)).set i2 (GEvent.mk x13.Kind x13.Addr x13.Act (GValue.mk x13.Val.Kind x13.Val.N x13.Val.S x13.Val.K r14_1) x13.Deps)) i2 fun x15 =>
    .ag 0 <|
    .cl (q5 r14_0 x15.Deps) fun ⟨r16_0, r16_1⟩ =>
    .ag 1 <|
    .sl (yf (GEvent.mk x15.Kind x15.Addr x15.Act x15.Val r16_1)) ((((((((e0.set i2 (GEvent.mk a0 x3.Addr x3.Act x3.Val x3.Deps)).set i2 (GEvent.mk x4.Kind r5_1 x4.Act x4.Val x4.Deps)).set i2 (GEvent.mk x6.Kind x6.Addr r5_0 x6.Val x6.Deps)).set i2 (GEvent.mk x7.Kind x7.Addr x7.Act (GValue.mk (w64 (r5_0 + 1)) x7.Val.N x7.Val.S x7.Val.K x7.Val.L) x7.Deps)).set i2 (GEvent.mk x8.Kind x8.Addr x8.Act (GValue.mk x8.Val.Kind (w64 ((w64 (r5_0 + 1)) + 1)) x8.Val.S x8.Val.K x8.Val.L) x8.Deps)).set i2 (GEvent.mk x9.Kind x9.Addr x9.Act (GValue.mk x9.Val.Kind x9.Val.N r10_1 x9.Val.K x9.Val.L) x9.Deps)).set i2 (GEvent.mk x11.Kind x11.Addr x11.Act (GValue.mk x11.Val.Kind x11.Val.N x11.Val.S r12_1 x11.Val.L) x11.Deps)).set i2 (GEvent.mk x13.Kind x13.Addr x13.Act (GValue.mk x13.Val.Kind x13.Val.N x13.Val.S x13.Val.K r14_1) x13.Deps)) i2 <|
    .go (ih r16_0 (w64 (v1 + 1)) (((((((((e0.set i2 (GEvent.mk a0 x3.Addr x3.Act x3.Val x3.Deps)).set i2 (GEvent.mk x4.Kind r5_1 x4.Act x4.Val x4.Deps)).set i2 (GEvent.mk x6.Kind x6.Addr r5_0 x6.Val x6.Deps)).set i2 (GEvent.mk x7.Kind x7.Addr x7.Act (GValue.mk (w64 (r5_0 + 1)) x7.Val.N x7.Val.S x7.Val.K x7.Val.L) x7.Deps)).set i2 (GEvent.mk x8.Kind x8.Addr x8.Act (GValue.mk x8.Val.Kind (w64 ((w64 (r5_0 + 1)) + 1)) x8.Val.S x8.Val.K x8.Val.L) x8.Deps)).set i2 (GEvent.mk x9.Kind x9.Addr x9.Act (GValue.mk x9.Val.Kind x9.Val.N r10_1 x9.Val.K x9.Val.L) x9.Deps)).set i2 (GEvent.mk x11.Kind x11.Addr x11.Act (GValue.mk x11.Val.Kind x11.Val.N x11.Val.S r12_1 x11.Val.L) x11.Deps)).set i2 (GEvent.mk x13.Kind x13.Addr x13.Act (GValue.mk x13.Val.Kind x13.Val.N x13.Val.S x13.Val.K r14_1) x13.Deps)).set i2 (GEvent.mk x15.Kind x15.Addr x15.Act x15.Val r16_1)))) fun c1 =>
   .ret (a0, v1, e0))
def ZH (n : Nat) (a0 : Int) (e0 : (List GEvent)) : Option (Int × (List GEvent)) :=
 (xt n a0 0 e0).bind fun ⟨o1_0, o1_1, o1_2⟩ =>
 some (o1_0, o1_2)
theorem Rq (n : Nat) : XW (ZH n) := fun a0 e0 => tc (
 .lp (QY n a0 0 e0) fun ⟨o1_0, o1_1, o1_2⟩ =>
 .ret (o1_0, o1_2)) (zf Tryz.func92)
theorem U4 : ∀ (l p : List GEvent) (k : Int) (m : Nat), 0 <= k → k + 4 * yo l <= 2 ^ 40 → p.length + l.length <= 2 ^ 40 → l.length < m → ∃ z, xt m k (p.length : Int) (p ++ l) = some (k + WP l, z, p ++ PL k l) := by
 intro l
 induction l with
 | nil =>
  intro p k m _ _ _ hm
  obtain ⟨m, rfl, _⟩ := zg hm
  exact ⟨_, by rw [xt, if_neg (w4 p)]; simp [PL, WP]; rfl⟩
 | cons x l ih =>
  intro p k m h0 h1 h2 hm
  obtain ⟨m, rfl, hm'⟩ := zg hm
  simp only [List.length_cons] at h2 hm'
  have hc := EB x
  simp only [yo] at h1
  obtain ⟨z, hz⟩ := ih (p ++ [mEv k x]) (k + cEv x) m (by omega) (by omega) (by simp; omega) (by omega)
  have hcv := Qz x.Val
  have hcd := kw x.Deps
  have hve := xT x.Val
  have hcq := Ll x.Val
  have hmq := Lm (k + 1 + x.Addr.length + 1) x.Val
  have hb := kw x.Val.K
  have hd := WN x.Val.L
  have hmE : mEv k x = .mk k (mB (k + 1) x.Addr) (k + 1 + x.Addr.length) (mV (k + 1 + x.Addr.length + 1) x.Val) (mBB (k + 1 + x.Addr.length + 1 + cV x.Val) x.Deps) := rfl
  have hcE : cEv x = x.Addr.length + cV x.Val + cB x.Deps + 2 := rfl
  unfold qm at h1 hc
  obtain ⟨ek, ad, ac, v, dp⟩ := x
  obtain ⟨kd, n, s, kk, ks⟩ := v
  simp only [GEvent.Addr, GEvent.Val, GEvent.Deps, GValue.S, GValue.K, GValue.L] at *
  rw [xt, if_pos (Zi p _ l), zd, Option.bind_some, zM, Option.bind_some]
  simp only [wz, zM, Option.bind_some, GEvent.Kind, GEvent.Addr, GEvent.Act, GEvent.Val, GEvent.Deps]
  rw [yj (x := k + 1) (by omega) (by omega), q4 (by omega) (by omega)]
  simp only [Option.bind_some, wz, zM, GValue.Kind, GValue.N, GValue.S, GValue.K, GValue.L, GEvent.Kind, GEvent.Addr, GEvent.Act, GEvent.Val, GEvent.Deps]
  rw [yj (x := k + 1 + (ad.length : Int) + 1) (by omega) (by omega), yj (x := k + 1 + (ad.length : Int) + 1 + 1) (by omega) (by omega), yj (x := k + 1 + (ad.length : Int) + 1 + 1 + 1) (by omega) (by omega), q4 (by omega) (by omega)]
  simp only [Option.bind_some, wz, zM, GValue.Kind, GValue.N, GValue.S, GValue.K, GValue.L, GEvent.Kind, GEvent.Addr, GEvent.Act, GEvent.Val, GEvent.Deps]
  rw [ve (by omega) (by omega)]
  simp only [Option.bind_some, wz, zM, GValue.Kind, GValue.N, GValue.S, GValue.K, GValue.L, GEvent.Kind, GEvent.Addr, GEvent.Act, GEvent.Val, GEvent.Deps]
  rw [Kc (by omega) (by omega)]
  simp only [Option.bind_some, wz, zM, GValue.Kind, GValue.N, GValue.S, GValue.K, GValue.L, GEvent.Kind, GEvent.Addr, GEvent.Act, GEvent.Val, GEvent.Deps]
  have e1 : k + 1 + (ad.length : Int) + 1 + 1 + 1 + (s.length : Int) + (cB kk : Int) + (cVs ks : Int) = k + 1 + (ad.length : Int) + 1 + (cV (.mk kd n s kk ks) : Int) := by omega
  rw [e1, ve (by omega) (by omega)]
  simp only [Option.bind_some, wz, zM, GValue.Kind, GValue.N, GValue.S, GValue.K, GValue.L, GEvent.Kind, GEvent.Addr, GEvent.Act, GEvent.Val, GEvent.Deps]
  rw [<- hmq]
  refine ⟨z, Eq.trans ?_ (Eq.trans hz ?_)⟩
  ·congr 1
   ·omega
   ·exact yJ p (mEv k _) (by omega)
   ·rw [List.append_assoc, List.singleton_append, hmE]
  simp only [PL, WP, List.append_assoc, List.singleton_append]
  rw [show k + ((cEv (.mk ek ad ac (.mk kd n s kk ks) dp) : Nat) : Int) + (WP l : Int) = k + ((cEv (.mk ek ad ac (.mk kd n s kk ks) dp) + WP l : Nat) : Int) by omega]
def qQ (a0 : Int) (e0 : (List GEvent)) : Option (Int × (List GEvent)) := if 0 <= a0 ∧ a0 + 4 * yo e0 <= 2 ^ 40 then some (a0 + WP e0, PL a0 e0) else none
theorem OU {a : Int} {s : List GEvent} (h0 : 0 <= a) (h1 : a + 4 * yo s <= 2 ^ 40) : qQ a s = some (a + WP s, PL a s) := if_pos ⟨h0, h1⟩
theorem JA (a0 : Int) (e0 : (List GEvent)) (r : (Int × (List GEvent))) (h : qQ a0 e0 = some r) : ∃ n, ZH n a0 e0 = some r := by
 unfold qQ at h
 obtain ⟨⟨h0, h1⟩, h⟩ := zE h
 have := Zj e0
 obtain ⟨z, hz⟩ := U4 e0 [] a0 (e0.length + 1) h0 h1 (by simp; omega) (by omega)
 refine ⟨e0.length + 1, ?_⟩
 unfold ZH
 simp only [List.nil_append, List.length_nil, Int.natCast_zero] at hz
 rw [hz]
 exact h
theorem V0 : XW qQ := fun a0 e0 r h => (JA a0 e0 r h).elim fun n hn => Rq n a0 e0 r hn
def q6 (a0_0 : Int) (a0_1 : Bool) (a0_3 : Int) (a0_6 : Int) (a1 : Int) (e0 : (List UInt8)) (e1 : (List GEntry)) (e2 : (List GEvent)) : Option (Int × (List UInt8) × (List GEntry) × (List GEvent)) :=
 (xZ a0_0 a0_1 a0_3 a1 e0 e1).bind fun ⟨r1_0, r1_1, r1_2⟩ =>
 (qQ r1_0 e2).bind fun ⟨r2_0, r2_1⟩ =>
 some (r2_0, r1_1, r1_2, r2_1)
theorem YR (a0_0 : Int) (a0_1 : Bool) (a0_3 : Int) (a0_6 : Int) (a1 : Int) (e0 : (List UInt8)) (e1 : (List GEntry)) (e2 : (List GEvent)) : Oc (q6 a0_0 a0_1 a0_3 a0_6 a1 e0 e1 e2) 33 [.obj 1 (eL za e0), .obj 9 (eL zz e1), .obj 9 (eL xD e2)] [.val true [ci a0_0, .bool a0_1, .ref 0, ci a0_3, .ref 1, .ref 2, ci a0_6], vi a1] fun r => (vi r.1, [.obj 1 (eL za r.2.1), .obj 9 (eL zz r.2.2.1), .obj 9 (eL xD r.2.2.2)]) := tc (
 .cl (ZG a0_0 a0_1 a0_3 a1 e0 e1) fun ⟨r1_0, r1_1, r1_2⟩ =>
 .cl (V0 r1_0 e2) fun ⟨r2_0, r2_1⟩ =>
 .ret (r2_0, r1_1, r1_2, r2_1)) (zf Tryz.func33)
def WJ (F : (List UInt8) → Int → Option Int) : Prop := ∀ (a0 : (List UInt8)) (a1 : Int), Oc (F a0 a1) 40 [] [vq za a0, vi a1] fun r => (vi r, [])
def xQ (a0 : (List UInt8)) : Nat → Int → Int → Option (Int ⊕ (Int × Int))
  | 0, _, _ => none
  | m + 1, a1, v2 =>
  if v2 < (a0.length : Int) then
   (zv v2).bind fun i2 =>
   (a0[i2]?).bind fun x3 =>
   if ((x3.toNat : Nat) : Int) = (((b8 a1).toNat : Nat) : Int) then
    xQ a0 m (w64 (a1 + 1)) (w64 (v2 + 1))
   else
   some (.inl (-1))
  else
  some (.inr (a1, v2))
theorem JB (a0 : (List UInt8)) (m : Nat) : ∀ (a1 : Int) (v2 : Int), Ol (xQ a0 m a1 v2) 40 (zO Tryz.f40 0) ⟨[(0, vq za a0), (1, vi a1), (5, vi v2)], [], 0⟩ fun o => match o with | .inl o_0 => (.ret, ⟨[(4, vi o_0)], [], 0⟩) | .inr (⟨o_1_0, o_1_1⟩) => (.exit 0, ⟨[(0, vq za a0), (1, vi o_1_0), (5, vi o_1_1), (9, vb false)], [], 0⟩) := by
  induction m with
  | zero => intro a1 v2 o h; cases h
  | succ m ih => exact fun a1 v2 => tlp (
   .le za a0 <|
   .lI v2 (a0.length : Int) (fun c1 =>
    .na v2 fun i2 =>
    .ix0 za a0 i2 fun x3 =>
    .eI ((x3.toNat : Nat) : Int) (((b8 a1).toNat : Nat) : Int) (fun c4 =>
     .go (ih (w64 (a1 + 1)) (w64 (v2 + 1)))) fun c4 =>
    .ret (.inl (-1))) fun c1 =>
   .ret (.inr (a1, v2)))
def Yj (n : Nat) (a0 : (List UInt8)) (a1 : Int) : Option Int :=
 (xQ a0 n a1 0).bind fun o1 =>
 match o1 with
 | .inl o1_0 =>
  some o1_0
 | .inr (⟨o1_1_0, o1_1_1⟩) =>
  some o1_1_0
theorem Th (n : Nat) : WJ (Yj n) := fun a0 a1 => tc (
 .l2 (JB a0 n a1 0) (fun o1_0 =>
  .ret o1_0) fun ⟨o1_1_0, o1_1_1⟩ =>
 .ret o1_1_0) (zf Tryz.func40)
theorem PE {a : List UInt8} : ∀ (l p : List UInt8) (k : Int) (m : Nat), a = p ++ l → mB k l = l → 0 <= k → k + 2 * l.length <= 2 ^ 41 → p.length + l.length <= 2 ^ 41 → l.length < m → ∃ z, xQ a m k (p.length : Int) = some (.inr (k + l.length, z)) := by
 intro l
 induction l with
 | nil =>
  intro p k m ha _ _ _ _ hm
  subst ha
  obtain ⟨m, rfl, _⟩ := zg hm
  exact ⟨_, by rw [xQ, if_neg (w4 p)]; simp; rfl⟩
 | cons x l ih =>
  intro p k m ha hm0 h0 h1 h2 hm
  obtain ⟨m, rfl, hm'⟩ := zg hm
  simp only [List.length_cons] at h1 h2 hm'
  rw [mB] at hm0
  obtain ⟨e1, e2⟩ := List.cons.inj hm0
  obtain ⟨z, hz⟩ := ih (p ++ [x]) (k + 1) m (by rw [ha]; simp) e2 (by omega) (by omega) (by simp; omega) (by omega)
  refine ⟨z, ?_⟩
  rw [xQ, if_pos (by rw [ha]; exact Zi p x l), zd, Option.bind_some, show a[p.length]? = some x by rw [ha]; exact zM p x l, Option.bind_some, if_pos (by rw [e1]), yJ p x (by omega), yj (x := k + 1) (by omega) (by omega), hz]
  simp only [List.length_cons]
  rw [show k + 1 + (l.length : Int) = k + ((l.length + 1 : Nat) : Int) by omega]
def yQ (a0 : (List UInt8)) (a1 : Int) : Option Int := if mB a1 a0 = a0 ∧ 0 <= a1 ∧ a1 + 2 * a0.length <= 2 ^ 41 then some (a1 + a0.length) else none
theorem Zc {a : Int} {s : List UInt8} (h : mB a s = s) (h0 : 0 <= a) (h1 : a + 2 * s.length <= 2 ^ 41) : yQ s a = some (a + s.length) := if_pos ⟨h, h0, h1⟩
theorem Kz (a0 : (List UInt8)) (a1 : Int) (r : Int) (h : yQ a0 a1 = some r) : ∃ n, Yj n a0 a1 = some r := by
 unfold yQ at h
 obtain ⟨⟨he, h0, h1⟩, h⟩ := zE h
 obtain ⟨z, hz⟩ := PE (a := a0) a0 [] a1 (a0.length + 1) rfl he h0 h1 (by simp; omega) (by omega)
 refine ⟨a0.length + 1, ?_⟩
 unfold Yj
 simp only [List.length_nil, Int.natCast_zero] at hz
 rw [hz]
 exact h
theorem qR : WJ yQ := fun a0 a1 r h => (Kz a0 a1 r h).elim fun n hn => Th n a0 a1 r hn
def XX (F : (List (List UInt8)) → Int → Option Int) : Prop := ∀ (a0 : (List (List UInt8))) (a1 : Int), Oc (F a0 a1) 65 [] [vq (zr za) a0, vi a1] fun r => (vi r, [])
def xu (a0 : (List (List UInt8))) : Nat → Int → Int → Option (Int ⊕ (Int × Int))
  | 0, _, _ => none
  | m + 1, a1, v2 =>
  if v2 < (a0.length : Int) then
   (zv v2).bind fun i2 =>
   (a0[i2]?).bind fun x3 =>
   (yQ x3 a1).bind fun r4 =>
   if r4 < 0 then
    some (.inl (-1))
   else
   xu a0 m r4 (w64 (v2 + 1))
  else
  some (.inr (a1, v2))
theorem QZ (a0 : (List (List UInt8))) (m : Nat) : ∀ (a1 : Int) (v2 : Int), Ol (xu a0 m a1 v2) 65 (zO Tryz.f65 0) ⟨[(0, vq (zr za) a0), (1, vi a1), (5, vi v2)], [], 0⟩ fun o => match o with | .inl o_0 => (.ret, ⟨[(4, vi o_0)], [], 0⟩) | .inr (⟨o_1_0, o_1_1⟩) => (.exit 0, ⟨[(0, vq (zr za) a0), (1, vi o_1_0), (5, vi o_1_1), (9, vb false)], [], 0⟩) := by
  induction m with
  | zero => intro a1 v2 o h; cases h
  | succ m ih => exact fun a1 v2 => tlp (
   .le (zr za) a0 <|
   .lI v2 (a0.length : Int) (fun c1 =>
    .na v2 fun i2 =>
    .ix0 (zr za) a0 i2 fun x3 =>
    .cl (qR x3 a1) fun r4 =>
    .lI r4 0 (fun c5 =>
     .ret (.inl (-1))) fun c5 =>
    .go (ih r4 (w64 (v2 + 1)))) fun c1 =>
   .ret (.inr (a1, v2)))
def ZI (n : Nat) (a0 : (List (List UInt8))) (a1 : Int) : Option Int :=
 (xu a0 n a1 0).bind fun o1 =>
 match o1 with
 | .inl o1_0 =>
  some o1_0
 | .inr (⟨o1_1_0, o1_1_1⟩) =>
  some o1_1_0
theorem Rr (n : Nat) : XX (ZI n) := fun a0 a1 => tc (
 .l2 (QZ a0 n a1 0) (fun o1_0 =>
  .ret o1_0) fun ⟨o1_1_0, o1_1_1⟩ =>
 .ret o1_1_0) (zf Tryz.func65)
theorem U5 {a : List (List UInt8)} : ∀ (l p : List (List UInt8)) (k : Int) (m : Nat), a = p ++ l → mBB k l = l → 0 <= k → k + 2 * bsz l <= 2 ^ 41 → p.length + l.length <= 2 ^ 41 → l.length < m → ∃ z, xu a m k (p.length : Int) = some (.inr (k + cB l, z)) := by
 intro l
 induction l with
 | nil =>
  intro p k m ha _ _ _ _ hm
  subst ha
  obtain ⟨m, rfl, _⟩ := zg hm
  exact ⟨_, by rw [xu, if_neg (w4 p)]; simp [cB]; rfl⟩
 | cons x l ih =>
  intro p k m ha hm0 h0 h1 h2 hm
  obtain ⟨m, rfl, hm'⟩ := zg hm
  rw [MH] at h1
  simp only [List.length_cons] at h2 hm'
  rw [mBB] at hm0
  obtain ⟨e1, e2⟩ := List.cons.inj hm0
  obtain ⟨z, hz⟩ := ih (p ++ [x]) (k + x.length) m (by rw [ha]; simp) e2 (by omega) (by omega) (by simp; omega) (by omega)
  refine ⟨z, ?_⟩
  rw [xu, if_pos (by rw [ha]; exact Zi p x l), zd, Option.bind_some, show a[p.length]? = some x by rw [ha]; exact zM p x l, Option.bind_some, Zc e1 (by omega) (by omega), Option.bind_some, if_neg (by omega), yJ p x (by omega), hz, NM]
  rw [show k + (x.length : Int) + (cB l : Int) = k + ((x.length + cB l : Nat) : Int) by omega]
def xC (a0 : (List (List UInt8))) (a1 : Int) : Option Int := if mBB a1 a0 = a0 ∧ 0 <= a1 ∧ a1 + 2 * bsz a0 <= 2 ^ 41 then some (a1 + cB a0) else none
theorem XK {a : Int} {s : List (List UInt8)} (h : mBB a s = s) (h0 : 0 <= a) (h1 : a + 2 * bsz s <= 2 ^ 41) : xC s a = some (a + cB s) := if_pos ⟨h, h0, h1⟩
theorem JC (a0 : (List (List UInt8))) (a1 : Int) (r : Int) (h : xC a0 a1 = some r) : ∃ n, ZI n a0 a1 = some r := by
 unfold xC at h
 obtain ⟨⟨he, h0, h1⟩, h⟩ := zE h
 have := qk a0
 obtain ⟨z, hz⟩ := U5 (a := a0) a0 [] a1 (a0.length + 1) rfl he h0 h1 (by simp; omega) (by omega)
 refine ⟨a0.length + 1, ?_⟩
 unfold ZI
 simp only [List.length_nil, Int.natCast_zero] at hz
 rw [hz]
 exact h
theorem Zd : XX xC := fun a0 a1 r h => (JC a0 a1 r h).elim fun n hn => Rr n a0 a1 r hn
def qS (F : (List GValue) → Int → Option Int) : Prop := ∀ (a0 : (List GValue)) (a1 : Int), Oc (F a0 a1) 146 [] [vq zh a0, vi a1] fun r => (vi r, [])
def xv (G_laws_heldValueS : (List GValue) → Int → Option Int) (a0 : (List GValue)) : Nat → Int → Int → Option (Int ⊕ (Int × Int))
  | 0, _, _ => none
  | m + 1, a1, v2 =>
  if v2 < (a0.length : Int) then
   (zv v2).bind fun i2 =>
   (a0[i2]?).bind fun x3 =>
   if x3.Kind = a1 then
    if x3.N = (w64 (a1 + 1)) then
     (yQ x3.S (w64 ((w64 (a1 + 1)) + 1))).bind fun r6 =>
     if r6 < 0 then
      some (.inl (-1))
     else
     (xC x3.K r6).bind fun r8 =>
     if r8 < 0 then
      some (.inl (-1))
     else
     (G_laws_heldValueS x3.L r8).bind fun r10 =>
     if r10 < 0 then
      some (.inl (-1))
     else
     xv G_laws_heldValueS a0 m r10 (w64 (v2 + 1))
    else
    some (.inl (-1))
   else
   some (.inl (-1))
  else
  some (.inr (a1, v2))
theorem Ja (G_laws_heldValueS : (List GValue) → Int → Option Int) (H_laws_heldValueS : qS G_laws_heldValueS) (a0 : (List GValue)) (m : Nat) : ∀ (a1 : Int) (v2 : Int), Ol (xv G_laws_heldValueS a0 m a1 v2) 146 (zO Tryz.f146 0) ⟨[(0, vq zh a0), (1, vi a1), (5, vi v2)], [], 0⟩ fun o => match o with | .inl o_0 => (.ret, ⟨[(4, vi o_0)], [], 0⟩) | .inr (⟨o_1_0, o_1_1⟩) => (.exit 0, ⟨[(0, vq zh a0), (1, vi o_1_0), (5, vi o_1_1), (9, vb false)], [], 0⟩) := by
  induction m with
  | zero => intro a1 v2 o h; cases h
  | succ m ih => exact fun a1 v2 => tlp (
   .le zh a0 <|
   .lI v2 (a0.length : Int) (fun c1 =>
    .na v2 fun i2 =>
    .ix yp a0 i2 fun x3 =>
    .eI x3.Kind a1 (fun c4 =>
     .ag 1 <|
     .ag 0 <|
     .eI x3.N (w64 (a1 + 1)) (fun c5 =>
      .ag 1 <|
      .ag 0 <|
      .cl (qR x3.S (w64 ((w64 (a1 + 1)) + 1))) fun r6 =>
      .lI r6 0 (fun c7 =>
       .ret (.inl (-1))) fun c7 =>
      .ag 2 <|
      .ag 1 <|
      .cl (Zd x3.K r6) fun r8 =>
      .lI r8 0 (fun c9 =>
       .ret (.inl (-1))) fun c9 =>
      .ag 3 <|
      .ag 2 <|
      .cl (H_laws_heldValueS x3.L r8) fun r10 =>
      .lI r10 0 (fun c11 =>
       .ret (.inl (-1))) fun c11 =>
      .go (ih r10 (w64 (v2 + 1)))) fun c5 =>
     .ret (.inl (-1))) fun c4 =>
    .ret (.inl (-1))) fun c1 =>
   .ret (.inr (a1, v2)))
def ZJ (G_laws_heldValueS : (List GValue) → Int → Option Int) (n : Nat) (a0 : (List GValue)) (a1 : Int) : Option Int :=
 (xv G_laws_heldValueS a0 n a1 0).bind fun o1 =>
 match o1 with
 | .inl o1_0 =>
  some o1_0
 | .inr (⟨o1_1_0, o1_1_1⟩) =>
  some o1_1_0
theorem Rs (G_laws_heldValueS : (List GValue) → Int → Option Int) (H_laws_heldValueS : qS G_laws_heldValueS) (n : Nat) : qS (ZJ G_laws_heldValueS n) := fun a0 a1 => tc (
 .l2 (Ja G_laws_heldValueS H_laws_heldValueS a0 n a1 0) (fun o1_0 =>
  .ret o1_0) fun ⟨o1_1_0, o1_1_1⟩ =>
 .ret o1_1_0) (zf Tryz.func146)
def yC : Nat → (List GValue) → Int → Option Int
 | 0, _, _ => none
 | n + 1, a0, a1 => ZJ (yC n) n a0 a1
theorem K0 (n : Nat) : qS (yC n) := by
 induction n with
 | zero => exact fun _ _ _ h => (by rw [yC] at h; cases h)
 | succ n ih =>
  have ih_laws_heldValueS := ih
  exact fun a0 a1 r h => Rs (yC n) ih_laws_heldValueS n a0 a1 r (by rw [yC] at h; exact h)
theorem U6 {G : List GValue → Int → Option Int} {a : List GValue} : ∀ (l p : List GValue) (k : Int) (m : Nat), a = p ++ l → mVs k l = l → (∀ v ∈ l, ∀ i : Int, mVs i v.L = v.L → 0 <= i → i + 2 * yy v.L <= 2 ^ 41 → G v.L i = some (i + cVs v.L)) → 0 <= k → k + 2 * yy l <= 2 ^ 41 → p.length + l.length <= 2 ^ 41 → l.length < m → ∃ z, xv G a m k (p.length : Int) = some (.inr (k + cVs l, z)) := by
 intro l
 induction l with
 | nil =>
  intro p k m ha _ _ _ _ _ hm
  subst ha
  obtain ⟨m, rfl, _⟩ := zg hm
  exact ⟨_, by rw [xv, if_neg (w4 p)]; simp [cVs]; rfl⟩
 | cons x l ih =>
  intro p k m ha hm0 hG h0 h1 h2 hm
  obtain ⟨m, rfl, hm'⟩ := zg hm
  simp only [List.length_cons] at h2 hm'
  have hx := hG x List.mem_cons_self
  have hc := Qz x
  rw [mVs] at hm0
  obtain ⟨e1, e2⟩ := List.cons.inj hm0
  simp only [yy] at h1
  obtain ⟨z, hz⟩ := ih (p ++ [x]) (k + cV x) m (by rw [ha]; simp) e2 (fun v hv => hG v (List.mem_cons_of_mem _ hv)) (by omega) (by omega) (by simp; omega) (by omega)
  refine ⟨z, ?_⟩
  rw [xv, if_pos (by rw [ha]; exact Zi p x l), zd, Option.bind_some, show a[p.length]? = some x by rw [ha]; exact zM p x l, Option.bind_some, yJ p x (by omega)]
  have hb := kw x.K
  have hd := WN x.L
  have hq := xT x
  have hr := Ll x
  rw [Lm] at e1
  have f1 : x.Kind = k := (congrArg GValue.Kind e1).symm
  have f2 : x.N = k + 1 := (congrArg GValue.N e1).symm
  have f3 : mB (k + 1 + 1) x.S = x.S := congrArg GValue.S e1
  have f4 : mBB (k + 1 + 1 + x.S.length) x.K = x.K := congrArg GValue.K e1
  have f5 : mVs (k + 1 + 1 + x.S.length + cB x.K) x.L = x.L := congrArg GValue.L e1
  rw [yj (x := k + 1) (by omega) (by omega), yj (x := k + 1 + 1) (by omega) (by omega), if_pos f1, if_pos f2, Zc f3 (by omega) (by omega), Option.bind_some, if_neg (by omega), XK f4 (by omega) (by omega), Option.bind_some, if_neg (by omega), hx _ f5 (by omega) (by omega), Option.bind_some, if_neg (by omega),
   show k + 1 + 1 + (x.S.length : Int) + (cB x.K : Int) + (cVs x.L : Int) = k + ((cV x : Nat) : Int) by omega, hz]
  simp only [cVs]
  rw [show k + ((cV x : Nat) : Int) + (cVs l : Int) = k + ((cV x + cVs l : Nat) : Int) by omega]
theorem M1 : ∀ (N : Nat) (l : List GValue), yy l < N → ∀ (k : Int) (f : Nat), mVs k l = l → 0 <= k → k + 2 * yy l <= 2 ^ 41 → yy l + 2 <= f → yC f l k = some (k + cVs l) := by
 intro N
 induction N with
 | zero => intro l hl; omega
 | succ N ih =>
  intro l hl k f he h0 h1 hf
  obtain ⟨f, rfl, _⟩ := zg (show 0 < f by omega)
  have hlen := yH l
  rw [yC]
  unfold ZJ
  obtain ⟨z, hz⟩ := U6 (G := yC f) (a := l) l [] k f rfl he (fun v hv i ge g0 g1 => by
   have := wa hv
   have := xT v
   exact ih v.L (by omega) i f ge g0 g1 (by omega)) h0 h1 (by simp; omega) (by omega)
  simp only [List.length_nil, Int.natCast_zero] at hz
  rw [hz]; rfl
open Classical in
noncomputable def qT (a0 : (List GValue)) (a1 : Int) : Option Int := if mVs a1 a0 = a0 ∧ 0 <= a1 ∧ a1 + 2 * yy a0 <= 2 ^ 41 then some (a1 + cVs a0) else none
theorem OV {a : Int} {s : List GValue} (h : mVs a s = s) (h0 : 0 <= a) (h1 : a + 2 * yy s <= 2 ^ 41) : qT s a = some (a + cVs s) := if_pos ⟨h, h0, h1⟩
theorem JD (a0 : (List GValue)) (a1 : Int) (r : Int) (h : qT a0 a1 = some r) : ∃ n, yC n a0 a1 = some r := by
 unfold qT at h
 obtain ⟨⟨he, h0, h1⟩, h⟩ := zE h
 exact ⟨yy a0 + 2, by rw [M1 _ a0 (Nat.lt_succ_self _) a1 _ he h0 h1 (Nat.le_refl _), h]⟩
theorem V1 : qS qT := by
 intro a0 a1 r h
 obtain ⟨n, hn⟩ := JD a0 a1 r h
 exact (K0 n) a0 a1 r hn
end
end Go.Am.Try
