
/- The functions of the program in plain Lean, and that the machine answers as they do; conditions at each theorem. -/
import Derived.Test.YtjmhaigcaidloaaGreatDoorWG3
set_option linter.unusedVariables false
set_option linter.unusedSimpArgs false
namespace Go.Am.Try
open Go.Am Go.Proofs
set_option linter.unusedVariables false
set_option maxRecDepth 20000
set_option maxHeartbeats 2000000
noncomputable section
def wH (a0 : GState) (a1 : GEvent) : Option (GState × Bool) :=
 (xj a0).bind fun r1 =>
 (kb a0 a1).bind fun r2 =>
 match r2 with
 | true =>
  (yi (GState.mk (w64 (r1.Serial + 1)) r1.Open r1.Pending r1.Act r1.Entries) a1.Addr).bind fun ⟨r3_0, r3_1⟩ =>
  if a1.Kind = 0 then
   some ((GState.mk (w64 (r1.Serial + 1)) true r1.Pending r1.Act r1.Entries), true)
  else
  if a1.Kind = 1 then
   (zU a1.Addr).bind fun r6 =>
   some ((GState.mk (w64 (r1.Serial + 1)) r1.Open r6 a1.Act r1.Entries), true)
  else
  if a1.Kind = 2 then
   (zU a1.Addr).bind fun r7 =>
   (wh a1.Val).bind fun r8 =>
   (yP a1.Deps).bind fun r9 =>
   match r3_1 with
   | true =>
    (zw r3_0).bind fun i10 =>
    (r1.Entries[i10]?).bind fun x11 =>
    some ((GState.mk (w64 (r1.Serial + 1)) r1.Open [] 0 (r1.Entries.set i10 (GEntry.mk r7 r8 r9 false (w64 (r1.Serial + 1))))), true)
   | false =>
    (wB r3_0 r1.Entries [(GEntry.mk r7 r8 r9 false (w64 (r1.Serial + 1)))]).bind fun r10 =>
    some ((GState.mk (w64 (r1.Serial + 1)) r1.Open [] 0 r10), true)
  else
  if a1.Kind = 3 then
   (wC r3_0 (w64 (r3_0 + 1)) r1.Entries).bind fun r8 =>
   some ((GState.mk (w64 (r1.Serial + 1)) r1.Open [] 0 r8), true)
  else
  if a1.Kind = 4 then
   (qB false (w64 (r1.Serial + 1)) r1.Open r1.Act r1.Pending r1.Entries).bind fun r9 =>
   some ((GState.mk r9.Serial true [] 0 r9.Entries), true)
  else
  if a1.Kind = 6 then
   (qB true (w64 (r1.Serial + 1)) r1.Open r1.Act r1.Pending r1.Entries).bind fun r10 =>
   some ((GState.mk r10.Serial false [] 0 r10.Entries), true)
  else
  if a1.Kind = 5 then
   some ((GState.mk (w64 (r1.Serial + 1)) false [] 0 r1.Entries), true)
  else
  some ((GState.mk (w64 (r1.Serial + 1)) r1.Open [] 0 r1.Entries), true)
 | false =>
  some (r1, false)
theorem Tx (a0 : GState) (a1 : GEvent) : Oc (wH a0 a1) 80 [] [.val true (ym a0), .val true (xl a1)] fun r => (.tup [(true, (JO r.1)), (false, [.bool r.2])], []) := tc (
 .cl (Wb a0) fun r1 =>
 .cl (V0 a0 a1) fun r2 =>
 .vN 0 r2 (
  .vw zn r1.Pending <|
  .vo qv r1.Entries <|
  .cl (qN (GState.mk (w64 (r1.Serial + 1)) r1.Open r1.Pending r1.Act r1.Entries) a1.Addr) fun ⟨r3_0, r3_1⟩ =>
  .eI a1.Kind 0 (fun c4 =>
   .ret ((GState.mk (w64 (r1.Serial + 1)) true r1.Pending r1.Act r1.Entries), true)) fun c4 =>
  .eI a1.Kind 1 (fun c5 =>
   .cl (xE a1.Addr) fun r6 =>
   .ret ((GState.mk (w64 (r1.Serial + 1)) r1.Open r6 a1.Act r1.Entries), true)) fun c5 =>
  .eI a1.Kind 2 (fun c6 =>
   .cl (xE a1.Addr) fun r7 =>
   .cl (Wa a1.Val) fun r8 =>
   .cl (ZI a1.Deps) fun r9 =>
   .vM 0 r3_1 (
    .na r3_0 fun i10 =>
    .ix z7 r1.Entries i10 fun x11 =>
    .ag 0 <|
    .sl (z7 (GEntry.mk r7 r8 r9 false (w64 (r1.Serial + 1)))) r1.Entries i10 <|
    .ret ((GState.mk (w64 (r1.Serial + 1)) r1.Open [] 0 (r1.Entries.set i10 (GEntry.mk r7 r8 r9 false (w64 (r1.Serial + 1))))), true)) <|
   .cl (ZT r3_0 r1.Entries [(GEntry.mk r7 r8 r9 false (w64 (r1.Serial + 1)))]) fun r10 =>
   .ret ((GState.mk (w64 (r1.Serial + 1)) r1.Open [] 0 r10), true)) fun c6 =>
  .eI a1.Kind 3 (fun c7 =>
   .cl (QJ r3_0 (w64 (r3_0 + 1)) r1.Entries) fun r8 =>
   .ret ((GState.mk (w64 (r1.Serial + 1)) r1.Open [] 0 r8), true)) fun c7 =>
  .eI a1.Kind 4 (fun c8 =>
   .q (.eFo a1.Kind 6 (by omega)) <|
   .cl (Xb false (w64 (r1.Serial + 1)) r1.Open r1.Act r1.Pending r1.Entries) fun r9 =>
   .q (.eT c8) <|
   .ret ((GState.mk r9.Serial true [] 0 r9.Entries), true)) fun c8 =>
  .eI a1.Kind 6 (fun c9 =>
   .q (.eT c9) <|
   .cl (Xb true (w64 (r1.Serial + 1)) r1.Open r1.Act r1.Pending r1.Entries) fun r10 =>
   .q (.eF c8) <|
   .ret ((GState.mk r10.Serial false [] 0 r10.Entries), true)) fun c9 =>
  .eI a1.Kind 5 (fun c10 =>
   .ret ((GState.mk (w64 (r1.Serial + 1)) false [] 0 r1.Entries), true)) fun c10 =>
  .ret ((GState.mk (w64 (r1.Serial + 1)) r1.Open [] 0 r1.Entries), true)) <|
 .ret (r1, false)) (ze Tryz.func80)
def Yv (F : GHistory → Option ((List GState) × Bool)) : Prop := ∀ (a0 : GHistory), Oc (F a0) 91 [] [.val true (yy a0)] fun r => (.tup [(false, [cq Yq r.1]), (false, [.bool r.2])], [])
def yJ (v0 : (List GEvent)) (v1 : Int) : Nat → Int → (List GState) → Option ((Bool × (List GState)) ⊕ (Int × (List GState)))
  | 0, _, _ => none
  | m + 1, v2, v3 =>
  if v2 < v1 then
   (zw v2).bind fun i2 =>
   (v0[i2]?).bind fun x3 =>
   (Z9 x3).bind fun r4 =>
   match r4 with
   | true =>
    (v3[i2]?).bind fun x5 =>
    (wH x5 x3).bind fun ⟨r6_0, r6_1⟩ =>
    match r6_1 with
    | true =>
     if zY 72 (v3.length + [r6_0].length) then
     yJ v0 v1 m (w64 (v2 + 1)) (v3 ++ [r6_0])
     else none
    | false =>
     some (.inl (false, []))
   | false =>
    some (.inl (false, []))
  else
  some (.inr (v2, v3))
theorem Wu (v0 : (List GEvent)) (v1 : Int) (m : Nat) : ∀ (v2 : Int) (v3 : (List GState)), Ol (yJ v0 v1 m v2 v3) 91 (zG Tryz.f91 0) ⟨[(4, vr 0), (33, vq z8 v0), (34, vi v1), (35, vi v2)], [.obj 5 (eL Yq v3)], 0⟩ fun o => match o with | .inl ⟨o_0_0, o_0_1⟩ => (.ret, ⟨[(2, vr 0), (3, vb o_0_0)], [.obj 5 (eL Yq o_0_1)], 0⟩) | .inr (⟨o_1_0, o_1_1⟩) => (.exit 0, ⟨[(4, vr 0), (33, vq z8 v0), (34, vi v1), (35, vi o_1_0), (36, vb false)], [.obj 5 (eL Yq o_1_1)], 0⟩) := by
  induction m with
  | zero => intro v2 v3 o h; cases h
  | succ m ih => exact fun v2 v3 => tlp (
   .lI v2 v1 (fun c1 =>
    .na v2 fun i2 =>
    .ix qX v0 i2 fun x3 =>
    .cl (UD x3) fun r4 =>
    .vN 0 r4 (
     .ag 3 <|
     .ix Yy v3 i2 fun x5 =>
     .ag 0 <|
     .cl (Tx x5 x3) fun ⟨r6_0, r6_1⟩ =>
     .vN 0 r6_1 (
      .vw zn r6_0.Pending <|
      .vo qv r6_0.Entries <|
      .pl Yr [r6_0] <|
      .ap 72 Yr v3 [r6_0] fun n7 =>
      .go (ih (w64 (v2 + 1)) (v3 ++ [r6_0]))) <|
     .ret (.inl (false, []))) <|
    .ret (.inl (false, []))) fun c1 =>
   .ret (.inr (v2, v3)))
def qO (n : Nat) (a0 : GHistory) : Option ((List GState) × Bool) :=
 (k7 a0.Base).bind fun r1 =>
 match r1 with
 | true =>
  if 300 < (a0.Events.length : Int) then
   some ([], false)
  else
  (yD a0.Safe 0 (a0.Events.length : Int)).bind fun r3 =>
  match r3 with
  | true =>
   (xj a0.Base).bind fun r4 =>
   (yJ a0.Events (a0.Events.length : Int) n 0 [r4]).bind fun o5 =>
   match o5 with
   | .inl ⟨o5_0_0, o5_0_1⟩ =>
    some (o5_0_1, o5_0_0)
   | .inr (⟨o5_1_0, o5_1_1⟩) =>
    some (o5_1_1, true)
  | false =>
   some ([], false)
 | false =>
  some ([], false)
theorem Ja (n : Nat) : Yv (qO n) := fun a0 => tc (
 .cl (UC a0.Base) fun r1 =>
 .vN 0 r1 (
  .an 0 0 <|
  .an 0 0 <|
  .le z8 a0.Events <|
  .an 0 0 <|
  .lI 300 (a0.Events.length : Int) (fun c2 =>
   .an 0 0 <|
   .vw Yr [] <|
   .ret ([], false)) fun c2 =>
  .an 0 0 <|
  .le z8 a0.Events <|
  .cl (wd a0.Safe 0 (a0.Events.length : Int)) fun r3 =>
  .vN 2 r3 (
   .cl (Wb a0.Base) fun r4 =>
   .vw zn r4.Pending <|
   .vo qv r4.Entries <|
   .le z8 a0.Events <|
   .l2 (Wu a0.Events (a0.Events.length : Int) n 0 [r4]) (fun ⟨o5_0_0, o5_0_1⟩ =>
    .vw Yr o5_0_1 <|
    .ret (o5_0_1, o5_0_0)) fun ⟨o5_1_0, o5_1_1⟩ =>
   .vw Yr o5_1_1 <|
   .ret (o5_1_1, true)) <|
  .vw Yr [] <|
  .ret ([], false)) <|
 .an 0 0 <|
 .an 0 0 <|
 .an 0 0 <|
 .an 0 0 <|
 .vw Yr [] <|
 .ret ([], false)) (ze Tryz.func91)
def wz (a0 : GHistory) : Option ((List GState) × Bool) := qO (a0.Events.length + 5) a0
theorem WO (a0 : GHistory) (r : ((List GState) × Bool)) (h : wz a0 = some r) : ∃ n, qO n a0 = some r := ⟨_, h⟩
theorem QI : Yv wz := fun a0 r h => (WO a0 r h).elim fun n hn => Ja n a0 r hn
def kY (a0 : GHistory) : Option Bool :=
 (wz a0).bind fun ⟨r1_0, r1_1⟩ =>
 some r1_1
theorem Ry (a0 : GHistory) : Oc (kY a0) 89 [] [.val true (yy a0)] fun r => (vb r, []) := tc (
 .cl (QI a0) fun ⟨r1_0, r1_1⟩ =>
 .ret r1_1) (ze Tryz.func89)
def Ki (F : Int → Option (List UInt8)) : Prop := ∀ (a0 : Int), Oc (F a0) 98 [] [.val false [.nils], vi a0] fun r => (.val false [.own 1 (eL za r)], [])
def xF : Nat → Int → (List UInt8) → Option (Int × (List UInt8))
  | 0, _, _ => none
  | m + 1, v0, v1 =>
  if 128 <= v0 then
   if zY 1 (v1.length + [(b8 (w64 ((v0.tmod 128) + 128)))].length) then
   xF m (w64 (v0.tdiv 128)) (v1 ++ [(b8 (w64 ((v0.tmod 128) + 128)))])
   else none
  else
  some (v0, v1)
theorem V1 (m : Nat) : ∀ (v0 : Int) (v1 : (List UInt8)), Ol (xF m v0 v1) 98 (zG Tryz.f98 0) ⟨[(0, vr 0), (1, vi v0)], [.obj 1 (eL za v1)], 0⟩ fun o => match o with | ⟨o_0, o_1⟩ => (.exit 0, ⟨[(0, vr 0), (1, vi o_0)], [.obj 1 (eL za o_1)], 0⟩) := by
  induction m with
  | zero => intro v0 v1 o h; cases h
  | succ m ih => exact fun v0 v1 => tlp (
   .gI 128 v0 (fun c1 =>
    .q ⟨.nz 128, .b true, rfl⟩ <|
    .pl zn [(b8 (w64 ((v0.tmod 128) + 128)))] <|
    .ap 1 zn v1 [(b8 (w64 ((v0.tmod 128) + 128)))] fun n2 =>
    .q ⟨.nz 128, .b true, rfl⟩ <|
    .go (ih (w64 (v0.tdiv 128)) (v1 ++ [(b8 (w64 ((v0.tmod 128) + 128)))]))) fun c1 =>
   .ret (v0, v1))
def jp (n : Nat) (a0 : Int) (v1 : Bool) (v2 : (List UInt8)) : Nat → Option (Int × (List UInt8))
  | 0 => none
  | m + 1 =>
  if 128 <= a0 then
   if zY 1 (v2.length + [(b8 (w64 ((a0.tmod 128) + 128)))].length) then
   (xF n (w64 (a0.tdiv 128)) (v2 ++ [(b8 (w64 ((a0.tmod 128) + 128)))])).bind fun ⟨o3_0, o3_1⟩ =>
   some (o3_0, o3_1)
   else none
  else
  some (a0, v2)
theorem Rz (n : Nat) (a0 : Int) (v1 : Bool) (v2 : (List UInt8)) (m : Nat) : Ol (jp n a0 v1 v2 m) 98 (zG Tryz.f98 0) ⟨[(0, vr 0), (1, vi a0), (7, vb v1)], [.obj 1 (eL za v2)], 0⟩ fun o => match o with | ⟨o_0, o_1⟩ => (.exit 0, ⟨[(0, vr 0), (1, vi o_0)], [.obj 1 (eL za o_1)], 0⟩) := by
  induction m with
  | zero => intro o h; cases h
  | succ m ih => exact tlp (
   .gI 128 a0 (fun c1 =>
    .q ⟨.nz 128, .b true, rfl⟩ <|
    .pl zn [(b8 (w64 ((a0.tmod 128) + 128)))] <|
    .ap 1 zn v2 [(b8 (w64 ((a0.tmod 128) + 128)))] fun n2 =>
    .q ⟨.nz 128, .b true, rfl⟩ <|
    .gb (V1 n (w64 (a0.tdiv 128)) (v2 ++ [(b8 (w64 ((a0.tmod 128) + 128)))])) (fun ⟨o3_0, o3_1⟩ =>
     some (o3_0, o3_1)) (by intro x a h; first | (cases h; rfl) | (rcases x with x | x <;> cases h <;> rfl) | (rcases x with x | x | x <;> cases h <;> rfl))) fun c1 =>
   .ret (a0, v2))
def Yc (n : Nat) (a0 : Int) : Option (List UInt8) :=
 (yD a0 0 2147483647).bind fun r1 =>
 match r1 with
 | true =>
  (jp n a0 (!r1) [] n).bind fun ⟨o2_0, o2_1⟩ =>
  if zY 1 (o2_1.length + [(b8 o2_0)].length) then
  some (o2_1 ++ [(b8 o2_0)])
  else none
 | false =>
  some []
theorem Lk (n : Nat) : Ki (Yc n) := fun a0 => tc (
 .cl (wd a0 0 2147483647) fun r1 =>
 .vN 0 r1 (
  .lp (Rz n a0 (!r1) [] n) fun ⟨o2_0, o2_1⟩ =>
  .pl zn [(b8 o2_0)] <|
  .ap 1 zn o2_1 [(b8 o2_0)] fun n3 =>
  .ret (o2_1 ++ [(b8 o2_0)])) <|
 .ret []) (ze Tryz.func98)
def vm (a0 : Int) : Option (List UInt8) := Yc 10 a0
theorem Ty (a0 : Int) (r : (List UInt8)) (h : vm a0 = some r) : ∃ n, Yc n a0 = some r := ⟨_, h⟩
theorem PT : Ki vm := fun a0 r h => (Ty a0 r h).elim fun n hn => Lk n a0 r hn
def Q4 (F : Int → (List UInt8) → Option (List UInt8)) : Prop := ∀ (a0 : Int) (e0 : (List UInt8)), Oc (F a0 e0) 98 [.obj 1 (eL za e0)] [vr 0, vi a0] fun r => (.val false [.own 1 (eL za r)], [.dead])
def xa : Nat → Int → (List UInt8) → Option (Int × (List UInt8))
  | 0, _, _ => none
  | m + 1, v0, v1 =>
  if 128 <= v0 then
   if zY 1 (v1.length + [(b8 (w64 ((v0.tmod 128) + 128)))].length) then
   xa m (w64 (v0.tdiv 128)) (v1 ++ [(b8 (w64 ((v0.tmod 128) + 128)))])
   else none
  else
  some (v0, v1)
theorem JB (m : Nat) : ∀ (v0 : Int) (v1 : (List UInt8)), Ol (xa m v0 v1) 98 (zG Tryz.f98 0) ⟨[(0, vr 1), (1, vi v0)], [.dead, .obj 1 (eL za v1)], 1⟩ fun o => match o with | ⟨o_0, o_1⟩ => (.exit 0, ⟨[(0, vr 1), (1, vi o_0)], [.dead, .obj 1 (eL za o_1)], 1⟩) := by
  induction m with
  | zero => intro v0 v1 o h; cases h
  | succ m ih => exact fun v0 v1 => tlp (
   .gI 128 v0 (fun c1 =>
    .q ⟨.nz 128, .b true, rfl⟩ <|
    .pl zn [(b8 (w64 ((v0.tmod 128) + 128)))] <|
    .ap 1 zn v1 [(b8 (w64 ((v0.tmod 128) + 128)))] fun n2 =>
    .q ⟨.nz 128, .b true, rfl⟩ <|
    .go (ih (w64 (v0.tdiv 128)) (v1 ++ [(b8 (w64 ((v0.tmod 128) + 128)))]))) fun c1 =>
   .ret (v0, v1))
def qC (n : Nat) (a0 : Int) (v1 : Bool) (e0 : (List UInt8)) : Nat → Option (Int × (List UInt8))
  | 0 => none
  | m + 1 =>
  if 128 <= a0 then
   if zY 1 (e0.length + [(b8 (w64 ((a0.tmod 128) + 128)))].length) then
   (xa n (w64 (a0.tdiv 128)) (e0 ++ [(b8 (w64 ((a0.tmod 128) + 128)))])).bind fun ⟨o3_0, o3_1⟩ =>
   some (o3_0, o3_1)
   else none
  else
  some (a0, e0)
theorem K0 (n : Nat) (a0 : Int) (v1 : Bool) (e0 : (List UInt8)) (m : Nat) : Ol (qC n a0 v1 e0 m) 98 (zG Tryz.f98 0) ⟨[(0, vr 1), (1, vi a0), (7, vb v1)], [.dead, .obj 1 (eL za e0)], 1⟩ fun o => match o with | ⟨o_0, o_1⟩ => (.exit 0, ⟨[(0, vr 1), (1, vi o_0)], [.dead, .obj 1 (eL za o_1)], 1⟩) := by
  induction m with
  | zero => intro o h; cases h
  | succ m ih => exact tlp (
   .gI 128 a0 (fun c1 =>
    .q ⟨.nz 128, .b true, rfl⟩ <|
    .pl zn [(b8 (w64 ((a0.tmod 128) + 128)))] <|
    .ap 1 zn e0 [(b8 (w64 ((a0.tmod 128) + 128)))] fun n2 =>
    .q ⟨.nz 128, .b true, rfl⟩ <|
    .gb (JB n (w64 (a0.tdiv 128)) (e0 ++ [(b8 (w64 ((a0.tmod 128) + 128)))])) (fun ⟨o3_0, o3_1⟩ =>
     some (o3_0, o3_1)) (by intro x a h; first | (cases h; rfl) | (rcases x with x | x <;> cases h <;> rfl) | (rcases x with x | x | x <;> cases h <;> rfl))) fun c1 =>
   .ret (a0, e0))
def vR (n : Nat) (a0 : Int) (e0 : (List UInt8)) : Option (List UInt8) :=
 (yD a0 0 2147483647).bind fun r1 =>
 match r1 with
 | true =>
  (qC n a0 (!r1) e0 n).bind fun ⟨o2_0, o2_1⟩ =>
  if zY 1 (o2_1.length + [(b8 o2_0)].length) then
  some (o2_1 ++ [(b8 o2_0)])
  else none
 | false =>
  some e0
theorem UE (n : Nat) : Q4 (vR n) := fun a0 e0 => tc (
 .cl (wd a0 0 2147483647) fun r1 =>
 .vN 0 r1 (
  .lp (K0 n a0 (!r1) e0 n) fun ⟨o2_0, o2_1⟩ =>
  .pl zn [(b8 o2_0)] <|
  .ap 1 zn o2_1 [(b8 o2_0)] fun n3 =>
  .ret (o2_1 ++ [(b8 o2_0)])) <|
 .ret e0) (ze Tryz.func98)
def zA (a0 : Int) (e0 : (List UInt8)) : Option (List UInt8) := vR 10 a0 e0
theorem V2 (a0 : Int) (e0 : (List UInt8)) (r : (List UInt8)) (h : zA a0 e0 = some r) : ∃ n, vR n a0 e0 = some r := ⟨_, h⟩
theorem zM : Q4 zA := fun a0 e0 r h => (V2 a0 e0 r h).elim fun n hn => UE n a0 e0 r hn
def qq (a0 : (List UInt8)) (e0 : (List UInt8)) : Option (List UInt8) :=
 if 20 < (a0.length : Int) then
  some e0
 else
 (zA (a0.length : Int) e0).bind fun r2 =>
 if zY 1 (r2.length + a0.length) then
 some (r2 ++ a0)
 else none
theorem vS (a0 : (List UInt8)) (e0 : (List UInt8)) : Oc (qq a0 e0) 149 [.obj 1 (eL za e0)] [vr 0, vq za a0] fun r => (.val false [.own 1 (eL za r)], [.dead]) := tc (
 .le za a0 <|
 .lI 20 (a0.length : Int) (fun c1 =>
  .ret e0) fun c1 =>
 .le za a0 <|
 .cl (zM (a0.length : Int) e0) fun r2 =>
 .ap 1 zn r2 a0 fun n3 =>
 .ret (r2 ++ a0)) (ze Tryz.func149)
def qD (F : GValue → (List UInt8) → Option (List UInt8)) : Prop := ∀ (a0 : GValue) (e0 : (List UInt8)), Oc (F a0 e0) 150 [.obj 1 (eL za e0)] [.val true (z6 a0), vr 0] fun r => (.val false [.own 1 (eL za r)], [.dead])
def yz (G_impl_Value_bytes : GValue → (List UInt8) → Option (List UInt8)) (v0 : (List GValue)) (v1 : Int) (a0 : GValue) : Nat → Int → (List UInt8) → Option (Int × (List UInt8))
  | 0, _, _ => none
  | m + 1, v2, v3 =>
  if v2 < v1 then
   (zw v2).bind fun i2 =>
   (v0[i2]?).bind fun x3 =>
   if a0.Kind = 5 then
    (a0.K[i2]?).bind fun x5 =>
    (qq x5 v3).bind fun r6 =>
    (G_impl_Value_bytes x3 r6).bind fun r7 =>
    yz G_impl_Value_bytes v0 v1 a0 m (w64 (v2 + 1)) r7
   else
   (G_impl_Value_bytes x3 v3).bind fun r5 =>
   yz G_impl_Value_bytes v0 v1 a0 m (w64 (v2 + 1)) r5
  else
  some (v2, v3)
theorem ZR (G_impl_Value_bytes : GValue → (List UInt8) → Option (List UInt8)) (H_impl_Value_bytes : qD G_impl_Value_bytes) (v0 : (List GValue)) (v1 : Int) (a0 : GValue) (m : Nat) : ∀ (v2 : Int) (v3 : (List UInt8)), Ol (yz G_impl_Value_bytes v0 v1 a0 m v2 v3) 150 (zG Tryz.f150 0) ⟨[(1, vr 1), (2, vp 2 0), (53, vq zg v0), (54, vi v1), (55, vi v2)], [.dead, .obj 1 (eL za v3), .var (z6 a0)], 1⟩ fun o => match o with | ⟨o_0, o_1⟩ => (.exit 1, ⟨[(1, vr 1), (2, vp 2 0), (53, vq zg v0), (54, vi v1), (55, vi o_0), (56, vb false)], [.dead, .obj 1 (eL za o_1), .var (z6 a0)], 1⟩) := by
  induction m with
  | zero => intro v2 v3 o h; cases h
  | succ m ih => exact fun v2 v3 => tlp (
   .lI v2 v1 (fun c1 =>
    .na v2 fun i2 =>
    .ix yn v0 i2 fun x3 =>
    .eI a0.Kind 5 (fun c4 =>
     .ag 1 <|
     .ix0 (zt za) a0.K i2 fun x5 =>
     .cl (vS x5 v3) fun r6 =>
     .cl (H_impl_Value_bytes x3 r6) fun r7 =>
     .go (ih (w64 (v2 + 1)) r7)) fun c4 =>
    .cl (H_impl_Value_bytes x3 v3) fun r5 =>
    .go (ih (w64 (v2 + 1)) r5)) fun c1 =>
   .ret (v2, v3))
def Zl (G_impl_Value_bytes : GValue → (List UInt8) → Option (List UInt8)) (n : Nat) (a0 : GValue) (e0 : (List UInt8)) : Option (List UInt8) :=
 (zA a0.Kind e0).bind fun r1 =>
 if a0.Kind = 1 then
  (zA a0.N r1).bind fun r3 =>
  some r3
 else
 if a0.Kind = 2 then
  if a0.N < 0 then
   (zA 1 r1).bind fun r5 =>
   (zA (w64 ((w64 (0 - a0.N)).tdiv 1000000)) r5).bind fun r6 =>
   (zA ((w64 (0 - a0.N)).tmod 1000000) r6).bind fun r7 =>
   some r7
  else
  (zA 0 r1).bind fun r5 =>
  (zA (w64 (a0.N.tdiv 1000000)) r5).bind fun r6 =>
  (zA (a0.N.tmod 1000000) r6).bind fun r7 =>
  some r7
 else
 if a0.Kind = 3 then
  (qq a0.S r1).bind fun r5 =>
  some r5
 else
 if a0.Kind = 4 then
  (zA (a0.L.length : Int) r1).bind fun r6 =>
  (yz G_impl_Value_bytes a0.L (a0.L.length : Int) a0 n 0 r6).bind fun ⟨o7_0, o7_1⟩ =>
  some o7_1
 else
 if a0.Kind = 5 then
  (zA (a0.L.length : Int) r1).bind fun r7 =>
  (yz G_impl_Value_bytes a0.L (a0.L.length : Int) a0 n 0 r7).bind fun ⟨o8_0, o8_1⟩ =>
  some o8_1
 else
 some r1
theorem V3 (G_impl_Value_bytes : GValue → (List UInt8) → Option (List UInt8)) (H_impl_Value_bytes : qD G_impl_Value_bytes) (n : Nat) : qD (Zl G_impl_Value_bytes n) := fun a0 e0 => tc (
 .cl (zM a0.Kind e0) fun r1 =>
 .eI a0.Kind 1 (fun c2 =>
  .cl (zM a0.N r1) fun r3 =>
  .ret r3) fun c2 =>
 .eI a0.Kind 2 (fun c3 =>
  .lI a0.N 0 (fun c4 =>
   .cl (zM 1 r1) fun r5 =>
   .q ⟨.nz 1000000, .b true, rfl⟩ <|
   .cl (zM (w64 ((w64 (0 - a0.N)).tdiv 1000000)) r5) fun r6 =>
   .q ⟨.nz 1000000, .b true, rfl⟩ <|
   .cl (zM ((w64 (0 - a0.N)).tmod 1000000) r6) fun r7 =>
   .ret r7) fun c4 =>
  .cl (zM 0 r1) fun r5 =>
  .q ⟨.nz 1000000, .b true, rfl⟩ <|
  .cl (zM (w64 (a0.N.tdiv 1000000)) r5) fun r6 =>
  .q ⟨.nz 1000000, .b true, rfl⟩ <|
  .cl (zM (a0.N.tmod 1000000) r6) fun r7 =>
  .ret r7) fun c3 =>
 .eI a0.Kind 3 (fun c4 =>
  .cl (vS a0.S r1) fun r5 =>
  .ret r5) fun c4 =>
 .eI a0.Kind 4 (fun c5 =>
  .le zg a0.L <|
  .cl (zM (a0.L.length : Int) r1) fun r6 =>
  .le zg a0.L <|
  .lp (ZR G_impl_Value_bytes H_impl_Value_bytes a0.L (a0.L.length : Int) a0 n 0 r6) fun ⟨o7_0, o7_1⟩ =>
  .ret o7_1) fun c5 =>
 .eI a0.Kind 5 (fun c6 =>
  .le zg a0.L <|
  .cl (zM (a0.L.length : Int) r1) fun r7 =>
  .le zg a0.L <|
  .lp (ZR G_impl_Value_bytes H_impl_Value_bytes a0.L (a0.L.length : Int) a0 n 0 r7) fun ⟨o8_0, o8_1⟩ =>
  .ret o8_1) fun c6 =>
 .ret r1) (ze Tryz.func150)
def yr : Nat → GValue → (List UInt8) → Option (List UInt8)
 | 0, _, _ => none
 | n + 1, a0, e0 => Zl (yr n) n a0 e0
theorem JC (n : Nat) : qD (yr n) := by
 induction n with
 | zero => exact fun _ _ _ h => (by rw [yr] at h; cases h)
 | succ n ih =>
  have ih_impl_Value_bytes := ih
  exact fun a0 e0 r h => V3 (yr n) ih_impl_Value_bytes n a0 e0 r (by rw [yr] at h; exact h)
def qE (a0 : GValue) (e0 : (List UInt8)) : Option (List UInt8) := yr 100 a0 e0
theorem Jb (a0 : GValue) (e0 : (List UInt8)) (r : (List UInt8)) (h : qE a0 e0 = some r) : ∃ n, yr n a0 e0 = some r := ⟨_, h⟩
theorem Xc : qD qE := by
 intro a0 e0 r h
 obtain ⟨n, hn⟩ := Jb a0 e0 r h
 exact (JC n) a0 e0 r hn
def Wc (F : GEvent → Option (List UInt8)) : Prop := ∀ (a0 : GEvent), Oc (F a0) 97 [] [.val true (xl a0)] fun r => (.val false [.own 1 (eL za r)], [])
def yR (v0 : (List (List UInt8))) (v1 : Int) (a0 : GEvent) : Nat → Int → (List UInt8) → Option (Int × (List UInt8))
  | 0, _, _ => none
  | m + 1, v2, v4 =>
  if v2 < v1 then
   (zw v2).bind fun i2 =>
   (v0[i2]?).bind fun x3 =>
   (qq x3 v4).bind fun r4 =>
   yR v0 v1 a0 m (w64 (v2 + 1)) r4
  else
  some (v2, v4)
theorem Yw (v0 : (List (List UInt8))) (v1 : Int) (a0 : GEvent) (m : Nat) : ∀ (v2 : Int) (v4 : (List UInt8)), Ol (yR v0 v1 a0 m v2 v4) 97 (zG Tryz.f97 0) ⟨[(1, vp 0 0), (3, vr 1), (33, vq (zt za) v0), (34, vi v1), (35, vi v2)], [.var (xl a0), .obj 1 (eL za v4)], 0⟩ fun o => match o with | ⟨o_0, o_1⟩ => (.exit 1, ⟨[(1, vp 0 0), (3, vr 1), (33, vq (zt za) v0), (34, vi v1), (35, vi o_0), (36, vb false)], [.var (xl a0), .obj 1 (eL za o_1)], 0⟩) := by
  induction m with
  | zero => intro v2 v4 o h; cases h
  | succ m ih => exact fun v2 v4 => tlp (
   .lI v2 v1 (fun c1 =>
    .na v2 fun i2 =>
    .ix0 (zt za) v0 i2 fun x3 =>
    .cl (vS x3 v4) fun r4 =>
    .go (ih (w64 (v2 + 1)) r4)) fun c1 =>
   .ret (v2, v4))
def kc (n : Nat) (a0 : GEvent) : Option (List UInt8) :=
 (vm a0.Kind).bind fun r1 =>
 if 0 < (a0.Addr.length : Int) then
  (qq a0.Addr r1).bind fun r3 =>
  if a0.Kind = 1 then
   (zA a0.Act r3).bind fun r5 =>
   some r5
  else
  if a0.Kind = 2 then
   (zA (a0.Deps.length : Int) r3).bind fun r6 =>
   (yR a0.Deps (a0.Deps.length : Int) a0 n 0 r6).bind fun ⟨o7_0, o7_1⟩ =>
   (qE a0.Val o7_1).bind fun r8 =>
   some r8
  else
  some r3
 else
 if a0.Kind = 1 then
  (zA a0.Act r1).bind fun r4 =>
  some r4
 else
 if a0.Kind = 2 then
  (zA (a0.Deps.length : Int) r1).bind fun r5 =>
  (yR a0.Deps (a0.Deps.length : Int) a0 n 0 r5).bind fun ⟨o6_0, o6_1⟩ =>
  (qE a0.Val o6_1).bind fun r7 =>
  some r7
 else
 some r1
theorem R1 (n : Nat) : Wc (kc n) := fun a0 => tc (
 .cl (PT a0.Kind) fun r1 =>
 .le za a0.Addr <|
 .lI 0 (a0.Addr.length : Int) (fun c2 =>
  .cl (vS a0.Addr r1) fun r3 =>
  .eI a0.Kind 1 (fun c4 =>
   .cl (zM a0.Act r3) fun r5 =>
   .ret r5) fun c4 =>
  .eI a0.Kind 2 (fun c5 =>
   .le (zt za) a0.Deps <|
   .cl (zM (a0.Deps.length : Int) r3) fun r6 =>
   .le (zt za) a0.Deps <|
   .lp (Yw a0.Deps (a0.Deps.length : Int) a0 n 0 r6) fun ⟨o7_0, o7_1⟩ =>
   .cl (Xc a0.Val o7_1) fun r8 =>
   .ret r8) fun c5 =>
  .ret r3) fun c2 =>
 .eI a0.Kind 1 (fun c3 =>
  .cl (zM a0.Act r1) fun r4 =>
  .ret r4) fun c3 =>
 .eI a0.Kind 2 (fun c4 =>
  .le (zt za) a0.Deps <|
  .cl (zM (a0.Deps.length : Int) r1) fun r5 =>
  .le (zt za) a0.Deps <|
  .lp (Yw a0.Deps (a0.Deps.length : Int) a0 n 0 r5) fun ⟨o6_0, o6_1⟩ =>
  .cl (Xc a0.Val o6_1) fun r7 =>
  .ret r7) fun c4 =>
 .ret r1) (ze Tryz.func97)
def qS (a0 : GEvent) : Option (List UInt8) := kc 100 a0
theorem JD (a0 : GEvent) (r : (List UInt8)) (h : qS a0 = some r) : ∃ n, kc n a0 = some r := ⟨_, h⟩
theorem V4 : Wc qS := fun a0 r h => (JD a0 r h).elim fun n hn => R1 n a0 r hn
def WP (F : GHistory → Option ((List UInt8) × Bool)) : Prop := ∀ (a0 : GHistory), Oc (F a0) 37 [] [.val true (yy a0)] fun r => (.tup [(false, [.own 1 (eL za r.1)]), (false, [.bool r.2])], [])
def xU (v0 : (List GEvent)) (v1 : Int) : Nat → Int → (List UInt8) → Option (Int × (List UInt8))
  | 0, _, _ => none
  | m + 1, v2, v3 =>
  if v2 < v1 then
   (zw v2).bind fun i2 =>
   (v0[i2]?).bind fun x3 =>
   (qS x3).bind fun r4 =>
   (zA (r4.length : Int) v3).bind fun r5 =>
   if zY 1 (r5.length + r4.length) then
   xU v0 v1 m (w64 (v2 + 1)) (r5 ++ r4)
   else none
  else
  some (v2, v3)
theorem JE (v0 : (List GEvent)) (v1 : Int) (m : Nat) : ∀ (v2 : Int) (v3 : (List UInt8)), Ol (xU v0 v1 m v2 v3) 37 (zG Tryz.f37 0) ⟨[(4, vr 0), (13, vq z8 v0), (14, vi v1), (15, vi v2)], [.obj 1 (eL za v3)], 0⟩ fun o => match o with | ⟨o_0, o_1⟩ => (.exit 0, ⟨[(4, vr 0), (13, vq z8 v0), (14, vi v1), (15, vi o_0), (16, vb false)], [.obj 1 (eL za o_1)], 0⟩) := by
  induction m with
  | zero => intro v2 v3 o h; cases h
  | succ m ih => exact fun v2 v3 => tlp (
   .lI v2 v1 (fun c1 =>
    .na v2 fun i2 =>
    .ix qX v0 i2 fun x3 =>
    .cl (V4 x3) fun r4 =>
    .le za r4 <|
    .cl (zM (r4.length : Int) v3) fun r5 =>
    .pl zn r4 <|
    .ap 1 zn r5 r4 fun n6 =>
    .go (ih (w64 (v2 + 1)) (r5 ++ r4))) fun c1 =>
   .ret (v2, v3))
def kZ (n : Nat) (a0 : GHistory) : Option ((List UInt8) × Bool) :=
 (kY a0).bind fun r1 =>
 match r1 with
 | true =>
  (xU a0.Events (a0.Events.length : Int) n 0 []).bind fun ⟨o2_0, o2_1⟩ =>
  some (o2_1, true)
 | false =>
  some ([], false)
theorem Tz (n : Nat) : WP (kZ n) := fun a0 => tc (
 .cl (Ry a0) fun r1 =>
 .vN 0 r1 (
  .le z8 a0.Events <|
  .lp (JE a0.Events (a0.Events.length : Int) n 0 []) fun ⟨o2_0, o2_1⟩ =>
  .ret (o2_1, true)) <|
 .ret ([], false)) (ze Tryz.func37)
def jq (a0 : GHistory) : Option ((List UInt8) × Bool) := kZ (a0.Events.length + 5) a0
theorem K1 (a0 : GHistory) (r : ((List UInt8) × Bool)) (h : jq a0 = some r) : ∃ n, kZ n a0 = some r := ⟨_, h⟩
theorem R2 : WP jq := fun a0 r h => (K1 a0 r h).elim fun n hn => Tz n a0 r hn
def Jc (F : (List UInt8) → (List UInt8) → Option Bool) : Prop := ∀ (a0 : (List UInt8)) (a1 : (List UInt8)), Oc (F a0 a1) 38 [] [vq za a0, vq za a1] fun r => (vb r, [])
def wO (a0 : (List UInt8)) (a1 : (List UInt8)) : Nat → Int → Option (Bool ⊕ Int)
  | 0, _ => none
  | m + 1, v2 =>
  if v2 < (a0.length : Int) then
   (zw v2).bind fun i2 =>
   (a0[i2]?).bind fun x3 =>
   (a1[i2]?).bind fun x4 =>
   if ((x3.toNat : Nat) : Int) = ((x4.toNat : Nat) : Int) then
    wO a0 a1 m (w64 (v2 + 1))
   else
   some (.inl false)
  else
  some (.inr v2)
theorem V5 (a0 : (List UInt8)) (a1 : (List UInt8)) (m : Nat) : ∀ (v2 : Int), Ol (wO a0 a1 m v2) 38 (zG Tryz.f38 0) ⟨[(0, vq za a0), (1, vq za a1), (5, vi v2)], [], 0⟩ fun o => match o with | .inl o_0 => (.ret, ⟨[(4, vb o_0)], [], 0⟩) | .inr (o_1) => (.exit 0, ⟨[(0, vq za a0), (1, vq za a1), (5, vi o_1), (14, vb false)], [], 0⟩) := by
  induction m with
  | zero => intro v2 o h; cases h
  | succ m ih => exact fun v2 => tlp (
   .le za a0 <|
   .lI v2 (a0.length : Int) (fun c1 =>
    .na v2 fun i2 =>
    .ix0 za a0 i2 fun x3 =>
    .ag 1 <|
    .ix0 za a1 i2 fun x4 =>
    .eI ((x3.toNat : Nat) : Int) ((x4.toNat : Nat) : Int) (fun c5 =>
     .go (ih (w64 (v2 + 1)))) fun c5 =>
    .ret (.inl false)) fun c1 =>
   .ret (.inr v2))
def Xr (n : Nat) (a0 : (List UInt8)) (a1 : (List UInt8)) : Option Bool :=
 if (a0.length : Int) = (a1.length : Int) then
  (wO a0 a1 n 0).bind fun o2 =>
  match o2 with
  | .inl o2_0 =>
   some o2_0
  | .inr (o2_1) =>
   some true
 else
 some false
theorem PU (n : Nat) : Jc (Xr n) := fun a0 a1 => tc (
 .le za a0 <|
 .le za a1 <|
 .eI (a0.length : Int) (a1.length : Int) (fun c1 =>
  .l2 (V5 a0 a1 n 0) (fun o2_0 =>
   .ret o2_0) fun o2_1 =>
  .ret true) fun c1 =>
 .ret false) (ze Tryz.func38)
theorem ME {a : List UInt8} (ha : a.length <= 2 ^ 40) : ∀ (d i m : Nat), i + d = a.length → d < m → ∃ z, wO a a m (i : Int) = some (.inr z) := by
 intro d
 induction d with
 | zero =>
  intro i m hi hm
  obtain ⟨m, rfl, _⟩ := zh hm
  exact ⟨_, by rw [wO, if_neg (by omega)]⟩
 | succ d ih =>
  intro i m hi hm
  obtain ⟨m, rfl, hm'⟩ := zh hm
  have hil : i < a.length := by omega
  rw [wO, if_pos (by omega), zf, Option.bind_some, zk hil, Option.bind_some, Option.bind_some, if_pos rfl, zC (by omega)]
  exact ih (i + 1) m (by omega) (by omega)
def zV (a0 : (List UInt8)) (a1 : (List UInt8)) : Option Bool := if a0 = a1 ∧ a0.length <= 2 ^ 40 then some true else none
theorem R3 (a0 : (List UInt8)) (a1 : (List UInt8)) (r : Bool) (h : zV a0 a1 = some r) : ∃ n, Xr n a0 a1 = some r := by
 unfold zV at h
 obtain ⟨⟨he, ha⟩, h2⟩ := zR h
 clear h
 subst he
 refine ⟨a0.length + 1, ?_⟩
 obtain ⟨z, hz⟩ := ME ha a0.length 0 (a0.length + 1) (by omega) (by omega)
 rw [show ((0 : Nat) : Int) = 0 from rfl] at hz
 unfold Xr
 rw [if_pos rfl, hz]; exact h2
theorem wI : Jc zV := fun a0 a1 r h => (R3 a0 a1 r h).elim fun n hn => PU n a0 a1 r hn
def Q5 (F : (List (List UInt8)) → (List (List UInt8)) → Option Bool) : Prop := ∀ (a0 : (List (List UInt8))) (a1 : (List (List UInt8))), Oc (F a0 a1) 63 [] [vq (zt za) a0, vq (zt za) a1] fun r => (vb r, [])
def w4 (a0 : (List (List UInt8))) (a1 : (List (List UInt8))) : Nat → Int → Option (Bool ⊕ Int)
  | 0, _ => none
  | m + 1, v2 =>
  if v2 < (a0.length : Int) then
   (zw v2).bind fun i2 =>
   (a0[i2]?).bind fun x3 =>
   (a1[i2]?).bind fun x4 =>
   (zV x3 x4).bind fun r5 =>
   match r5 with
   | true =>
    w4 a0 a1 m (w64 (v2 + 1))
   | false =>
    some (.inl false)
  else
  some (.inr v2)
theorem K3 (a0 : (List (List UInt8))) (a1 : (List (List UInt8))) (m : Nat) : ∀ (v2 : Int), Ol (w4 a0 a1 m v2) 63 (zG Tryz.f63 0) ⟨[(0, vq (zt za) a0), (1, vq (zt za) a1), (5, vi v2)], [], 0⟩ fun o => match o with | .inl o_0 => (.ret, ⟨[(4, vb o_0)], [], 0⟩) | .inr (o_1) => (.exit 0, ⟨[(0, vq (zt za) a0), (1, vq (zt za) a1), (5, vi o_1), (14, vb false)], [], 0⟩) := by
  induction m with
  | zero => intro v2 o h; cases h
  | succ m ih => exact fun v2 => tlp (
   .le (zt za) a0 <|
   .lI v2 (a0.length : Int) (fun c1 =>
    .na v2 fun i2 =>
    .ix0 (zt za) a0 i2 fun x3 =>
    .ag 1 <|
    .ix0 (zt za) a1 i2 fun x4 =>
    .cl (wI x3 x4) fun r5 =>
    .vN 0 r5 (
     .go (ih (w64 (v2 + 1)))) <|
    .ret (.inl false)) fun c1 =>
   .ret (.inr v2))
def YR (n : Nat) (a0 : (List (List UInt8))) (a1 : (List (List UInt8))) : Option Bool :=
 if (a0.length : Int) = (a1.length : Int) then
  (w4 a0 a1 n 0).bind fun o2 =>
  match o2 with
  | .inl o2_0 =>
   some o2_0
  | .inr (o2_1) =>
   some true
 else
 some false
theorem UF (n : Nat) : Q5 (YR n) := fun a0 a1 => tc (
 .le (zt za) a0 <|
 .le (zt za) a1 <|
 .eI (a0.length : Int) (a1.length : Int) (fun c1 =>
  .l2 (K3 a0 a1 n 0) (fun o2_0 =>
   .ret o2_0) fun o2_1 =>
  .ret true) fun c1 =>
 .ret false) (ze Tryz.func63)
theorem Ll {a : List (List UInt8)} (ha : bsz a <= 2 ^ 40) : ∀ (d i m : Nat), i + d = a.length → d < m → ∃ z, w4 a a m (i : Int) = some (.inr z) := by
 have hl := kD a
 intro d
 induction d with
 | zero =>
  intro i m hi hm
  obtain ⟨m, rfl, _⟩ := zh hm
  exact ⟨_, by rw [w4, if_neg (by omega)]⟩
 | succ d ih =>
  intro i m hi hm
  obtain ⟨m, rfl, hm'⟩ := zh hm
  have hil : i < a.length := by omega
  have hx := Xw (List.getElem_mem hil)
  rw [w4, if_pos (by omega), zf, Option.bind_some, zk hil, Option.bind_some, Option.bind_some]
  unfold zV
  rw [if_pos ⟨rfl, by omega⟩, Option.bind_some, zC (by omega)]
  exact ih (i + 1) m (by omega) (by omega)
def xd (a0 : (List (List UInt8))) (a1 : (List (List UInt8))) : Option Bool := if a0 = a1 ∧ bsz a0 <= 2 ^ 40 then some true else none
theorem V6 (a0 : (List (List UInt8))) (a1 : (List (List UInt8))) (r : Bool) (h : xd a0 a1 = some r) : ∃ n, YR n a0 a1 = some r := by
 unfold xd at h
 obtain ⟨⟨he, ha⟩, h2⟩ := zR h
 clear h
 subst he
 have hl := kD a0
 refine ⟨a0.length + 1, ?_⟩
 obtain ⟨z, hz⟩ := Ll ha a0.length 0 (a0.length + 1) (by omega) (by omega)
 rw [show ((0 : Nat) : Int) = 0 from rfl] at hz
 unfold YR
 rw [if_pos rfl, hz]; exact h2
theorem Ym : Q5 xd := fun a0 a1 r h => (V6 a0 a1 r h).elim fun n hn => UF n a0 a1 r hn
def vT (F : (List GValue) → (List GValue) → Option Bool) : Prop := ∀ (a0 : (List GValue)) (a1 : (List GValue)), Oc (F a0 a1) 144 [] [vq zg a0, vq zg a1] fun r => (vb r, [])
def k8 (F : GValue → GValue → Option Bool) : Prop := ∀ (a0 : GValue) (a1 : GValue), Oc (F a0 a1) 82 [] [.val true (z6 a0), .val true (z6 a1)] fun r => (vb r, [])
def w5 (G_laws_eqValue : GValue → GValue → Option Bool) (a0 : (List GValue)) (a1 : (List GValue)) : Nat → Int → Option (Bool ⊕ Int)
  | 0, _ => none
  | m + 1, v2 =>
  if v2 < (a0.length : Int) then
   (zw v2).bind fun i2 =>
   (a0[i2]?).bind fun x3 =>
   (a1[i2]?).bind fun x4 =>
   (G_laws_eqValue x3 x4).bind fun r5 =>
   match r5 with
   | true =>
    w5 G_laws_eqValue a0 a1 m (w64 (v2 + 1))
   | false =>
    some (.inl false)
  else
  some (.inr v2)
theorem K4 (G_laws_eqValue : GValue → GValue → Option Bool) (H_laws_eqValue : k8 G_laws_eqValue) (a0 : (List GValue)) (a1 : (List GValue)) (m : Nat) : ∀ (v2 : Int), Ol (w5 G_laws_eqValue a0 a1 m v2) 144 (zG Tryz.f144 0) ⟨[(0, vq zg a0), (1, vq zg a1), (5, vi v2)], [], 0⟩ fun o => match o with | .inl o_0 => (.ret, ⟨[(4, vb o_0)], [], 0⟩) | .inr (o_1) => (.exit 0, ⟨[(0, vq zg a0), (1, vq zg a1), (5, vi o_1), (14, vb false)], [], 0⟩) := by
  induction m with
  | zero => intro v2 o h; cases h
  | succ m ih => exact fun v2 => tlp (
   .le zg a0 <|
   .lI v2 (a0.length : Int) (fun c1 =>
    .na v2 fun i2 =>
    .ix yn a0 i2 fun x3 =>
    .ag 1 <|
    .ix yn a1 i2 fun x4 =>
    .cl (H_laws_eqValue x3 x4) fun r5 =>
    .vN 0 r5 (
     .go (ih (w64 (v2 + 1)))) <|
    .ret (.inl false)) fun c1 =>
   .ret (.inr v2))
def vU (G_laws_eqValue : GValue → GValue → Option Bool) (n : Nat) (a0 : (List GValue)) (a1 : (List GValue)) : Option Bool :=
 if (a0.length : Int) = (a1.length : Int) then
  (w5 G_laws_eqValue a0 a1 n 0).bind fun o2 =>
  match o2 with
  | .inl o2_0 =>
   some o2_0
  | .inr (o2_1) =>
   some true
 else
 some false
theorem UG (G_laws_eqValue : GValue → GValue → Option Bool) (H_laws_eqValue : k8 G_laws_eqValue) (n : Nat) : vT (vU G_laws_eqValue n) := fun a0 a1 => tc (
 .le zg a0 <|
 .le zg a1 <|
 .eI (a0.length : Int) (a1.length : Int) (fun c1 =>
  .l2 (K4 G_laws_eqValue H_laws_eqValue a0 a1 n 0) (fun o2_0 =>
   .ret o2_0) fun o2_1 =>
  .ret true) fun c1 =>
 .ret false) (ze Tryz.func144)
def Xs (G_laws_eqValueS : (List GValue) → (List GValue) → Option Bool) (a0 : GValue) (a1 : GValue) : Option Bool :=
 if a0.Kind = a1.Kind then
  if a0.N = a1.N then
   (zV a0.S a1.S).bind fun r3 =>
   match r3 with
   | true =>
    (xd a0.K a1.K).bind fun r4 =>
    match r4 with
    | true =>
     (G_laws_eqValueS a0.L a1.L).bind fun r5 =>
     match r5 with
     | true =>
      some true
     | false =>
      some false
    | false =>
     some false
   | false =>
    some false
  else
  some false
 else
 some false
theorem PV (G_laws_eqValueS : (List GValue) → (List GValue) → Option Bool) (H_laws_eqValueS : vT G_laws_eqValueS) : k8 (Xs G_laws_eqValueS) := fun a0 a1 => tc (
 .eI a0.Kind a1.Kind (fun c1 =>
  .eI a0.N a1.N (fun c2 =>
   .cl (wI a0.S a1.S) fun r3 =>
   .vN 0 r3 (
    .cl (Ym a0.K a1.K) fun r4 =>
    .vN 0 r4 (
     .cl (H_laws_eqValueS a0.L a1.L) fun r5 =>
     .vN 0 r5 (
      .ret true) <|
     .ret false) <|
    .ret false) <|
   .ret false) fun c2 =>
  .ret false) fun c1 =>
 .ret false) (ze Tryz.func82)
mutual
def xP : Nat → (List GValue) → (List GValue) → Option Bool
 | 0, _, _ => none
 | n + 1, a0, a1 => vU (w6 n) n a0 a1
def w6 : Nat → GValue → GValue → Option Bool
 | 0, _, _ => none
 | n + 1, a0, a1 => Xs (xP n) a0 a1
end
theorem Wd (n : Nat) : vT (xP n) ∧ k8 (w6 n) := by
 induction n with
 | zero => exact ⟨fun _ _ _ h => (by rw [xP] at h; cases h), fun _ _ _ h => (by rw [w6] at h; cases h)⟩
 | succ n ih =>
  obtain ⟨ih_laws_eqValueS, ih_laws_eqValue⟩ := ih
  exact ⟨fun a0 a1 r h => UG (w6 n) ih_laws_eqValue n a0 a1 r (by rw [xP] at h; exact h),
   fun a0 a1 r h => PV (xP n) ih_laws_eqValueS a0 a1 r (by rw [w6] at h; exact h)⟩
theorem UH {G : GValue → GValue → Option Bool} {a : List GValue} {f : Nat} (ha : a.length <= 2 ^ 40) (hf : a.length < f) (hG : ∀ v ∈ a, G v v = some true) : vU G f a a = some true := by
 have loop : ∀ (d i m : Nat), i + d = a.length → d < m → ∃ z, w5 G a a m (i : Int) = some (.inr z) := by
  intro d
  induction d with
  | zero =>
   intro i m hi hm
   obtain ⟨m, rfl, _⟩ := zh hm
   exact ⟨_, by rw [w5, if_neg (by omega)]⟩
  | succ d ih =>
   intro i m hi hm
   obtain ⟨m, rfl, hm'⟩ := zh hm
   have hil : i < a.length := by omega
   rw [w5, if_pos (by omega), zf, Option.bind_some, zk hil, Option.bind_some, Option.bind_some, hG _ (List.getElem_mem hil), Option.bind_some, zC (by omega)]
   exact ih (i + 1) m (by omega) (by omega)
 obtain ⟨z, hz⟩ := loop a.length 0 f (by omega) (by omega)
 rw [show ((0 : Nat) : Int) = 0 from rfl] at hz
 unfold vU
 rw [if_pos rfl, hz]; rfl
theorem O8 : ∀ (N : Nat) (v : GValue), vsz v < N → vsz v <= 2 ^ 40 → ∀ f : Nat, 2 * vsz v + 3 <= f → w6 f v v = some true := by
 intro N
 induction N with
 | zero => intro v hv; omega
 | succ N ih =>
  intro v hv hs f hf
  obtain ⟨f, rfl, _⟩ := zh (show 0 < f by omega)
  obtain ⟨f, rfl, _⟩ := zh (show 0 < f by omega)
  have he := qI v
  have hl := xn v.L
  rw [w6]
  unfold Xs zV xd
  rw [if_pos rfl, if_pos rfl, if_pos (show v.S = v.S ∧ v.S.length <= 2 ^ 40 from ⟨rfl, by omega⟩), Option.bind_some]
  dsimp only
  rw [if_pos (show v.K = v.K ∧ bsz v.K <= 2 ^ 40 from ⟨rfl, by omega⟩), Option.bind_some]
  dsimp only
  rw [xP, UH (by omega) (by omega) fun x hx => ?_]
  ·rfl
  ·have := qw hx
   exact ih x (by omega) (by omega) f (by omega)
open Classical in
noncomputable def YS (a0 : (List GValue)) (a1 : (List GValue)) : Option Bool := if a0 = a1 ∧ xm a0 <= 2 ^ 40 then some true else none
theorem V7 (a0 : (List GValue)) (a1 : (List GValue)) (r : Bool) (h : YS a0 a1 = some r) : ∃ n, xP n a0 a1 = some r := by
 unfold YS at h
 obtain ⟨⟨he, ha⟩, h2⟩ := zR h
 clear h
 subst he
 have hl := xn a0
 refine ⟨2 * xm a0 + 5, ?_⟩
 rw [xP, UH (by omega) (by omega) fun x hx => ?_, h2]
 have := qw hx
 exact O8 _ x (Nat.lt_succ_self _) (by omega) _ (by omega)
open Classical in
noncomputable def qr (a0 : GValue) (a1 : GValue) : Option Bool := if a0 = a1 ∧ vsz a0 <= 2 ^ 40 then some true else none
theorem R4 (a0 : GValue) (a1 : GValue) (r : Bool) (h : qr a0 a1 = some r) : ∃ n, w6 n a0 a1 = some r := by
 unfold qr at h
 obtain ⟨⟨he, ha⟩, h2⟩ := zR h
 clear h
 subst he
 exact ⟨2 * vsz a0 + 3, by rw [<- h2]; exact O8 _ a0 (Nat.lt_succ_self _) ha _ (Nat.le_refl _)⟩
theorem DG : vT YS := by
 intro a0 a1 r h
 obtain ⟨n, hn⟩ := V7 a0 a1 r h
 exact (Wd n).1 a0 a1 r hn
theorem Q6 : k8 qr := by
 intro a0 a1 r h
 obtain ⟨n, hn⟩ := R4 a0 a1 r h
 exact (Wd n).2 a0 a1 r hn
def k9 (a0 : GEntry) (a1 : GEntry) : Option Bool :=
 (zV a0.Addr a1.Addr).bind fun r1 =>
 match r1 with
 | true =>
  (qr a0.Val a1.Val).bind fun r2 =>
  match r2 with
  | true =>
   (xd a0.Deps a1.Deps).bind fun r3 =>
   match r3 with
   | true =>
    if a0.Taint = true then
     if a1.Taint = true then
      if a0.Turned = a1.Turned then
       some true
      else
      some false
     else
     some false
    else
    if a1.Taint = true then
     some false
    else
    if a0.Turned = a1.Turned then
     some true
    else
    some false
   | false =>
    some false
  | false =>
   some false
 | false =>
  some false
theorem UI (a0 : GEntry) (a1 : GEntry) : Oc (k9 a0 a1) 143 [] [.val true (jU a0), .val true (jU a1)] fun r => (vb r, []) := tc (
 .cl (wI a0.Addr a1.Addr) fun r1 =>
 .vN 0 r1 (
  .cl (Q6 a0.Val a1.Val) fun r2 =>
  .vN 0 r2 (
   .cl (Ym a0.Deps a1.Deps) fun r3 =>
   .vN 0 r3 (
    .sp (a0.Taint = true) (fun c4 =>
     .sp (a1.Taint = true) (fun c5 =>
      .eb c4 c5 <|
      .eI a0.Turned a1.Turned (fun c6 =>
       .ret true) fun c6 =>
      .ret false) fun c5 =>
     .eb c4 (bF c5) <|
     .ret false) fun c4 =>
    .sp (a1.Taint = true) (fun c5 =>
     .eb (bF c4) c5 <|
     .ret false) fun c5 =>
    .eb (bF c4) (bF c5) <|
    .eI a0.Turned a1.Turned (fun c6 =>
     .ret true) fun c6 =>
    .ret false) <|
   .ret false) <|
  .ret false) <|
 .ret false) (ze Tryz.func143)
def Q7 (F : (List GEntry) → (List GEntry) → Option Bool) : Prop := ∀ (a0 : (List GEntry)) (a1 : (List GEntry)), Oc (F a0 a1) 81 [] [vq zl a0, vq zl a1] fun r => (vb r, [])
def w7 (a0 : (List GEntry)) (a1 : (List GEntry)) : Nat → Int → Option (Bool ⊕ Int)
  | 0, _ => none
  | m + 1, v2 =>
  if v2 < (a0.length : Int) then
   (zw v2).bind fun i2 =>
   (a0[i2]?).bind fun x3 =>
   (a1[i2]?).bind fun x4 =>
   (k9 x3 x4).bind fun r5 =>
   match r5 with
   | true =>
    w7 a0 a1 m (w64 (v2 + 1))
   | false =>
    some (.inl false)
  else
  some (.inr v2)
theorem K5 (a0 : (List GEntry)) (a1 : (List GEntry)) (m : Nat) : ∀ (v2 : Int), Ol (w7 a0 a1 m v2) 81 (zG Tryz.f81 0) ⟨[(0, vq zl a0), (1, vq zl a1), (5, vi v2)], [], 0⟩ fun o => match o with | .inl o_0 => (.ret, ⟨[(4, vb o_0)], [], 0⟩) | .inr (o_1) => (.exit 0, ⟨[(0, vq zl a0), (1, vq zl a1), (5, vi o_1), (14, vb false)], [], 0⟩) := by
  induction m with
  | zero => intro v2 o h; cases h
  | succ m ih => exact fun v2 => tlp (
   .le zl a0 <|
   .lI v2 (a0.length : Int) (fun c1 =>
    .na v2 fun i2 =>
    .ix zZ a0 i2 fun x3 =>
    .ag 1 <|
    .ix zZ a1 i2 fun x4 =>
    .cl (UI x3 x4) fun r5 =>
    .vN 0 r5 (
     .go (ih (w64 (v2 + 1)))) <|
    .ret (.inl false)) fun c1 =>
   .ret (.inr v2))
def YT (n : Nat) (a0 : (List GEntry)) (a1 : (List GEntry)) : Option Bool :=
 if (a0.length : Int) = (a1.length : Int) then
  (w7 a0 a1 n 0).bind fun o2 =>
  match o2 with
  | .inl o2_0 =>
   some o2_0
  | .inr (o2_1) =>
   some true
 else
 some false
theorem UJ (n : Nat) : Q7 (YT n) := fun a0 a1 => tc (
 .le zl a0 <|
 .le zl a1 <|
 .eI (a0.length : Int) (a1.length : Int) (fun c1 =>
  .l2 (K5 a0 a1 n 0) (fun o2_0 =>
   .ret o2_0) fun o2_1 =>
  .ret true) fun c1 =>
 .ret false) (ze Tryz.func81)
theorem Lm {a : List GEntry} (ha : a.length <= 2 ^ 40) (hG : ∀ v ∈ a, k9 v v = some true) : ∀ (d i m : Nat), i + d = a.length → d < m → ∃ z, w7 a a m (i : Int) = some (.inr z) := by
 intro d
 induction d with
 | zero =>
  intro i m hi hm
  obtain ⟨m, rfl, _⟩ := zh hm
  exact ⟨_, by rw [w7, if_neg (by omega)]⟩
 | succ d ih =>
  intro i m hi hm
  obtain ⟨m, rfl, hm'⟩ := zh hm
  have hil : i < a.length := by omega
  rw [w7, if_pos (by omega), zf, Option.bind_some, zk hil, Option.bind_some, Option.bind_some, hG _ (List.getElem_mem hil), Option.bind_some, zC (by omega)]
  exact ih (i + 1) m (by omega) (by omega)
theorem GU {v : GEntry} (h : esz v <= 2 ^ 39) : k9 v v = some true := by
 unfold esz at h
 unfold k9 zV qr xd
 rw [if_pos ⟨rfl, by omega⟩, Option.bind_some]
 dsimp only
 rw [if_pos ⟨rfl, by omega⟩, Option.bind_some]
 dsimp only
 rw [if_pos ⟨rfl, by omega⟩, Option.bind_some]
 dsimp only
 rw [if_pos rfl]
 cases v.Taint <;> rfl
open Classical in
noncomputable def qP (a0 : (List GEntry)) (a1 : (List GEntry)) : Option Bool := if a0 = a1 ∧ yu a0 <= 2 ^ 39 then some true else none
theorem RE {s : List GEntry} (h : yu s <= 2 ^ 39) : qP s s = some true := if_pos ⟨rfl, h⟩
theorem V8 (a0 : (List GEntry)) (a1 : (List GEntry)) (r : Bool) (h : qP a0 a1 = some r) : ∃ n, YT n a0 a1 = some r := by
 unfold qP at h
 obtain ⟨⟨he, ha⟩, h2⟩ := zR h
 clear h
 subst he
 have hl := jt a0
 refine ⟨a0.length + 1, ?_⟩
 obtain ⟨z, hz⟩ := Lm (a := a0) (by omega) (fun v hv => GU (by have := WZ hv; omega)) a0.length 0 (a0.length + 1) (by omega) (by omega)
 rw [show ((0 : Nat) : Int) = 0 from rfl] at hz
 unfold YT
 rw [if_pos rfl, hz]; exact h2
theorem WQ : Q7 qP := fun a0 a1 r h => (V8 a0 a1 r h).elim fun n hn => UJ n a0 a1 r hn
def ZA (a0 : GState) (a1 : GState) : Option Bool :=
 if a0.Serial = a1.Serial then
  if a0.Open = true then
   if a1.Open = true then
    (zV a0.Pending a1.Pending).bind fun r4 =>
    match r4 with
    | true =>
     if a0.Act = a1.Act then
      (qP a0.Entries a1.Entries).bind fun r6 =>
      match r6 with
      | true =>
       some true
      | false =>
       some false
     else
     some false
    | false =>
     some false
   else
   some false
  else
  if a1.Open = true then
   some false
  else
  (zV a0.Pending a1.Pending).bind fun r4 =>
  match r4 with
  | true =>
   if a0.Act = a1.Act then
    (qP a0.Entries a1.Entries).bind fun r6 =>
    match r6 with
    | true =>
     some true
    | false =>
     some false
   else
   some false
  | false =>
   some false
 else
 some false
theorem UK (a0 : GState) (a1 : GState) : Oc (ZA a0 a1) 21 [] [.val true (ym a0), .val true (ym a1)] fun r => (vb r, []) := tc (
 .eI a0.Serial a1.Serial (fun c1 =>
  .sp (a0.Open = true) (fun c2 =>
   .sp (a1.Open = true) (fun c3 =>
    .eb c2 c3 <|
    .cl (wI a0.Pending a1.Pending) fun r4 =>
    .vN 0 r4 (
     .eI a0.Act a1.Act (fun c5 =>
      .cl (WQ a0.Entries a1.Entries) fun r6 =>
      .vN 0 r6 (
       .ret true) <|
      .ret false) fun c5 =>
     .ret false) <|
    .ret false) fun c3 =>
   .eb c2 (bF c3) <|
   .ret false) fun c2 =>
  .sp (a1.Open = true) (fun c3 =>
   .eb (bF c2) c3 <|
   .ret false) fun c3 =>
  .eb (bF c2) (bF c3) <|
  .cl (wI a0.Pending a1.Pending) fun r4 =>
  .vN 0 r4 (
   .eI a0.Act a1.Act (fun c5 =>
    .cl (WQ a0.Entries a1.Entries) fun r6 =>
    .vN 0 r6 (
     .ret true) <|
    .ret false) fun c5 =>
   .ret false) <|
  .ret false) fun c1 =>
 .ret false) (ze Tryz.func21)
def kC (a0 : GEvent) (a1 : GEvent) : Option Bool :=
 if a0.Kind = a1.Kind then
  (zV a0.Addr a1.Addr).bind fun r2 =>
  match r2 with
  | true =>
   if a0.Act = a1.Act then
    (qr a0.Val a1.Val).bind fun r4 =>
    match r4 with
    | true =>
     (xd a0.Deps a1.Deps).bind fun r5 =>
     match r5 with
     | true =>
      some true
     | false =>
      some false
    | false =>
     some false
   else
   some false
  | false =>
   some false
 else
 some false
theorem UL (a0 : GEvent) (a1 : GEvent) : Oc (kC a0 a1) 22 [] [.val true (xl a0), .val true (xl a1)] fun r => (vb r, []) := tc (
 .eI a0.Kind a1.Kind (fun c1 =>
  .cl (wI a0.Addr a1.Addr) fun r2 =>
  .vN 0 r2 (
   .eI a0.Act a1.Act (fun c3 =>
    .cl (Q6 a0.Val a1.Val) fun r4 =>
    .vN 0 r4 (
     .cl (Ym a0.Deps a1.Deps) fun r5 =>
     .vN 0 r5 (
      .ret true) <|
     .ret false) <|
    .ret false) fun c3 =>
   .ret false) <|
  .ret false) fun c1 =>
 .ret false) (ze Tryz.func22)
def Q8 (F : (List GEvent) → (List GEvent) → Option Bool) : Prop := ∀ (a0 : (List GEvent)) (a1 : (List GEvent)), Oc (F a0 a1) 90 [] [vq z8 a0, vq z8 a1] fun r => (vb r, [])
def w8 (a0 : (List GEvent)) (a1 : (List GEvent)) : Nat → Int → Option (Bool ⊕ Int)
  | 0, _ => none
  | m + 1, v2 =>
  if v2 < (a0.length : Int) then
   (zw v2).bind fun i2 =>
   (a0[i2]?).bind fun x3 =>
   (a1[i2]?).bind fun x4 =>
   (kC x3 x4).bind fun r5 =>
   match r5 with
   | true =>
    w8 a0 a1 m (w64 (v2 + 1))
   | false =>
    some (.inl false)
  else
  some (.inr v2)
theorem K6 (a0 : (List GEvent)) (a1 : (List GEvent)) (m : Nat) : ∀ (v2 : Int), Ol (w8 a0 a1 m v2) 90 (zG Tryz.f90 0) ⟨[(0, vq z8 a0), (1, vq z8 a1), (5, vi v2)], [], 0⟩ fun o => match o with | .inl o_0 => (.ret, ⟨[(4, vb o_0)], [], 0⟩) | .inr (o_1) => (.exit 0, ⟨[(0, vq z8 a0), (1, vq z8 a1), (5, vi o_1), (14, vb false)], [], 0⟩) := by
  induction m with
  | zero => intro v2 o h; cases h
  | succ m ih => exact fun v2 => tlp (
   .le z8 a0 <|
   .lI v2 (a0.length : Int) (fun c1 =>
    .na v2 fun i2 =>
    .ix qX a0 i2 fun x3 =>
    .ag 1 <|
    .ix qX a1 i2 fun x4 =>
    .cl (UL x3 x4) fun r5 =>
    .vN 0 r5 (
     .go (ih (w64 (v2 + 1)))) <|
    .ret (.inl false)) fun c1 =>
   .ret (.inr v2))
def YU (n : Nat) (a0 : (List GEvent)) (a1 : (List GEvent)) : Option Bool :=
 if (a0.length : Int) = (a1.length : Int) then
  (w8 a0 a1 n 0).bind fun o2 =>
  match o2 with
  | .inl o2_0 =>
   some o2_0
  | .inr (o2_1) =>
   some true
 else
 some false
theorem UM (n : Nat) : Q8 (YU n) := fun a0 a1 => tc (
 .le z8 a0 <|
 .le z8 a1 <|
 .eI (a0.length : Int) (a1.length : Int) (fun c1 =>
  .l2 (K6 a0 a1 n 0) (fun o2_0 =>
   .ret o2_0) fun o2_1 =>
  .ret true) fun c1 =>
 .ret false) (ze Tryz.func90)
theorem Ln {a : List GEvent} (ha : a.length <= 2 ^ 40) (hG : ∀ v ∈ a, kC v v = some true) : ∀ (d i m : Nat), i + d = a.length → d < m → ∃ z, w8 a a m (i : Int) = some (.inr z) := by
 intro d
 induction d with
 | zero =>
  intro i m hi hm
  obtain ⟨m, rfl, _⟩ := zh hm
  exact ⟨_, by rw [w8, if_neg (by omega)]⟩
 | succ d ih =>
  intro i m hi hm
  obtain ⟨m, rfl, hm'⟩ := zh hm
  have hil : i < a.length := by omega
  rw [w8, if_pos (by omega), zf, Option.bind_some, zk hil, Option.bind_some, Option.bind_some, hG _ (List.getElem_mem hil), Option.bind_some, zC (by omega)]
  exact ih (i + 1) m (by omega) (by omega)
theorem GV {v : GEvent} (h : qx v <= 2 ^ 39) : kC v v = some true := by
 unfold qx at h
 unfold kC zV qr xd
 rw [if_pos rfl, if_pos ⟨rfl, by omega⟩, Option.bind_some]
 dsimp only
 rw [if_pos rfl, if_pos ⟨rfl, by omega⟩, Option.bind_some]
 dsimp only
 rw [if_pos ⟨rfl, by omega⟩, Option.bind_some]
open Classical in
noncomputable def jJ (a0 : (List GEvent)) (a1 : (List GEvent)) : Option Bool := if a0 = a1 ∧ we a0 <= 2 ^ 39 then some true else none
theorem N1 {s : List GEvent} (h : we s <= 2 ^ 39) : jJ s s = some true := if_pos ⟨rfl, h⟩
theorem V9 (a0 : (List GEvent)) (a1 : (List GEvent)) (r : Bool) (h : jJ a0 a1 = some r) : ∃ n, YU n a0 a1 = some r := by
 unfold jJ at h
 obtain ⟨⟨he, ha⟩, h2⟩ := zR h
 clear h
 subst he
 have hl := Yz a0
 refine ⟨a0.length + 1, ?_⟩
 obtain ⟨z, hz⟩ := Ln (a := a0) (by omega) (fun v hv => GV (by have := VI hv; omega)) a0.length 0 (a0.length + 1) (by omega) (by omega)
 rw [show ((0 : Nat) : Int) = 0 from rfl] at hz
 unfold YU
 rw [if_pos rfl, hz]; exact h2
theorem T0 : Q8 jJ := fun a0 a1 r h => (V9 a0 a1 r h).elim fun n hn => UM n a0 a1 r hn
def jr (a0 : GHistory) (a1 : GHistory) : Option Bool :=
 (ZA a0.Base a1.Base).bind fun r1 =>
 match r1 with
 | true =>
  (jJ a0.Events a1.Events).bind fun r2 =>
  match r2 with
  | true =>
   if a0.Safe = a1.Safe then
    some true
   else
   some false
  | false =>
   some false
 | false =>
  some false
theorem We (a0 : GHistory) (a1 : GHistory) : Oc (jr a0 a1) 30 [] [.val true (yy a0), .val true (yy a1)] fun r => (vb r, []) := tc (
 .cl (UK a0.Base a1.Base) fun r1 =>
 .vN 0 r1 (
  .cl (T0 a0.Events a1.Events) fun r2 =>
  .vN 0 r2 (
   .eI a0.Safe a1.Safe (fun c3 =>
    .ret true) fun c3 =>
   .ret false) <|
  .ret false) <|
 .ret false) (ze Tryz.func30)
def WR (F : Int → (List UInt8) → Option (Int × (List UInt8))) : Prop := ∀ (a0 : Int) (e0 : (List UInt8)), Oc (F a0 e0) 39 [.obj 1 (eL za e0)] [vr 0, vi a0] fun r => (vi r.1, [.obj 1 (eL za r.2)])
def xV : Nat → Int → Int → (List UInt8) → Option (Int × Int × (List UInt8))
  | 0, _, _, _ => none
  | m + 1, a0, v1, e0 =>
  if v1 < (e0.length : Int) then
   (zw v1).bind fun i2 =>
   (e0[i2]?).bind fun x3 =>
   xV m (w64 (a0 + 1)) (w64 (v1 + 1)) (e0.set i2 (b8 a0))
  else
  some (a0, v1, e0)
theorem JF (m : Nat) : ∀ (a0 : Int) (v1 : Int) (e0 : (List UInt8)), Ol (xV m a0 v1 e0) 39 (zG Tryz.f39 0) ⟨[(0, vr 0), (1, vi a0), (5, vi v1)], [.obj 1 (eL za e0)], 1⟩ fun o => match o with | ⟨o_0, o_1, o_2⟩ => (.exit 0, ⟨[(0, vr 0), (1, vi o_0), (5, vi o_1), (9, vb false)], [.obj 1 (eL za o_2)], 1⟩) := by
  induction m with
  | zero => intro a0 v1 e0 o h; cases h
  | succ m ih => exact fun a0 v1 e0 => tlp (
   .le za e0 <|
   .lI v1 (e0.length : Int) (fun c1 =>
    .na v1 fun i2 =>
    .ix0 za e0 i2 fun x3 =>
    .ag 0 <|
    .sl (e := za) (x := (b8 a0)) (c := [.int .u8 (((b8 a0).toNat : Nat) : Int)]) rfl e0 i2 <|
    .go (ih (w64 (a0 + 1)) (w64 (v1 + 1)) (e0.set i2 (b8 a0)))) fun c1 =>
   .ret (a0, v1, e0))
def Yn (n : Nat) (a0 : Int) (e0 : (List UInt8)) : Option (Int × (List UInt8)) :=
 (xV n a0 0 e0).bind fun ⟨o1_0, o1_1, o1_2⟩ =>
 some (o1_0, o1_2)
theorem T1 (n : Nat) : WR (Yn n) := fun a0 e0 => tc (
 .lp (JF n a0 0 e0) fun ⟨o1_0, o1_1, o1_2⟩ =>
 .ret (o1_0, o1_2)) (ze Tryz.func39)
theorem PW : ∀ (l p : List UInt8) (k : Int) (m : Nat), 0 <= k → k + 2 * l.length <= 2 ^ 41 → p.length + l.length <= 2 ^ 41 → l.length < m → ∃ z, xV m k (p.length : Int) (p ++ l) = some (k + l.length, z, p ++ mB k l) := by
 intro l
 induction l with
 | nil =>
  intro p k m _ _ _ hm
  obtain ⟨m, rfl, _⟩ := zh hm
  exact ⟨_, by rw [xV, if_neg (kG p)]; simp [mB]; rfl⟩
 | cons x l ih =>
  intro p k m h0 h1 h2 hm
  obtain ⟨m, rfl, hm'⟩ := zh hm
  simp only [List.length_cons] at h1 h2 hm'
  obtain ⟨z, hz⟩ := ih (p ++ [b8 k]) (k + 1) m (by omega) (by omega) (by simp; omega) (by omega)
  rw [xV, if_pos (Ji p x l), zf, Option.bind_some, zW, Option.bind_some, w9, xX p (b8 k) (by omega), yC (x := k + 1) (by omega) (by omega), WX p (b8 k) l, hz]
  refine ⟨z, ?_⟩
  rw [mB, WX p (b8 k) (mB (k + 1) l)]
  simp only [List.length_cons]
  rw [show k + 1 + (l.length : Int) = k + ((l.length + 1 : Nat) : Int) by omega]
def yh (a0 : Int) (e0 : (List UInt8)) : Option (Int × (List UInt8)) := if 0 <= a0 ∧ a0 + 2 * e0.length <= 2 ^ 41 then some (a0 + e0.length, mB a0 e0) else none
theorem qF {a : Int} {s : List UInt8} (h0 : 0 <= a) (h1 : a + 2 * s.length <= 2 ^ 41) : yh a s = some (a + s.length, mB a s) := if_pos ⟨h0, h1⟩
theorem K7 (a0 : Int) (e0 : (List UInt8)) (r : (Int × (List UInt8))) (h : yh a0 e0 = some r) : ∃ n, Yn n a0 e0 = some r := by
 unfold yh at h
 obtain ⟨⟨h0, h1⟩, h⟩ := zR h
 obtain ⟨z, hz⟩ := PW e0 [] a0 (e0.length + 1) h0 h1 (by simp; omega) (by omega)
 refine ⟨e0.length + 1, ?_⟩
 unfold Yn
 simp only [List.nil_append, List.length_nil, Int.natCast_zero] at hz
 rw [hz]
 exact h
theorem yE : WR yh := fun a0 e0 r h => (K7 a0 e0 r h).elim fun n hn => T1 n a0 e0 r hn
def Wg (F : Int → (List (List UInt8)) → Option (Int × (List (List UInt8)))) : Prop := ∀ (a0 : Int) (e0 : (List (List UInt8))), Oc (F a0 e0) 64 [.obj 1 (eL (xz 1 za) e0)] [vr 0, vi a0] fun r => (vi r.1, [.obj 1 (eL (xz 1 za) r.2)])
def xt : Nat → Int → Int → (List (List UInt8)) → Option (Int × Int × (List (List UInt8)))
  | 0, _, _, _ => none
  | m + 1, a0, v1, e0 =>
  if v1 < (e0.length : Int) then
   (zw v1).bind fun i2 =>
   (e0[i2]?).bind fun x3 =>
   (yh a0 x3).bind fun ⟨r4_0, r4_1⟩ =>
   xt m r4_0 (w64 (v1 + 1)) (e0.set i2 r4_1)
  else
  some (a0, v1, e0)
theorem Jd (m : Nat) : ∀ (a0 : Int) (v1 : Int) (e0 : (List (List UInt8))), Ol (xt m a0 v1 e0) 64 (zG Tryz.f64 0) ⟨[(0, vr 0), (1, vi a0), (5, vi v1)], [.obj 1 (eL (xz 1 za) e0)], 1⟩ fun o => match o with | ⟨o_0, o_1, o_2⟩ => (.exit 0, ⟨[(0, vr 0), (1, vi o_0), (5, vi o_1), (9, vb false)], [.obj 1 (eL (xz 1 za) o_2)], 1⟩) := by
  induction m with
  | zero => intro a0 v1 e0 o h; cases h
  | succ m ih => exact fun a0 v1 e0 => tlp (
   .le (xz 1 za) e0 <|
   .lI v1 (e0.length : Int) (fun c1 =>
    .na v1 fun i2 =>
    .ix0 (xz 1 za) e0 i2 fun x3 =>
    .ag 0 <|
    .cl (yE a0 x3) fun ⟨r4_0, r4_1⟩ =>
    .ag 1 <|
    .sl (e := (xz 1 za)) (x := r4_1) (c := [.own 1 (eL za r4_1)]) rfl e0 i2 <|
    .go (ih r4_0 (w64 (v1 + 1)) (e0.set i2 r4_1))) fun c1 =>
   .ret (a0, v1, e0))
def ZJ (n : Nat) (a0 : Int) (e0 : (List (List UInt8))) : Option (Int × (List (List UInt8))) :=
 (xt n a0 0 e0).bind fun ⟨o1_0, o1_1, o1_2⟩ =>
 some (o1_0, o1_2)
theorem R5 (n : Nat) : Wg (ZJ n) := fun a0 e0 => tc (
 .lp (Jd n a0 0 e0) fun ⟨o1_0, o1_1, o1_2⟩ =>
 .ret (o1_0, o1_2)) (ze Tryz.func64)
theorem UN : ∀ (l p : List (List UInt8)) (k : Int) (m : Nat), 0 <= k → k + 2 * bsz l <= 2 ^ 41 → p.length + l.length <= 2 ^ 41 → l.length < m → ∃ z, xt m k (p.length : Int) (p ++ l) = some (k + cB l, z, p ++ mBB k l) := by
 intro l
 induction l with
 | nil =>
  intro p k m _ _ _ hm
  obtain ⟨m, rfl, _⟩ := zh hm
  exact ⟨_, by rw [xt, if_neg (kG p)]; simp [mBB, cB]; rfl⟩
 | cons x l ih =>
  intro p k m h0 h1 h2 hm
  obtain ⟨m, rfl, hm'⟩ := zh hm
  rw [DS] at h1
  simp only [List.length_cons] at h2 hm'
  obtain ⟨z, hz⟩ := ih (p ++ [mB k x]) (k + x.length) m (by omega) (by omega) (by simp; omega) (by omega)
  rw [xt, if_pos (Ji p x l), zf, Option.bind_some, zW, Option.bind_some, qF (by omega) (by omega), Option.bind_some]
  dsimp only
  rw [w9, xX p (mB k x) (by omega), WX p (mB k x) l, hz]
  refine ⟨z, ?_⟩
  rw [mBB, WX p (mB k x) (mBB (k + x.length) l), zao]
  rw [show k + (x.length : Int) + (cB l : Int) = k + ((x.length + cB l : Nat) : Int) by omega]
def yF (a0 : Int) (e0 : (List (List UInt8))) : Option (Int × (List (List UInt8))) := if 0 <= a0 ∧ a0 + 2 * bsz e0 <= 2 ^ 41 then some (a0 + cB e0, mBB a0 e0) else none
theorem vn {a : Int} {s : List (List UInt8)} (h0 : 0 <= a) (h1 : a + 2 * bsz s <= 2 ^ 41) : yF a s = some (a + cB s, mBB a s) := if_pos ⟨h0, h1⟩
theorem JG (a0 : Int) (e0 : (List (List UInt8))) (r : (Int × (List (List UInt8)))) (h : yF a0 e0 = some r) : ∃ n, ZJ n a0 e0 = some r := by
 unfold yF at h
 obtain ⟨⟨h0, h1⟩, h⟩ := zR h
 have := kD e0
 obtain ⟨z, hz⟩ := UN e0 [] a0 (e0.length + 1) h0 h1 (by simp; omega) (by omega)
 refine ⟨e0.length + 1, ?_⟩
 unfold ZJ
 simp only [List.nil_append, List.length_nil, Int.natCast_zero] at hz
 rw [hz]
 exact h
theorem qG : Wg yF := fun a0 e0 r h => (JG a0 e0 r h).elim fun n hn => R5 n a0 e0 r hn
def qT (F : Int → (List GValue) → Option (Int × (List GValue))) : Prop := ∀ (a0 : Int) (e0 : (List GValue)), Oc (F a0 e0) 145 [.obj 5 (eL zN e0)] [vr 0, vi a0] fun r => (vi r.1, [.obj 5 (eL zN r.2)])
def xu (G_laws_markValueS : Int → (List GValue) → Option (Int × (List GValue))) : Nat → Int → Int → (List GValue) → Option (Int × Int × (List GValue))
  | 0, _, _, _ => none
  | m + 1, a0, v1, e0 =>
  if v1 < (e0.length : Int) then
   (zw v1).bind fun i2 =>
   (e0[i2]?).bind fun x3 =>
   ((e0.set i2 (GValue.mk a0 x3.N x3.S x3.K x3.L))[i2]?).bind fun x4 =>
   (((e0.set i2 (GValue.mk a0 x3.N x3.S x3.K x3.L)).set i2 (GValue.mk x4.Kind (w64 (a0 + 1)) x4.S x4.K x4.L))[i2]?).bind fun x5 =>
   (yh (w64 ((w64 (a0 + 1)) + 1)) x5.S).bind fun ⟨r6_0, r6_1⟩ =>
   ((((e0.set i2 (GValue.mk a0 x3.N x3.S x3.K x3.L)).set i2 (GValue.mk x4.Kind (w64 (a0 + 1)) x4.S x4.K x4.L)).set i2 (GValue.mk x5.Kind x5.N r6_1 x5.K x5.L))[i2]?).bind fun x7 =>
   (yF r6_0 x7.K).bind fun ⟨r8_0, r8_1⟩ =>
   (((((e0.set i2 (GValue.mk a0 x3.N x3.S x3.K x3.L)).set i2 (GValue.mk x4.Kind (w64 (a0 + 1)) x4.S x4.K x4.L)).set i2 (GValue.mk x5.Kind x5.N r6_1 x5.K x5.L)).set i2 (GValue.mk x7.Kind x7.N x7.S r8_1 x7.L))[i2]?).bind fun x9 =>
   (G_laws_markValueS r8_0 x9.L).bind fun ⟨r10_0, r10_1⟩ =>
   xu G_laws_markValueS m r10_0 (w64 (v1 + 1)) (((((e0.set i2 (GValue.mk a0 x3.N x3.S x3.K x3.L)).set i2 (GValue.mk x4.Kind (w64 (a0 + 1)) x4.S x4.K x4.L)).set i2 (GValue.mk x5.Kind x5.N r6_1 x5.K x5.L)).set i2 (GValue.mk x7.Kind x7.N x7.S r8_1 x7.L)).set i2 (GValue.mk x9.Kind x9.N x9.S x9.K r10_1))
  else
  some (a0, v1, e0)
theorem Je (G_laws_markValueS : Int → (List GValue) → Option (Int × (List GValue))) (H_laws_markValueS : qT G_laws_markValueS) (m : Nat) : ∀ (a0 : Int) (v1 : Int) (e0 : (List GValue)), Ol (xu G_laws_markValueS m a0 v1 e0) 145 (zG Tryz.f145 0) ⟨[(0, vr 0), (1, vi a0), (5, vi v1)], [.obj 5 (eL zN e0)], 1⟩ fun o => match o with | ⟨o_0, o_1, o_2⟩ => (.exit 0, ⟨[(0, vr 0), (1, vi o_0), (5, vi o_1), (9, vb false)], [.obj 5 (eL zN o_2)], 1⟩) := by
  induction m with
  | zero => intro a0 v1 e0 o h; cases h
  | succ m ih => exact fun a0 v1 e0 => tlp (
   .le zN e0 <|
   .lI v1 (e0.length : Int) (fun c1 =>
    .na v1 fun i2 =>
    .ix y6 e0 i2 fun x3 =>
    .ag 0 <|
    .sl (y6 (GValue.mk a0 x3.N x3.S x3.K x3.L)) e0 i2 <|
    .ag 1 <|
    .ix y6 (e0.set i2 (GValue.mk a0 x3.N x3.S x3.K x3.L)) i2 fun x4 =>
    .ag 0 <|
    .sl (y6 (GValue.mk x4.Kind (w64 (a0 + 1)) x4.S x4.K x4.L)) (e0.set i2 (GValue.mk a0 x3.N x3.S x3.K x3.L)) i2 <|
    .ag 2 <|
    .ix y6 ((e0.set i2 (GValue.mk a0 x3.N x3.S x3.K x3.L)).set i2 (GValue.mk x4.Kind (w64 (a0 + 1)) x4.S x4.K x4.L)) i2 fun x5 =>
    .ag 0 <|
    .cl (yE (w64 ((w64 (a0 + 1)) + 1)) x5.S) fun ⟨r6_0, r6_1⟩ =>
    .ag 1 <|
    .sl (y6 (GValue.mk x5.Kind x5.N r6_1 x5.K x5.L)) ((e0.set i2 (GValue.mk a0 x3.N x3.S x3.K x3.L)).set i2 (GValue.mk x4.Kind (w64 (a0 + 1)) x4.S x4.K x4.L)) i2 <|
    .ag 4 <|
    .ix y6 (((e0.set i2 (GValue.mk a0 x3.N x3.S x3.K x3.L)).set i2 (GValue.mk x4.Kind (w64 (a0 + 1)) x4.S x4.K x4.L)).set i2 (GValue.mk x5.Kind x5.N r6_1 x5.K x5.L)) i2 fun x7 =>
    .ag 0 <|
    .cl (qG r6_0 x7.K) fun ⟨r8_0, r8_1⟩ =>
    .ag 1 <|
    .sl (y6 (GValue.mk x7.Kind x7.N x7.S r8_1 x7.L)) (((e0.set i2 (GValue.mk a0 x3.N x3.S x3.K x3.L)).set i2 (GValue.mk x4.Kind (w64 (a0 + 1)) x4.S x4.K x4.L)).set i2 (GValue.mk x5.Kind x5.N r6_1 x5.K x5.L)) i2 <|
    .ag 6 <|
    .ix y6 ((((e0.set i2 (GValue.mk a0 x3.N x3.S x3.K x3.L)).set i2 (GValue.mk x4.Kind (w64 (a0 + 1)) x4.S x4.K x4.L)).set i2 (GValue.mk x5.Kind x5.N r6_1 x5.K x5.L)).set i2 (GValue.mk x7.Kind x7.N x7.S r8_1 x7.L)) i2 fun x9 =>
    .ag 0 <|
    .cl (H_laws_markValueS r8_0 x9.L) fun ⟨r10_0, r10_1⟩ =>
    .ag 1 <|
    .sl (y6 (GValue.mk x9.Kind x9.N x9.S x9.K r10_1)) ((((e0.set i2 (GValue.mk a0 x3.N x3.S x3.K x3.L)).set i2 (GValue.mk x4.Kind (w64 (a0 + 1)) x4.S x4.K x4.L)).set i2 (GValue.mk x5.Kind x5.N r6_1 x5.K x5.L)).set i2 (GValue.mk x7.Kind x7.N x7.S r8_1 x7.L)) i2 <|
    .go (ih r10_0 (w64 (v1 + 1)) (((((e0.set i2 (GValue.mk a0 x3.N x3.S x3.K x3.L)).set i2 (GValue.mk x4.Kind (w64 (a0 + 1)) x4.S x4.K x4.L)).set i2 (GValue.mk x5.Kind x5.N r6_1 x5.K x5.L)).set i2 (GValue.mk x7.Kind x7.N x7.S r8_1 x7.L)).set i2 (GValue.mk x9.Kind x9.N x9.S x9.K r10_1)))) fun c1 =>
   .ret (a0, v1, e0))
def ZK (G_laws_markValueS : Int → (List GValue) → Option (Int × (List GValue))) (n : Nat) (a0 : Int) (e0 : (List GValue)) : Option (Int × (List GValue)) :=
 (xu G_laws_markValueS n a0 0 e0).bind fun ⟨o1_0, o1_1, o1_2⟩ =>
 some (o1_0, o1_2)
theorem R6 (G_laws_markValueS : Int → (List GValue) → Option (Int × (List GValue))) (H_laws_markValueS : qT G_laws_markValueS) (n : Nat) : qT (ZK G_laws_markValueS n) := fun a0 e0 => tc (
 .lp (Je G_laws_markValueS H_laws_markValueS n a0 0 e0) fun ⟨o1_0, o1_1, o1_2⟩ =>
 .ret (o1_0, o1_2)) (ze Tryz.func145)
def yG : Nat → Int → (List GValue) → Option (Int × (List GValue))
 | 0, _, _ => none
 | n + 1, a0, e0 => ZK (yG n) n a0 e0
theorem K8 (n : Nat) : qT (yG n) := by
 induction n with
 | zero => exact fun _ _ _ h => (by rw [yG] at h; cases h)
 | succ n ih =>
  have ih_laws_markValueS := ih
  exact fun a0 e0 r h => R6 (yG n) ih_laws_markValueS n a0 e0 r (by rw [yG] at h; exact h)
theorem UO {G : Int → List GValue → Option (Int × List GValue)} : ∀ (l p : List GValue) (k : Int) (m : Nat), (∀ v ∈ l, ∀ i : Int, 0 <= i → i + 2 * xm v.L <= 2 ^ 41 → G i v.L = some (i + cVs v.L, mVs i v.L)) → 0 <= k → k + 2 * xm l <= 2 ^ 41 → p.length + l.length <= 2 ^ 41 → l.length < m → ∃ z, xu G m k (p.length : Int) (p ++ l) = some (k + cVs l, z, p ++ mVs k l) := by
 intro l
 induction l with
 | nil =>
  intro p k m _ _ _ _ hm
  obtain ⟨m, rfl, _⟩ := zh hm
  exact ⟨_, by rw [xu, if_neg (kG p)]; simp [mVs, cVs]; rfl⟩
 | cons x l ih =>
  intro p k m hG h0 h1 h2 hm
  obtain ⟨m, rfl, hm'⟩ := zh hm
  simp only [List.length_cons] at h2 hm'
  have hx := hG x List.mem_cons_self
  have hc := VY x
  obtain ⟨kd, n, s, kk, ks⟩ := x
  have hb := ZS kk
  have hd := VG ks
  simp only [xm, vsz] at h1
  simp only [cV, vsz] at hc
  simp only [GValue.L] at hx
  obtain ⟨z, hz⟩ := ih (p ++ [mV k (.mk kd n s kk ks)]) (k + cV (.mk kd n s kk ks)) m (fun v hv => hG v (List.mem_cons_of_mem _ hv)) (by omega) (by simp only [cV]; omega) (by simp; omega) (by omega)
  rw [xu, if_pos (Ji p _ l), zf, Option.bind_some, zW, Option.bind_some]
  simp only [w9, zW, Option.bind_some, GValue.Kind, GValue.N, GValue.S, GValue.K, GValue.L]
  rw [yC (x := k + 1) (by omega) (by omega), yC (x := k + 1 + 1) (by omega) (by omega), qF (by omega) (by omega)]
  simp only [Option.bind_some, w9, zW, GValue.Kind, GValue.N, GValue.S, GValue.K, GValue.L]
  rw [vn (by omega) (by omega)]
  simp only [Option.bind_some, w9, zW, GValue.Kind, GValue.N, GValue.S, GValue.K, GValue.L]
  rw [hx _ (by omega) (by omega)]
  simp only [Option.bind_some, w9, zW, GValue.Kind, GValue.N, GValue.S, GValue.K, GValue.L]
  refine ⟨z, ?_⟩
  rw [xX p (mV k (.mk kd n s kk ks)) (by omega), show GValue.mk k (k + 1) (mB (k + 1 + 1) s) (mBB (k + 1 + 1 + s.length) kk) (mVs (k + 1 + 1 + s.length + cB kk) ks) = mV k (.mk kd n s kk ks) by simp only [mV], WX p _ l,
   show k + 1 + 1 + (s.length : Int) + (cB kk : Int) + (cVs ks : Int) = k + ((cV (.mk kd n s kk ks) : Nat) : Int) by simp only [cV]; omega, hz]
  simp only [mVs, cVs, List.append_assoc, List.singleton_append]
  rw [show k + ((cV (.mk kd n s kk ks) : Nat) : Int) + (cVs l : Int) = k + ((cV (.mk kd n s kk ks) + cVs l : Nat) : Int) by omega]
theorem MF : ∀ (N : Nat) (l : List GValue), xm l < N → ∀ (k : Int) (f : Nat), 0 <= k → k + 2 * xm l <= 2 ^ 41 → xm l + 2 <= f → yG f k l = some (k + cVs l, mVs k l) := by
 intro N
 induction N with
 | zero => intro l hl; omega
 | succ N ih =>
  intro l hl k f h0 h1 hf
  obtain ⟨f, rfl, _⟩ := zh (show 0 < f by omega)
  have hlen := xn l
  rw [yG]
  unfold ZK
  obtain ⟨z, hz⟩ := UO (G := yG f) l [] k f (fun v hv i g0 g1 => by
   have := qw hv
   have := qI v
   exact ih v.L (by omega) i f g0 g1 (by omega)) h0 h1 (by simp; omega) (by omega)
  simp only [List.nil_append, List.length_nil, Int.natCast_zero] at hz
  rw [hz]; rfl
def wP (a0 : Int) (e0 : (List GValue)) : Option (Int × (List GValue)) := if 0 <= a0 ∧ a0 + 2 * xm e0 <= 2 ^ 41 then some (a0 + cVs e0, mVs a0 e0) else none
theorem Kj {a : Int} {s : List GValue} (h0 : 0 <= a) (h1 : a + 2 * xm s <= 2 ^ 41) : wP a s = some (a + cVs s, mVs a s) := if_pos ⟨h0, h1⟩
theorem JH (a0 : Int) (e0 : (List GValue)) (r : (Int × (List GValue))) (h : wP a0 e0 = some r) : ∃ n, yG n a0 e0 = some r := by
 unfold wP at h
 obtain ⟨⟨h0, h1⟩, h⟩ := zR h
 exact ⟨xm e0 + 2, by rw [MF _ e0 (Nat.lt_succ_self _) a0 _ h0 h1 (Nat.le_refl _), h]⟩
theorem XG : qT wP := by
 intro a0 e0 r h
 obtain ⟨n, hn⟩ := JH a0 e0 r h
 exact (K8 n) a0 e0 r hn
def Wh (F : Int → (List GEntry) → Option (Int × (List GEntry))) : Prop := ∀ (a0 : Int) (e0 : (List GEntry)), Oc (F a0 e0) 83 [.obj 9 (eL zF e0)] [vr 0, vi a0] fun r => (vi r.1, [.obj 9 (eL zF r.2)])
def xv : Nat → Int → Int → (List GEntry) → Option (Int × Int × (List GEntry))
  | 0, _, _, _ => none
  | m + 1, a0, v1, e0 =>
  if v1 < (e0.length : Int) then
   (zw v1).bind fun i2 =>
   (e0[i2]?).bind fun x3 =>
   (yh a0 x3.Addr).bind fun ⟨r4_0, r4_1⟩ =>
   ((e0.set i2 (GEntry.mk r4_1 x3.Val x3.Deps x3.Taint x3.Turned))[i2]?).bind fun x5 =>
   (((e0.set i2 (GEntry.mk r4_1 x3.Val x3.Deps x3.Taint x3.Turned)).set i2 (GEntry.mk x5.Addr (GValue.mk r4_0 x5.Val.N x5.Val.S x5.Val.K x5.Val.L) x5.Deps x5.Taint x5.Turned))[i2]?).bind fun x6 =>
   ((((e0.set i2 (GEntry.mk r4_1 x3.Val x3.Deps x3.Taint x3.Turned)).set i2 (GEntry.mk x5.Addr (GValue.mk r4_0 x5.Val.N x5.Val.S x5.Val.K x5.Val.L) x5.Deps x5.Taint x5.Turned)).set i2 (GEntry.mk x6.Addr (GValue.mk x6.Val.Kind (w64 (r4_0 + 1)) x6.Val.S x6.Val.K x6.Val.L) x6.Deps x6.Taint x6.Turned))[i2]?).bind fun x7 =>
   (yh (w64 ((w64 (r4_0 + 1)) + 1)) x7.Val.S).bind fun ⟨r8_0, r8_1⟩ =>
   (((((e0.set i2 (GEntry.mk r4_1 x3.Val x3.Deps x3.Taint x3.Turned)).set i2 (GEntry.mk x5.Addr (GValue.mk r4_0 x5.Val.N x5.Val.S x5.Val.K x5.Val.L) x5.Deps x5.Taint x5.Turned)).set i2 (GEntry.mk x6.Addr (GValue.mk x6.Val.Kind (w64 (r4_0 + 1)) x6.Val.S x6.Val.K x6.Val.L) x6.Deps x6.Taint x6.Turned)).set i2 (GEntry.mk x7.Addr (GValue.mk x7.Val.Kind x7.Val.N r8_1 x7.Val.K x7.Val.L) x7.Deps x7.Taint x7.Turned))[i2]?).bind fun x9 =>
   (yF r8_0 x9.Val.K).bind fun ⟨r10_0, r10_1⟩ =>
   ((((((e0.set i2 (GEntry.mk r4_1 x3.Val x3.Deps x3.Taint x3.Turned)).set i2 (GEntry.mk x5.Addr (GValue.mk r4_0 x5.Val.N x5.Val.S x5.Val.K x5.Val.L) x5.Deps x5.Taint x5.Turned)).set i2 (GEntry.mk x6.Addr (GValue.mk x6.Val.Kind (w64 (r4_0 + 1)) x6.Val.S x6.Val.K x6.Val.L) x6.Deps x6.Taint x6.Turned)).set i2 (GEntry.mk x7.Addr (GValue.mk x7.Val.Kind x7.Val.N r8_1 x7.Val.K x7.Val.L) x7.Deps x7.Taint x7.Turned)).set i2 (GEntry.mk x9.Addr (GValue.mk x9.Val.Kind x9.Val.N x9.Val.S r10_1 x9.Val.L) x9.Deps x9.Taint x9.Turned))[i2]?).bind fun x11 =>
   (wP r10_0 x11.Val.L).bind fun ⟨r12_0, r12_1⟩ =>
   (((((((e0.set i2 (GEntry.mk r4_1 x3.Val x3.Deps x3.Taint x3.Turned)).set i2 (GEntry.mk x5.Addr (GValue.mk r4_0 x5.Val.N x5.Val.S x5.Val.K x5.Val.L) x5.Deps x5.Taint x5.Turned)).set i2 (GEntry.mk x6.Addr (GValue.mk x6.Val.Kind (w64 (r4_0 + 1)) x6.Val.S x6.Val.K x6.Val.L) x6.Deps x6.Taint x6.Turned)).set i2 (GEntry.mk x7.Addr (GValue.mk x7.Val.Kind x7.Val.N r8_1 x7.Val.K x7.Val.L) x7.Deps x7.Taint x7.Turned)).set i2 (GEntry.mk x9.Addr (GValue.mk x9.Val.Kind x9.Val.N x9.Val.S r10_1 x9.Val.L) x9.Deps x9.Taint x9.Turned)).set i2 (GEntry.mk x11.Addr (GValue.mk x11.Val.Kind x11.Val.N x11.Val.S x11.Val.K r12_1) x11.Deps x11.Taint x11.Turned))[i2]?).bind fun x13 =>
   (yF r12_0 x13.Deps).bind fun ⟨r14_0, r14_1⟩ =>
   ((((((((e0.set i2 (GEntry.mk r4_1 x3.Val x3.Deps x3.Taint x3.Turned)).set i2 (GEntry.mk x5.Addr (GValue.mk r4_0 x5.Val.N x5.Val.S x5.Val.K x5.Val.L) x5.Deps x5.Taint x5.Turned)).set i2 (GEntry.mk x6.Addr (GValue.mk x6.Val.Kind (w64 (r4_0 + 1)) x6.Val.S x6.Val.K x6.Val.L) x6.Deps x6.Taint x6.Turned)).set i2 (GEntry.mk x7.Addr (GValue.mk x7.Val.Kind x7.Val.N r8_1 x7.Val.K x7.Val.L) x7.Deps x7.Taint x7.Turned)).set i2 (GEntry.mk x9.Addr (GValue.mk x9.Val.Kind x9.Val.N x9.Val.S r10_1 x9.Val.L) x9.Deps x9.Taint x9.Turned)).set i2 (GEntry.mk x11.Addr (GValue.mk x11.Val.Kind x11.Val.N x11.Val.S x11.Val.K r12_1) x11.Deps x11.Taint x11.Turned)).set i2 (GEntry.mk x13.Addr x13.Val r14_1 x13.Taint x13.Turned))[i2]?).bind fun x15 =>
   (((((((((e0.set i2 (GEntry.mk r4_1 x3.Val x3.Deps x3.Taint x3.Turned)).set i2 (GEntry.mk x5.Addr (GValue.mk r4_0 x5.Val.N x5.Val.S x5.Val.K x5.Val.L) x5.Deps x5.Taint x5.Turned)).set i2 (GEntry.mk x6.Addr (GValue.mk x6.Val.Kind (w64 (r4_0 + 1)) x6.Val.S x6.Val.K x6.Val.L) x6.Deps x6.Taint x6.Turned)).set i2 (GEntry.mk x7.Addr (GValue.mk x7.Val.Kind x7.Val.N r8_1 x7.Val.K x7.Val.L) x7.Deps x7.Taint x7.Turned)).set i2 (GEntry.mk x9.Addr (GValue.mk x9.Val.Kind x9.Val.N x9.Val.S r10_1 x9.Val.L) x9.Deps x9.Taint x9.Turned)).set i2 (GEntry.mk x11.Addr (GValue.mk x11.Val.Kind x11.Val.N x11.Val.S x11.Val.K r12_1) x11.Deps x11.Taint x11.Turned)).set i2 (GEntry.mk x13.Addr x13.Val r14_1 x13.Taint x13.Turned)).set i2 (GEntry.mk x15.Addr x15.Val x15.Deps (decide ((r14_0.tmod 3) = 0)) x15.Turned))[i2]?).bind fun x16 =>
   xv m (w64 ((w64 (r14_0 + 1)) + 1)) (w64 (v1 + 1)) (((((((((e0.set i2 (GEntry.mk r4_1 x3.Val x3.Deps x3.Taint x3.Turned)).set i2 (GEntry.mk x5.Addr (GValue.mk r4_0 x5.Val.N x5.Val.S x5.Val.K x5.Val.L) x5.Deps x5.Taint x5.Turned)).set i2 (GEntry.mk x6.Addr (GValue.mk x6.Val.Kind (w64 (r4_0 + 1)) x6.Val.S x6.Val.K x6.Val.L) x6.Deps x6.Taint x6.Turned)).set i2 (GEntry.mk x7.Addr (GValue.mk x7.Val.Kind x7.Val.N r8_1 x7.Val.K x7.Val.L) x7.Deps x7.Taint x7.Turned)).set i2 (GEntry.mk x9.Addr (GValue.mk x9.Val.Kind x9.Val.N x9.Val.S r10_1 x9.Val.L) x9.Deps x9.Taint x9.Turned)).set i2 (GEntry.mk x11.Addr (GValue.mk x11.Val.Kind x11.Val.N x11.Val.S x11.Val.K r12_1) x11.Deps x11.Taint x11.Turned)).set i2 (GEntry.mk x13.Addr x13.Val r14_1 x13.Taint x13.Turned)).set i2 (GEntry.mk x15.Addr x15.Val x15.Deps (decide ((r14_0.tmod 3) = 0)) x15.Turned)).set i2 (GEntry.mk x16.Addr x16.Val x16.Deps x16.Taint (w64 (r14_0 + 1))))
  else
  some (a0, v1, e0)
theorem Jf (m : Nat) : ∀ (a0 : Int) (v1 : Int) (e0 : (List GEntry)), Ol (xv m a0 v1 e0) 83 (zG Tryz.f83 0) ⟨[(0, vr 0), (1, vi a0), (5, vi v1)], [.obj 9 (eL zF e0)], 1⟩ fun o => match o with | ⟨o_0, o_1, o_2⟩ => (.exit 0, ⟨[(0, vr 0), (1, vi o_0), (5, vi o_1), (9, vb false)], [.obj 9 (eL zF o_2)], 1⟩) := by
  induction m with
  | zero => intro a0 v1 e0 o h; cases h
  | succ m ih => exact fun a0 v1 e0 => tlp (
   .le zF e0 <|
   .lI v1 (e0.length : Int) (fun c1 =>
    .na v1 fun i2 =>
    .ix z7 e0 i2 fun x3 =>
    .ag 0 <|
    .cl (yE a0 x3.Addr) fun ⟨r4_0, r4_1⟩ =>
    .ag 1 <|
    .sl (z7 (GEntry.mk r4_1 x3.Val x3.Deps x3.Taint x3.Turned)) e0 i2 <|
    .ag 2 <|
    .ix z7 (e0.set i2 (GEntry.mk r4_1 x3.Val x3.Deps x3.Taint x3.Turned)) i2 fun x5 =>
    .ag 0 <|
    .sl (z7 (GEntry.mk x5.Addr (GValue.mk r4_0 x5.Val.N x5.Val.S x5.Val.K x5.Val.L) x5.Deps x5.Taint x5.Turned)) (e0.set i2 (GEntry.mk r4_1 x3.Val x3.Deps x3.Taint x3.Turned)) i2 <|
    .ag 3 <|
    .ix z7 ((e0.set i2 (GEntry.mk r4_1 x3.Val x3.Deps x3.Taint x3.Turned)).set i2 (GEntry.mk x5.Addr (GValue.mk r4_0 x5.Val.N x5.Val.S x5.Val.K x5.Val.L) x5.Deps x5.Taint x5.Turned)) i2 fun x6 =>
    .ag 0 <|
    .sl (z7 (GEntry.mk x6.Addr (GValue.mk x6.Val.Kind (w64 (r4_0 + 1)) x6.Val.S x6.Val.K x6.Val.L) x6.Deps x6.Taint x6.Turned)) ((e0.set i2 (GEntry.mk r4_1 x3.Val x3.Deps x3.Taint x3.Turned)).set i2 (GEntry.mk x5.Addr (GValue.mk r4_0 x5.Val.N x5.Val.S x5.Val.K x5.Val.L) x5.Deps x5.Taint x5.Turned)) i2 <|
    .ag 4 <|
    .ix z7 (((e0.set i2 (GEntry.mk r4_1 x3.Val x3.Deps x3.Taint x3.Turned)).set i2 (GEntry.mk x5.Addr (GValue.mk r4_0 x5.Val.N x5.Val.S x5.Val.K x5.Val.L) x5.Deps x5.Taint x5.Turned)).set i2 (GEntry.mk x6.Addr (GValue.mk x6.Val.Kind (w64 (r4_0 + 1)) x6.Val.S x6.Val.K x6.Val.L) x6.Deps x6.Taint x6.Turned)) i2 fun x7 =>
    .ag 0 <|
    .cl (yE (w64 ((w64 (r4_0 + 1)) + 1)) x7.Val.S) fun ⟨r8_0, r8_1⟩ =>
    .ag 1 <|
    .sl (z7 (GEntry.mk x7.Addr (GValue.mk x7.Val.Kind x7.Val.N r8_1 x7.Val.K x7.Val.L) x7.Deps x7.Taint x7.Turned)) (((e0.set i2 (GEntry.mk r4_1 x3.Val x3.Deps x3.Taint x3.Turned)).set i2 (GEntry.mk x5.Addr (GValue.mk r4_0 x5.Val.N x5.Val.S x5.Val.K x5.Val.L) x5.Deps x5.Taint x5.Turned)).set i2 (GEntry.mk x6.Addr (GValue.mk x6.Val.Kind (w64 (r4_0 + 1)) x6.Val.S x6.Val.K x6.Val.L) x6.Deps x6.Taint x6.Turned)) i2 <|
    .ag 6 <|
    .ix z7 ((((e0.set i2 (GEntry.mk r4_1 x3.Val x3.Deps x3.Taint x3.Turned)).set i2 (GEntry.mk x5.Addr (GValue.mk r4_0 x5.Val.N x5.Val.S x5.Val.K x5.Val.L) x5.Deps x5.Taint x5.Turned)).set i2 (GEntry.mk x6.Addr (GValue.mk x6.Val.Kind (w64 (r4_0 + 1)) x6.Val.S x6.Val.K x6.Val.L) x6.Deps x6.Taint x6.Turned)).set i2 (GEntry.mk x7.Addr (GValue.mk x7.Val.Kind x7.Val.N r8_1 x7.Val.K x7.Val.L) x7.Deps x7.Taint x7.Turned)) i2 fun x9 =>
    .ag 0 <|
    .cl (qG r8_0 x9.Val.K) fun ⟨r10_0, r10_1⟩ =>
    .ag 1 <|
    .sl (z7 (GEntry.mk x9.Addr (GValue.mk x9.Val.Kind x9.Val.N x9.Val.S r10_1 x9.Val.L) x9.Deps x9.Taint x9.Turned)) ((((e0.set i2 (GEntry.mk r4_1 x3.Val x3.Deps x3.Taint x3.Turned)).set i2 (GEntry.mk x5.Addr (GValue.mk r4_0 x5.Val.N x5.Val.S x5.Val.K x5.Val.L) x5.Deps x5.Taint x5.Turned)).set i2 (GEntry.mk x6.Addr (GValue.mk x6.Val.Kind (w64 (r4_0 + 1)) x6.Val.S x6.Val.K x6.Val.L) x6.Deps x6.Taint x6.Turned)).set i2 (GEntry.mk x7.Addr (GValue.mk x7.Val.Kind x7.Val.N r8_1 x7.Val.K x7.Val.L) x7.Deps x7.Taint x7.Turned)) i2 <|
    .ag 8 <|
    .ix z7 (((((e0.set i2 (GEntry.mk r4_1 x3.Val x3.Deps x3.Taint x3.Turned)).set i2 (GEntry.mk x5.Addr (GValue.mk r4_0 x5.Val.N x5.Val.S x5.Val.K x5.Val.L) x5.Deps x5.Taint x5.Turned)).set i2 (GEntry.mk x6.Addr (GValue.mk x6.Val.Kind (w64 (r4_0 + 1)) x6.Val.S x6.Val.K x6.Val.L) x6.Deps x6.Taint x6.Turned)).set i2 (GEntry.mk x7.Addr (GValue.mk x7.Val.Kind x7.Val.N r8_1 x7.Val.K x7.Val.L) x7.Deps x7.Taint x7.Turned)).set i2 (GEntry.mk x9.Addr (GValue.mk x9.Val.Kind x9.Val.N x9.Val.S r10_1 x9.Val.L) x9.Deps x9.Taint x9.Turned)) i2 fun x11 =>
    .ag 0 <|
    .cl (XG r10_0 x11.Val.L) fun ⟨r12_0, r12_1⟩ =>
    .ag 1 <|
    .sl (z7 (GEntry.mk x11.Addr (GValue.mk x11.Val.Kind x11.Val.N x11.Val.S x11.Val.K r12_1) x11.Deps x11.Taint x11.Turned)) (((((e0.set i2 (GEntry.mk r4_1 x3.Val x3.Deps x3.Taint x3.Turned)).set i2 (GEntry.mk x5.Addr (GValue.mk r4_0 x5.Val.N x5.Val.S x5.Val.K x5.Val.L) x5.Deps x5.Taint x5.Turned)).set i2 (GEntry.mk x6.Addr (GValue.mk x6.Val.Kind (w64 (r4_0 + 1)) x6.Val.S x6.Val.K x6.Val.L) x6.Deps x6.Taint x6.Turned)).set i2 (GEntry.mk x7.Addr (GValue.mk x7.Val.Kind x7.Val.N r8_1 x7.Val.K x7.Val.L) x7.Deps x7.Taint x7.Turned)).set i2 (GEntry.mk x9.Addr (GValue.mk x9.Val.Kind x9.Val.N x9.Val.S r10_1 x9.Val.L) x9.Deps x9.Taint x9.Turned)) i2 <|
    .ag 10 <|
    .ix z7 ((((((e0.set i2 (GEntry.mk r4_1 x3.Val x3.Deps x3.Taint x3.Turned)).set i2 (GEntry.mk x5.Addr (GValue.mk r4_0 x5.Val.N x5.Val.S x5.Val.K x5.Val.L) x5.Deps x5.Taint x5.Turned)).set i2 (GEntry.mk x6.Addr (GValue.mk x6.Val.Kind (w64 (r4_0 + 1)) x6.Val.S x6.Val.K x6.Val.L) x6.Deps x6.Taint x6.Turned)).set i2 (GEntry.mk x7.Addr (GValue.mk x7.Val.Kind x7.Val.N r8_1 x7.Val.K x7.Val.L) x7.Deps x7.Taint x7.Turned)).set i2 (GEntry.mk x9.Addr (GValue.mk x9.Val.Kind x9.Val.N x9.Val.S r10_1 x9.Val.L) x9.Deps x9.Taint x9.Turned)).set i2 (GEntry.mk x11.Addr (GValue.mk x11.Val.Kind x11.Val.N x11.Val.S x11.Val.K r12_1) x11.Deps x11.Taint x11.Turned)) i2 fun x13 =>
    .ag 0 <|
    .cl (qG r12_0 x13.Deps) fun ⟨r14_0, r14_1⟩ =>
    .ag 1 <|
    .sl (z7 (GEntry.mk x13.Addr x13.Val r14_1 x13.Taint x13.Turned)) ((((((e0.set i2 (GEntry.mk r4_1 x3.Val x3.Deps x3.Taint x3.Turned)).set i2 (GEntry.mk x5.Addr (GValue.mk r4_0 x5.Val.N x5.Val.S x5.Val.K x5.Val.L) x5.Deps x5.Taint x5.Turned)).set i2 (GEntry.mk x6.Addr (GValue.mk x6.Val.Kind (w64 (r4_0 + 1)) x6.Val.S x6.Val.K x6.Val.L) x6.Deps x6.Taint x6.Turned)).set i2 (GEntry.mk x7.Addr (GValue.mk x7.Val.Kind x7.Val.N r8_1 x7.Val.K x7.Val.L) x7.Deps x7.Taint x7.Turned)).set i2 (GEntry.mk x9.Addr (GValue.mk x9.Val.Kind x9.Val.N x9.Val.S r10_1 x9.Val.L) x9.Deps x9.Taint x9.Turned)).set i2 (GEntry.mk x11.Addr (GValue.mk x11.Val.Kind x11.Val.N x11.Val.S x11.Val.K r12_1) x11.Deps x11.Taint x11.Turned)) i2 <|
    .q ⟨.nz 3, .b true, rfl⟩ <|
    .eD (r14_0.tmod 3) 0 <|
    .ag 12 <|
    .ix z7 (((((((e0.set i2 (GEntry.mk r4_1 x3.Val x3.Deps x3.Taint x3.Turned)).set i2 (GEntry.mk x5.Addr (GValue.mk r4_0 x5.Val.N x5.Val.S x5.Val.K x5.Val.L) x5.Deps x5.Taint x5.Turned)).set i2 (GEntry.mk x6.Addr (GValue.mk x6.Val.Kind (w64 (r4_0 + 1)) x6.Val.S x6.Val.K x6.Val.L) x6.Deps x6.Taint x6.Turned)).set i2 (GEntry.mk x7.Addr (GValue.mk x7.Val.Kind x7.Val.N r8_1 x7.Val.K x7.Val.L) x7.Deps x7.Taint x7.Turned)).set i2 (GEntry.mk x9.Addr (GValue.mk x9.Val.Kind x9.Val.N x9.Val.S r10_1 x9.Val.L) x9.Deps x9.Taint x9.Turned)).set i2 (GEntry.mk x11.Addr (GValue.mk x11.Val.Kind x11.Val.N x11.Val.S x11.Val.K r12_1) x11.Deps x11.Taint x11.Turned)).set i2 (GEntry.mk x13.Addr x13.Val r14_1 x13.Taint x13.Turned)) i2 fun x15 =>
    .ag 0 <|
    .sl (z7 (GEntry.mk x15.Addr x15.Val x15.Deps (decide ((r14_0.tmod 3) = 0)) x15.Turned)) (((((((e0.set i2 (GEntry.mk r4_1 x3.Val x3.Deps x3.Taint x3.Turned)).set i2 (GEntry.mk x5.Addr (GValue.mk r4_0 x5.Val.N x5.Val.S x5.Val.K x5.Val.L) x5.Deps x5.Taint x5.Turned)).set i2 (GEntry.mk x6.Addr (GValue.mk x6.Val.Kind (w64 (r4_0 + 1)) x6.Val.S x6.Val.K x6.Val.L) x6.Deps x6.Taint x6.Turned)).set i2 (GEntry.mk x7.Addr (GValue.mk x7.Val.Kind x7.Val.N r8_1 x7.Val.K x7.Val.L) x7.Deps x7.Taint x7.Turned)).set i2 (GEntry.mk x9.Addr (GValue.mk x9.Val.Kind x9.Val.N x9.Val.S r10_1 x9.Val.L) x9.Deps x9.Taint x9.Turned)).set i2 (GEntry.mk x11.Addr (GValue.mk x11.Val.Kind x11.Val.N x11.Val.S x11.Val.K r12_1) x11.Deps x11.Taint x11.Turned)).set i2 (GEntry.mk x13.Addr x13.Val r14_1 x13.Taint x13.Turned)) i2 <|
    .ag 13 <|
    .ix z7 ((((((((e0.set i2 (GEntry.mk r4_1 x3.Val x3.Deps x3.Taint x3.Turned)).set i2 (GEntry.mk x5.Addr (GValue.mk r4_0 x5.Val.N x5.Val.S x5.Val.K x5.Val.L) x5.Deps x5.Taint x5.Turned)).set i2 (GEntry.mk x6.Addr (GValue.mk x6.Val.Kind (w64 (r4_0 + 1)) x6.Val.S x6.Val.K x6.Val.L) x6.Deps x6.Taint x6.Turned)).set i2 (GEntry.mk x7.Addr (GValue.mk x7.Val.Kind x7.Val.N r8_1 x7.Val.K x7.Val.L) x7.Deps x7.Taint x7.Turned)).set i2 (GEntry.mk x9.Addr (GValue.mk x9.Val.Kind x9.Val.N x9.Val.S r10_1 x9.Val.L) x9.Deps x9.Taint x9.Turned)).set i2 (GEntry.mk x11.Addr (GValue.mk x11.Val.Kind x11.Val.N x11.Val.S x11.Val.K r12_1) x11.Deps x11.Taint x11.Turned)).set i2 (GEntry.mk x13.Addr x13.Val r14_1 x13.Taint x13.Turned)).set i2 (GEntry.mk x15.Addr x15.Val x15.Deps (decide ((r14_0.tmod 3) = 0)) x15.Turned)) i2 fun x16 =>
    .ag 0 <|
    .sl (z7 (GEntry.mk x16.Addr x16.Val x16.Deps x16.Taint (w64 (r14_0 + 1)))) ((((((((e0.set i2 (GEntry.mk r4_1 x3.Val x3.Deps x3.Taint x3.Turned)).set i2 (GEntry.mk x5.Addr (GValue.mk r4_0 x5.Val.N x5.Val.S x5.Val.K x5.Val.L) x5.Deps x5.Taint x5.Turned)).set i2 (GEntry.mk x6.Addr (GValue.mk x6.Val.Kind (w64 (r4_0 + 1)) x6.Val.S x6.Val.K x6.Val.L) x6.Deps x6.Taint x6.Turned)).set i2 (GEntry.mk x7.Addr (GValue.mk x7.Val.Kind x7.Val.N r8_1 x7.Val.K x7.Val.L) x7.Deps x7.Taint x7.Turned)).set i2 (GEntry.mk x9.Addr (GValue.mk x9.Val.Kind x9.Val.N x9.Val.S r10_1 x9.Val.L) x9.Deps x9.Taint x9.Turned)).set i2 (GEntry.mk x11.Addr (GValue.mk x11.Val.Kind x11.Val.N x11.Val.S x11.Val.K r12_1) x11.Deps x11.Taint x11.Turned)).set i2 (GEntry.mk x13.Addr x13.Val r14_1 x13.Taint x13.Turned)).set i2 (GEntry.mk x15.Addr x15.Val x15.Deps (decide ((r14_0.tmod 3) = 0)) x15.Turned)) i2 <|
    .go (ih (w64 ((w64 (r14_0 + 1)) + 1)) (w64 (v1 + 1)) (((((((((e0.set i2 (GEntry.mk r4_1 x3.Val x3.Deps x3.Taint x3.Turned)).set i2 (GEntry.mk x5.Addr (GValue.mk r4_0 x5.Val.N x5.Val.S x5.Val.K x5.Val.L) x5.Deps x5.Taint x5.Turned)).set i2 (GEntry.mk x6.Addr (GValue.mk x6.Val.Kind (w64 (r4_0 + 1)) x6.Val.S x6.Val.K x6.Val.L) x6.Deps x6.Taint x6.Turned)).set i2 (GEntry.mk x7.Addr (GValue.mk x7.Val.Kind x7.Val.N r8_1 x7.Val.K x7.Val.L) x7.Deps x7.Taint x7.Turned)).set i2 (GEntry.mk x9.Addr (GValue.mk x9.Val.Kind x9.Val.N x9.Val.S r10_1 x9.Val.L) x9.Deps x9.Taint x9.Turned)).set i2 (GEntry.mk x11.Addr (GValue.mk x11.Val.Kind x11.Val.N x11.Val.S x11.Val.K r12_1) x11.Deps x11.Taint x11.Turned)).set i2 (GEntry.mk x13.Addr x13.Val r14_1 x13.Taint x13.Turned)).set i2 (GEntry.mk x15.Addr x15.Val x15.Deps (decide ((r14_0.tmod 3) = 0)) x15.Turned)).set i2 (GEntry.mk x16.Addr x16.Val x16.Deps x16.Taint (w64 (r14_0 + 1)))))) fun c1 =>
   .ret (a0, v1, e0))
def ZL (n : Nat) (a0 : Int) (e0 : (List GEntry)) : Option (Int × (List GEntry)) :=
 (xv n a0 0 e0).bind fun ⟨o1_0, o1_1, o1_2⟩ =>
 some (o1_0, o1_2)
theorem R7 (n : Nat) : Wh (ZL n) := fun a0 e0 => tc (
 .lp (Jf n a0 0 e0) fun ⟨o1_0, o1_1, o1_2⟩ =>
 .ret (o1_0, o1_2)) (ze Tryz.func83)
theorem UP : ∀ (l p : List GEntry) (k : Int) (m : Nat), 0 <= k → k + 4 * yu l <= 2 ^ 40 → p.length + l.length <= 2 ^ 40 → l.length < m → ∃ z, xv m k (p.length : Int) (p ++ l) = some (k + cEs l, z, p ++ mEs k l) := by
 intro l
 induction l with
 | nil =>
  intro p k m _ _ _ hm
  obtain ⟨m, rfl, _⟩ := zh hm
  exact ⟨_, by rw [xv, if_neg (kG p)]; simp [mEs, cEs]; rfl⟩
 | cons x l ih =>
  intro p k m h0 h1 h2 hm
  obtain ⟨m, rfl, hm'⟩ := zh hm
  simp only [List.length_cons] at h2 hm'
  have hc := Aq x
  simp only [yu] at h1
  obtain ⟨z, hz⟩ := ih (p ++ [mE k x]) (k + cE x) m (by omega) (by omega) (by simp; omega) (by omega)
  have hcv := VY x.Val
  have hcd := ZS x.Deps
  have hve := qI x.Val
  have hcq := Al x.Val
  have hmq := Ao (k + x.Addr.length) x.Val
  have hb := ZS x.Val.K
  have hd := VG x.Val.L
  have hmE : mE k x = .mk (mB k x.Addr) (mV (k + x.Addr.length) x.Val) (mBB (k + x.Addr.length + cV x.Val) x.Deps) (decide ((k + x.Addr.length + cV x.Val + cB x.Deps).tmod 3 = 0)) (k + x.Addr.length + cV x.Val + cB x.Deps + 1) := rfl
  have hcE : cE x = x.Addr.length + cV x.Val + cB x.Deps + 2 := rfl
  unfold esz at h1 hc
  obtain ⟨ad, v, dp, ta, tu⟩ := x
  obtain ⟨kd, n, s, kk, ks⟩ := v
  simp only [GEntry.Addr, GEntry.Val, GEntry.Deps, GValue.S, GValue.K, GValue.L] at *
  rw [xv, if_pos (Ji p _ l), zf, Option.bind_some, zW, Option.bind_some]
  simp only [GEntry.Addr, GEntry.Val, GEntry.Deps, GEntry.Taint, GEntry.Turned]
  rw [qF (by omega) (by omega)]
  simp only [Option.bind_some, w9, zW, GValue.Kind, GValue.N, GValue.S, GValue.K, GValue.L, GEntry.Addr, GEntry.Val, GEntry.Deps, GEntry.Taint, GEntry.Turned]
  rw [yC (x := k + (ad.length : Int) + 1) (by omega) (by omega), yC (x := k + (ad.length : Int) + 1 + 1) (by omega) (by omega), qF (by omega) (by omega)]
  simp only [Option.bind_some, w9, zW, GValue.Kind, GValue.N, GValue.S, GValue.K, GValue.L, GEntry.Addr, GEntry.Val, GEntry.Deps, GEntry.Taint, GEntry.Turned]
  rw [vn (by omega) (by omega)]
  simp only [Option.bind_some, w9, zW, GValue.Kind, GValue.N, GValue.S, GValue.K, GValue.L, GEntry.Addr, GEntry.Val, GEntry.Deps, GEntry.Taint, GEntry.Turned]
  rw [Kj (by omega) (by omega)]
  simp only [Option.bind_some, w9, zW, GValue.Kind, GValue.N, GValue.S, GValue.K, GValue.L, GEntry.Addr, GEntry.Val, GEntry.Deps, GEntry.Taint, GEntry.Turned]
  have e1 : k + (ad.length : Int) + 1 + 1 + (s.length : Int) + (cB kk : Int) + (cVs ks : Int) = k + (ad.length : Int) + (cV (.mk kd n s kk ks) : Int) := by omega
  rw [e1, vn (by omega) (by omega)]
  simp only [Option.bind_some, w9, zW, GValue.Kind, GValue.N, GValue.S, GValue.K, GValue.L, GEntry.Addr, GEntry.Val, GEntry.Deps, GEntry.Taint, GEntry.Turned]
  rw [yC (x := k + (ad.length : Int) + (cV (.mk kd n s kk ks) : Int) + (cB dp : Int) + 1) (by omega) (by omega), yC (x := k + (ad.length : Int) + (cV (.mk kd n s kk ks) : Int) + (cB dp : Int) + 1 + 1) (by omega) (by omega), <- hmq]
  refine ⟨z, Eq.trans ?_ (Eq.trans hz ?_)⟩
  ·congr 1
   ·omega
   ·exact xX p (mE k _) (by omega)
   ·rw [List.append_assoc, List.singleton_append, hmE]; congr
  simp only [mEs, cEs, List.append_assoc, List.singleton_append]
  rw [show k + ((cE (.mk ad (.mk kd n s kk ks) dp ta tu) : Nat) : Int) + (cEs l : Int) = k + ((cE (.mk ad (.mk kd n s kk ks) dp ta tu) + cEs l : Nat) : Int) by omega]
def qU (a0 : Int) (e0 : (List GEntry)) : Option (Int × (List GEntry)) := if 0 <= a0 ∧ a0 + 4 * yu e0 <= 2 ^ 40 then some (a0 + cEs e0, mEs a0 e0) else none
theorem Lo {a : Int} {s : List GEntry} (h0 : 0 <= a) (h1 : a + 4 * yu s <= 2 ^ 40) : qU a s = some (a + cEs s, mEs a s) := if_pos ⟨h0, h1⟩
theorem JI (a0 : Int) (e0 : (List GEntry)) (r : (Int × (List GEntry))) (h : qU a0 e0 = some r) : ∃ n, ZL n a0 e0 = some r := by
 unfold qU at h
 obtain ⟨⟨h0, h1⟩, h⟩ := zR h
 have := jt e0
 obtain ⟨z, hz⟩ := UP e0 [] a0 (e0.length + 1) h0 h1 (by simp; omega) (by omega)
 refine ⟨e0.length + 1, ?_⟩
 unfold ZL
 simp only [List.nil_append, List.length_nil, Int.natCast_zero] at hz
 rw [hz]
 exact h
theorem VA : Wh qU := fun a0 e0 r h => (JI a0 e0 r h).elim fun n hn => R7 n a0 e0 r hn
def Yo (a0_0 : Int) (a0_1 : Bool) (a0_3 : Int) (a1 : Int) (e0 : (List UInt8)) (e1 : (List GEntry)) : Option (Int × (List UInt8) × (List GEntry)) :=
 (yh a1 e0).bind fun ⟨r1_0, r1_1⟩ =>
 (qU r1_0 e1).bind fun ⟨r2_0, r2_1⟩ =>
 some (r2_0, r1_1, r2_1)
theorem R8 (a0_0 : Int) (a0_1 : Bool) (a0_3 : Int) (a1 : Int) (e0 : (List UInt8)) (e1 : (List GEntry)) : Oc (Yo a0_0 a0_1 a0_3 a1 e0 e1) 23 [.obj 1 (eL za e0), .obj 9 (eL zF e1)] [.val true [ci a0_0, .bool a0_1, .ref 0, ci a0_3, .ref 1], vi a1] fun r => (vi r.1, [.obj 1 (eL za r.2.1), .obj 9 (eL zF r.2.2)]) := tc (
 .cl (yE a1 e0) fun ⟨r1_0, r1_1⟩ =>
 .cl (VA r1_0 e1) fun ⟨r2_0, r2_1⟩ =>
 .ret (r2_0, r1_1, r2_1)) (ze Tryz.func23)
def Wj (F : Int → (List GEvent) → Option (Int × (List GEvent))) : Prop := ∀ (a0 : Int) (e0 : (List GEvent)), Oc (F a0 e0) 92 [.obj 9 (eL xG e0)] [vr 0, vi a0] fun r => (vi r.1, [.obj 9 (eL xG r.2)])
def xw : Nat → Int → Int → (List GEvent) → Option (Int × Int × (List GEvent))
  | 0, _, _, _ => none
  | m + 1, a0, v1, e0 =>
  if v1 < (e0.length : Int) then
   (zw v1).bind fun i2 =>
   (e0[i2]?).bind fun x3 =>
   ((e0.set i2 (GEvent.mk a0 x3.Addr x3.Act x3.Val x3.Deps))[i2]?).bind fun x4 =>
   (yh (w64 (a0 + 1)) x4.Addr).bind fun ⟨r5_0, r5_1⟩ =>
   (((e0.set i2 (GEvent.mk a0 x3.Addr x3.Act x3.Val x3.Deps)).set i2 (GEvent.mk x4.Kind r5_1 x4.Act x4.Val x4.Deps))[i2]?).bind fun x6 =>
   ((((e0.set i2 (GEvent.mk a0 x3.Addr x3.Act x3.Val x3.Deps)).set i2 (GEvent.mk x4.Kind r5_1 x4.Act x4.Val x4.Deps)).set i2 (GEvent.mk x6.Kind x6.Addr r5_0 x6.Val x6.Deps))[i2]?).bind fun x7 =>
   (((((e0.set i2 (GEvent.mk a0 x3.Addr x3.Act x3.Val x3.Deps)).set i2 (GEvent.mk x4.Kind r5_1 x4.Act x4.Val x4.Deps)).set i2 (GEvent.mk x6.Kind x6.Addr r5_0 x6.Val x6.Deps)).set i2 (GEvent.mk x7.Kind x7.Addr x7.Act (GValue.mk (w64 (r5_0 + 1)) x7.Val.N x7.Val.S x7.Val.K x7.Val.L) x7.Deps))[i2]?).bind fun x8 =>
   ((((((e0.set i2 (GEvent.mk a0 x3.Addr x3.Act x3.Val x3.Deps)).set i2 (GEvent.mk x4.Kind r5_1 x4.Act x4.Val x4.Deps)).set i2 (GEvent.mk x6.Kind x6.Addr r5_0 x6.Val x6.Deps)).set i2 (GEvent.mk x7.Kind x7.Addr x7.Act (GValue.mk (w64 (r5_0 + 1)) x7.Val.N x7.Val.S x7.Val.K x7.Val.L) x7.Deps)).set i2 (GEvent.mk x8.Kind x8.Addr x8.Act (GValue.mk x8.Val.Kind (w64 ((w64 (r5_0 + 1)) + 1)) x8.Val.S x8.Val.K x8.Val.L) x8.Deps))[i2]?).bind fun x9 =>
   (yh (w64 ((w64 ((w64 (r5_0 + 1)) + 1)) + 1)) x9.Val.S).bind fun ⟨r10_0, r10_1⟩ =>
   (((((((e0.set i2 (GEvent.mk a0 x3.Addr x3.Act x3.Val x3.Deps)).set i2 (GEvent.mk x4.Kind r5_1 x4.Act x4.Val x4.Deps)).set i2 (GEvent.mk x6.Kind x6.Addr r5_0 x6.Val x6.Deps)).set i2 (GEvent.mk x7.Kind x7.Addr x7.Act (GValue.mk (w64 (r5_0 + 1)) x7.Val.N x7.Val.S x7.Val.K x7.Val.L) x7.Deps)).set i2 (GEvent.mk x8.Kind x8.Addr x8.Act (GValue.mk x8.Val.Kind (w64 ((w64 (r5_0 + 1)) + 1)) x8.Val.S x8.Val.K x8.Val.L) x8.Deps)).set i2 (GEvent.mk x9.Kind x9.Addr x9.Act (GValue.mk x9.Val.Kind x9.Val.N r10_1 x9.Val.K x9.Val.L) x9.Deps))[i2]?).bind fun x11 =>
   (yF r10_0 x11.Val.K).bind fun ⟨r12_0, r12_1⟩ =>
   ((((((((e0.set i2 (GEvent.mk a0 x3.Addr x3.Act x3.Val x3.Deps)).set i2 (GEvent.mk x4.Kind r5_1 x4.Act x4.Val x4.Deps)).set i2 (GEvent.mk x6.Kind x6.Addr r5_0 x6.Val x6.Deps)).set i2 (GEvent.mk x7.Kind x7.Addr x7.Act (GValue.mk (w64 (r5_0 + 1)) x7.Val.N x7.Val.S x7.Val.K x7.Val.L) x7.Deps)).set i2 (GEvent.mk x8.Kind x8.Addr x8.Act (GValue.mk x8.Val.Kind (w64 ((w64 (r5_0 + 1)) + 1)) x8.Val.S x8.Val.K x8.Val.L) x8.Deps)).set i2 (GEvent.mk x9.Kind x9.Addr x9.Act (GValue.mk x9.Val.Kind x9.Val.N r10_1 x9.Val.K x9.Val.L) x9.Deps)).set i2 (GEvent.mk x11.Kind x11.Addr x11.Act (GValue.mk x11.Val.Kind x11.Val.N x11.Val.S r12_1 x11.Val.L) x11.Deps))[i2]?).bind fun x13 =>
   (wP r12_0 x13.Val.L).bind fun ⟨r14_0, r14_1⟩ =>
   (((((((((e0.set i2 (GEvent.mk a0 x3.Addr x3.Act x3.Val x3.Deps)).set i2 (GEvent.mk x4.Kind r5_1 x4.Act x4.Val x4.Deps)).set i2 (GEvent.mk x6.Kind x6.Addr r5_0 x6.Val x6.Deps)).set i2 (GEvent.mk x7.Kind x7.Addr x7.Act (GValue.mk (w64 (r5_0 + 1)) x7.Val.N x7.Val.S x7.Val.K x7.Val.L) x7.Deps)).set i2 (GEvent.mk x8.Kind x8.Addr x8.Act (GValue.mk x8.Val.Kind (w64 ((w64 (r5_0 + 1)) + 1)) x8.Val.S x8.Val.K x8.Val.L) x8.Deps)).set i2 (GEvent.mk x9.Kind x9.Addr x9.Act (GValue.mk x9.Val.Kind x9.Val.N r10_1 x9.Val.K x9.Val.L) x9.Deps)).set i2 (GEvent.mk x11.Kind x11.Addr x11.Act (GValue.mk x11.Val.Kind x11.Val.N x11.Val.S r12_1 x11.Val.L) x11.Deps)).set i2 (GEvent.mk x13.Kind x13.Addr x13.Act (GValue.mk x13.Val.Kind x13.Val.N x13.Val.S x13.Val.K r14_1) x13.Deps))[i2]?).bind fun x15 =>
   (yF r14_0 x15.Deps).bind fun ⟨r16_0, r16_1⟩ =>
   xw m r16_0 (w64 (v1 + 1)) (((((((((e0.set i2 (GEvent.mk a0 x3.Addr x3.Act x3.Val x3.Deps)).set i2 (GEvent.mk x4.Kind r5_1 x4.Act x4.Val x4.Deps)).set i2 (GEvent.mk x6.Kind x6.Addr r5_0 x6.Val x6.Deps)).set i2 (GEvent.mk x7.Kind x7.Addr x7.Act (GValue.mk (w64 (r5_0 + 1)) x7.Val.N x7.Val.S x7.Val.K x7.Val.L) x7.Deps)).set i2 (GEvent.mk x8.Kind x8.Addr x8.Act (GValue.mk x8.Val.Kind (w64 ((w64 (r5_0 + 1)) + 1)) x8.Val.S x8.Val.K x8.Val.L) x8.Deps)).set i2 (GEvent.mk x9.Kind x9.Addr x9.Act (GValue.mk x9.Val.Kind x9.Val.N r10_1 x9.Val.K x9.Val.L) x9.Deps)).set i2 (GEvent.mk x11.Kind x11.Addr x11.Act (GValue.mk x11.Val.Kind x11.Val.N x11.Val.S r12_1 x11.Val.L) x11.Deps)).set i2 (GEvent.mk x13.Kind x13.Addr x13.Act (GValue.mk x13.Val.Kind x13.Val.N x13.Val.S x13.Val.K r14_1) x13.Deps)).set i2 (GEvent.mk x15.Kind x15.Addr x15.Act x15.Val r16_1))
  else
  some (a0, v1, e0)
theorem Jg (m : Nat) : ∀ (a0 : Int) (v1 : Int) (e0 : (List GEvent)), Ol (xw m a0 v1 e0) 92 (zG Tryz.f92 0) ⟨[(0, vr 0), (1, vi a0), (5, vi v1)], [.obj 9 (eL xG e0)], 1⟩ fun o => match o with | ⟨o_0, o_1, o_2⟩ => (.exit 0, ⟨[(0, vr 0), (1, vi o_0), (5, vi o_1), (9, vb false)], [.obj 9 (eL xG o_2)], 1⟩) := by
  induction m with
  | zero => intro a0 v1 e0 o h; cases h
  | succ m ih => exact fun a0 v1 e0 => tlp (
   .le xG e0 <|
   .lI v1 (e0.length : Int) (fun c1 =>
    .na v1 fun i2 =>
    .ix yj e0 i2 fun x3 =>
    .ag 0 <|
    .sl (yj (GEvent.mk a0 x3.Addr x3.Act x3.Val x3.Deps)) e0 i2 <|
    .ag 1 <|
    .ix yj (e0.set i2 (GEvent.mk a0 x3.Addr x3.Act x3.Val x3.Deps)) i2 fun x4 =>
    .ag 0 <|
    .cl (yE (w64 (a0 + 1)) x4.Addr) fun ⟨r5_0, r5_1⟩ =>
    .ag 1 <|
    .sl (yj (GEvent.mk x4.Kind r5_1 x4.Act x4.Val x4.Deps)) (e0.set i2 (GEvent.mk a0 x3.Addr x3.Act x3.Val x3.Deps)) i2 <|
    .ag 3 <|
    .ix yj ((e0.set i2 (GEvent.mk a0 x3.Addr x3.Act x3.Val x3.Deps)).set i2 (GEvent.mk x4.Kind r5_1 x4.Act x4.Val x4.Deps)) i2 fun x6 =>
    .ag 0 <|
    .sl (yj (GEvent.mk x6.Kind x6.Addr r5_0 x6.Val x6.Deps)) ((e0.set i2 (GEvent.mk a0 x3.Addr x3.Act x3.Val x3.Deps)).set i2 (GEvent.mk x4.Kind r5_1 x4.Act x4.Val x4.Deps)) i2 <|
    .ag 4 <|
    .ix yj (((e0.set i2 (GEvent.mk a0 x3.Addr x3.Act x3.Val x3.Deps)).set i2 (GEvent.mk x4.Kind r5_1 x4.Act x4.Val x4.Deps)).set i2 (GEvent.mk x6.Kind x6.Addr r5_0 x6.Val x6.Deps)) i2 fun x7 =>
    .ag 0 <|
    .sl (yj (GEvent.mk x7.Kind x7.Addr x7.Act (GValue.mk (w64 (r5_0 + 1)) x7.Val.N x7.Val.S x7.Val.K x7.Val.L) x7.Deps)) (((e0.set i2 (GEvent.mk a0 x3.Addr x3.Act x3.Val x3.Deps)).set i2 (GEvent.mk x4.Kind r5_1 x4.Act x4.Val x4.Deps)).set i2 (GEvent.mk x6.Kind x6.Addr r5_0 x6.Val x6.Deps)) i2 <|
    .ag 5 <|
    .ix yj ((((e0.set i2 (GEvent.mk a0 x3.Addr x3.Act x3.Val x3.Deps)).set i2 (GEvent.mk x4.Kind r5_1 x4.Act x4.Val x4.Deps)).set i2 (GEvent.mk x6.Kind x6.Addr r5_0 x6.Val x6.Deps)).set i2 (GEvent.mk x7.Kind x7.Addr x7.Act (GValue.mk (w64 (r5_0 + 1)) x7.Val.N x7.Val.S x7.Val.K x7.Val.L) x7.Deps)) i2 fun x8 =>
    .ag 0 <|
    .sl (yj (GEvent.mk x8.Kind x8.Addr x8.Act (GValue.mk x8.Val.Kind (w64 ((w64 (r5_0 + 1)) + 1)) x8.Val.S x8.Val.K x8.Val.L) x8.Deps)) ((((e0.set i2 (GEvent.mk a0 x3.Addr x3.Act x3.Val x3.Deps)).set i2 (GEvent.mk x4.Kind r5_1 x4.Act x4.Val x4.Deps)).set i2 (GEvent.mk x6.Kind x6.Addr r5_0 x6.Val x6.Deps)).set i2 (GEvent.mk x7.Kind x7.Addr x7.Act (GValue.mk (w64 (r5_0 + 1)) x7.Val.N x7.Val.S x7.Val.K x7.Val.L) x7.Deps)) i2 <|
    .ag 6 <|
    .ix yj (((((e0.set i2 (GEvent.mk a0 x3.Addr x3.Act x3.Val x3.Deps)).set i2 (GEvent.mk x4.Kind r5_1 x4.Act x4.Val x4.Deps)).set i2 (GEvent.mk x6.Kind x6.Addr r5_0 x6.Val x6.Deps)).set i2 (GEvent.mk x7.Kind x7.Addr x7.Act (GValue.mk (w64 (r5_0 + 1)) x7.Val.N x7.Val.S x7.Val.K x7.Val.L) x7.Deps)).set i2 (GEvent.mk x8.Kind x8.Addr x8.Act (GValue.mk x8.Val.Kind (w64 ((w64 (r5_0 + 1)) + 1)) x8.Val.S x8.Val.K x8.Val.L) x8.Deps)) i2 fun x9 =>
    .ag 0 <|
    .cl (yE (w64 ((w64 ((w64 (r5_0 + 1)) + 1)) + 1)) x9.Val.S) fun ⟨r10_0, r10_1⟩ =>
    .ag 1 <|
    .sl (yj (GEvent.mk x9.Kind x9.Addr x9.Act (GValue.mk x9.Val.Kind x9.Val.N r10_1 x9.Val.K x9.Val.L) x9.Deps)) (((((e0.set i2 (GEvent.mk a0 x3.Addr x3.Act x3.Val x3.Deps)).set i2 (GEvent.mk x4.Kind r5_1 x4.Act x4.Val x4.Deps)).set i2 (GEvent.mk x6.Kind x6.Addr r5_0 x6.Val x6.Deps)).set i2 (GEvent.mk x7.Kind x7.Addr x7.Act (GValue.mk (w64 (r5_0 + 1)) x7.Val.N x7.Val.S x7.Val.K x7.Val.L) x7.Deps)).set i2 (GEvent.mk x8.Kind x8.Addr x8.Act (GValue.mk x8.Val.Kind (w64 ((w64 (r5_0 + 1)) + 1)) x8.Val.S x8.Val.K x8.Val.L) x8.Deps)) i2 <|
    .ag 8 <|
    .ix yj ((((((e0.set i2 (GEvent.mk a0 x3.Addr x3.Act x3.Val x3.Deps)).set i2 (GEvent.mk x4.Kind r5_1 x4.Act x4.Val x4.Deps)).set i2 (GEvent.mk x6.Kind x6.Addr r5_0 x6.Val x6.Deps)).set i2 (GEvent.mk x7.Kind x7.Addr x7.Act (GValue.mk (w64 (r5_0 + 1)) x7.Val.N x7.Val.S x7.Val.K x7.Val.L) x7.Deps)).set i2 (GEvent.mk x8.Kind x8.Addr x8.Act (GValue.mk x8.Val.Kind (w64 ((w64 (r5_0 + 1)) + 1)) x8.Val.S x8.Val.K x8.Val.L) x8.Deps)).set i2 (GEvent.mk x9.Kind x9.Addr x9.Act (GValue.mk x9.Val.Kind x9.Val.N r10_1 x9.Val.K x9.Val.L) x9.Deps)) i2 fun x11 =>
    .ag 0 <|
    .cl (qG r10_0 x11.Val.K) fun ⟨r12_0, r12_1⟩ =>
    .ag 1 <|
    .sl (yj (GEvent.mk x11.Kind x11.Addr x11.Act (GValue.mk x11.Val.Kind x11.Val.N x11.Val.S r12_1 x11.Val.L) x11.Deps)) ((((((e0.set i2 (GEvent.mk a0 x3.Addr x3.Act x3.Val x3.Deps)).set i2 (GEvent.mk x4.Kind r5_1 x4.Act x4.Val x4.Deps)).set i2 (GEvent.mk x6.Kind x6.Addr r5_0 x6.Val x6.Deps)).set i2 (GEvent.mk x7.Kind x7.Addr x7.Act (GValue.mk (w64 (r5_0 + 1)) x7.Val.N x7.Val.S x7.Val.K x7.Val.L) x7.Deps)).set i2 (GEvent.mk x8.Kind x8.Addr x8.Act (GValue.mk x8.Val.Kind (w64 ((w64 (r5_0 + 1)) + 1)) x8.Val.S x8.Val.K x8.Val.L) x8.Deps)).set i2 (GEvent.mk x9.Kind x9.Addr x9.Act (GValue.mk x9.Val.Kind x9.Val.N r10_1 x9.Val.K x9.Val.L) x9.Deps)) i2 <|
    .ag 10 <|
    .ix yj (((((((e0.set i2 (GEvent.mk a0 x3.Addr x3.Act x3.Val x3.Deps)).set i2 (GEvent.mk x4.Kind r5_1 x4.Act x4.Val x4.Deps)).set i2 (GEvent.mk x6.Kind x6.Addr r5_0 x6.Val x6.Deps)).set i2 (GEvent.mk x7.Kind x7.Addr x7.Act (GValue.mk (w64 (r5_0 + 1)) x7.Val.N x7.Val.S x7.Val.K x7.Val.L) x7.Deps)).set i2 (GEvent.mk x8.Kind x8.Addr x8.Act (GValue.mk x8.Val.Kind (w64 ((w64 (r5_0 + 1)) + 1)) x8.Val.S x8.Val.K x8.Val.L) x8.Deps)).set i2 (GEvent.mk x9.Kind x9.Addr x9.Act (GValue.mk x9.Val.Kind x9.Val.N r10_1 x9.Val.K x9.Val.L) x9.Deps)).set i2 (GEvent.mk x11.Kind x11.Addr x11.Act (GValue.mk x11.Val.Kind x11.Val.N x11.Val.S r12_1 x11.Val.L) x11.Deps)) i2 fun x13 =>
    .ag 0 <|
    .cl (XG r12_0 x13.Val.L) fun ⟨r14_0, r14_1⟩ =>
    .ag 1 <|
    .sl (yj (GEvent.mk x13.Kind x13.Addr x13.Act (GValue.mk x13.Val.Kind x13.Val.N x13.Val.S x13.Val.K r14_1) x13.Deps)) (((((((e0.set i2 (GEvent.mk a0 x3.Addr x3.Act x3.Val x3.Deps)).set i2 (GEvent.mk x4.Kind r5_1 x4.Act x4.Val x4.Deps)).set i2 (GEvent.mk x6.Kind x6.Addr r5_0 x6.Val x6.Deps)).set i2 (GEvent.mk x7.Kind x7.Addr x7.Act (GValue.mk (w64 (r5_0 + 1)) x7.Val.N x7.Val.S x7.Val.K x7.Val.L) x7.Deps)).set i2 (GEvent.mk x8.Kind x8.Addr x8.Act (GValue.mk x8.Val.Kind (w64 ((w64 (r5_0 + 1)) + 1)) x8.Val.S x8.Val.K x8.Val.L) x8.Deps)).set i2 (GEvent.mk x9.Kind x9.Addr x9.Act (GValue.mk x9.Val.Kind x9.Val.N r10_1 x9.Val.K x9.Val.L) x9.Deps)).set i2 (GEvent.mk x11.Kind x11.Addr x11.Act (GValue.mk x11.Val.Kind x11.Val.N x11.Val.S r12_1 x11.Val.L) x11.Deps)) i2 <|
    .ag 12 <|
    .ix yj ((((((((e0.set i2 (GEvent.mk a0 x3.Addr x3.Act x3.Val x3.Deps)).set i2 (GEvent.mk x4.Kind r5_1 x4.Act x4.Val x4.Deps)).set i2 (GEvent.mk x6.Kind x6.Addr r5_0 x6.Val x6.Deps)).set i2 (GEvent.mk x7.Kind x7.Addr x7.Act (GValue.mk (w64 (r5_0 + 1)) x7.Val.N x7.Val.S x7.Val.K x7.Val.L) x7.Deps)).set i2 (GEvent.mk x8.Kind x8.Addr x8.Act (GValue.mk x8.Val.Kind (w64 ((w64 (r5_0 + 1)) + 1)) x8.Val.S x8.Val.K x8.Val.L) x8.Deps)).set i2 (GEvent.mk x9.Kind x9.Addr x9.Act (GValue.mk x9.Val.Kind x9.Val.N r10_1 x9.Val.K x9.Val.L) x9.Deps)).set i2 (GEvent.mk x11.Kind x11.Addr x11.Act (GValue.mk x11.Val.Kind x11.Val.N x11.Val.S r12_1 x11.Val.L) x11.Deps)).set i2 (GEvent.mk x13.Kind x13.Addr x13.Act (GValue.mk x13.Val.Kind x13.Val.N x13.Val.S x13.Val.K r14_1) x13.Deps)) i2 fun x15 =>
    .ag 0 <|
    .cl (qG r14_0 x15.Deps) fun ⟨r16_0, r16_1⟩ =>
    .ag 1 <|
    .sl (yj (GEvent.mk x15.Kind x15.Addr x15.Act x15.Val r16_1)) ((((((((e0.set i2 (GEvent.mk a0 x3.Addr x3.Act x3.Val x3.Deps)).set i2 (GEvent.mk x4.Kind r5_1 x4.Act x4.Val x4.Deps)).set i2 (GEvent.mk x6.Kind x6.Addr r5_0 x6.Val x6.Deps)).set i2 (GEvent.mk x7.Kind x7.Addr x7.Act (GValue.mk (w64 (r5_0 + 1)) x7.Val.N x7.Val.S x7.Val.K x7.Val.L) x7.Deps)).set i2 (GEvent.mk x8.Kind x8.Addr x8.Act (GValue.mk x8.Val.Kind (w64 ((w64 (r5_0 + 1)) + 1)) x8.Val.S x8.Val.K x8.Val.L) x8.Deps)).set i2 (GEvent.mk x9.Kind x9.Addr x9.Act (GValue.mk x9.Val.Kind x9.Val.N r10_1 x9.Val.K x9.Val.L) x9.Deps)).set i2 (GEvent.mk x11.Kind x11.Addr x11.Act (GValue.mk x11.Val.Kind x11.Val.N x11.Val.S r12_1 x11.Val.L) x11.Deps)).set i2 (GEvent.mk x13.Kind x13.Addr x13.Act (GValue.mk x13.Val.Kind x13.Val.N x13.Val.S x13.Val.K r14_1) x13.Deps)) i2 <|
    .go (ih r16_0 (w64 (v1 + 1)) (((((((((e0.set i2 (GEvent.mk a0 x3.Addr x3.Act x3.Val x3.Deps)).set i2 (GEvent.mk x4.Kind r5_1 x4.Act x4.Val x4.Deps)).set i2 (GEvent.mk x6.Kind x6.Addr r5_0 x6.Val x6.Deps)).set i2 (GEvent.mk x7.Kind x7.Addr x7.Act (GValue.mk (w64 (r5_0 + 1)) x7.Val.N x7.Val.S x7.Val.K x7.Val.L) x7.Deps)).set i2 (GEvent.mk x8.Kind x8.Addr x8.Act (GValue.mk x8.Val.Kind (w64 ((w64 (r5_0 + 1)) + 1)) x8.Val.S x8.Val.K x8.Val.L) x8.Deps)).set i2 (GEvent.mk x9.Kind x9.Addr x9.Act (GValue.mk x9.Val.Kind x9.Val.N r10_1 x9.Val.K x9.Val.L) x9.Deps)).set i2 (GEvent.mk x11.Kind x11.Addr x11.Act (GValue.mk x11.Val.Kind x11.Val.N x11.Val.S r12_1 x11.Val.L) x11.Deps)).set i2 (GEvent.mk x13.Kind x13.Addr x13.Act (GValue.mk x13.Val.Kind x13.Val.N x13.Val.S x13.Val.K r14_1) x13.Deps)).set i2 (GEvent.mk x15.Kind x15.Addr x15.Act x15.Val r16_1)))) fun c1 =>
   .ret (a0, v1, e0))
def ZM (n : Nat) (a0 : Int) (e0 : (List GEvent)) : Option (Int × (List GEvent)) :=
 (xw n a0 0 e0).bind fun ⟨o1_0, o1_1, o1_2⟩ =>
 some (o1_0, o1_2)
theorem R9 (n : Nat) : Wj (ZM n) := fun a0 e0 => tc (
 .lp (Jg n a0 0 e0) fun ⟨o1_0, o1_1, o1_2⟩ =>
 .ret (o1_0, o1_2)) (ze Tryz.func92)
theorem UQ : ∀ (l p : List GEvent) (k : Int) (m : Nat), 0 <= k → k + 4 * we l <= 2 ^ 40 → p.length + l.length <= 2 ^ 40 → l.length < m → ∃ z, xw m k (p.length : Int) (p ++ l) = some (k + Qb l, z, p ++ Oh k l) := by
 intro l
 induction l with
 | nil =>
  intro p k m _ _ _ hm
  obtain ⟨m, rfl, _⟩ := zh hm
  exact ⟨_, by rw [xw, if_neg (kG p)]; simp [Oh, Qb]; rfl⟩
 | cons x l ih =>
  intro p k m h0 h1 h2 hm
  obtain ⟨m, rfl, hm'⟩ := zh hm
  simp only [List.length_cons] at h2 hm'
  have hc := E8 x
  simp only [we] at h1
  obtain ⟨z, hz⟩ := ih (p ++ [mEv k x]) (k + cEv x) m (by omega) (by omega) (by simp; omega) (by omega)
  have hcv := VY x.Val
  have hcd := ZS x.Deps
  have hve := qI x.Val
  have hcq := Al x.Val
  have hmq := Ao (k + 1 + x.Addr.length + 1) x.Val
  have hb := ZS x.Val.K
  have hd := VG x.Val.L
  have hmE : mEv k x = .mk k (mB (k + 1) x.Addr) (k + 1 + x.Addr.length) (mV (k + 1 + x.Addr.length + 1) x.Val) (mBB (k + 1 + x.Addr.length + 1 + cV x.Val) x.Deps) := rfl
  have hcE : cEv x = x.Addr.length + cV x.Val + cB x.Deps + 2 := rfl
  unfold qx at h1 hc
  obtain ⟨ek, ad, ac, v, dp⟩ := x
  obtain ⟨kd, n, s, kk, ks⟩ := v
  simp only [GEvent.Addr, GEvent.Val, GEvent.Deps, GValue.S, GValue.K, GValue.L] at *
  rw [xw, if_pos (Ji p _ l), zf, Option.bind_some, zW, Option.bind_some]
  simp only [w9, zW, Option.bind_some, GEvent.Kind, GEvent.Addr, GEvent.Act, GEvent.Val, GEvent.Deps]
  rw [yC (x := k + 1) (by omega) (by omega), qF (by omega) (by omega)]
  simp only [Option.bind_some, w9, zW, GValue.Kind, GValue.N, GValue.S, GValue.K, GValue.L, GEvent.Kind, GEvent.Addr, GEvent.Act, GEvent.Val, GEvent.Deps]
  rw [yC (x := k + 1 + (ad.length : Int) + 1) (by omega) (by omega), yC (x := k + 1 + (ad.length : Int) + 1 + 1) (by omega) (by omega), yC (x := k + 1 + (ad.length : Int) + 1 + 1 + 1) (by omega) (by omega), qF (by omega) (by omega)]
  simp only [Option.bind_some, w9, zW, GValue.Kind, GValue.N, GValue.S, GValue.K, GValue.L, GEvent.Kind, GEvent.Addr, GEvent.Act, GEvent.Val, GEvent.Deps]
  rw [vn (by omega) (by omega)]
  simp only [Option.bind_some, w9, zW, GValue.Kind, GValue.N, GValue.S, GValue.K, GValue.L, GEvent.Kind, GEvent.Addr, GEvent.Act, GEvent.Val, GEvent.Deps]
  rw [Kj (by omega) (by omega)]
  simp only [Option.bind_some, w9, zW, GValue.Kind, GValue.N, GValue.S, GValue.K, GValue.L, GEvent.Kind, GEvent.Addr, GEvent.Act, GEvent.Val, GEvent.Deps]
  have e1 : k + 1 + (ad.length : Int) + 1 + 1 + 1 + (s.length : Int) + (cB kk : Int) + (cVs ks : Int) = k + 1 + (ad.length : Int) + 1 + (cV (.mk kd n s kk ks) : Int) := by omega
  rw [e1, vn (by omega) (by omega)]
  simp only [Option.bind_some, w9, zW, GValue.Kind, GValue.N, GValue.S, GValue.K, GValue.L, GEvent.Kind, GEvent.Addr, GEvent.Act, GEvent.Val, GEvent.Deps]
  rw [<- hmq]
  refine ⟨z, Eq.trans ?_ (Eq.trans hz ?_)⟩
  ·congr 1
   ·omega
   ·exact xX p (mEv k _) (by omega)
   ·rw [List.append_assoc, List.singleton_append, hmE]
  simp only [Oh, Qb, List.append_assoc, List.singleton_append]
  rw [show k + ((cEv (.mk ek ad ac (.mk kd n s kk ks) dp) : Nat) : Int) + (Qb l : Int) = k + ((cEv (.mk ek ad ac (.mk kd n s kk ks) dp) + Qb l : Nat) : Int) by omega]
def qV (a0 : Int) (e0 : (List GEvent)) : Option (Int × (List GEvent)) := if 0 <= a0 ∧ a0 + 4 * we e0 <= 2 ^ 40 then some (a0 + Qb e0, Oh a0 e0) else none
theorem Lq {a : Int} {s : List GEvent} (h0 : 0 <= a) (h1 : a + 4 * we s <= 2 ^ 40) : qV a s = some (a + Qb s, Oh a s) := if_pos ⟨h0, h1⟩
theorem JJ (a0 : Int) (e0 : (List GEvent)) (r : (Int × (List GEvent))) (h : qV a0 e0 = some r) : ∃ n, ZM n a0 e0 = some r := by
 unfold qV at h
 obtain ⟨⟨h0, h1⟩, h⟩ := zR h
 have := Yz e0
 obtain ⟨z, hz⟩ := UQ e0 [] a0 (e0.length + 1) h0 h1 (by simp; omega) (by omega)
 refine ⟨e0.length + 1, ?_⟩
 unfold ZM
 simp only [List.nil_append, List.length_nil, Int.natCast_zero] at hz
 rw [hz]
 exact h
theorem VB : Wj qV := fun a0 e0 r h => (JJ a0 e0 r h).elim fun n hn => R9 n a0 e0 r hn
def qH (a0_0 : Int) (a0_1 : Bool) (a0_3 : Int) (a0_6 : Int) (a1 : Int) (e0 : (List UInt8)) (e1 : (List GEntry)) (e2 : (List GEvent)) : Option (Int × (List UInt8) × (List GEntry) × (List GEvent)) :=
 (Yo a0_0 a0_1 a0_3 a1 e0 e1).bind fun ⟨r1_0, r1_1, r1_2⟩ =>
 (qV r1_0 e2).bind fun ⟨r2_0, r2_1⟩ =>
 some (r2_0, r1_1, r1_2, r2_1)
theorem Xd (a0_0 : Int) (a0_1 : Bool) (a0_3 : Int) (a0_6 : Int) (a1 : Int) (e0 : (List UInt8)) (e1 : (List GEntry)) (e2 : (List GEvent)) : Oc (qH a0_0 a0_1 a0_3 a0_6 a1 e0 e1 e2) 33 [.obj 1 (eL za e0), .obj 9 (eL zF e1), .obj 9 (eL xG e2)] [.val true [ci a0_0, .bool a0_1, .ref 0, ci a0_3, .ref 1, .ref 2, ci a0_6], vi a1] fun r => (vi r.1, [.obj 1 (eL za r.2.1), .obj 9 (eL zF r.2.2.1), .obj 9 (eL xG r.2.2.2)]) := tc (
 .cl (R8 a0_0 a0_1 a0_3 a1 e0 e1) fun ⟨r1_0, r1_1, r1_2⟩ =>
 .cl (VB r1_0 e2) fun ⟨r2_0, r2_1⟩ =>
 .ret (r2_0, r1_1, r1_2, r2_1)) (ze Tryz.func33)
end
end Go.Am.Try
