/- The functions of the program in plain Lean, and that the machine answers as they do; conditions at each theorem. -/
import Derived.Test.YtjmhaigcaidloaaGreatDoorBG3
set_option linter.unusedVariables false
set_option linter.unusedSimpArgs false
namespace Go.Am.Try
open Go.Am Go.Proofs
set_option linter.unusedVariables false
set_option maxRecDepth 20000
set_option maxHeartbeats 2000000
noncomputable section
def ZP (a0 : GEvent) : Option Bool :=
 if a0.Kind = 2 then
  (xr a0.Addr).bind fun r2 =>
  match r2 with
  | true =>
   if a0.Act = 0 then
    (yW a0.Val).bind fun r4 =>
    match r4 with
    | true =>
     (xL a0.Deps).bind fun r5 =>
     some r5
    | false =>
     some false
   else
   some false
  | false =>
   some false
 else
 (Yk a0.Val).bind fun r2 =>
 match r2 with
 | true =>
  if 0 < (a0.Deps.length : Int) then
   some false
  else
  if a0.Kind = 0 then
   if (a0.Addr.length : Int) = 0 then
    some (decide (a0.Act = 0))
   else
   some false
  else
  if a0.Kind = 5 then
   if (a0.Addr.length : Int) = 0 then
    some (decide (a0.Act = 0))
   else
   some false
  else
  if a0.Kind = 6 then
   if (a0.Addr.length : Int) = 0 then
    some (decide (a0.Act = 0))
   else
   some false
  else
  if a0.Kind = 1 then
   (xr a0.Addr).bind fun r8 =>
   match r8 with
   | true =>
    (y8 a0.Act 1 4).bind fun r9 =>
    some r9
   | false =>
    some false
  else
  if a0.Kind = 3 then
   (xr a0.Addr).bind fun r9 =>
   match r9 with
   | true =>
    some (decide (a0.Act = 0))
   | false =>
    some false
  else
  if a0.Kind = 4 then
   (xr a0.Addr).bind fun r10 =>
   match r10 with
   | true =>
    some (decide (a0.Act = 0))
   | false =>
    some false
  else
  some false
 | false =>
  some false
theorem UQ (a0 : GEvent) : Oc (ZP a0) 79 [] [.val true (jp a0)] fun r => (vb r, []) := tc (
 .eI a0.Kind 2 (fun c1 =>
  .cl (qn a0.Addr) fun r2 =>
  .vM 0 r2 (
   .az 0 0 <|
   .az 0 0 <|
   .eD a0.Act 0 <|
   .az 0 0 <|
   .cI 0 (a0.Act = 0) (fun c3 =>
    .kT 0 (dT c3) <|
    .kT 0 (dT c3) <|
    .cl (Zr a0.Val) fun r4 =>
    .kT 0 (dT c3) <|
    .vM 0 r4 (
     .az 0 0 <|
     .az 0 0 <|
     .cl (Yr a0.Deps) fun r5 =>
     .az 0 1 <|
     .ret r5) <|
    .az 0 0 <|
    .az 0 0 <|
    .az 0 0 <|
    .ret false) fun c3 =>
   .kF 0 (dF c3) <|
   .kF 0 (dF c3) <|
   .kF 0 (dF c3) <|
   .ret false) <|
  .az 0 0 <|
  .az 0 0 <|
  .az 0 0 <|
  .ret false) fun c1 =>
 .cl (Ot a0.Val) fun r2 =>
 .vN 0 r2 (
  .an 0 0 <|
  .an 0 0 <|
  .le (zt za) a0.Deps <|
  .an 0 0 <|
  .lI 0 (a0.Deps.length : Int) (fun c3 =>
   .an 0 0 <|
   .ret false) fun c3 =>
  .an 0 0 <|
  .eI a0.Kind 0 (fun c4 =>
   .le za a0.Addr <|
   .eI (a0.Addr.length : Int) 0 (fun c5 =>
    .eD a0.Act 0 <|
    .ret (decide (a0.Act = 0))) fun c5 =>
   .ret false) fun c4 =>
  .eI a0.Kind 5 (fun c5 =>
   .le za a0.Addr <|
   .eI (a0.Addr.length : Int) 0 (fun c6 =>
    .eD a0.Act 0 <|
    .ret (decide (a0.Act = 0))) fun c6 =>
   .ret false) fun c5 =>
  .eI a0.Kind 6 (fun c6 =>
   .le za a0.Addr <|
   .eI (a0.Addr.length : Int) 0 (fun c7 =>
    .eD a0.Act 0 <|
    .ret (decide (a0.Act = 0))) fun c7 =>
   .ret false) fun c6 =>
  .eI a0.Kind 1 (fun c7 =>
   .cl (qn a0.Addr) fun r8 =>
   .vM 0 r8 (
    .az 0 0 <|
    .az 0 0 <|
    .cl (xT a0.Act 1 4) fun r9 =>
    .az 0 1 <|
    .ret r9) <|
   .az 0 0 <|
   .az 0 0 <|
   .az 0 0 <|
   .ret false) fun c7 =>
  .eI a0.Kind 3 (fun c8 =>
   .cl (qn a0.Addr) fun r9 =>
   .vM 0 r9 (
    .az 0 0 <|
    .az 0 0 <|
    .eD a0.Act 0 <|
    .az 0 0 <|
    .ret (decide (a0.Act = 0))) <|
   .az 0 0 <|
   .az 0 0 <|
   .az 0 0 <|
   .ret false) fun c8 =>
  .eI a0.Kind 4 (fun c9 =>
   .cl (qn a0.Addr) fun r10 =>
   .vM 0 r10 (
    .az 0 0 <|
    .az 0 0 <|
    .eD a0.Act 0 <|
    .az 0 0 <|
    .ret (decide (a0.Act = 0))) <|
   .az 0 0 <|
   .az 0 0 <|
   .az 0 0 <|
   .ret false) fun c9 =>
  .ret false) <|
 .an 0 0 <|
 .an 0 0 <|
 .an 0 0 <|
 .an 0 0 <|
 .ret false) (zh Tryz.func79)
def kg (a0 : GState) (a1 : GEvent) : Option Bool :=
 (zJ a0 a1.Addr).bind fun ⟨r1_0, r1_1⟩ =>
 if a0.Serial = 1000000 then
  some false
 else
 if a1.Kind = 0 then
  some (!a0.Open)
 else
 if a1.Kind = 1 then
  match a0.Open with
  | true =>
   if (a0.Pending.length : Int) = 0 then
    if r1_1 = true then
     if a1.Act = 1 then
      some false
     else
     some true
    else
    if a1.Act = 1 then
     some (decide ((a0.Entries.length : Int) < 16))
    else
    some false
   else
   some false
  | false =>
   some false
 else
 if a1.Kind = 2 then
  (xp a0.Pending a1.Addr).bind fun r6 =>
  match r6 with
  | true =>
   some (!(decide (a0.Act = 4)))
  | false =>
   some false
 else
 if a1.Kind = 3 then
  (xp a0.Pending a1.Addr).bind fun r7 =>
  match r7 with
  | true =>
   some (decide (a0.Act = 4))
  | false =>
   some false
 else
 if a1.Kind = 4 then
  (xp a0.Pending a1.Addr).bind fun r8 =>
  some r8
 else
 if a1.Kind = 5 then
  match a0.Open with
  | true =>
   some (decide ((a0.Pending.length : Int) = 0))
  | false =>
   some false
 else
 some a0.Open
theorem V9 (a0 : GState) (a1 : GEvent) : Oc (kg a0 a1) 103 [] [.val true (yn a0), .val true (jp a1)] fun r => (vb r, []) := tc (
 .cl (wo a0 a1.Addr) fun ⟨r1_0, r1_1⟩ =>
 .eI a0.Serial 1000000 (fun c2 =>
  .ret false) fun c2 =>
 .eI a1.Kind 0 (fun c3 =>
  .ret (!a0.Open)) fun c3 =>
 .eI a1.Kind 1 (fun c4 =>
  .vM 1 a0.Open (
   .az 0 0 <|
   .az 0 0 <|
   .le za a0.Pending <|
   .az 0 0 <|
   .eD (a0.Pending.length : Int) 0 <|
   .az 0 0 <|
   .cI 0 ((a0.Pending.length : Int) = 0) (fun c5 =>
    .kT 0 (dT c5) <|
    .kT 0 (dT c5) <|
    .kT 0 (dT c5) <|
    .eD a1.Act 1 <|
    .kT 0 (dT c5) <|
    .sp (r1_1 = true) (fun c6 =>
     .sp (a1.Act = 1) (fun c7 =>
      .eb c6 (nT (dT c7)) <|
      .kT 0 (dT c5) <|
      .ret false) fun c7 =>
     .eb c6 (nF (dF c7)) <|
     .kT 0 (dT c5) <|
     .kT 2 c6 <|
     .kT 0 c6 <|
     .kT 0 c6 <|
     .kT 0 c6 <|
     .kT 1 c6 <|
     .ret true) fun c6 =>
    .sp (a1.Act = 1) (fun c7 =>
     .eb (bF c6) (nT (dT c7)) <|
     .kT 0 (dT c5) <|
     .kF 2 (bF c6) <|
     .kF 0 (bF c6) <|
     .kF 0 (bF c6) <|
     .le zl a0.Entries <|
     .kF 0 (bF c6) <|
     .lD (a0.Entries.length : Int) 16 <|
     .kF 1 (bF c6) <|
     .ret (decide ((a0.Entries.length : Int) < 16))) fun c7 =>
    .eb (bF c6) (nF (dF c7)) <|
    .kT 0 (dT c5) <|
    .ret false) fun c5 =>
   .kF 0 (dF c5) <|
   .kF 0 (dF c5) <|
   .kF 0 (dF c5) <|
   .kF 0 (dF c5) <|
   .kF 0 (dF c5) <|
   .ret false) <|
  .az 0 0 <|
  .az 0 0 <|
  .az 0 0 <|
  .az 0 0 <|
  .ret false) fun c4 =>
 .eI a1.Kind 2 (fun c5 =>
  .cl (ja a0.Pending a1.Addr) fun r6 =>
  .vM 0 r6 (
   .az 0 0 <|
   .az 0 0 <|
   .eD a0.Act 4 <|
   .az 0 0 <|
   .ret (!(decide (a0.Act = 4)))) <|
  .az 0 0 <|
  .az 0 0 <|
  .az 0 0 <|
  .ret false) fun c5 =>
 .eI a1.Kind 3 (fun c6 =>
  .cl (ja a0.Pending a1.Addr) fun r7 =>
  .vM 0 r7 (
   .az 0 0 <|
   .az 0 0 <|
   .eD a0.Act 4 <|
   .az 0 0 <|
   .ret (decide (a0.Act = 4))) <|
  .az 0 0 <|
  .az 0 0 <|
  .az 0 0 <|
  .ret false) fun c6 =>
 .eI a1.Kind 4 (fun c7 =>
  .cl (ja a0.Pending a1.Addr) fun r8 =>
  .ret r8) fun c7 =>
 .eI a1.Kind 5 (fun c8 =>
  .vM 1 a0.Open (
   .az 0 0 <|
   .az 0 0 <|
   .le za a0.Pending <|
   .az 0 0 <|
   .eD (a0.Pending.length : Int) 0 <|
   .az 0 0 <|
   .ret (decide ((a0.Pending.length : Int) = 0))) <|
  .az 0 0 <|
  .az 0 0 <|
  .az 0 0 <|
  .az 0 0 <|
  .ret false) fun c8 =>
 .ret a0.Open) (zh Tryz.func103)
def qC (a0 : Bool) (e0_0 : Int) (e0_1 : Bool) (e0_3 : Int) (e1 : (List UInt8)) (e2 : (List GEntry)) : Option GState :=
 if (e1.length : Int) = 0 then
  some (GState.mk e0_0 e0_1 e1 e0_3 e2)
 else
 (zJ (GState.mk e0_0 e0_1 e1 e0_3 e2) e1).bind fun ⟨r2_0, r2_1⟩ =>
 match r2_1 with
 | true =>
  (zv r2_0).bind fun i3 =>
  (e2[i3]?).bind fun x4 =>
  ((e2.set i3 (GEntry.mk x4.Addr x4.Val x4.Deps true x4.Turned))[i3]?).bind fun x5 =>
  some (GState.mk e0_0 e0_1 e1 e0_3 ((e2.set i3 (GEntry.mk x4.Addr x4.Val x4.Deps true x4.Turned)).set i3 (GEntry.mk x5.Addr x5.Val x5.Deps x5.Taint e0_0)))
 | false =>
  match a0 with
  | true =>
   (yb e1).bind fun r3 =>
   (wx r2_0 e2 [(GEntry.mk r3 (GValue.mk 5 0 [] [] []) [] false 0)]).bind fun r4 =>
   (zv r2_0).bind fun i5 =>
   (r4[i5]?).bind fun x6 =>
   ((r4.set i5 (GEntry.mk x6.Addr x6.Val x6.Deps true x6.Turned))[i5]?).bind fun x7 =>
   some (GState.mk e0_0 e0_1 e1 e0_3 ((r4.set i5 (GEntry.mk x6.Addr x6.Val x6.Deps true x6.Turned)).set i5 (GEntry.mk x7.Addr x7.Val x7.Deps x7.Taint e0_0)))
  | false =>
   some (GState.mk e0_0 e0_1 e1 e0_3 e2)
theorem Xo (a0 : Bool) (e0_0 : Int) (e0_1 : Bool) (e0_3 : Int) (e1 : (List UInt8)) (e2 : (List GEntry)) : Oc (qC a0 e0_0 e0_1 e0_3 e1 e2) 142 [.var [ci e0_0, .bool e0_1, .ref 1, ci e0_3, .ref 2], .obj 1 (eL za e1), .obj 9 (eL yc e2)] [vp 0 0, vb a0] fun r => (.tup [], [.var (Qf r), .dead, .dead]) := tc (
 .le za e1 <|
 .eI (e1.length : Int) 0 (fun c1 =>
  .ret (GState.mk e0_0 e0_1 e1 e0_3 e2)) fun c1 =>
 .vw zZ e1 <|
 .vo xY e2 <|
 .vw zZ e1 <|
 .cl (wo (GState.mk e0_0 e0_1 e1 e0_3 e2) e1) fun ⟨r2_0, r2_1⟩ =>
 .vN 0 r2_1 (
  .na r2_0 fun i3 =>
  .ix xy e2 i3 fun x4 =>
  .ag 0 <|
  .sl (xy (GEntry.mk x4.Addr x4.Val x4.Deps true x4.Turned)) e2 i3 <|
  .ag 1 <|
  .ix xy (e2.set i3 (GEntry.mk x4.Addr x4.Val x4.Deps true x4.Turned)) i3 fun x5 =>
  .ag 0 <|
  .sl (xy (GEntry.mk x5.Addr x5.Val x5.Deps x5.Taint e0_0)) (e2.set i3 (GEntry.mk x4.Addr x4.Val x4.Deps true x4.Turned)) i3 <|
  .ret (GState.mk e0_0 e0_1 e1 e0_3 ((e2.set i3 (GEntry.mk x4.Addr x4.Val x4.Deps true x4.Turned)).set i3 (GEntry.mk x5.Addr x5.Val x5.Deps x5.Taint e0_0)))) <|
 .vN 0 a0 (
  .vw zZ e1 <|
  .cl (xG e1) fun r3 =>
  .cn kh r3 <|
  .cl (Yg r2_0 e2 [(GEntry.mk r3 (GValue.mk 5 0 [] [] []) [] false 0)]) fun r4 =>
  .na r2_0 fun i5 =>
  .ix xy r4 i5 fun x6 =>
  .ag 0 <|
  .sl (xy (GEntry.mk x6.Addr x6.Val x6.Deps true x6.Turned)) r4 i5 <|
  .ag 1 <|
  .ix xy (r4.set i5 (GEntry.mk x6.Addr x6.Val x6.Deps true x6.Turned)) i5 fun x7 =>
  .ag 0 <|
  .sl (xy (GEntry.mk x7.Addr x7.Val x7.Deps x7.Taint e0_0)) (r4.set i5 (GEntry.mk x6.Addr x6.Val x6.Deps true x6.Turned)) i5 <|
  .ret (GState.mk e0_0 e0_1 e1 e0_3 ((r4.set i5 (GEntry.mk x6.Addr x6.Val x6.Deps true x6.Turned)).set i5 (GEntry.mk x7.Addr x7.Val x7.Deps x7.Taint e0_0)))) <|
 .ret (GState.mk e0_0 e0_1 e1 e0_3 e2)) (zh Tryz.func142)
def wA (a0 : GState) (a1 : GEvent) : Option (GState × Bool) :=
 (xl a0).bind fun r1 =>
 (kg a0 a1).bind fun r2 =>
 match r2 with
 | true =>
  (zJ (GState.mk (w64 (r1.Serial + 1)) r1.Open r1.Pending r1.Act r1.Entries) a1.Addr).bind fun ⟨r3_0, r3_1⟩ =>
  if a1.Kind = 0 then
   some ((GState.mk (w64 (r1.Serial + 1)) true r1.Pending r1.Act r1.Entries), true)
  else
  if a1.Kind = 1 then
   (yb a1.Addr).bind fun r6 =>
   some ((GState.mk (w64 (r1.Serial + 1)) r1.Open r6 a1.Act r1.Entries), true)
  else
  if a1.Kind = 2 then
   (yb a1.Addr).bind fun r7 =>
   (xV a1.Val).bind fun r8 =>
   (yN a1.Deps).bind fun r9 =>
   match r3_1 with
   | true =>
    (zv r3_0).bind fun i10 =>
    (r1.Entries[i10]?).bind fun x11 =>
    some ((GState.mk (w64 (r1.Serial + 1)) r1.Open [] 0 (r1.Entries.set i10 (GEntry.mk r7 r8 r9 false (w64 (r1.Serial + 1))))), true)
   | false =>
    (wx r3_0 r1.Entries [(GEntry.mk r7 r8 r9 false (w64 (r1.Serial + 1)))]).bind fun r10 =>
    some ((GState.mk (w64 (r1.Serial + 1)) r1.Open [] 0 r10), true)
  else
  if a1.Kind = 3 then
   (wy r3_0 (w64 (r3_0 + 1)) r1.Entries).bind fun r8 =>
   some ((GState.mk (w64 (r1.Serial + 1)) r1.Open [] 0 r8), true)
  else
  if a1.Kind = 4 then
   (qC false (w64 (r1.Serial + 1)) r1.Open r1.Act r1.Pending r1.Entries).bind fun r9 =>
   some ((GState.mk r9.Serial true [] 0 r9.Entries), true)
  else
  if a1.Kind = 6 then
   (qC true (w64 (r1.Serial + 1)) r1.Open r1.Act r1.Pending r1.Entries).bind fun r10 =>
   some ((GState.mk r10.Serial false [] 0 r10.Entries), true)
  else
  if a1.Kind = 5 then
   some ((GState.mk (w64 (r1.Serial + 1)) false [] 0 r1.Entries), true)
  else
  some ((GState.mk (w64 (r1.Serial + 1)) r1.Open [] 0 r1.Entries), true)
 | false =>
  some (r1, false)
theorem T7 (a0 : GState) (a1 : GEvent) : Oc (wA a0 a1) 80 [] [.val true (yn a0), .val true (jp a1)] fun r => (.tup [(true, (Qf r.1)), (false, [.bool r.2])], []) := tc (
 .cl (Wp a0) fun r1 =>
 .cl (V9 a0 a1) fun r2 =>
 .vN 0 r2 (
  .vw zZ r1.Pending <|
  .vo xY r1.Entries <|
  .cl (wo (GState.mk (w64 (r1.Serial + 1)) r1.Open r1.Pending r1.Act r1.Entries) a1.Addr) fun ⟨r3_0, r3_1⟩ =>
  .eI a1.Kind 0 (fun c4 =>
   .ret ((GState.mk (w64 (r1.Serial + 1)) true r1.Pending r1.Act r1.Entries), true)) fun c4 =>
  .eI a1.Kind 1 (fun c5 =>
   .cl (xG a1.Addr) fun r6 =>
   .ret ((GState.mk (w64 (r1.Serial + 1)) r1.Open r6 a1.Act r1.Entries), true)) fun c5 =>
  .eI a1.Kind 2 (fun c6 =>
   .cl (xG a1.Addr) fun r7 =>
   .cl (Wo a1.Val) fun r8 =>
   .cl (ZZ a1.Deps) fun r9 =>
   .vM 0 r3_1 (
    .na r3_0 fun i10 =>
    .ix xy r1.Entries i10 fun x11 =>
    .ag 0 <|
    .sl (xy (GEntry.mk r7 r8 r9 false (w64 (r1.Serial + 1)))) r1.Entries i10 <|
    .ret ((GState.mk (w64 (r1.Serial + 1)) r1.Open [] 0 (r1.Entries.set i10 (GEntry.mk r7 r8 r9 false (w64 (r1.Serial + 1))))), true)) <|
   .cl (Yg r3_0 r1.Entries [(GEntry.mk r7 r8 r9 false (w64 (r1.Serial + 1)))]) fun r10 =>
   .ret ((GState.mk (w64 (r1.Serial + 1)) r1.Open [] 0 r10), true)) fun c6 =>
  .eI a1.Kind 3 (fun c7 =>
   .cl (QY r3_0 (w64 (r3_0 + 1)) r1.Entries) fun r8 =>
   .ret ((GState.mk (w64 (r1.Serial + 1)) r1.Open [] 0 r8), true)) fun c7 =>
  .eI a1.Kind 4 (fun c8 =>
   .q (.eFo a1.Kind 6 (by omega)) <|
   .cl (Xo false (w64 (r1.Serial + 1)) r1.Open r1.Act r1.Pending r1.Entries) fun r9 =>
   .q (.eT c8) <|
   .ret ((GState.mk r9.Serial true [] 0 r9.Entries), true)) fun c8 =>
  .eI a1.Kind 6 (fun c9 =>
   .q (.eT c9) <|
   .cl (Xo true (w64 (r1.Serial + 1)) r1.Open r1.Act r1.Pending r1.Entries) fun r10 =>
   .q (.eF c8) <|
   .ret ((GState.mk r10.Serial false [] 0 r10.Entries), true)) fun c9 =>
  .eI a1.Kind 5 (fun c10 =>
   .ret ((GState.mk (w64 (r1.Serial + 1)) false [] 0 r1.Entries), true)) fun c10 =>
  .ret ((GState.mk (w64 (r1.Serial + 1)) r1.Open [] 0 r1.Entries), true)) <|
 .ret (r1, false)) (zh Tryz.func80)
def Y4 (F : GHistory → Option ((List GState) × Bool)) : Prop := ∀ (a0 : GHistory), Oc (F a0) 91 [] [.val true (yh a0)] fun r => (.tup [(false, [cq jo r.1]), (false, [.bool r.2])], [])
def yH (v0 : (List GEvent)) (v1 : Int) : Nat → Int → (List GState) → Option ((Bool × (List GState)) ⊕ (Int × (List GState)))
  | 0, _, _ => none
  | m + 1, v2, v3 =>
  if v2 < v1 then
   (zv v2).bind fun i2 =>
   (v0[i2]?).bind fun x3 =>
   (ZP x3).bind fun r4 =>
   match r4 with
   | true =>
    (v3[i2]?).bind fun x5 =>
    (wA x5 x3).bind fun ⟨r6_0, r6_1⟩ =>
    match r6_1 with
    | true =>
     if yM 72 (v3.length + [r6_0].length) then
     yH v0 v1 m (w64 (v2 + 1)) (v3 ++ [r6_0])
     else none
    | false =>
     some (.inl (false, []))
   | false =>
    some (.inl (false, []))
  else
  some (.inr (v2, v3))
theorem W5 (v0 : (List GEvent)) (v1 : Int) (m : Nat) : ∀ (v2 : Int) (v3 : (List GState)), Ol (yH v0 v1 m v2 v3) 91 (zN Tryz.f91 0) ⟨[(4, vr 0), (33, vq zB v0), (34, vi v1), (35, vi v2)], [.obj 5 (eL jo v3)], 0⟩ fun o => match o with | .inl ⟨o_0_0, o_0_1⟩ => (.ret, ⟨[(2, vr 0), (3, vb o_0_0)], [.obj 5 (eL jo o_0_1)], 0⟩) | .inr (⟨o_1_0, o_1_1⟩) => (.exit 0, ⟨[(4, vr 0), (33, vq zB v0), (34, vi v1), (35, vi o_1_0), (36, vb false)], [.obj 5 (eL jo o_1_1)], 0⟩) := by
  induction m with
  | zero => intro v2 v3 o h; cases h
  | succ m ih => exact fun v2 v3 => tlp (
   .lI v2 v1 (fun c1 =>
    .na v2 fun i2 =>
    .ix qD v0 i2 fun x3 =>
    .cl (UQ x3) fun r4 =>
    .vN 0 r4 (
     .ag 3 <|
     .ix jL v3 i2 fun x5 =>
     .ag 0 <|
     .cl (T7 x5 x3) fun ⟨r6_0, r6_1⟩ =>
     .vN 0 r6_1 (
      .vw zZ r6_0.Pending <|
      .vo xY r6_0.Entries <|
      .pl Yy [r6_0] <|
      .ap 72 Yy v3 [r6_0] fun n7 =>
      .go (ih (w64 (v2 + 1)) (v3 ++ [r6_0]))) <|
     .ret (.inl (false, []))) <|
    .ret (.inl (false, []))) fun c1 =>
   .ret (.inr (v2, v3)))
def qL (n : Nat) (a0 : GHistory) : Option ((List GState) × Bool) :=
 (kC a0.Base).bind fun r1 =>
 match r1 with
 | true =>
  if 300 < (a0.Events.length : Int) then
   some ([], false)
  else
  (y8 a0.Safe 0 (a0.Events.length : Int)).bind fun r3 =>
  match r3 with
  | true =>
   (xl a0.Base).bind fun r4 =>
   (yH a0.Events (a0.Events.length : Int) n 0 [r4]).bind fun o5 =>
   match o5 with
   | .inl ⟨o5_0_0, o5_0_1⟩ =>
    some (o5_0_1, o5_0_0)
   | .inr (⟨o5_1_0, o5_1_1⟩) =>
    some (o5_1_1, true)
  | false =>
   some ([], false)
 | false =>
  some ([], false)
theorem Jq (n : Nat) : Y4 (qL n) := fun a0 => tc (
 .cl (UP a0.Base) fun r1 =>
 .vN 0 r1 (
  .an 0 0 <|
  .an 0 0 <|
  .le zB a0.Events <|
  .an 0 0 <|
  .lI 300 (a0.Events.length : Int) (fun c2 =>
   .an 0 0 <|
   .vw Yy [] <|
   .ret ([], false)) fun c2 =>
  .an 0 0 <|
  .le zB a0.Events <|
  .cl (xT a0.Safe 0 (a0.Events.length : Int)) fun r3 =>
  .vN 2 r3 (
   .cl (Wp a0.Base) fun r4 =>
   .vw zZ r4.Pending <|
   .vo xY r4.Entries <|
   .le zB a0.Events <|
   .l2 (W5 a0.Events (a0.Events.length : Int) n 0 [r4]) (fun ⟨o5_0_0, o5_0_1⟩ =>
    .vw Yy o5_0_1 <|
    .ret (o5_0_1, o5_0_0)) fun ⟨o5_1_0, o5_1_1⟩ =>
   .vw Yy o5_1_1 <|
   .ret (o5_1_1, true)) <|
  .vw Yy [] <|
  .ret ([], false)) <|
 .an 0 0 <|
 .an 0 0 <|
 .an 0 0 <|
 .an 0 0 <|
 .vw Yy [] <|
 .ret ([], false)) (zh Tryz.func91)
def wq (a0 : GHistory) : Option ((List GState) × Bool) := qL (a0.Events.length + 5) a0
theorem WW (a0 : GHistory) (r : ((List GState) × Bool)) (h : wq a0 = some r) : ∃ n, qL n a0 = some r := ⟨_, h⟩
theorem QW : Y4 wq := fun a0 r h => (WW a0 r h).elim fun n hn => Jq n a0 r hn
def vX (a0 : GStep) : Option Bool :=
 if a0.Kind = 0 then
  (xq a0.Key).bind fun r2 =>
  match r2 with
  | true =>
   some (!(decide (a0.I = 0)))
  | false =>
   some true
 else
 if a0.Kind = 1 then
  if 0 < (a0.Key.length : Int) then
   some true
  else
  (y8 a0.I 0 39).bind fun r4 =>
  some (!r4)
 else
 some true
theorem T8 (a0 : GStep) : Oc (vX a0) 157 [] [.val true (X7 a0)] fun r => (vb r, []) := tc (
 .eI a0.Kind 0 (fun c1 =>
  .cl (ZM a0.Key) fun r2 =>
  .vN 0 r2 (
   .an 0 0 <|
   .an 0 0 <|
   .eD a0.I 0 <|
   .an 0 0 <|
   .ret (!(decide (a0.I = 0)))) <|
  .an 0 0 <|
  .an 0 0 <|
  .an 0 0 <|
  .ret true) fun c1 =>
 .eI a0.Kind 1 (fun c2 =>
  .le za a0.Key <|
  .lI 0 (a0.Key.length : Int) (fun c3 =>
   .ret true) fun c3 =>
  .cl (xT a0.I 0 39) fun r4 =>
  .ret (!r4)) fun c2 =>
 .ret true) (zh Tryz.func157)
def jm (F : (List GStep) → Option Int) : Prop := ∀ (a0 : (List GStep)), Oc (F a0) 181 [] [vq zw a0, .val false [.fn 157 []]] fun r => (vi r, [])
def zY (a0 : (List GStep)) (v1 : Int) : Nat → Int → Option (Int ⊕ Int)
  | 0, _ => none
  | m + 1, v2 =>
  if v2 < v1 then
   (zv v2).bind fun i2 =>
   (a0[i2]?).bind fun x3 =>
   (vX x3).bind fun r4 =>
   match r4 with
   | true =>
    some (.inl v2)
   | false =>
    zY a0 v1 m (w64 (v2 + 1))
  else
  some (.inr v2)
theorem Zt (a0 : (List GStep)) (v1 : Int) (m : Nat) : ∀ (v2 : Int), Ol (zY a0 v1 m v2) 181 (zN Tryz.f181 0) ⟨[(0, vq zw a0), (1, .val false [.fn 157 []]), (7, vi v1), (8, vi v2)], [], 0⟩ fun o => match o with | .inl o_0 => (.ret, ⟨[(4, vi o_0)], [], 0⟩) | .inr (o_1) => (.exit 0, ⟨[(0, vq zw a0), (1, .val false [.fn 157 []]), (7, vi v1), (8, vi o_1), (9, vb false)], [], 0⟩) := by
  induction m with
  | zero => intro v2 o h; cases h
  | succ m ih => exact fun v2 => tlp (
   .lI v2 v1 (fun c1 =>
    .na v2 fun i2 =>
    .ix qO a0 i2 fun x3 =>
    .cl (T8 x3) fun r4 =>
    .vM 0 r4 (
     .ret (.inl v2)) <|
    .go (ih (w64 (v2 + 1)))) fun c1 =>
   .ret (.inr v2))
def yP (n : Nat) (a0 : (List GStep)) : Option Int :=
 (zY a0 (a0.length : Int) n 0).bind fun o1 =>
 match o1 with
 | .inl o1_0 =>
  some o1_0
 | .inr (o1_1) =>
  some (-1)
theorem Yw (n : Nat) : jm (yP n) := fun a0 => tc (
 .le zw a0 <|
 .l2 (Zt a0 (a0.length : Int) n 0) (fun o1_0 =>
  .ret o1_0) fun o1_1 =>
 .ret (-1)) (zh Tryz.func181)
theorem H5 {s : GStep} (hs : s.Key.length <= 2 ^ 20) : vX s = some (!qV s) := by
 unfold vX qV xq
 by_cases k0 : s.Kind = 0
 ·rw [if_pos k0, if_pos k0, if_pos hs, Option.bind_some]
  cases wD s.Key <;> rfl
 ·rw [if_neg k0, if_neg k0]
  by_cases k1 : s.Kind = 1
  ·rw [if_pos k1]
   by_cases hk : s.Key = []
   ·rw [if_neg (by rw [hk]; simp), YW, Option.bind_some]
    congr 2
    exact decide_eq_decide.2 ⟨fun h => ⟨k1, hk, h.1, h.2⟩, fun h => ⟨h.2.2.1, h.2.2.2⟩⟩
   ·rw [if_pos (by
     have : s.Key.length ≠ 0 := fun e => hk (List.eq_nil_of_length_eq_zero e)
     omega), decide_eq_false (fun h => hk h.2.1)]
    rfl
  ·rw [if_neg k1, decide_eq_false (fun h => k1 h.1)]; rfl
theorem NW {a : List GStep} (ha : wT a <= 2 ^ 20) : ∀ (l p : List GStep) (m : Nat), a = p ++ l → l.length < m → ∃ z, 0 <= z ∧ zY a (a.length : Int) m (p.length : Int) = some (if l.all qV = true then .inr z else .inl z) := by
 have hlen := QO a
 intro l
 induction l with
 | nil =>
  intro p m he hm
  obtain ⟨m, rfl, _⟩ := zi hm
  exact ⟨(p.length : Int), by omega, by rw [zY, he, List.append_nil, if_neg (by omega), List.all_nil, if_pos rfl]⟩
 | cons s l ih =>
  intro p m he hm
  obtain ⟨m, rfl, hm'⟩ := zi hm
  have hl : a.length = p.length + (l.length + 1) := by rw [he]; simp
  have hx : 1 + vK s <= wT a := QN (by rw [he]; simp)
  unfold vK at hx
  obtain ⟨z, hz0, hz⟩ := ih (p ++ [s]) m (by rw [he]; simp) (by simp only [List.length_cons] at hm'; omega)
  rw [zY, if_pos (by omega), zb, Option.bind_some, show a[p.length]? = some s by rw [he]; exact wP p s l, Option.bind_some, H5 (by omega), Option.bind_some, qw p s (by omega), List.all_cons]
  cases qV s with
  | false => exact ⟨(p.length : Int), by omega, rfl⟩
  | true => exact ⟨z, hz0, by rw [Bool.true_and]; exact hz⟩
def yx (a0 : (List GStep)) : Option Int := yP (a0.length + 1) a0
theorem ZQ (a0 : (List GStep)) (r : Int) (h : yx a0 = some r) : ∃ n, yP n a0 = some r := ⟨_, h⟩
theorem Dc {a : List GStep} (ha : wT a <= 2 ^ 20) : ∃ z, yx a = some z ∧ decide (0 <= z) = !(a.all qV) := by
 obtain ⟨z, h0, hz⟩ := NW ha a [] (a.length + 1) rfl (by omega)
 unfold yx yP
 simp only [List.length_nil, Int.natCast_zero] at hz
 rw [hz, Option.bind_some]
 cases a.all qV with
 | true => exact ⟨-1, rfl, rfl⟩
 | false => exact ⟨z, rfl, by rw [decide_eq_true h0]; rfl⟩
theorem Yf : jm yx := fun a0 r h => (ZQ a0 r h).elim fun n hn => Yw n a0 r hn
def xx (a0 : (List GStep)) : Option Bool :=
 (yx a0).bind fun r1 =>
 some (decide (0 <= r1))
theorem Zu (a0 : (List GStep)) : Oc (xx a0) 156 [] [vq zw a0, .val false [.fn 157 []]] fun r => (vb r, []) := tc (
 .cl (Yf a0) fun r1 =>
 .gD 0 r1 <|
 .ret (decide (0 <= r1))) (zh Tryz.func156)
def Yl (a0 : (List GStep)) : Option Bool :=
 if (a0.length : Int) <= 6 then
  (xx a0).bind fun r2 =>
  some (!r2)
 else
 some false
theorem Ou (a0 : (List GStep)) : Oc (Yl a0) 111 [] [vq zw a0] fun r => (vb r, []) := tc (
 .le zw a0 <|
 .gI (a0.length : Int) 6 (fun c1 =>
  .cl (Zu a0) fun r2 =>
  .ret (!r2)) fun c1 =>
 .ret false) (zh Tryz.func111)
def wW (F : (List (List UInt8)) → (List UInt8) → Option (Int × Bool)) : Prop := ∀ (a0 : (List (List UInt8))) (a1 : (List UInt8)), Oc (F a0 a1) 206 [] [vq (zt za) a0, vq za a1, .val false [.fn 121 []]] fun r => (.tup [(false, [ci r.1]), (false, [.bool r.2])], [])
def zx (a0 : (List (List UInt8))) (a1 : (List UInt8)) (v2 : Int) : Nat → Int → Int → Option (Int × Int)
  | 0, _, _ => none
  | m + 1, v3, v4 =>
  if v3 < v4 then
   (zv (w64 (vC .shr .u64 (IntKind.u64.wrap (w64 (v3 + v4))) 1))).bind fun i2 =>
   (a0[i2]?).bind fun x3 =>
   (ya x3 a1).bind fun r4 =>
   if r4 < 0 then
    zx a0 a1 v2 m (w64 ((w64 (vC .shr .u64 (IntKind.u64.wrap (w64 (v3 + v4))) 1)) + 1)) v4
   else
   zx a0 a1 v2 m v3 (w64 (vC .shr .u64 (IntKind.u64.wrap (w64 (v3 + v4))) 1))
  else
  some (v3, v4)
theorem kD (a0 : (List (List UInt8))) (a1 : (List UInt8)) (v2 : Int) (m : Nat) : ∀ (v3 : Int) (v4 : Int), Ol (zx a0 a1 v2 m v3 v4) 206 (zN Tryz.f206 0) ⟨[(0, vq (zt za) a0), (1, vq za a1), (2, .val false [.fn 121 []]), (8, vi v2), (9, vi v3), (10, vi v4)], [], 0⟩ fun o => match o with | ⟨o_0, o_1⟩ => (.exit 0, ⟨[(0, vq (zt za) a0), (1, vq za a1), (2, .val false [.fn 121 []]), (8, vi v2), (9, vi o_0), (10, vi o_1), (17, vb false)], [], 0⟩) := by
  induction m with
  | zero => intro v3 v4 o h; cases h
  | succ m ih => exact fun v3 v4 => tlp (
   .lI v3 v4 (fun c1 =>
    .q (.gTo 0 1 (by decide)) <|
    .cw (vC .shr .u64 (IntKind.u64.wrap (w64 (v3 + v4))) 1) <|
    .na (w64 (vC .shr .u64 (IntKind.u64.wrap (w64 (v3 + v4))) 1)) fun i2 =>
    .ix0 (zt za) a0 i2 fun x3 =>
    .cl (xh x3 a1) fun r4 =>
    .lI r4 0 (fun c5 =>
     .go (ih (w64 ((w64 (vC .shr .u64 (IntKind.u64.wrap (w64 (v3 + v4))) 1)) + 1)) v4)) fun c5 =>
    .go (ih v3 (w64 (vC .shr .u64 (IntKind.u64.wrap (w64 (v3 + v4))) 1)))) fun c1 =>
   .ret (v3, v4))
def yY (n : Nat) (a0 : (List (List UInt8))) (a1 : (List UInt8)) : Option (Int × Bool) :=
 (zx a0 a1 (a0.length : Int) n 0 (a0.length : Int)).bind fun ⟨o1_0, o1_1⟩ =>
 if o1_0 < (a0.length : Int) then
  (zv o1_0).bind fun i3 =>
  (a0[i3]?).bind fun x4 =>
  (ya x4 a1).bind fun r5 =>
  some (o1_0, (decide (r5 = 0)))
 else
 some (o1_0, false)
theorem vH (n : Nat) : wW (yY n) := fun a0 a1 => tc (
 .le (zt za) a0 <|
 .lp (kD a0 a1 (a0.length : Int) n 0 (a0.length : Int)) fun ⟨o1_0, o1_1⟩ =>
 .lI o1_0 (a0.length : Int) (fun c2 =>
  .na o1_0 fun i3 =>
  .ix0 (zt za) a0 i3 fun x4 =>
  .cl (xh x4 a1) fun r5 =>
  .eD r5 0 <|
  .ret (o1_0, (decide (r5 = 0)))) fun c2 =>
 .ret (o1_0, false)) (zh Tryz.func206)
theorem Nb {a : List (List UInt8)} {x : List UInt8} {c : Nat} {v2 : Int} (hp : qv a x c) (ha : a.length <= 2 ^ 40) : ∀ (d i j m : Nat), j - i <= d → i <= c → c <= j → j <= a.length → d < m → zx a x v2 m (i : Int) (j : Int) = some ((c : Int), (c : Int)) := by
 intro d
 induction d with
 | zero =>
  intro i j m hd h1 h2 h3 hm
  obtain ⟨m, rfl, _⟩ := zi hm
  rw [zx, if_neg (by omega), show i = c by omega, show j = c by omega]
 | succ d ih =>
  intro i j m hd h1 h2 h3 hm
  obtain ⟨m, rfl, hm'⟩ := zi hm
  by_cases hij : i < j
  ·have hk : (i + j) / 2 < a.length := by omega
   rw [zx, if_pos (by omega), Nz (by omega), zb, Option.bind_some, zd hk, Option.bind_some]
   unfold ya y5
   simp only [Option.bind_some]
   have hq := hp.2 _ hk
   by_cases hl : Op.bytesLess a[(i + j) / 2] x = true
   ·rw [if_pos (by rw [Jv]; exact hl), z7 (by omega)]
    have := hq.2 hl
    exact ih _ _ m (by omega) (by omega) h2 h3 (by omega)
   ·rw [if_neg (by rw [Jv]; exact hl)]
    have : ¬ (i + j) / 2 < c := fun h => hl (hq.1 h)
    exact ih _ _ m (by omega) h1 (by omega) (by omega) (by omega)
  ·rw [zx, if_neg (by omega), show i = c by omega, show j = c by omega]
open Classical in
noncomputable def zQ (a0 : (List (List UInt8))) (a1 : (List UInt8)) : Option (Int × Bool) := if h : a0.length <= 2 ^ 40 ∧ ∃ c, qv a0 a1 c then some (((Classical.choose h.2 : Nat) : Int), decide (a0[Classical.choose h.2]? = some a1)) else none
theorem H6 {a : List (List UInt8)} {x : List UInt8} (ha : a.length <= 2 ^ 40) (h : Asc a) : ∃ c, qv a x c ∧ zQ a x = some ((c : Int), decide (x ∈ a)) := by
 have he : a.length <= 2 ^ 40 ∧ ∃ c, qv a x c := ⟨ha, qv.of h x⟩
 refine ⟨Classical.choose he.2, Classical.choose_spec he.2, ?_⟩
 unfold zQ
 rw [dif_pos he]
 congr 2
 exact decide_eq_decide.2 (qv.mem h (Classical.choose_spec he.2))
theorem kO (a0 : (List (List UInt8))) (a1 : (List UInt8)) (r : (Int × Bool)) (h : zQ a0 a1 = some r) : ∃ n, yY n a0 a1 = some r := by
 unfold zQ at h
 split at h
 ·rename_i he
  have hp := Classical.choose_spec he.2
  generalize Classical.choose he.2 = c at h hp
  refine ⟨a0.length + 1, ?_⟩
  unfold yY
  have hl := Nb (v2 := (a0.length : Int)) hp he.1 a0.length 0 a0.length (a0.length + 1) (by omega) (by omega) hp.1 (Nat.le_refl _) (by omega)
  rw [show ((0 : Nat) : Int) = 0 from rfl] at hl
  rw [hl, Option.bind_some]
  dsimp only
  rw [<- h]
  by_cases hc : c < a0.length
  ·rw [if_pos (by omega), zb, Option.bind_some, zd hc, Option.bind_some]
   unfold ya y5
   simp only [Option.bind_some]
   congr 2
   exact decide_eq_decide.2 ((TN _ _).trans (by simp))
  ·rw [if_neg (by omega), List.getElem?_eq_none (by omega)]
   simp
 ·cases h
theorem vv : wW zQ := fun a0 a1 r h => (kO a0 a1 r h).elim fun n hn => vH n a0 a1 r hn
def jI (a0 : GValue) (a1 : (List UInt8)) : Option (Int × Bool) :=
 (zQ a0.K a1).bind fun ⟨r1_0, r1_1⟩ =>
 some (r1_0, r1_1)
theorem KA (a0 : GValue) (a1 : (List UInt8)) : Oc (jI a0 a1) 182 [] [.val true (zq a0), vq za a1] fun r => (.tup [(false, [ci r.1]), (false, [.bool r.2])], []) := tc (
 .cl (vv a0.K a1) fun ⟨r1_0, r1_1⟩ =>
 .ret (r1_0, r1_1)) (zh Tryz.func182)
def QD (F : GValue → (List GStep) → Option (GValue ⊕ Unit)) : Prop := ∀ (a0 : GValue) (a1 : (List GStep)), Oc (F a0 a1) 159 [] [.val false [.rptr (zq a0)], vq zw a1] fun r => (vO zq r, [])
def yL (a1 : (List GStep)) (v6 : Int) : Nat → Int → Int → (List UInt8) → (List (List UInt8)) → (List GValue) → Int → Option (Unit ⊕ (Int × Int × (List UInt8) × (List (List UInt8)) × (List GValue) × Int))
  | 0, _, _, _, _, _, _ => none
  | m + 1, v0, v1, v2, v3, v4, v7 =>
  if v7 < v6 then
   (zv v7).bind fun i2 =>
   (a1[i2]?).bind fun x3 =>
   if x3.Kind = 0 then
    (jI (GValue.mk v0 v1 v2 v3 v4) x3.Key).bind fun ⟨r5_0, r5_1⟩ =>
    if v0 = 5 then
     match r5_1 with
     | true =>
      (zv r5_0).bind fun i7 =>
      (v4[i7]?).bind fun x8 =>
      yL a1 v6 m x8.Kind x8.N x8.S x8.K x8.L (w64 (v7 + 1))
     | false =>
      some (.inl ())
    else
    some (.inl ())
   else
   if v0 = 4 then
    if (v4.length : Int) <= x3.I then
     some (.inl ())
    else
    (zv x3.I).bind fun i7 =>
    (v4[i7]?).bind fun x8 =>
    yL a1 v6 m x8.Kind x8.N x8.S x8.K x8.L (w64 (v7 + 1))
   else
   some (.inl ())
  else
  some (.inr (v0, v1, v2, v3, v4, v7))
theorem KB (a1 : (List GStep)) (v6 : Int) (m : Nat) : ∀ (v0 : Int) (v1 : Int) (v2 : (List UInt8)) (v3 : (List (List UInt8))) (v4 : (List GValue)) (v7 : Int), Ol (yL a1 v6 m v0 v1 v2 v3 v4 v7) 159 (zN Tryz.f159 0) ⟨[(0, .val false [.rptr [ci v0, ci v1, cq za v2, cq (zt za) v3, cq zf v4]]), (10, vq zw a1), (11, vi v6), (12, vi v7)], [], 0⟩ fun o => match o with | .inl () => (.ret, ⟨[(4, .val false [.raw (.pointer none)])], [], 0⟩) | .inr (⟨o_1_0, o_1_1, o_1_2, o_1_3, o_1_4, o_1_5⟩) => (.exit 0, ⟨[(0, .val false [.rptr [ci o_1_0, ci o_1_1, cq za o_1_2, cq (zt za) o_1_3, cq zf o_1_4]]), (10, vq zw a1), (11, vi v6), (12, vi o_1_5), (13, vb false)], [], 0⟩) := by
  induction m with
  | zero => intro v0 v1 v2 v3 v4 v7 o h; cases h
  | succ m ih => exact fun v0 v1 v2 v3 v4 v7 => tlp (
   .lI v7 v6 (fun c1 =>
    .na v7 fun i2 =>
    .ix qO a1 i2 fun x3 =>
    .eI x3.Kind 0 (fun c4 =>
     .cl (KA (GValue.mk v0 v1 v2 v3 v4) x3.Key) fun ⟨r5_0, r5_1⟩ =>
     .eI v0 5 (fun c6 =>
      .vN 3 r5_1 (
       .na r5_0 fun i7 =>
       .ix zO v4 i7 fun x8 =>
       .go (ih x8.Kind x8.N x8.S x8.K x8.L (w64 (v7 + 1)))) <|
      .ret (.inl ())) fun c6 =>
     .ret (.inl ())) fun c4 =>
    .eI v0 4 (fun c5 =>
     .le zf v4 <|
     .gI (v4.length : Int) x3.I (fun c6 =>
      .ret (.inl ())) fun c6 =>
     .na x3.I fun i7 =>
     .ix zO v4 i7 fun x8 =>
     .go (ih x8.Kind x8.N x8.S x8.K x8.L (w64 (v7 + 1)))) fun c5 =>
    .ret (.inl ())) fun c1 =>
   .ret (.inr (v0, v1, v2, v3, v4, v7)))
def vY (n : Nat) (a0 : GValue) (a1 : (List GStep)) : Option (GValue ⊕ Unit) :=
 (yL a1 (a1.length : Int) n a0.Kind a0.N a0.S a0.K a0.L 0).bind fun o1 =>
 match o1 with
 | .inl () =>
  some (.inr ())
 | .inr (⟨o1_1_0, o1_1_1, o1_1_2, o1_1_3, o1_1_4, o1_1_5⟩) =>
  some (.inl (GValue.mk o1_1_0 o1_1_1 o1_1_2 o1_1_3 o1_1_4))
theorem UR (n : Nat) : QD (vY n) := fun a0 a1 => tc (
 .le zw a1 <|
 .l2 (KB a1 (a1.length : Int) n a0.Kind a0.N a0.S a0.K a0.L 0) (fun ⟨⟩ =>
  .ret (.inr ())) fun ⟨o1_1_0, o1_1_1, o1_1_2, o1_1_3, o1_1_4, o1_1_5⟩ =>
 .ret (.inl (GValue.mk o1_1_0 o1_1_1 o1_1_2 o1_1_3 o1_1_4))) (zh Tryz.func159)
def jJ (a0 : GValue) (a1 : (List GStep)) : Option (GValue ⊕ Unit) := vY (a1.length + 5) a0 a1
theorem VA (a0 : GValue) (a1 : (List GStep)) (r : (GValue ⊕ Unit)) (h : jJ a0 a1 = some r) : ∃ n, vY n a0 a1 = some r := ⟨_, h⟩
theorem T9 : QD jJ := fun a0 a1 r h => (VA a0 a1 r h).elim fun n hn => UR n a0 a1 r hn
def wL (a0 : GState) (a1 : (List UInt8)) (a2 : (List GStep)) : Option (GValue ⊕ Unit) :=
 (zJ a0 a1).bind fun ⟨r1_0, r1_1⟩ =>
 match r1_1 with
 | true =>
  (zv r1_0).bind fun i2 =>
  (a0.Entries[i2]?).bind fun x3 =>
  (jJ x3.Val a2).bind fun o4 =>
  match o4 with
  | .inl o4_0 =>
   some (.inl o4_0)
  | .inr (_) =>
   some (.inr ())
 | false =>
  some (.inr ())
theorem Zv (a0 : GState) (a1 : (List UInt8)) (a2 : (List GStep)) : Oc (wL a0 a1 a2) 112 [] [.val true (yn a0), vq za a1, vq zw a2] fun r => (vO zq r, []) := tc (
 .cl (wo a0 a1) fun ⟨r1_0, r1_1⟩ =>
 .vN 0 r1_1 (
  .na r1_0 fun i2 =>
  .ix zX a0.Entries i2 fun x3 =>
  .c2 (T9 x3.Val a2) (fun o4_0 =>
   .ret (.inl o4_0)) fun _ =>
  .ret (.inr ())) <|
 .ret (.inr ())) (zh Tryz.func112)
def vZ (a0 : Int) : Option Bool :=
 some false
theorem WX (a0 : Int) : Oc (vZ a0) 183 [] [vi a0] fun r => (vb r, []) := tc (
 .q (.eTo a0 a0 (by omega)) <|
 .ret false) (zh Tryz.func183)
def wM (a0 : Int) (a1 : Int) : Option Int :=
 (vZ a0).bind fun r1 =>
 (vZ a1).bind fun r2 =>
 match r1 with
 | true =>
  match r2 with
  | true =>
   some 0
  | false =>
   some (-1)
 | false =>
  match r2 with
  | true =>
   some 1
  | false =>
   if a0 < a1 then
    some (-1)
   else
   if a1 < a0 then
    some 1
   else
   some 0
theorem Zw (a0 : Int) (a1 : Int) : Oc (wM a0 a1) 161 [] [vi a0, vi a1] fun r => (vi r, []) := tc (
 .cl (WX a0) fun r1 =>
 .cl (WX a1) fun r2 =>
 .vM 0 r1 (
  .vM 0 r2 (
   .ret 0) <|
  .ret (-1)) <|
 .vM 0 r2 (
  .ret 1) <|
 .lI a0 a1 (fun c3 =>
  .ret (-1)) fun c3 =>
 .lI a1 a0 (fun c4 =>
  .ret 1) fun c4 =>
 .ret 0) (zh Tryz.func161)
def VB (F : (List Int) → Option Int) : Prop := ∀ (a0 : (List Int)), Oc (F a0) 160 [] [vq YH a0] fun r => (vi r, [])
def qM (v0 : Int) (a0 : (List Int)) (v2 : Int) : Nat → Int → Option (Int ⊕ Int)
  | 0, _ => none
  | m + 1, v3 =>
  if v3 < v2 then
   (zv v3).bind fun i2 =>
   (a0[i2]?).bind fun x3 =>
   if x3 = v0 then
    qM v0 a0 v2 m (w64 (v3 + 1))
   else
   some (.inl x3)
  else
  some (.inr v3)
theorem TA (v0 : Int) (a0 : (List Int)) (v2 : Int) (m : Nat) : ∀ (v3 : Int), Ol (qM v0 a0 v2 m v3) 160 (zN Tryz.f160 0) ⟨[(3, vi v0), (6, vq YH a0), (7, vi v2), (8, vi v3)], [], 0⟩ fun o => match o with | .inl o_0 => (.ret, ⟨[(2, vi o_0)], [], 0⟩) | .inr (o_1) => (.exit 0, ⟨[(3, vi v0), (6, vq YH a0), (7, vi v2), (8, vi o_1), (9, vb false)], [], 0⟩) := by
  induction m with
  | zero => intro v3 o h; cases h
  | succ m ih => exact fun v3 => tlp (
   .lI v3 v2 (fun c1 =>
    .na v3 fun i2 =>
    .ix0 YH a0 i2 fun x3 =>
    .eI x3 v0 (fun c4 =>
     .go (ih (w64 (v3 + 1)))) fun c4 =>
    .ret (.inl x3)) fun c1 =>
   .ret (.inr v3))
def WY (n : Nat) (a0 : (List Int)) : Option Int :=
 (qM 0 a0 (a0.length : Int) n 0).bind fun o1 =>
 match o1 with
 | .inl o1_0 =>
  some o1_0
 | .inr (o1_1) =>
  some 0
theorem Nc (n : Nat) : VB (WY n) := fun a0 => tc (
 .le YH a0 <|
 .l2 (TA 0 a0 (a0.length : Int) n 0) (fun o1_0 =>
  .ret o1_0) fun o1_1 =>
 .ret 0) (zh Tryz.func160)
def orI : List Int → Int
 | [] => 0
 | x :: l => if x = 0 then orI l else x
theorem H7 {a : List Int} (ha : a.length <= 2 ^ 20) : ∀ (d i m : Nat), i + d = a.length → d < m → ∃ z, qM 0 a (a.length : Int) m (i : Int) = some z ∧ (match z with | .inl x => x | .inr _ => 0) = orI (a.drop i) := by
 intro d
 induction d with
 | zero =>
  intro i m hi hm
  obtain ⟨m, rfl, _⟩ := zi hm
  refine ⟨.inr i, by rw [qM, if_neg (by omega)], ?_⟩
  rw [List.drop_eq_nil_of_le (by omega)]; rfl
 | succ d ih =>
  intro i m hi hm
  obtain ⟨m, rfl, hm'⟩ := zi hm
  have hil : i < a.length := by omega
  rw [qM, if_pos (by omega), zb, Option.bind_some, zd hil, Option.bind_some, yU hil, orI]
  by_cases h : a[i] = 0
  ·rw [if_pos h, if_pos h, z7 (by omega)]
   exact ih (i + 1) m (by omega) (by omega)
  ·rw [if_neg h, if_neg h]
   exact ⟨_, rfl, rfl⟩
def kE (a0 : (List Int)) : Option Int := if a0.length <= 2 ^ 20 then some (orI a0) else none
theorem US (a0 : (List Int)) (r : Int) (h : kE a0 = some r) : ∃ n, WY n a0 = some r := by
 unfold kE at h
 obtain ⟨ha, h⟩ := zF h
 obtain ⟨z, h1, h2⟩ := H7 ha a0.length 0 (a0.length + 1) (by omega) (by omega)
 refine ⟨a0.length + 1, ?_⟩
 unfold WY
 rw [show (0 : Int) = ((0 : Nat) : Int) from rfl]
 rw [List.drop_zero] at h2
 refine (congrArg (fun x => Option.bind x _) h1).trans ?_
 rw [Option.bind_some, <- h, <- h2]
 cases z <;> rfl
theorem L7 : VB kE := fun a0 r h => (US a0 r h).elim fun n hn => Nc n a0 r hn
def wB (F : GValue → GValue → Option Int) : Prop := ∀ (a0 : GValue) (a1 : GValue), Oc (F a0 a1) 113 [] [.val true (zq a0), .val true (zq a1)] fun r => (vi r, [])
def yg (G_impl_compareValues : GValue → GValue → Option Int) (v0 : Int) (a0 : GValue) (a1 : GValue) : Nat → Int → Option (Int ⊕ Int)
  | 0, _ => none
  | m + 1, v1 =>
  if v1 < v0 then
   if a0.Kind = 5 then
    (zv v1).bind fun i3 =>
    (a0.K[i3]?).bind fun x4 =>
    (a1.K[i3]?).bind fun x5 =>
    (ya x4 x5).bind fun r6 =>
    if r6 = 0 then
     (a0.L[i3]?).bind fun x8 =>
     (a1.L[i3]?).bind fun x9 =>
     (G_impl_compareValues x8 x9).bind fun r10 =>
     if r10 = 0 then
      yg G_impl_compareValues v0 a0 a1 m (w64 (v1 + 1))
     else
     some (.inl r10)
    else
    some (.inl r6)
   else
   (zv v1).bind fun i3 =>
   (a0.L[i3]?).bind fun x4 =>
   (a1.L[i3]?).bind fun x5 =>
   (G_impl_compareValues x4 x5).bind fun r6 =>
   if r6 = 0 then
    yg G_impl_compareValues v0 a0 a1 m (w64 (v1 + 1))
   else
   some (.inl r6)
  else
  some (.inr v1)
theorem WZ (G_impl_compareValues : GValue → GValue → Option Int) (H_impl_compareValues : wB G_impl_compareValues) (v0 : Int) (a0 : GValue) (a1 : GValue) (m : Nat) : ∀ (v1 : Int), Ol (yg G_impl_compareValues v0 a0 a1 m v1) 113 (zN Tryz.f113 0) ⟨[(2, vp 0 0), (3, vp 1 0), (35, vi v0), (36, vi v1)], [.var (zq a0), .var (zq a1)], 0⟩ fun o => match o with | .inl o_0 => (.ret, ⟨[(4, vi o_0)], [], 0⟩) | .inr (o_1) => (.exit 0, ⟨[(2, vp 0 0), (3, vp 1 0), (35, vi v0), (36, vi o_1), (37, vb false)], [.var (zq a0), .var (zq a1)], 0⟩) := by
  induction m with
  | zero => intro v1 o h; cases h
  | succ m ih => exact fun v1 => tlp (
   .lI v1 v0 (fun c1 =>
    .eI a0.Kind 5 (fun c2 =>
     .na v1 fun i3 =>
     .ix0 (zt za) a0.K i3 fun x4 =>
     .ag 1 <|
     .ix0 (zt za) a1.K i3 fun x5 =>
     .cl (xh x4 x5) fun r6 =>
     .eI r6 0 (fun c7 =>
      .ag 3 <|
      .ix zO a0.L i3 fun x8 =>
      .ag 4 <|
      .ix zO a1.L i3 fun x9 =>
      .cl (H_impl_compareValues x8 x9) fun r10 =>
      .eI r10 0 (fun c11 =>
       .go (ih (w64 (v1 + 1)))) fun c11 =>
      .ret (.inl r10)) fun c7 =>
     .ret (.inl r6)) fun c2 =>
    .na v1 fun i3 =>
    .ix zO a0.L i3 fun x4 =>
    .ag 1 <|
    .ix zO a1.L i3 fun x5 =>
    .cl (H_impl_compareValues x4 x5) fun r6 =>
    .eI r6 0 (fun c7 =>
     .go (ih (w64 (v1 + 1)))) fun c7 =>
    .ret (.inl r6)) fun c1 =>
   .ret (.inr v1))
def qU (G_impl_compareValues : GValue → GValue → Option Int) (n : Nat) (a0 : GValue) (a1 : GValue) : Option Int :=
 (wM a0.Kind a1.Kind).bind fun r1 =>
 (wM a0.N a1.N).bind fun r2 =>
 (ya a0.S a1.S).bind fun r3 =>
 (kE [r1, r2, r3]).bind fun r4 =>
 if r4 = 0 then
  (yg G_impl_compareValues (if (a1.L.length : Int) < (a0.L.length : Int) then (a1.L.length : Int) else (a0.L.length : Int)) a0 a1 n 0).bind fun o6 =>
  match o6 with
  | .inl o6_0 =>
   some o6_0
  | .inr (o6_1) =>
   (wM (a0.L.length : Int) (a1.L.length : Int)).bind fun r7 =>
   some r7
 else
 some r4
theorem JR (G_impl_compareValues : GValue → GValue → Option Int) (H_impl_compareValues : wB G_impl_compareValues) (n : Nat) : wB (qU G_impl_compareValues n) := fun a0 a1 => tc (
 .cl (Zw a0.Kind a1.Kind) fun r1 =>
 .cl (Zw a0.N a1.N) fun r2 =>
 .cl (xh a0.S a1.S) fun r3 =>
 .vw zfv [r1, r2, r3] <|
 .cl (L7 [r1, r2, r3]) fun r4 =>
 .eI r4 0 (fun c5 =>
  .le zf a0.L <|
  .le zf a1.L <|
  .l2 (WZ G_impl_compareValues H_impl_compareValues (if (a1.L.length : Int) < (a0.L.length : Int) then (a1.L.length : Int) else (a0.L.length : Int)) a0 a1 n 0) (fun o6_0 =>
   .ret o6_0) fun o6_1 =>
  .le zf a0.L <|
  .le zf a1.L <|
  .cl (Zw (a0.L.length : Int) (a1.L.length : Int)) fun r7 =>
  .ret r7) fun c5 =>
 .ret r4) (zh Tryz.func113)
def zT : Nat → GValue → GValue → Option Int
 | 0, _, _ => none
 | n + 1, a0, a1 => qU (zT n) n a0 a1
theorem QX (n : Nat) : wB (zT n) := by
 induction n with
 | zero => exact fun _ _ _ h => (by rw [zT] at h; cases h)
 | succ n ih =>
  have ih_impl_compareValues := ih
  exact fun a0 a1 r h => JR (zT n) ih_impl_compareValues n a0 a1 r (by rw [zT] at h; exact h)
def wC (a0 : GValue) (a1 : GValue) : Option Int := zT (vsz a0 + 3) a0 a1
theorem Qj (a0 : GValue) (a1 : GValue) (r : Int) (h : wC a0 a1 = some r) : ∃ n, zT n a0 a1 = some r := ⟨_, h⟩
theorem Y5 : wB wC := by
 intro a0 a1 r h
 obtain ⟨n, hn⟩ := Qj a0 a1 r h
 exact (QX n) a0 a1 r hn
def VC (F : GHistory → Int → (List UInt8) → (List GStep) → Option (Int × Bool)) : Prop := ∀ (a0 : GHistory) (a1 : Int) (a2 : (List UInt8)) (a3 : (List GStep)), Oc (F a0 a1 a2 a3) 59 [] [.val true (yh a0), vi a1, vq za a2, vq zw a3] fun r => (.tup [(false, [ci r.1]), (false, [.bool r.2])], [])
def xW (a2 : (List UInt8)) (a3 : (List GStep)) (v2 : (List GState)) (v4 : Int) (v5 : Int) (v6 : (List UInt8)) (v7 : (List (List UInt8))) (v8 : (List GValue)) (a0 : GHistory) : Nat → Int → Option Int
  | 0, _ => none
  | m + 1, v3 =>
  if 0 < v3 then
   (zv (w64 (v3 - 1))).bind fun i2 =>
   (v2[i2]?).bind fun x3 =>
   (wL x3 a2 a3).bind fun o4 =>
   match o4 with
   | .inl o4_0 =>
    (wC (GValue.mk v4 v5 v6 v7 v8) o4_0).bind fun r5 =>
    if r5 = 0 then
     xW a2 a3 v2 v4 v5 v6 v7 v8 a0 m (w64 (v3 - 1))
    else
    some v3
   | .inr (_) =>
    some v3
  else
  some v3
theorem RF (a2 : (List UInt8)) (a3 : (List GStep)) (v2 : (List GState)) (v4 : Int) (v5 : Int) (v6 : (List UInt8)) (v7 : (List (List UInt8))) (v8 : (List GValue)) (a0 : GHistory) (m : Nat) : ∀ (v3 : Int), Ol (xW a2 a3 v2 v4 v5 v6 v7 v8 a0 m v3) 59 (zN Tryz.f59 0) ⟨[(2, vq za a2), (3, vq zw a3), (4, vp 0 0), (10, vq jo v2), (12, vi v3), (13, .val false [.rptr [ci v4, ci v5, cq za v6, cq (zt za) v7, cq zf v8]])], [.var (yh a0)], 0⟩ fun o => (.exit 0, ⟨[(4, vp 0 0), (12, vi o)], [.var (yh a0)], 0⟩) := by
  induction m with
  | zero => intro v3 o h; cases h
  | succ m ih => exact fun v3 => tlp (
   .lI 0 v3 (fun c1 =>
    .na (w64 (v3 - 1)) fun i2 =>
    .ix jL v2 i2 fun x3 =>
    .c2 (Zv x3 a2 a3) (fun o4_0 =>
     .cl (Y5 (GValue.mk v4 v5 v6 v7 v8) o4_0) fun r5 =>
     .eI r5 0 (fun c6 =>
      .go (ih (w64 (v3 - 1)))) fun c6 =>
     .ret v3) fun _ =>
    .ret v3) fun c1 =>
   .ret v3)
def Za (n : Nat) (a2 : (List UInt8)) (a3 : (List GStep)) (v2 : (List GState)) (v3 : Int) (v4 : Int) (v5 : Int) (v6 : (List UInt8)) (v7 : (List (List UInt8))) (v8 : (List GValue)) (v9 : Bool) (a0 : GHistory) : Nat → Option Int
  | 0 => none
  | m + 1 =>
  if 0 < v3 then
   (zv (w64 (v3 - 1))).bind fun i2 =>
   (v2[i2]?).bind fun x3 =>
   (wL x3 a2 a3).bind fun o4 =>
   match o4 with
   | .inl o4_0 =>
    (wC (GValue.mk v4 v5 v6 v7 v8) o4_0).bind fun r5 =>
    if r5 = 0 then
     (xW a2 a3 v2 v4 v5 v6 v7 v8 a0 n (w64 (v3 - 1))).bind fun o7 =>
     some o7
    else
    some v3
   | .inr (_) =>
    some v3
  else
  some v3
theorem TB (n : Nat) (a2 : (List UInt8)) (a3 : (List GStep)) (v2 : (List GState)) (v3 : Int) (v4 : Int) (v5 : Int) (v6 : (List UInt8)) (v7 : (List (List UInt8))) (v8 : (List GValue)) (v9 : Bool) (a0 : GHistory) (m : Nat) : Ol (Za n a2 a3 v2 v3 v4 v5 v6 v7 v8 v9 a0 m) 59 (zN Tryz.f59 0) ⟨[(2, vq za a2), (3, vq zw a3), (4, vp 0 0), (10, vq jo v2), (12, vi v3), (13, .val false [.rptr [ci v4, ci v5, cq za v6, cq (zt za) v7, cq zf v8]]), (55, vb v9)], [.var (yh a0)], 0⟩ fun o => (.exit 0, ⟨[(4, vp 0 0), (12, vi o)], [.var (yh a0)], 0⟩) := by
  induction m with
  | zero => intro o h; cases h
  | succ m ih => exact tlp (
   .lI 0 v3 (fun c1 =>
    .na (w64 (v3 - 1)) fun i2 =>
    .ix jL v2 i2 fun x3 =>
    .c2 (Zv x3 a2 a3) (fun o4_0 =>
     .cl (Y5 (GValue.mk v4 v5 v6 v7 v8) o4_0) fun r5 =>
     .eI r5 0 (fun c6 =>
      .gb (RF a2 a3 v2 v4 v5 v6 v7 v8 a0 n (w64 (v3 - 1))) (fun o7 =>
       some o7) (by intro x a h; first | (cases h; rfl) | (rcases x with x | x <;> cases h <;> rfl) | (rcases x with x | x | x <;> cases h <;> rfl))) fun c6 =>
     .ret v3) fun _ =>
    .ret v3) fun c1 =>
   .ret v3)
def Xb (n : Nat) (a0 : GHistory) (a1 : Int) (a2 : (List UInt8)) (a3 : (List GStep)) : Option (Int × Bool) :=
 (wq a0).bind fun ⟨r1_0, r1_1⟩ =>
 match r1_1 with
 | true =>
  (y8 a1 a0.Base.Serial (w64 (a0.Base.Serial + (a0.Events.length : Int)))).bind fun r2 =>
  match r2 with
  | true =>
   (Yl a3).bind fun r3 =>
   match r3 with
   | true =>
    (zv (w64 (a1 - a0.Base.Serial))).bind fun i4 =>
    (r1_0[i4]?).bind fun x5 =>
    (wL x5 a2 a3).bind fun o6 =>
    match o6 with
    | .inl o6_0 =>
     (Za n a2 a3 r1_0 (w64 (a1 - a0.Base.Serial)) o6_0.Kind o6_0.N o6_0.S o6_0.K o6_0.L false a0 n).bind fun o7 =>
     some ((w64 (a0.Base.Serial + o7)), true)
    | .inr (_) =>
     some (0, false)
   | false =>
    some (0, false)
  | false =>
   some (0, false)
 | false =>
  some (0, false)
theorem Nd (n : Nat) : VC (Xb n) := fun a0 a1 a2 a3 => tc (
 .cl (QW a0) fun ⟨r1_0, r1_1⟩ =>
 .vN 0 r1_1 (
  .an 0 0 <|
  .an 0 0 <|
  .an 0 0 <|
  .an 0 0 <|
  .an 0 0 <|
  .an 0 0 <|
  .an 0 0 <|
  .an 0 0 <|
  .an 0 0 <|
  .le zB a0.Events <|
  .an 0 0 <|
  .an 0 0 <|
  .cl (xT a1 a0.Base.Serial (w64 (a0.Base.Serial + (a0.Events.length : Int)))) fun r2 =>
  .an 0 1 <|
  .an 0 1 <|
  .vN 0 r2 (
   .an 0 0 <|
   .cl (Ou a3) fun r3 =>
   .an 0 1 <|
   .an 0 1 <|
   .vN 0 r3 (
    .na (w64 (a1 - a0.Base.Serial)) fun i4 =>
    .ix jL r1_0 i4 fun x5 =>
    .c2 (Zv x5 a2 a3) (fun o6_0 =>
     .lp (TB n a2 a3 r1_0 (w64 (a1 - a0.Base.Serial)) o6_0.Kind o6_0.N o6_0.S o6_0.K o6_0.L false a0 n) fun o7 =>
     .ret ((w64 (a0.Base.Serial + o7)), true)) fun _ =>
    .ret (0, false)) <|
   .ret (0, false)) <|
  .an 0 0 <|
  .an 0 0 <|
  .an 0 0 <|
  .ret (0, false)) <|
 .an 0 0 <|
 .an 0 0 <|
 .an 0 0 <|
 .an 0 0 <|
 .an 0 0 <|
 .an 0 0 <|
 .an 0 0 <|
 .an 0 0 <|
 .an 0 0 <|
 .an 0 0 <|
 .an 0 0 <|
 .an 0 0 <|
 .an 0 0 <|
 .ret (0, false)) (zh Tryz.func59)
def Zx (a0 : GHistory) (a1 : Int) (a2 : (List UInt8)) (a3 : (List GStep)) : Option (Int × Bool) := Xb (a0.Events.length + 5) a0 a1 a2 a3
theorem UT (a0 : GHistory) (a1 : Int) (a2 : (List UInt8)) (a3 : (List GStep)) (r : (Int × Bool)) (h : Zx a0 a1 a2 a3 = some r) : ∃ n, Xb n a0 a1 a2 a3 = some r := ⟨_, h⟩
theorem L8 : VC Zx := fun a0 a1 a2 a3 r h => (UT a0 a1 a2 a3 r h).elim fun n hn => Nd n a0 a1 a2 a3 r hn
def Jr (F : (List UInt8) → (List UInt8) → Option Bool) : Prop := ∀ (a0 : (List UInt8)) (a1 : (List UInt8)), Oc (F a0 a1) 38 [] [vq za a0, vq za a1] fun r => (vb r, [])
def wN (a0 : (List UInt8)) (a1 : (List UInt8)) : Nat → Int → Option (Bool ⊕ Int)
  | 0, _ => none
  | m + 1, v2 =>
  if v2 < (a0.length : Int) then
   (zv v2).bind fun i2 =>
   (a0[i2]?).bind fun x3 =>
   (a1[i2]?).bind fun x4 =>
   if ((x3.toNat : Nat) : Int) = ((x4.toNat : Nat) : Int) then
    wN a0 a1 m (w64 (v2 + 1))
   else
   some (.inl false)
  else
  some (.inr v2)
theorem VD (a0 : (List UInt8)) (a1 : (List UInt8)) (m : Nat) : ∀ (v2 : Int), Ol (wN a0 a1 m v2) 38 (zN Tryz.f38 0) ⟨[(0, vq za a0), (1, vq za a1), (5, vi v2)], [], 0⟩ fun o => match o with | .inl o_0 => (.ret, ⟨[(4, vb o_0)], [], 0⟩) | .inr (o_1) => (.exit 0, ⟨[(0, vq za a0), (1, vq za a1), (5, vi o_1), (14, vb false)], [], 0⟩) := by
  induction m with
  | zero => intro v2 o h; cases h
  | succ m ih => exact fun v2 => tlp (
   .le za a0 <|
   .lI v2 (a0.length : Int) (fun c1 =>
    .na v2 fun i2 =>
    .ix0 za a0 i2 fun x3 =>
    .ag 1 <|
    .ix0 za a1 i2 fun x4 =>
    .eI ((x3.toNat : Nat) : Int) ((x4.toNat : Nat) : Int) (fun c5 =>
     .go (ih (w64 (v2 + 1)))) fun c5 =>
    .ret (.inl false)) fun c1 =>
   .ret (.inr v2))
def X1 (n : Nat) (a0 : (List UInt8)) (a1 : (List UInt8)) : Option Bool :=
 if (a0.length : Int) = (a1.length : Int) then
  (wN a0 a1 n 0).bind fun o2 =>
  match o2 with
  | .inl o2_0 =>
   some o2_0
  | .inr (o2_1) =>
   some true
 else
 some false
theorem Ov (n : Nat) : Jr (X1 n) := fun a0 a1 => tc (
 .le za a0 <|
 .le za a1 <|
 .eI (a0.length : Int) (a1.length : Int) (fun c1 =>
  .l2 (VD a0 a1 n 0) (fun o2_0 =>
   .ret o2_0) fun o2_1 =>
  .ret true) fun c1 =>
 .ret false) (zh Tryz.func38)
theorem Nf {a : List UInt8} (ha : a.length <= 2 ^ 40) : ∀ (d i m : Nat), i + d = a.length → d < m → ∃ z, wN a a m (i : Int) = some (.inr z) := by
 intro d
 induction d with
 | zero =>
  intro i m hi hm
  obtain ⟨m, rfl, _⟩ := zi hm
  exact ⟨_, by rw [wN, if_neg (by omega)]⟩
 | succ d ih =>
  intro i m hi hm
  obtain ⟨m, rfl, hm'⟩ := zi hm
  have hil : i < a.length := by omega
  rw [wN, if_pos (by omega), zb, Option.bind_some, zd hil, Option.bind_some, Option.bind_some, if_pos rfl, z7 (by omega)]
  exact ih (i + 1) m (by omega) (by omega)
def zK (a0 : (List UInt8)) (a1 : (List UInt8)) : Option Bool := if a0 = a1 ∧ a0.length <= 2 ^ 40 then some true else none
theorem RG (a0 : (List UInt8)) (a1 : (List UInt8)) (r : Bool) (h : zK a0 a1 = some r) : ∃ n, X1 n a0 a1 = some r := by
 unfold zK at h
 obtain ⟨⟨he, ha⟩, h2⟩ := zF h
 clear h
 subst he
 refine ⟨a0.length + 1, ?_⟩
 obtain ⟨z, hz⟩ := Nf ha a0.length 0 (a0.length + 1) (by omega) (by omega)
 rw [show ((0 : Nat) : Int) = 0 from rfl] at hz
 unfold X1
 rw [if_pos rfl, hz]; exact h2
theorem xc : Jr zK := fun a0 a1 r h => (RG a0 a1 r h).elim fun n hn => Ov n a0 a1 r hn
def QE (F : (List (List UInt8)) → (List (List UInt8)) → Option Bool) : Prop := ∀ (a0 : (List (List UInt8))) (a1 : (List (List UInt8))), Oc (F a0 a1) 63 [] [vq (zt za) a0, vq (zt za) a1] fun r => (vb r, [])
def wr (a0 : (List (List UInt8))) (a1 : (List (List UInt8))) : Nat → Int → Option (Bool ⊕ Int)
  | 0, _ => none
  | m + 1, v2 =>
  if v2 < (a0.length : Int) then
   (zv v2).bind fun i2 =>
   (a0[i2]?).bind fun x3 =>
   (a1[i2]?).bind fun x4 =>
   (zK x3 x4).bind fun r5 =>
   match r5 with
   | true =>
    wr a0 a1 m (w64 (v2 + 1))
   | false =>
    some (.inl false)
  else
  some (.inr v2)
theorem KC (a0 : (List (List UInt8))) (a1 : (List (List UInt8))) (m : Nat) : ∀ (v2 : Int), Ol (wr a0 a1 m v2) 63 (zN Tryz.f63 0) ⟨[(0, vq (zt za) a0), (1, vq (zt za) a1), (5, vi v2)], [], 0⟩ fun o => match o with | .inl o_0 => (.ret, ⟨[(4, vb o_0)], [], 0⟩) | .inr (o_1) => (.exit 0, ⟨[(0, vq (zt za) a0), (1, vq (zt za) a1), (5, vi o_1), (14, vb false)], [], 0⟩) := by
  induction m with
  | zero => intro v2 o h; cases h
  | succ m ih => exact fun v2 => tlp (
   .le (zt za) a0 <|
   .lI v2 (a0.length : Int) (fun c1 =>
    .na v2 fun i2 =>
    .ix0 (zt za) a0 i2 fun x3 =>
    .ag 1 <|
    .ix0 (zt za) a1 i2 fun x4 =>
    .cl (xc x3 x4) fun r5 =>
    .vN 0 r5 (
     .go (ih (w64 (v2 + 1)))) <|
    .ret (.inl false)) fun c1 =>
   .ret (.inr v2))
def Xc (n : Nat) (a0 : (List (List UInt8))) (a1 : (List (List UInt8))) : Option Bool :=
 if (a0.length : Int) = (a1.length : Int) then
  (wr a0 a1 n 0).bind fun o2 =>
  match o2 with
  | .inl o2_0 =>
   some o2_0
  | .inr (o2_1) =>
   some true
 else
 some false
theorem UU (n : Nat) : QE (Xc n) := fun a0 a1 => tc (
 .le (zt za) a0 <|
 .le (zt za) a1 <|
 .eI (a0.length : Int) (a1.length : Int) (fun c1 =>
  .l2 (KC a0 a1 n 0) (fun o2_0 =>
   .ret o2_0) fun o2_1 =>
  .ret true) fun c1 =>
 .ret false) (zh Tryz.func63)
theorem L9 {a : List (List UInt8)} (ha : bsz a <= 2 ^ 40) : ∀ (d i m : Nat), i + d = a.length → d < m → ∃ z, wr a a m (i : Int) = some (.inr z) := by
 have hl := vB a
 intro d
 induction d with
 | zero =>
  intro i m hi hm
  obtain ⟨m, rfl, _⟩ := zi hm
  exact ⟨_, by rw [wr, if_neg (by omega)]⟩
 | succ d ih =>
  intro i m hi hm
  obtain ⟨m, rfl, hm'⟩ := zi hm
  have hil : i < a.length := by omega
  have hx := X8 (List.getElem_mem hil)
  rw [wr, if_pos (by omega), zb, Option.bind_some, zd hil, Option.bind_some, Option.bind_some]
  unfold zK
  rw [if_pos ⟨rfl, by omega⟩, Option.bind_some, z7 (by omega)]
  exact ih (i + 1) m (by omega) (by omega)
def xd (a0 : (List (List UInt8))) (a1 : (List (List UInt8))) : Option Bool := if a0 = a1 ∧ bsz a0 <= 2 ^ 40 then some true else none
theorem VE (a0 : (List (List UInt8))) (a1 : (List (List UInt8))) (r : Bool) (h : xd a0 a1 = some r) : ∃ n, Xc n a0 a1 = some r := by
 unfold xd at h
 obtain ⟨⟨he, ha⟩, h2⟩ := zF h
 clear h
 subst he
 have hl := vB a0
 refine ⟨a0.length + 1, ?_⟩
 obtain ⟨z, hz⟩ := L9 ha a0.length 0 (a0.length + 1) (by omega) (by omega)
 rw [show ((0 : Nat) : Int) = 0 from rfl] at hz
 unfold Xc
 rw [if_pos rfl, hz]; exact h2
theorem Yx : QE xd := fun a0 a1 r h => (VE a0 a1 r h).elim fun n hn => UU n a0 a1 r hn
def Zb (F : (List GValue) → (List GValue) → Option Bool) : Prop := ∀ (a0 : (List GValue)) (a1 : (List GValue)), Oc (F a0 a1) 144 [] [vq zf a0, vq zf a1] fun r => (vb r, [])
def kG (F : GValue → GValue → Option Bool) : Prop := ∀ (a0 : GValue) (a1 : GValue), Oc (F a0 a1) 82 [] [.val true (zq a0), .val true (zq a1)] fun r => (vb r, [])
def wt (G_laws_eqValue : GValue → GValue → Option Bool) (a0 : (List GValue)) (a1 : (List GValue)) : Nat → Int → Option (Bool ⊕ Int)
  | 0, _ => none
  | m + 1, v2 =>
  if v2 < (a0.length : Int) then
   (zv v2).bind fun i2 =>
   (a0[i2]?).bind fun x3 =>
   (a1[i2]?).bind fun x4 =>
   (G_laws_eqValue x3 x4).bind fun r5 =>
   match r5 with
   | true =>
    wt G_laws_eqValue a0 a1 m (w64 (v2 + 1))
   | false =>
    some (.inl false)
  else
  some (.inr v2)
theorem KD (G_laws_eqValue : GValue → GValue → Option Bool) (H_laws_eqValue : kG G_laws_eqValue) (a0 : (List GValue)) (a1 : (List GValue)) (m : Nat) : ∀ (v2 : Int), Ol (wt G_laws_eqValue a0 a1 m v2) 144 (zN Tryz.f144 0) ⟨[(0, vq zf a0), (1, vq zf a1), (5, vi v2)], [], 0⟩ fun o => match o with | .inl o_0 => (.ret, ⟨[(4, vb o_0)], [], 0⟩) | .inr (o_1) => (.exit 0, ⟨[(0, vq zf a0), (1, vq zf a1), (5, vi o_1), (14, vb false)], [], 0⟩) := by
  induction m with
  | zero => intro v2 o h; cases h
  | succ m ih => exact fun v2 => tlp (
   .le zf a0 <|
   .lI v2 (a0.length : Int) (fun c1 =>
    .na v2 fun i2 =>
    .ix zO a0 i2 fun x3 =>
    .ag 1 <|
    .ix zO a1 i2 fun x4 =>
    .cl (H_laws_eqValue x3 x4) fun r5 =>
    .vN 0 r5 (
     .go (ih (w64 (v2 + 1)))) <|
    .ret (.inl false)) fun c1 =>
   .ret (.inr v2))
def Zc (G_laws_eqValue : GValue → GValue → Option Bool) (n : Nat) (a0 : (List GValue)) (a1 : (List GValue)) : Option Bool :=
 if (a0.length : Int) = (a1.length : Int) then
  (wt G_laws_eqValue a0 a1 n 0).bind fun o2 =>
  match o2 with
  | .inl o2_0 =>
   some o2_0
  | .inr (o2_1) =>
   some true
 else
 some false
theorem UV (G_laws_eqValue : GValue → GValue → Option Bool) (H_laws_eqValue : kG G_laws_eqValue) (n : Nat) : Zb (Zc G_laws_eqValue n) := fun a0 a1 => tc (
 .le zf a0 <|
 .le zf a1 <|
 .eI (a0.length : Int) (a1.length : Int) (fun c1 =>
  .l2 (KD G_laws_eqValue H_laws_eqValue a0 a1 n 0) (fun o2_0 =>
   .ret o2_0) fun o2_1 =>
  .ret true) fun c1 =>
 .ret false) (zh Tryz.func144)
def X2 (G_laws_eqValueS : (List GValue) → (List GValue) → Option Bool) (a0 : GValue) (a1 : GValue) : Option Bool :=
 if a0.Kind = a1.Kind then
  if a0.N = a1.N then
   (zK a0.S a1.S).bind fun r3 =>
   match r3 with
   | true =>
    (xd a0.K a1.K).bind fun r4 =>
    match r4 with
    | true =>
     (G_laws_eqValueS a0.L a1.L).bind fun r5 =>
     match r5 with
     | true =>
      some true
     | false =>
      some false
    | false =>
     some false
   | false =>
    some false
  else
  some false
 else
 some false
theorem Ow (G_laws_eqValueS : (List GValue) → (List GValue) → Option Bool) (H_laws_eqValueS : Zb G_laws_eqValueS) : kG (X2 G_laws_eqValueS) := fun a0 a1 => tc (
 .eI a0.Kind a1.Kind (fun c1 =>
  .eI a0.N a1.N (fun c2 =>
   .cl (xc a0.S a1.S) fun r3 =>
   .vN 0 r3 (
    .cl (Yx a0.K a1.K) fun r4 =>
    .vN 0 r4 (
     .cl (H_laws_eqValueS a0.L a1.L) fun r5 =>
     .vN 0 r5 (
      .ret true) <|
     .ret false) <|
    .ret false) <|
   .ret false) fun c2 =>
  .ret false) fun c1 =>
 .ret false) (zh Tryz.func82)
mutual
def xM : Nat → (List GValue) → (List GValue) → Option Bool
 | 0, _, _ => none
 | n + 1, a0, a1 => Zc (wu n) n a0 a1
def wu : Nat → GValue → GValue → Option Bool
 | 0, _, _ => none
 | n + 1, a0, a1 => X2 (xM n) a0 a1
end
theorem Wq (n : Nat) : Zb (xM n) ∧ kG (wu n) := by
 induction n with
 | zero => exact ⟨fun _ _ _ h => (by rw [xM] at h; cases h), fun _ _ _ h => (by rw [wu] at h; cases h)⟩
 | succ n ih =>
  obtain ⟨ih_laws_eqValueS, ih_laws_eqValue⟩ := ih
  exact ⟨fun a0 a1 r h => UV (wu n) ih_laws_eqValue n a0 a1 r (by rw [xM] at h; exact h),
   fun a0 a1 r h => Ow (xM n) ih_laws_eqValueS a0 a1 r (by rw [wu] at h; exact h)⟩
theorem UW {G : GValue → GValue → Option Bool} {a : List GValue} {f : Nat} (ha : a.length <= 2 ^ 40) (hf : a.length < f) (hG : ∀ v ∈ a, G v v = some true) : Zc G f a a = some true := by
 have loop : ∀ (d i m : Nat), i + d = a.length → d < m → ∃ z, wt G a a m (i : Int) = some (.inr z) := by
  intro d
  induction d with
  | zero =>
   intro i m hi hm
   obtain ⟨m, rfl, _⟩ := zi hm
   exact ⟨_, by rw [wt, if_neg (by omega)]⟩
  | succ d ih =>
   intro i m hi hm
   obtain ⟨m, rfl, hm'⟩ := zi hm
   have hil : i < a.length := by omega
   rw [wt, if_pos (by omega), zb, Option.bind_some, zd hil, Option.bind_some, Option.bind_some, hG _ (List.getElem_mem hil), Option.bind_some, z7 (by omega)]
   exact ih (i + 1) m (by omega) (by omega)
 obtain ⟨z, hz⟩ := loop a.length 0 f (by omega) (by omega)
 rw [show ((0 : Nat) : Int) = 0 from rfl] at hz
 unfold Zc
 rw [if_pos rfl, hz]; rfl
theorem OS : ∀ (N : Nat) (v : GValue), vsz v < N → vsz v <= 2 ^ 40 → ∀ f : Nat, 2 * vsz v + 3 <= f → wu f v v = some true := by
 intro N
 induction N with
 | zero => intro v hv; omega
 | succ N ih =>
  intro v hv hs f hf
  obtain ⟨f, rfl, _⟩ := zi (show 0 < f by omega)
  obtain ⟨f, rfl, _⟩ := zi (show 0 < f by omega)
  have he := jq v
  have hl := xm v.L
  rw [wu]
  unfold X2 zK xd
  rw [if_pos rfl, if_pos rfl, if_pos (show v.S = v.S ∧ v.S.length <= 2 ^ 40 from ⟨rfl, by omega⟩), Option.bind_some]
  dsimp only
  rw [if_pos (show v.K = v.K ∧ bsz v.K <= 2 ^ 40 from ⟨rfl, by omega⟩), Option.bind_some]
  dsimp only
  rw [xM, UW (by omega) (by omega) fun x hx => ?_]
  ·rfl
  ·have := qu hx
   exact ih x (by omega) (by omega) f (by omega)
open Classical in
noncomputable def Xd (a0 : (List GValue)) (a1 : (List GValue)) : Option Bool := if a0 = a1 ∧ qr a0 <= 2 ^ 40 then some true else none
theorem VF (a0 : (List GValue)) (a1 : (List GValue)) (r : Bool) (h : Xd a0 a1 = some r) : ∃ n, xM n a0 a1 = some r := by
 unfold Xd at h
 obtain ⟨⟨he, ha⟩, h2⟩ := zF h
 clear h
 subst he
 have hl := xm a0
 refine ⟨2 * qr a0 + 5, ?_⟩
 rw [xM, UW (by omega) (by omega) fun x hx => ?_, h2]
 have := qu hx
 exact OS _ x (Nat.lt_succ_self _) (by omega) _ (by omega)
open Classical in
noncomputable def qq (a0 : GValue) (a1 : GValue) : Option Bool := if a0 = a1 ∧ vsz a0 <= 2 ^ 40 then some true else none
theorem RH (a0 : GValue) (a1 : GValue) (r : Bool) (h : qq a0 a1 = some r) : ∃ n, wu n a0 a1 = some r := by
 unfold qq at h
 obtain ⟨⟨he, ha⟩, h2⟩ := zF h
 clear h
 subst he
 exact ⟨2 * vsz a0 + 3, by rw [<- h2]; exact OS _ a0 (Nat.lt_succ_self _) ha _ (Nat.le_refl _)⟩
theorem B8 : Zb Xd := by
 intro a0 a1 r h
 obtain ⟨n, hn⟩ := VF a0 a1 r h
 exact (Wq n).1 a0 a1 r hn
theorem QF : kG qq := by
 intro a0 a1 r h
 obtain ⟨n, hn⟩ := RH a0 a1 r h
 exact (Wq n).2 a0 a1 r hn
def kH (a0 : GEntry) (a1 : GEntry) : Option Bool :=
 (zK a0.Addr a1.Addr).bind fun r1 =>
 match r1 with
 | true =>
  (qq a0.Val a1.Val).bind fun r2 =>
  match r2 with
  | true =>
   (xd a0.Deps a1.Deps).bind fun r3 =>
   match r3 with
   | true =>
    if a0.Taint = true then
     if a1.Taint = true then
      if a0.Turned = a1.Turned then
       some true
      else
      some false
     else
     some false
    else
    if a1.Taint = true then
     some false
    else
    if a0.Turned = a1.Turned then
     some true
    else
    some false
   | false =>
    some false
  | false =>
   some false
 | false =>
  some false
theorem UX (a0 : GEntry) (a1 : GEntry) : Oc (kH a0 a1) 143 [] [.val true (jU a0), .val true (jU a1)] fun r => (vb r, []) := tc (
 .cl (xc a0.Addr a1.Addr) fun r1 =>
 .vN 0 r1 (
  .cl (QF a0.Val a1.Val) fun r2 =>
  .vN 0 r2 (
   .cl (Yx a0.Deps a1.Deps) fun r3 =>
   .vN 0 r3 (
    .sp (a0.Taint = true) (fun c4 =>
     .sp (a1.Taint = true) (fun c5 =>
      .eb c4 c5 <|
      .eI a0.Turned a1.Turned (fun c6 =>
       .ret true) fun c6 =>
      .ret false) fun c5 =>
     .eb c4 (bF c5) <|
     .ret false) fun c4 =>
    .sp (a1.Taint = true) (fun c5 =>
     .eb (bF c4) c5 <|
     .ret false) fun c5 =>
    .eb (bF c4) (bF c5) <|
    .eI a0.Turned a1.Turned (fun c6 =>
     .ret true) fun c6 =>
    .ret false) <|
   .ret false) <|
  .ret false) <|
 .ret false) (zh Tryz.func143)
def QG (F : (List GEntry) → (List GEntry) → Option Bool) : Prop := ∀ (a0 : (List GEntry)) (a1 : (List GEntry)), Oc (F a0 a1) 81 [] [vq zl a0, vq zl a1] fun r => (vb r, [])
def wv (a0 : (List GEntry)) (a1 : (List GEntry)) : Nat → Int → Option (Bool ⊕ Int)
  | 0, _ => none
  | m + 1, v2 =>
  if v2 < (a0.length : Int) then
   (zv v2).bind fun i2 =>
   (a0[i2]?).bind fun x3 =>
   (a1[i2]?).bind fun x4 =>
   (kH x3 x4).bind fun r5 =>
   match r5 with
   | true =>
    wv a0 a1 m (w64 (v2 + 1))
   | false =>
    some (.inl false)
  else
  some (.inr v2)
theorem KE (a0 : (List GEntry)) (a1 : (List GEntry)) (m : Nat) : ∀ (v2 : Int), Ol (wv a0 a1 m v2) 81 (zN Tryz.f81 0) ⟨[(0, vq zl a0), (1, vq zl a1), (5, vi v2)], [], 0⟩ fun o => match o with | .inl o_0 => (.ret, ⟨[(4, vb o_0)], [], 0⟩) | .inr (o_1) => (.exit 0, ⟨[(0, vq zl a0), (1, vq zl a1), (5, vi o_1), (14, vb false)], [], 0⟩) := by
  induction m with
  | zero => intro v2 o h; cases h
  | succ m ih => exact fun v2 => tlp (
   .le zl a0 <|
   .lI v2 (a0.length : Int) (fun c1 =>
    .na v2 fun i2 =>
    .ix zX a0 i2 fun x3 =>
    .ag 1 <|
    .ix zX a1 i2 fun x4 =>
    .cl (UX x3 x4) fun r5 =>
    .vN 0 r5 (
     .go (ih (w64 (v2 + 1)))) <|
    .ret (.inl false)) fun c1 =>
   .ret (.inr v2))
def Xe (n : Nat) (a0 : (List GEntry)) (a1 : (List GEntry)) : Option Bool :=
 if (a0.length : Int) = (a1.length : Int) then
  (wv a0 a1 n 0).bind fun o2 =>
  match o2 with
  | .inl o2_0 =>
   some o2_0
  | .inr (o2_1) =>
   some true
 else
 some false
theorem UY (n : Nat) : QG (Xe n) := fun a0 a1 => tc (
 .le zl a0 <|
 .le zl a1 <|
 .eI (a0.length : Int) (a1.length : Int) (fun c1 =>
  .l2 (KE a0 a1 n 0) (fun o2_0 =>
   .ret o2_0) fun o2_1 =>
  .ret true) fun c1 =>
 .ret false) (zh Tryz.func81)
theorem LA {a : List GEntry} (ha : a.length <= 2 ^ 40) (hG : ∀ v ∈ a, kH v v = some true) : ∀ (d i m : Nat), i + d = a.length → d < m → ∃ z, wv a a m (i : Int) = some (.inr z) := by
 intro d
 induction d with
 | zero =>
  intro i m hi hm
  obtain ⟨m, rfl, _⟩ := zi hm
  exact ⟨_, by rw [wv, if_neg (by omega)]⟩
 | succ d ih =>
  intro i m hi hm
  obtain ⟨m, rfl, hm'⟩ := zi hm
  have hil : i < a.length := by omega
  rw [wv, if_pos (by omega), zb, Option.bind_some, zd hil, Option.bind_some, Option.bind_some, hG _ (List.getElem_mem hil), Option.bind_some, z7 (by omega)]
  exact ih (i + 1) m (by omega) (by omega)
theorem H8 {v : GEntry} (h : esz v <= 2 ^ 39) : kH v v = some true := by
 unfold esz at h
 unfold kH zK qq xd
 rw [if_pos ⟨rfl, by omega⟩, Option.bind_some]
 dsimp only
 rw [if_pos ⟨rfl, by omega⟩, Option.bind_some]
 dsimp only
 rw [if_pos ⟨rfl, by omega⟩, Option.bind_some]
 dsimp only
 rw [if_pos rfl]
 cases v.Taint <;> rfl
open Classical in
noncomputable def qN (a0 : (List GEntry)) (a1 : (List GEntry)) : Option Bool := if a0 = a1 ∧ yr a0 <= 2 ^ 39 then some true else none
theorem RN {s : List GEntry} (h : yr s <= 2 ^ 39) : qN s s = some true := if_pos ⟨rfl, h⟩
theorem VG (a0 : (List GEntry)) (a1 : (List GEntry)) (r : Bool) (h : qN a0 a1 = some r) : ∃ n, Xe n a0 a1 = some r := by
 unfold qN at h
 obtain ⟨⟨he, ha⟩, h2⟩ := zF h
 clear h
 subst he
 have hl := qP a0
 refine ⟨a0.length + 1, ?_⟩
 obtain ⟨z, hz⟩ := LA (a := a0) (by omega) (fun v hv => H8 (by have := Qh hv; omega)) a0.length 0 (a0.length + 1) (by omega) (by omega)
 rw [show ((0 : Nat) : Int) = 0 from rfl] at hz
 unfold Xe
 rw [if_pos rfl, hz]; exact h2
theorem Qa : QG qN := fun a0 a1 r h => (VG a0 a1 r h).elim fun n hn => UY n a0 a1 r hn
def ZR (a0 : GState) (a1 : GState) : Option Bool :=
 if a0.Serial = a1.Serial then
  if a0.Open = true then
   if a1.Open = true then
    (zK a0.Pending a1.Pending).bind fun r4 =>
    match r4 with
    | true =>
     if a0.Act = a1.Act then
      (qN a0.Entries a1.Entries).bind fun r6 =>
      match r6 with
      | true =>
       some true
      | false =>
       some false
     else
     some false
    | false =>
     some false
   else
   some false
  else
  if a1.Open = true then
   some false
  else
  (zK a0.Pending a1.Pending).bind fun r4 =>
  match r4 with
  | true =>
   if a0.Act = a1.Act then
    (qN a0.Entries a1.Entries).bind fun r6 =>
    match r6 with
    | true =>
     some true
    | false =>
     some false
   else
   some false
  | false =>
   some false
 else
 some false
theorem UZ (a0 : GState) (a1 : GState) : Oc (ZR a0 a1) 21 [] [.val true (yn a0), .val true (yn a1)] fun r => (vb r, []) := tc (
 .eI a0.Serial a1.Serial (fun c1 =>
  .sp (a0.Open = true) (fun c2 =>
   .sp (a1.Open = true) (fun c3 =>
    .eb c2 c3 <|
    .cl (xc a0.Pending a1.Pending) fun r4 =>
    .vN 0 r4 (
     .eI a0.Act a1.Act (fun c5 =>
      .cl (Qa a0.Entries a1.Entries) fun r6 =>
      .vN 0 r6 (
       .ret true) <|
      .ret false) fun c5 =>
     .ret false) <|
    .ret false) fun c3 =>
   .eb c2 (bF c3) <|
   .ret false) fun c2 =>
  .sp (a1.Open = true) (fun c3 =>
   .eb (bF c2) c3 <|
   .ret false) fun c3 =>
  .eb (bF c2) (bF c3) <|
  .cl (xc a0.Pending a1.Pending) fun r4 =>
  .vN 0 r4 (
   .eI a0.Act a1.Act (fun c5 =>
    .cl (Qa a0.Entries a1.Entries) fun r6 =>
    .vN 0 r6 (
     .ret true) <|
    .ret false) fun c5 =>
   .ret false) <|
  .ret false) fun c1 =>
 .ret false) (zh Tryz.func21)
def kI (a0 : GEvent) (a1 : GEvent) : Option Bool :=
 if a0.Kind = a1.Kind then
  (zK a0.Addr a1.Addr).bind fun r2 =>
  match r2 with
  | true =>
   if a0.Act = a1.Act then
    (qq a0.Val a1.Val).bind fun r4 =>
    match r4 with
    | true =>
     (xd a0.Deps a1.Deps).bind fun r5 =>
     match r5 with
     | true =>
      some true
     | false =>
      some false
    | false =>
     some false
   else
   some false
  | false =>
   some false
 else
 some false
theorem Pa (a0 : GEvent) (a1 : GEvent) : Oc (kI a0 a1) 22 [] [.val true (jp a0), .val true (jp a1)] fun r => (vb r, []) := tc (
 .eI a0.Kind a1.Kind (fun c1 =>
  .cl (xc a0.Addr a1.Addr) fun r2 =>
  .vN 0 r2 (
   .eI a0.Act a1.Act (fun c3 =>
    .cl (QF a0.Val a1.Val) fun r4 =>
    .vN 0 r4 (
     .cl (Yx a0.Deps a1.Deps) fun r5 =>
     .vN 0 r5 (
      .ret true) <|
     .ret false) <|
    .ret false) fun c3 =>
   .ret false) <|
  .ret false) fun c1 =>
 .ret false) (zh Tryz.func22)
def QH (F : (List GEvent) → (List GEvent) → Option Bool) : Prop := ∀ (a0 : (List GEvent)) (a1 : (List GEvent)), Oc (F a0 a1) 90 [] [vq zB a0, vq zB a1] fun r => (vb r, [])
def ww (a0 : (List GEvent)) (a1 : (List GEvent)) : Nat → Int → Option (Bool ⊕ Int)
  | 0, _ => none
  | m + 1, v2 =>
  if v2 < (a0.length : Int) then
   (zv v2).bind fun i2 =>
   (a0[i2]?).bind fun x3 =>
   (a1[i2]?).bind fun x4 =>
   (kI x3 x4).bind fun r5 =>
   match r5 with
   | true =>
    ww a0 a1 m (w64 (v2 + 1))
   | false =>
    some (.inl false)
  else
  some (.inr v2)
theorem KF (a0 : (List GEvent)) (a1 : (List GEvent)) (m : Nat) : ∀ (v2 : Int), Ol (ww a0 a1 m v2) 90 (zN Tryz.f90 0) ⟨[(0, vq zB a0), (1, vq zB a1), (5, vi v2)], [], 0⟩ fun o => match o with | .inl o_0 => (.ret, ⟨[(4, vb o_0)], [], 0⟩) | .inr (o_1) => (.exit 0, ⟨[(0, vq zB a0), (1, vq zB a1), (5, vi o_1), (14, vb false)], [], 0⟩) := by
  induction m with
  | zero => intro v2 o h; cases h
  | succ m ih => exact fun v2 => tlp (
   .le zB a0 <|
   .lI v2 (a0.length : Int) (fun c1 =>
    .na v2 fun i2 =>
    .ix qD a0 i2 fun x3 =>
    .ag 1 <|
    .ix qD a1 i2 fun x4 =>
    .cl (Pa x3 x4) fun r5 =>
    .vN 0 r5 (
     .go (ih (w64 (v2 + 1)))) <|
    .ret (.inl false)) fun c1 =>
   .ret (.inr v2))
def Xf (n : Nat) (a0 : (List GEvent)) (a1 : (List GEvent)) : Option Bool :=
 if (a0.length : Int) = (a1.length : Int) then
  (ww a0 a1 n 0).bind fun o2 =>
  match o2 with
  | .inl o2_0 =>
   some o2_0
  | .inr (o2_1) =>
   some true
 else
 some false
theorem Pb (n : Nat) : QH (Xf n) := fun a0 a1 => tc (
 .le zB a0 <|
 .le zB a1 <|
 .eI (a0.length : Int) (a1.length : Int) (fun c1 =>
  .l2 (KF a0 a1 n 0) (fun o2_0 =>
   .ret o2_0) fun o2_1 =>
  .ret true) fun c1 =>
 .ret false) (zh Tryz.func90)
theorem LB {a : List GEvent} (ha : a.length <= 2 ^ 40) (hG : ∀ v ∈ a, kI v v = some true) : ∀ (d i m : Nat), i + d = a.length → d < m → ∃ z, ww a a m (i : Int) = some (.inr z) := by
 intro d
 induction d with
 | zero =>
  intro i m hi hm
  obtain ⟨m, rfl, _⟩ := zi hm
  exact ⟨_, by rw [ww, if_neg (by omega)]⟩
 | succ d ih =>
  intro i m hi hm
  obtain ⟨m, rfl, hm'⟩ := zi hm
  have hil : i < a.length := by omega
  rw [ww, if_pos (by omega), zb, Option.bind_some, zd hil, Option.bind_some, Option.bind_some, hG _ (List.getElem_mem hil), Option.bind_some, z7 (by omega)]
  exact ih (i + 1) m (by omega) (by omega)
theorem H9 {v : GEvent} (h : qE v <= 2 ^ 39) : kI v v = some true := by
 unfold qE at h
 unfold kI zK qq xd
 rw [if_pos rfl, if_pos ⟨rfl, by omega⟩, Option.bind_some]
 dsimp only
 rw [if_pos rfl, if_pos ⟨rfl, by omega⟩, Option.bind_some]
 dsimp only
 rw [if_pos ⟨rfl, by omega⟩, Option.bind_some]
open Classical in
noncomputable def jK (a0 : (List GEvent)) (a1 : (List GEvent)) : Option Bool := if a0 = a1 ∧ yk a0 <= 2 ^ 39 then some true else none
theorem NX {s : List GEvent} (h : yk s <= 2 ^ 39) : jK s s = some true := if_pos ⟨rfl, h⟩
theorem VH (a0 : (List GEvent)) (a1 : (List GEvent)) (r : Bool) (h : jK a0 a1 = some r) : ∃ n, Xf n a0 a1 = some r := by
 unfold jK at h
 obtain ⟨⟨he, ha⟩, h2⟩ := zF h
 clear h
 subst he
 have hl := Zz a0
 refine ⟨a0.length + 1, ?_⟩
 obtain ⟨z, hz⟩ := LB (a := a0) (by omega) (fun v hv => H9 (by have := VU hv; omega)) a0.length 0 (a0.length + 1) (by omega) (by omega)
 rw [show ((0 : Nat) : Int) = 0 from rfl] at hz
 unfold Xf
 rw [if_pos rfl, hz]; exact h2
theorem TC : QH jK := fun a0 a1 r h => (VH a0 a1 r h).elim fun n hn => Pb n a0 a1 r hn
def jn (a0 : GHistory) (a1 : GHistory) : Option Bool :=
 (ZR a0.Base a1.Base).bind fun r1 =>
 match r1 with
 | true =>
  (jK a0.Events a1.Events).bind fun r2 =>
  match r2 with
  | true =>
   if a0.Safe = a1.Safe then
    some true
   else
   some false
  | false =>
   some false
 | false =>
  some false
theorem Wr (a0 : GHistory) (a1 : GHistory) : Oc (jn a0 a1) 30 [] [.val true (yh a0), .val true (yh a1)] fun r => (vb r, []) := tc (
 .cl (UZ a0.Base a1.Base) fun r1 =>
 .vN 0 r1 (
  .cl (TC a0.Events a1.Events) fun r2 =>
  .vN 0 r2 (
   .eI a0.Safe a1.Safe (fun c3 =>
    .ret true) fun c3 =>
   .ret false) <|
  .ret false) <|
 .ret false) (zh Tryz.func30)
def vx (a0 : GStep) (a1 : GStep) : Option Bool :=
 if a0.Kind = a1.Kind then
  (zK a0.Key a1.Key).bind fun r2 =>
  match r2 with
  | true =>
   if a0.I = a1.I then
    some true
   else
   some false
  | false =>
   some false
 else
 some false
theorem Ox (a0 : GStep) (a1 : GStep) : Oc (vx a0 a1) 114 [] [.val true (X7 a0), .val true (X7 a1)] fun r => (vb r, []) := tc (
 .eI a0.Kind a1.Kind (fun c1 =>
  .cl (xc a0.Key a1.Key) fun r2 =>
  .vN 0 r2 (
   .eI a0.I a1.I (fun c3 =>
    .ret true) fun c3 =>
   .ret false) <|
  .ret false) fun c1 =>
 .ret false) (zh Tryz.func114)
def Js (F : (List GStep) → (List GStep) → Option Bool) : Prop := ∀ (a0 : (List GStep)) (a1 : (List GStep)), Oc (F a0 a1) 60 [] [vq zw a0, vq zw a1] fun r => (vb r, [])
def wO (a0 : (List GStep)) (a1 : (List GStep)) : Nat → Int → Option (Bool ⊕ Int)
  | 0, _ => none
  | m + 1, v2 =>
  if v2 < (a0.length : Int) then
   (zv v2).bind fun i2 =>
   (a0[i2]?).bind fun x3 =>
   (a1[i2]?).bind fun x4 =>
   (vx x3 x4).bind fun r5 =>
   match r5 with
   | true =>
    wO a0 a1 m (w64 (v2 + 1))
   | false =>
    some (.inl false)
  else
  some (.inr v2)
theorem VI (a0 : (List GStep)) (a1 : (List GStep)) (m : Nat) : ∀ (v2 : Int), Ol (wO a0 a1 m v2) 60 (zN Tryz.f60 0) ⟨[(0, vq zw a0), (1, vq zw a1), (5, vi v2)], [], 0⟩ fun o => match o with | .inl o_0 => (.ret, ⟨[(4, vb o_0)], [], 0⟩) | .inr (o_1) => (.exit 0, ⟨[(0, vq zw a0), (1, vq zw a1), (5, vi o_1), (14, vb false)], [], 0⟩) := by
  induction m with
  | zero => intro v2 o h; cases h
  | succ m ih => exact fun v2 => tlp (
   .le zw a0 <|
   .lI v2 (a0.length : Int) (fun c1 =>
    .na v2 fun i2 =>
    .ix qO a0 i2 fun x3 =>
    .ag 1 <|
    .ix qO a1 i2 fun x4 =>
    .cl (Ox x3 x4) fun r5 =>
    .vN 0 r5 (
     .go (ih (w64 (v2 + 1)))) <|
    .ret (.inl false)) fun c1 =>
   .ret (.inr v2))
def X3 (n : Nat) (a0 : (List GStep)) (a1 : (List GStep)) : Option Bool :=
 if (a0.length : Int) = (a1.length : Int) then
  (wO a0 a1 n 0).bind fun o2 =>
  match o2 with
  | .inl o2_0 =>
   some o2_0
  | .inr (o2_1) =>
   some true
 else
 some false
theorem Oy (n : Nat) : Js (X3 n) := fun a0 a1 => tc (
 .le zw a0 <|
 .le zw a1 <|
 .eI (a0.length : Int) (a1.length : Int) (fun c1 =>
  .l2 (VI a0 a1 n 0) (fun o2_0 =>
   .ret o2_0) fun o2_1 =>
  .ret true) fun c1 =>
 .ret false) (zh Tryz.func60)
theorem Ng {a : List GStep} (ha : a.length <= 2 ^ 40) (hG : ∀ v ∈ a, vx v v = some true) : ∀ (d i m : Nat), i + d = a.length → d < m → ∃ z, wO a a m (i : Int) = some (.inr z) := by
 intro d
 induction d with
 | zero =>
  intro i m hi hm
  obtain ⟨m, rfl, _⟩ := zi hm
  exact ⟨_, by rw [wO, if_neg (by omega)]⟩
 | succ d ih =>
  intro i m hi hm
  obtain ⟨m, rfl, hm'⟩ := zi hm
  have hil : i < a.length := by omega
  rw [wO, if_pos (by omega), zb, Option.bind_some, zd hil, Option.bind_some, Option.bind_some, hG _ (List.getElem_mem hil), Option.bind_some, z7 (by omega)]
  exact ih (i + 1) m (by omega) (by omega)
theorem Dd {v : GStep} (h : vK v <= 2 ^ 39) : vx v v = some true := by
 unfold vK at h
 unfold vx zK
 rw [if_pos rfl, if_pos ⟨rfl, by omega⟩, Option.bind_some]
 dsimp only
 rw [if_pos rfl]
open Classical in
noncomputable def jd (a0 : (List GStep)) (a1 : (List GStep)) : Option Bool := if a0 = a1 ∧ wT a0 <= 2 ^ 39 then some true else none
theorem HA {s : List GStep} (h : wT s <= 2 ^ 39) : jd s s = some true := if_pos ⟨rfl, h⟩
theorem RI (a0 : (List GStep)) (a1 : (List GStep)) (r : Bool) (h : jd a0 a1 = some r) : ∃ n, X3 n a0 a1 = some r := by
 unfold jd at h
 obtain ⟨⟨he, ha⟩, h2⟩ := zF h
 clear h
 subst he
 have hl := QO a0
 refine ⟨a0.length + 1, ?_⟩
 obtain ⟨z, hz⟩ := Ng (a := a0) (by omega) (fun v hv => Dd (by have := QN hv; omega)) a0.length 0 (a0.length + 1) (by omega) (by omega)
 rw [show ((0 : Nat) : Int) = 0 from rfl] at hz
 unfold X3
 rw [if_pos rfl, hz]; exact h2
theorem QI : Js jd := fun a0 a1 r h => (RI a0 a1 r h).elim fun n hn => Oy n a0 a1 r hn
def vI (a0 : GHistory) (a1 : Int) (a2 : (List UInt8)) (a3 : (List GStep)) : Option Bool :=
 if 1048576 < (a2.length : Int) then
  some true
 else
 (kX a0 1048576).bind fun r2 =>
 if r2 < 0 then
  some true
 else
 (km a3 r2).bind fun r4 =>
 if r4 < 0 then
  some true
 else
 (kY a0).bind fun r6 =>
 (zW a2).bind fun r7 =>
 (kr a3).bind fun r8 =>
 (Zp r6 a1 r7 r8).bind fun ⟨r9_0, r9_1⟩ =>
 (Zx r6 a1 r7 r8).bind fun ⟨r10_0, r10_1⟩ =>
 if r10_0 = r9_0 then
  if r10_1 = true then
   if r9_1 = true then
    (jn r6 r6).bind fun r14 =>
    match r14 with
    | true =>
     (zK r7 r7).bind fun r15 =>
     match r15 with
     | true =>
      (jd r8 r8).bind fun r16 =>
      match r16 with
      | true =>
       some true
      | false =>
       none
     | false =>
      none
    | false =>
     none
   else
   none
  else
  if r9_1 = true then
   none
  else
  (jn r6 r6).bind fun r14 =>
  match r14 with
  | true =>
   (zK r7 r7).bind fun r15 =>
   match r15 with
   | true =>
    (jd r8 r8).bind fun r16 =>
    match r16 with
    | true =>
     some true
    | false =>
     none
   | false =>
    none
  | false =>
   none
 else
 none
theorem ok_laws_FnExactBlame (a0 : GHistory) (a1 : Int) (a2 : (List UInt8)) (a3 : (List GStep)) : Oc (vI a0 a1 a2 a3) 13 [] [.val true (yh a0), vi a1, vq za a2, vq zw a3] fun r => (vb r, []) := tc (
 .le za a2 <|
 .lI 1048576 (a2.length : Int) (fun c1 =>
  .ret true) fun c1 =>
 .cl (Rr a0 1048576) fun r2 =>
 .lI r2 0 (fun c3 =>
  .ret true) fun c3 =>
 .cl (U3 a3 r2) fun r4 =>
 .lI r4 0 (fun c5 =>
  .ret true) fun c5 =>
 .cl (Rv a0) fun r6 =>
 .cl (w7 a2) fun r7 =>
 .cl (UC a3) fun r8 =>
 .vw zZ r6.Base.Pending <|
 .vo xY r6.Base.Entries <|
 .vo Zy r6.Events <|
 .vw zZ r7 <|
 .vo WF r8 <|
 .cl (L1 r6 a1 r7 r8) fun ⟨r9_0, r9_1⟩ =>
 .ag 3 <|
 .ag 2 <|
 .ag 1 <|
 .vw zZ r6.Base.Pending <|
 .vo xY r6.Base.Entries <|
 .vo Zy r6.Events <|
 .vw zZ r7 <|
 .vo WF r8 <|
 .cl (L8 r6 a1 r7 r8) fun ⟨r10_0, r10_1⟩ =>
 .eI r10_0 r9_0 (fun c11 =>
  .sp (r10_1 = true) (fun c12 =>
   .sp (r9_1 = true) (fun c13 =>
    .eb c12 c13 <|
    .ag 4 <|
    .vw zZ r6.Base.Pending <|
    .vo xY r6.Base.Entries <|
    .vo Zy r6.Events <|
    .vw zZ r6.Base.Pending <|
    .vo xY r6.Base.Entries <|
    .vo Zy r6.Events <|
    .cl (Wr r6 r6) fun r14 =>
    .vN 0 r14 (
     .ag 5 <|
     .vw zZ r7 <|
     .vw zZ r7 <|
     .cl (xc r7 r7) fun r15 =>
     .vN 0 r15 (
      .ag 6 <|
      .vo WF r8 <|
      .vo WF r8 <|
      .cl (QI r8 r8) fun r16 =>
      .vN 0 r16 (
       .ret true) <|
      .no) <|
     .no) <|
    .no) fun c13 =>
   .no) fun c12 =>
  .sp (r9_1 = true) (fun c13 =>
   .no) fun c13 =>
  .eb (bF c12) (bF c13) <|
  .ag 4 <|
  .vw zZ r6.Base.Pending <|
  .vo xY r6.Base.Entries <|
  .vo Zy r6.Events <|
  .vw zZ r6.Base.Pending <|
  .vo xY r6.Base.Entries <|
  .vo Zy r6.Events <|
  .cl (Wr r6 r6) fun r14 =>
  .vN 0 r14 (
   .ag 5 <|
   .vw zZ r7 <|
   .vw zZ r7 <|
   .cl (xc r7 r7) fun r15 =>
   .vN 0 r15 (
    .ag 6 <|
    .vo WF r8 <|
    .vo WF r8 <|
    .cl (QI r8 r8) fun r16 =>
    .vN 0 r16 (
     .ret true) <|
    .no) <|
   .no) <|
  .no) fun c11 =>
 .no) (zh Tryz.func13)
end
end Go.Am.Try
