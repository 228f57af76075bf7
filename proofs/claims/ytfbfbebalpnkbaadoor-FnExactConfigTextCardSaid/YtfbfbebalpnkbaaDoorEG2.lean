/- The functions of the program in plain Lean, and that the machine answers as they do; conditions at each theorem. -/
import Derived.Test.YtfbfbebalpnkbaaDoorEG1
set_option linter.unusedVariables false
set_option linter.unusedSimpArgs false
namespace Go.Am.Try
open Go.Am Go.Proofs
set_option linter.unusedVariables false
set_option maxRecDepth 20000
set_option maxHeartbeats 2000000
noncomputable section
def vl (F : GExpr → (List UInt8) → Option (List UInt8)) : Prop := ∀ (a0 : GExpr) (e0 : (List UInt8)), Oc (F a0 e0) 103 [.obj 1 (eL za e0)] [vr 0, .val true (yh a0)] fun r => (.val false [.own 1 (eL za r)], [.dead])
def vA (F : GExpr → (List UInt8) → Option (List UInt8)) : Prop := ∀ (a0 : GExpr) (e0 : (List UInt8)), Oc (F a0 e0) 102 [.obj 1 (eL za e0)] [vr 0, .val true (yh a0)] fun r => (.val false [.own 1 (eL za r)], [.dead])
def vB (F : GExpr → (List UInt8) → Option (List UInt8)) : Prop := ∀ (a0 : GExpr) (e0 : (List UInt8)), Oc (F a0 e0) 101 [.obj 1 (eL za e0)] [vr 0, .val true (yh a0)] fun r => (.val false [.own 1 (eL za r)], [.dead])
def wD (F : GExpr → (List UInt8) → Option (List UInt8)) : Prop := ∀ (a0 : GExpr) (e0 : (List UInt8)), Oc (F a0 e0) 71 [.obj 1 (eL za e0)] [vr 0, .val true (yh a0)] fun r => (.val false [.own 1 (eL za r)], [.dead])
def ZO (G_spec_l6say : GExpr → (List UInt8) → Option (List UInt8)) (a0 : GExpr) (e0 : (List UInt8)) : Option (List UInt8) :=
 if 15 <= a0.Kind then
  if a0.Kind <= 22 then
   if zd 1 (e0.length + [(40 : UInt8)].length) then
   (G_spec_l6say a0 (e0 ++ [(40 : UInt8)])).bind fun r4 =>
   if zd 1 (r4.length + [(41 : UInt8)].length) then
   some (r4 ++ [(41 : UInt8)])
   else none
   else none
  else
  (G_spec_l6say a0 e0).bind fun r3 =>
  some r3
 else
 (G_spec_l6say a0 e0).bind fun r2 =>
 some r2
theorem Om (G_spec_l6say : GExpr → (List UInt8) → Option (List UInt8)) (H_spec_l6say : wD G_spec_l6say) : vl (ZO G_spec_l6say) := fun a0 e0 => tc (
 .gI 15 a0.Kind (fun c1 =>
  .gI a0.Kind 22 (fun c2 =>
   .pl zb [(40 : UInt8)] <|
   .ap 1 zb e0 [(40 : UInt8)] fun n3 =>
   .cl (H_spec_l6say a0 (e0 ++ [(40 : UInt8)])) fun r4 =>
   .pl zb [(41 : UInt8)] <|
   .ap 1 zb r4 [(41 : UInt8)] fun n5 =>
   .ret (r4 ++ [(41 : UInt8)])) fun c2 =>
  .cl (H_spec_l6say a0 e0) fun r3 =>
  .ret r3) fun c1 =>
 .cl (H_spec_l6say a0 e0) fun r2 =>
 .ret r2) (zw Tryd.func103)
def jB (G_spec_l6say : GExpr → (List UInt8) → Option (List UInt8)) (G_spec_l6in : GExpr → (List UInt8) → Option (List UInt8)) (a0 : GExpr) (e0 : (List UInt8)) : Option (List UInt8) :=
 if a0.Kind = 13 then
  if zd 1 (e0.length + [(40 : UInt8)].length) then
  (G_spec_l6say a0 (e0 ++ [(40 : UInt8)])).bind fun r3 =>
  if zd 1 (r3.length + [(41 : UInt8)].length) then
  some (r3 ++ [(41 : UInt8)])
  else none
  else none
 else
 if a0.Kind = 14 then
  if zd 1 (e0.length + [(40 : UInt8)].length) then
  (G_spec_l6say a0 (e0 ++ [(40 : UInt8)])).bind fun r4 =>
  if zd 1 (r4.length + [(41 : UInt8)].length) then
  some (r4 ++ [(41 : UInt8)])
  else none
  else none
 else
 (G_spec_l6in a0 e0).bind fun r3 =>
 some r3
theorem Ui (G_spec_l6say : GExpr → (List UInt8) → Option (List UInt8)) (G_spec_l6in : GExpr → (List UInt8) → Option (List UInt8)) (H_spec_l6say : wD G_spec_l6say) (H_spec_l6in : vl G_spec_l6in) : vA (jB G_spec_l6say G_spec_l6in) := fun a0 e0 => tc (
 .eI a0.Kind 13 (fun c1 =>
  .pl zb [(40 : UInt8)] <|
  .ap 1 zb e0 [(40 : UInt8)] fun n2 =>
  .cl (H_spec_l6say a0 (e0 ++ [(40 : UInt8)])) fun r3 =>
  .pl zb [(41 : UInt8)] <|
  .ap 1 zb r3 [(41 : UInt8)] fun n4 =>
  .ret (r3 ++ [(41 : UInt8)])) fun c1 =>
 .eI a0.Kind 14 (fun c2 =>
  .pl zb [(40 : UInt8)] <|
  .ap 1 zb e0 [(40 : UInt8)] fun n3 =>
  .cl (H_spec_l6say a0 (e0 ++ [(40 : UInt8)])) fun r4 =>
  .pl zb [(41 : UInt8)] <|
  .ap 1 zb r4 [(41 : UInt8)] fun n5 =>
  .ret (r4 ++ [(41 : UInt8)])) fun c2 =>
 .cl (H_spec_l6in a0 e0) fun r3 =>
 .ret r3) (zw Tryd.func102)
def yk (G_spec_l6say : GExpr → (List UInt8) → Option (List UInt8)) (a0 : GExpr) : Nat → Int → (List UInt8) → Option (Int × (List UInt8))
  | 0, _, _ => none
  | m + 1, v0, e0 =>
  if v0 < (a0.Kids.length : Int) then
   if 0 < v0 then
    if zd 1 (e0.length + [44, 32].length) then
    if a0.Kind = 5 then
     (z6 v0).bind fun i5 =>
     (a0.K[i5]?).bind fun x6 =>
     if zd 1 ((e0 ++ [44, 32]).length + x6.length) then
     if zd 1 (((e0 ++ [44, 32]) ++ x6).length + [32, 61, 32].length) then
     (a0.Kids[i5]?).bind fun x9 =>
     (G_spec_l6say x9 (((e0 ++ [44, 32]) ++ x6) ++ [32, 61, 32])).bind fun r10 =>
     yk G_spec_l6say a0 m (w64 (v0 + 1)) r10
     else none
     else none
    else
    (z6 v0).bind fun i5 =>
    (a0.Kids[i5]?).bind fun x6 =>
    (G_spec_l6say x6 (e0 ++ [44, 32])).bind fun r7 =>
    yk G_spec_l6say a0 m (w64 (v0 + 1)) r7
    else none
   else
   if a0.Kind = 5 then
    (z6 v0).bind fun i4 =>
    (a0.K[i4]?).bind fun x5 =>
    if zd 1 (e0.length + x5.length) then
    if zd 1 ((e0 ++ x5).length + [32, 61, 32].length) then
    (a0.Kids[i4]?).bind fun x8 =>
    (G_spec_l6say x8 ((e0 ++ x5) ++ [32, 61, 32])).bind fun r9 =>
    yk G_spec_l6say a0 m (w64 (v0 + 1)) r9
    else none
    else none
   else
   (z6 v0).bind fun i4 =>
   (a0.Kids[i4]?).bind fun x5 =>
   (G_spec_l6say x5 e0).bind fun r6 =>
   yk G_spec_l6say a0 m (w64 (v0 + 1)) r6
  else
  some (v0, e0)
theorem JO (G_spec_l6say : GExpr → (List UInt8) → Option (List UInt8)) (H_spec_l6say : wD G_spec_l6say) (a0 : GExpr) (m : Nat) : ∀ (v0 : Int) (e0 : (List UInt8)), Ol (yk G_spec_l6say a0 m v0 e0) 101 (zY Tryd.f101 0) ⟨[(0, vr 1), (3, vp 2 0), (5, vi v0)], [.dead, .obj 1 (eL za e0), .var (yh a0)], 1⟩ fun o => match o with | ⟨o_0, o_1⟩ => (.exit 0, ⟨[(0, vr 1), (3, vp 2 0), (5, vi o_0), (10, vb false)], [.dead, .obj 1 (eL za o_1), .var (yh a0)], 1⟩) := by
  induction m with
  | zero => intro v0 e0 o h; cases h
  | succ m ih => exact fun v0 e0 => tlp (
   .le ze a0.Kids <|
   .lI v0 (a0.Kids.length : Int) (fun c1 =>
    .lI 0 v0 (fun c2 =>
     .os [44, 32] <|
     .ap 1 zb e0 [44, 32] fun n3 =>
     .eI a0.Kind 5 (fun c4 =>
      .na v0 fun i5 =>
      .ix0 (z7 za) a0.K i5 fun x6 =>
      .ap 1 zb (e0 ++ [44, 32]) x6 fun n7 =>
      .os [32, 61, 32] <|
      .ap 1 zb ((e0 ++ [44, 32]) ++ x6) [32, 61, 32] fun n8 =>
      .ag 1 <|
      .ix zA a0.Kids i5 fun x9 =>
      .cl (H_spec_l6say x9 (((e0 ++ [44, 32]) ++ x6) ++ [32, 61, 32])) fun r10 =>
      .go (ih (w64 (v0 + 1)) r10)) fun c4 =>
     .na v0 fun i5 =>
     .ix zA a0.Kids i5 fun x6 =>
     .cl (H_spec_l6say x6 (e0 ++ [44, 32])) fun r7 =>
     .go (ih (w64 (v0 + 1)) r7)) fun c2 =>
    .eI a0.Kind 5 (fun c3 =>
     .na v0 fun i4 =>
     .ix0 (z7 za) a0.K i4 fun x5 =>
     .ap 1 zb e0 x5 fun n6 =>
     .os [32, 61, 32] <|
     .ap 1 zb (e0 ++ x5) [32, 61, 32] fun n7 =>
     .ag 1 <|
     .ix zA a0.Kids i4 fun x8 =>
     .cl (H_spec_l6say x8 ((e0 ++ x5) ++ [32, 61, 32])) fun r9 =>
     .go (ih (w64 (v0 + 1)) r9)) fun c3 =>
    .na v0 fun i4 =>
    .ix zA a0.Kids i4 fun x5 =>
    .cl (H_spec_l6say x5 e0) fun r6 =>
    .go (ih (w64 (v0 + 1)) r6)) fun c1 =>
   .ret (v0, e0))
def vC (G_spec_l6say : GExpr → (List UInt8) → Option (List UInt8)) (n : Nat) (a0 : GExpr) (e0 : (List UInt8)) : Option (List UInt8) :=
 (yk G_spec_l6say a0 n 0 e0).bind fun ⟨o1_0, o1_1⟩ =>
 some o1_1
theorem Uj (G_spec_l6say : GExpr → (List UInt8) → Option (List UInt8)) (H_spec_l6say : wD G_spec_l6say) (n : Nat) : vB (vC G_spec_l6say n) := fun a0 e0 => tc (
 .lp (JO G_spec_l6say H_spec_l6say a0 n 0 e0) fun ⟨o1_0, o1_1⟩ =>
 .ret o1_1) (zw Tryd.func101)
def ko (G_spec_l6list : GExpr → (List UInt8) → Option (List UInt8)) (G_spec_l6post : GExpr → (List UInt8) → Option (List UInt8)) (G_spec_l6say : GExpr → (List UInt8) → Option (List UInt8)) (G_spec_l6in : GExpr → (List UInt8) → Option (List UInt8)) (a0 : GExpr) (e0 : (List UInt8)) : Option (List UInt8) :=
 if a0.Kind = 0 then
  if zd 1 (e0.length + [110, 117, 108, 108].length) then
  some (e0 ++ [110, 117, 108, 108])
  else none
 else
 if a0.Kind = 1 then
  (z6 a0.N).bind fun i3 =>
  ([[102, 97, 108, 115, 101], [116, 114, 117, 101]][i3]?).bind fun x4 =>
  if zd 1 (e0.length + x4.length) then
  some (e0 ++ x4)
  else none
 else
 if a0.Kind = 2 then
  (qB a0.N).bind fun r4 =>
  if zd 1 (e0.length + r4.length) then
  some (e0 ++ r4)
  else none
 else
 if a0.Kind = 3 then
  (qC a0.S).bind fun r5 =>
  if zd 1 (e0.length + r5.length) then
  some (e0 ++ r5)
  else none
 else
 if a0.Kind = 4 then
  if zd 1 (e0.length + [(91 : UInt8)].length) then
  (G_spec_l6list a0 (e0 ++ [(91 : UInt8)])).bind fun r7 =>
  if zd 1 (r7.length + [(93 : UInt8)].length) then
  some (r7 ++ [(93 : UInt8)])
  else none
  else none
 else
 if a0.Kind = 5 then
  if zd 1 (e0.length + [(123 : UInt8)].length) then
  (G_spec_l6list a0 (e0 ++ [(123 : UInt8)])).bind fun r8 =>
  if zd 1 (r8.length + [(125 : UInt8)].length) then
  some (r8 ++ [(125 : UInt8)])
  else none
  else none
 else
 if a0.Kind = 6 then
  if zd 1 (e0.length + [(36 : UInt8)].length) then
  if zd 1 ((e0 ++ [(36 : UInt8)]).length + a0.S.length) then
  some ((e0 ++ [(36 : UInt8)]) ++ a0.S)
  else none
  else none
 else
 if a0.Kind = 7 then
  if zd 1 (e0.length + a0.S.length) then
  some (e0 ++ a0.S)
  else none
 else
 if a0.Kind = 8 then
  (a0.Kids[0]?).bind fun x10 =>
  (G_spec_l6post x10 e0).bind fun r11 =>
  if zd 1 (r11.length + [(46 : UInt8)].length) then
  if zd 1 ((r11 ++ [(46 : UInt8)]).length + a0.S.length) then
  some ((r11 ++ [(46 : UInt8)]) ++ a0.S)
  else none
  else none
 else
 if a0.Kind = 9 then
  (a0.Kids[0]?).bind fun x11 =>
  (G_spec_l6post x11 e0).bind fun r12 =>
  if zd 1 (r12.length + [(91 : UInt8)].length) then
  (a0.Kids[1]?).bind fun x14 =>
  (G_spec_l6say x14 (r12 ++ [(91 : UInt8)])).bind fun r15 =>
  if zd 1 (r15.length + [(93 : UInt8)].length) then
  some (r15 ++ [(93 : UInt8)])
  else none
  else none
 else
 if a0.Kind = 10 then
  if zd 1 (e0.length + [105, 110, 100, 101, 120].length) then
  some (e0 ++ [105, 110, 100, 101, 120])
  else none
 else
 if a0.Kind = 11 then
  if zd 1 (e0.length + [107, 101, 121].length) then
  some (e0 ++ [107, 101, 121])
  else none
 else
 if a0.Kind = 12 then
  if zd 1 (e0.length + [118, 97, 108].length) then
  some (e0 ++ [118, 97, 108])
  else none
 else
 if a0.Kind = 13 then
  if zd 1 (e0.length + [(33 : UInt8)].length) then
  (a0.Kids[0]?).bind fun x16 =>
  (G_spec_l6in x16 (e0 ++ [(33 : UInt8)])).bind fun r17 =>
  some r17
  else none
 else
 if a0.Kind = 14 then
  if zd 1 (e0.length + [(45 : UInt8)].length) then
  (a0.Kids[0]?).bind fun x17 =>
  (G_spec_l6in x17 (e0 ++ [(45 : UInt8)])).bind fun r18 =>
  some r18
  else none
 else
 if a0.Kind = 22 then
  (a0.Kids[0]?).bind fun x17 =>
  (G_spec_l6in x17 e0).bind fun r18 =>
  if zd 1 (r18.length + [32, 63, 32].length) then
  (a0.Kids[1]?).bind fun x20 =>
  (G_spec_l6in x20 (r18 ++ [32, 63, 32])).bind fun r21 =>
  if zd 1 (r21.length + [32, 58, 32].length) then
  (a0.Kids[2]?).bind fun x23 =>
  (G_spec_l6in x23 (r21 ++ [32, 58, 32])).bind fun r24 =>
  some r24
  else none
  else none
 else
 if a0.Kind = 23 then
  if zd 1 (e0.length + a0.S.length) then
  if zd 1 ((e0 ++ a0.S).length + [(40 : UInt8)].length) then
  (G_spec_l6list a0 ((e0 ++ a0.S) ++ [(40 : UInt8)])).bind fun r20 =>
  if zd 1 (r20.length + [(41 : UInt8)].length) then
  some (r20 ++ [(41 : UInt8)])
  else none
  else none
  else none
 else
 (a0.Kids[0]?).bind fun x18 =>
 (G_spec_l6in x18 e0).bind fun r19 =>
 (v8 a0.Kind).bind fun r20 =>
 if zd 1 (r19.length + r20.length) then
 (a0.Kids[1]?).bind fun x22 =>
 (G_spec_l6in x22 (r19 ++ r20)).bind fun r23 =>
 some r23
 else none
theorem P0 (G_spec_l6list : GExpr → (List UInt8) → Option (List UInt8)) (G_spec_l6post : GExpr → (List UInt8) → Option (List UInt8)) (G_spec_l6say : GExpr → (List UInt8) → Option (List UInt8)) (G_spec_l6in : GExpr → (List UInt8) → Option (List UInt8)) (H_spec_l6list : vB G_spec_l6list) (H_spec_l6post : vA G_spec_l6post) (H_spec_l6say : wD G_spec_l6say) (H_spec_l6in : vl G_spec_l6in) : wD (ko G_spec_l6list G_spec_l6post G_spec_l6say G_spec_l6in) := fun a0 e0 => tc (
 .eI a0.Kind 0 (fun c1 =>
  .os [110, 117, 108, 108] <|
  .ap 1 zb e0 [110, 117, 108, 108] fun n2 =>
  .ret (e0 ++ [110, 117, 108, 108])) fun c1 =>
 .eI a0.Kind 1 (fun c2 =>
  .na a0.N fun i3 =>
  .ix0 wr [[102, 97, 108, 115, 101], [116, 114, 117, 101]] i3 fun x4 =>
  .ag 0 <|
  .os x4 <|
  .ap 1 zb e0 x4 fun n5 =>
  .ret (e0 ++ x4)) fun c2 =>
 .eI a0.Kind 2 (fun c3 =>
  .cl (KC a0.N) fun r4 =>
  .pl zb r4 <|
  .ap 1 zb e0 r4 fun n5 =>
  .ret (e0 ++ r4)) fun c3 =>
 .eI a0.Kind 3 (fun c4 =>
  .cl (KD a0.S) fun r5 =>
  .pl zb r5 <|
  .ap 1 zb e0 r5 fun n6 =>
  .ret (e0 ++ r5)) fun c4 =>
 .eI a0.Kind 4 (fun c5 =>
  .pl zb [(91 : UInt8)] <|
  .ap 1 zb e0 [(91 : UInt8)] fun n6 =>
  .cl (H_spec_l6list a0 (e0 ++ [(91 : UInt8)])) fun r7 =>
  .pl zb [(93 : UInt8)] <|
  .ap 1 zb r7 [(93 : UInt8)] fun n8 =>
  .ret (r7 ++ [(93 : UInt8)])) fun c5 =>
 .eI a0.Kind 5 (fun c6 =>
  .pl zb [(123 : UInt8)] <|
  .ap 1 zb e0 [(123 : UInt8)] fun n7 =>
  .cl (H_spec_l6list a0 (e0 ++ [(123 : UInt8)])) fun r8 =>
  .pl zb [(125 : UInt8)] <|
  .ap 1 zb r8 [(125 : UInt8)] fun n9 =>
  .ret (r8 ++ [(125 : UInt8)])) fun c6 =>
 .eI a0.Kind 6 (fun c7 =>
  .pl zb [(36 : UInt8)] <|
  .ap 1 zb e0 [(36 : UInt8)] fun n8 =>
  .ap 1 zb (e0 ++ [(36 : UInt8)]) a0.S fun n9 =>
  .ret ((e0 ++ [(36 : UInt8)]) ++ a0.S)) fun c7 =>
 .eI a0.Kind 7 (fun c8 =>
  .ap 1 zb e0 a0.S fun n9 =>
  .ret (e0 ++ a0.S)) fun c8 =>
 .eI a0.Kind 8 (fun c9 =>
  .nl 0 <|
  .ix zA a0.Kids 0 fun x10 =>
  .cl (H_spec_l6post x10 e0) fun r11 =>
  .pl zb [(46 : UInt8)] <|
  .ap 1 zb r11 [(46 : UInt8)] fun n12 =>
  .ap 1 zb (r11 ++ [(46 : UInt8)]) a0.S fun n13 =>
  .ret ((r11 ++ [(46 : UInt8)]) ++ a0.S)) fun c9 =>
 .eI a0.Kind 9 (fun c10 =>
  .nl 0 <|
  .ix zA a0.Kids 0 fun x11 =>
  .cl (H_spec_l6post x11 e0) fun r12 =>
  .pl zb [(91 : UInt8)] <|
  .ap 1 zb r12 [(91 : UInt8)] fun n13 =>
  .nl 1 <|
  .ix zA a0.Kids 1 fun x14 =>
  .cl (H_spec_l6say x14 (r12 ++ [(91 : UInt8)])) fun r15 =>
  .pl zb [(93 : UInt8)] <|
  .ap 1 zb r15 [(93 : UInt8)] fun n16 =>
  .ret (r15 ++ [(93 : UInt8)])) fun c10 =>
 .eI a0.Kind 10 (fun c11 =>
  .os [105, 110, 100, 101, 120] <|
  .ap 1 zb e0 [105, 110, 100, 101, 120] fun n12 =>
  .ret (e0 ++ [105, 110, 100, 101, 120])) fun c11 =>
 .eI a0.Kind 11 (fun c12 =>
  .os [107, 101, 121] <|
  .ap 1 zb e0 [107, 101, 121] fun n13 =>
  .ret (e0 ++ [107, 101, 121])) fun c12 =>
 .eI a0.Kind 12 (fun c13 =>
  .os [118, 97, 108] <|
  .ap 1 zb e0 [118, 97, 108] fun n14 =>
  .ret (e0 ++ [118, 97, 108])) fun c13 =>
 .eI a0.Kind 13 (fun c14 =>
  .pl zb [(33 : UInt8)] <|
  .ap 1 zb e0 [(33 : UInt8)] fun n15 =>
  .nl 0 <|
  .ix zA a0.Kids 0 fun x16 =>
  .cl (H_spec_l6in x16 (e0 ++ [(33 : UInt8)])) fun r17 =>
  .ret r17) fun c14 =>
 .eI a0.Kind 14 (fun c15 =>
  .pl zb [(45 : UInt8)] <|
  .ap 1 zb e0 [(45 : UInt8)] fun n16 =>
  .nl 0 <|
  .ix zA a0.Kids 0 fun x17 =>
  .cl (H_spec_l6in x17 (e0 ++ [(45 : UInt8)])) fun r18 =>
  .ret r18) fun c15 =>
 .eI a0.Kind 22 (fun c16 =>
  .nl 0 <|
  .ix zA a0.Kids 0 fun x17 =>
  .cl (H_spec_l6in x17 e0) fun r18 =>
  .os [32, 63, 32] <|
  .ap 1 zb r18 [32, 63, 32] fun n19 =>
  .nl 1 <|
  .ix zA a0.Kids 1 fun x20 =>
  .cl (H_spec_l6in x20 (r18 ++ [32, 63, 32])) fun r21 =>
  .os [32, 58, 32] <|
  .ap 1 zb r21 [32, 58, 32] fun n22 =>
  .nl 2 <|
  .ix zA a0.Kids 2 fun x23 =>
  .cl (H_spec_l6in x23 (r21 ++ [32, 58, 32])) fun r24 =>
  .ret r24) fun c16 =>
 .eI a0.Kind 23 (fun c17 =>
  .ap 1 zb e0 a0.S fun n18 =>
  .pl zb [(40 : UInt8)] <|
  .ap 1 zb (e0 ++ a0.S) [(40 : UInt8)] fun n19 =>
  .cl (H_spec_l6list a0 ((e0 ++ a0.S) ++ [(40 : UInt8)])) fun r20 =>
  .pl zb [(41 : UInt8)] <|
  .ap 1 zb r20 [(41 : UInt8)] fun n21 =>
  .ret (r20 ++ [(41 : UInt8)])) fun c17 =>
 .nl 0 <|
 .ix zA a0.Kids 0 fun x18 =>
 .cl (H_spec_l6in x18 e0) fun r19 =>
 .cl (RP a0.Kind) fun r20 =>
 .os r20 <|
 .ap 1 zb r19 r20 fun n21 =>
 .nl 1 <|
 .ix zA a0.Kids 1 fun x22 =>
 .cl (H_spec_l6in x22 (r19 ++ r20)) fun r23 =>
 .ret r23) (zw Tryd.func71)
mutual
def xy : Nat → GExpr → (List UInt8) → Option (List UInt8)
 | 0, _, _ => none
 | n + 1, a0, e0 => ZO (zP n) a0 e0
def wl : Nat → GExpr → (List UInt8) → Option (List UInt8)
 | 0, _, _ => none
 | n + 1, a0, e0 => jB (zP n) (xy n) a0 e0
def wm : Nat → GExpr → (List UInt8) → Option (List UInt8)
 | 0, _, _ => none
 | n + 1, a0, e0 => vC (zP n) n a0 e0
def zP : Nat → GExpr → (List UInt8) → Option (List UInt8)
 | 0, _, _ => none
 | n + 1, a0, e0 => ko (wm n) (wl n) (zP n) (xy n) a0 e0
end
theorem vD (n : Nat) : vl (xy n) ∧ vA (wl n) ∧ vB (wm n) ∧ wD (zP n) := by
 induction n with
 | zero => exact ⟨fun _ _ _ h => (by rw [xy] at h; cases h), fun _ _ _ h => (by rw [wl] at h; cases h), fun _ _ _ h => (by rw [wm] at h; cases h), fun _ _ _ h => (by rw [zP] at h; cases h)⟩
 | succ n ih =>
  obtain ⟨ih_spec_l6in, ih_spec_l6post, ih_spec_l6list, ih_spec_l6say⟩ := ih
  exact ⟨fun a0 e0 r h => Om (zP n) ih_spec_l6say a0 e0 r (by rw [xy] at h; exact h),
   fun a0 e0 r h => Ui (zP n) (xy n) ih_spec_l6say ih_spec_l6in a0 e0 r (by rw [wl] at h; exact h),
   fun a0 e0 r h => Uj (zP n) ih_spec_l6say n a0 e0 r (by rw [wm] at h; exact h),
   fun a0 e0 r h => P0 (wm n) (wl n) (zP n) (xy n) ih_spec_l6list ih_spec_l6post ih_spec_l6say ih_spec_l6in a0 e0 r (by rw [zP] at h; exact h)⟩
def Kk (a0 : GExpr) (e0 : (List UInt8)) : Option (List UInt8) := none
theorem RQ (a0 : GExpr) (e0 : (List UInt8)) (r : (List UInt8)) (h : Kk a0 e0 = some r) : ∃ n, xy n a0 e0 = some r := by cases h
def Qc (a0 : GExpr) (e0 : (List UInt8)) : Option (List UInt8) := none
theorem KE (a0 : GExpr) (e0 : (List UInt8)) (r : (List UInt8)) (h : Qc a0 e0 = some r) : ∃ n, wl n a0 e0 = some r := by cases h
def Qd (a0 : GExpr) (e0 : (List UInt8)) : Option (List UInt8) := none
theorem KF (a0 : GExpr) (e0 : (List UInt8)) (r : (List UInt8)) (h : Qd a0 e0 = some r) : ∃ n, wm n a0 e0 = some r := by cases h
theorem Al {k : Int} (h : 0 <= k ∧ k <= 23) : k = 0 ∨ k = 1 ∨ k = 2 ∨ k = 3 ∨ k = 4 ∨ k = 5 ∨ k = 6 ∨ k = 7 ∨ k = 8 ∨ k = 9 ∨ k = 10 ∨ k = 11 ∨ k = 12 ∨ k = 13 ∨ k = 14 ∨ k = 15 ∨ k = 16 ∨ k = 17 ∨ k = 18 ∨ k = 19 ∨ k = 20 ∨ k = 21 ∨ k = 22 ∨ k = 23 := by omega
theorem vm {l : List GExpr} {n i : Nat} (h : l.length = n) (hi : i < n) : ∃ x, l[i]? = some x ∧ x ∈ l := ⟨l[i]'(by omega), List.getElem?_eq_getElem _, List.getElem_mem _⟩
theorem On {G : GExpr → List UInt8 → Option (List UInt8)} {a : GExpr} {M : Nat} (hM : M <= 2 ^ 39) (hA : xsz a <= 2 ^ 20) (hk : a.Kind = 5 → a.K.length = a.Kids.length) (hG : ∀ x ∈ a.Kids, (∀ b : List UInt8, b.length <= M → G x b = some (b ++ zq x)) ∧ (zq x).length <= 31 * xsz x + 21) :
  ∀ (l p : List GExpr) (kp k : List (List UInt8)) (acc : List UInt8) (m : Nat), a.Kids = p ++ l → (a.Kind = 5 → a.K = kp ++ k ∧ kp.length = p.length) → l.length < m → acc.length + 40 * zx l + 31 * bsz k <= M →
  ∃ z, yk G a m (p.length : Int) acc = some (z, acc ++ yW (decide (a.Kind = 5)) (decide (p = [])) k l) := by
 have hv := xN a
 have hl := yd a.Kids
 intro l
 induction l with
 | nil =>
  intro p kp k acc m he _ hm _
  obtain ⟨m, rfl, _⟩ := zi hm
  exact ⟨_, by rw [yk, he, List.append_nil, if_neg (by omega), yW, List.append_nil]⟩
 | cons x l ih =>
  intro p kp k acc m he hkk hm hb
  obtain ⟨m, rfl, hm'⟩ := zi hm
  have hlen : a.Kids.length = p.length + (l.length + 1) := by rw [he]; simp
  have hg : a.Kids[p.length]? = some x := by rw [he]; exact zN p x l
  obtain ⟨g1, g2⟩ := hG x (by rw [he]; simp)
  simp only [zx, List.length_cons] at hb hm'
  have hp' : decide (p ++ [x] = []) = false := by simp
  by_cases c5 : a.Kind = 5
  ·obtain ⟨k1, k2⟩ := hkk c5
   have hkl := hk c5
   cases k with
   | nil => rw [k1, List.append_nil] at hkl; omega
   | cons y k =>
    rw [qM] at hb
    have hgk : a.K[p.length]? = some y := by rw [k1, <- k2]; exact zN kp y k
    have next := fun acc' ha => ih (p ++ [x]) (kp ++ [y]) k acc' m (by rw [he]; simp) (fun _ => ⟨by rw [k1]; simp, by simp [k2]⟩) (by omega) ha
    by_cases c0 : p = []
    ·subst c0
     obtain ⟨z, hz⟩ := next (acc ++ y ++ [32, 61, 32] ++ zq x) (by simp only [List.length_append, List.length_cons, List.length_nil]; omega)
     refine ⟨z, ?_⟩
     rw [yk, if_pos (by omega), if_neg (by simp), if_pos c5, zg, Option.bind_some, hgk, Option.bind_some, if_pos (zc (by decide) (by omega)), if_pos (zc (by decide) (by simp only [List.length_append, List.length_cons, List.length_nil]; omega)), hg, Option.bind_some, g1 _ (by simp only [List.length_append, List.length_cons, List.length_nil]; omega), Option.bind_some, zZ [] x (by simp), hz, hp', yW, decide_eq_true c5]
     simp
    ·have hpos : (0 : Int) < (p.length : Int) := by have := List.length_pos_iff.2 c0; omega
     obtain ⟨z, hz⟩ := next (acc ++ [44, 32] ++ y ++ [32, 61, 32] ++ zq x) (by simp only [List.length_append, List.length_cons, List.length_nil]; omega)
     refine ⟨z, ?_⟩
     rw [yk, if_pos (by omega), if_pos hpos, if_pos (zc (by decide) (by simp only [List.length_cons, List.length_nil]; omega)), if_pos c5, zg, Option.bind_some, hgk, Option.bind_some, if_pos (zc (by decide) (by simp only [List.length_append, List.length_cons, List.length_nil]; omega)), if_pos (zc (by decide) (by simp only [List.length_append, List.length_cons, List.length_nil]; omega)), hg, Option.bind_some, g1 _ (by simp only [List.length_append, List.length_cons, List.length_nil]; omega), Option.bind_some, zZ p x (by omega), hz, hp', yW, decide_eq_true c5, decide_eq_false c0]
     simp
  ·have next := fun acc' ha => ih (p ++ [x]) kp k.tail acc' m (by rw [he]; simp) (fun e => absurd e c5) (by omega) ha
   have hbt := Va k
   by_cases c0 : p = []
   ·subst c0
    obtain ⟨z, hz⟩ := next (acc ++ zq x) (by simp only [List.length_append]; omega)
    refine ⟨z, ?_⟩
    rw [yk, if_pos (by omega), if_neg (by simp), if_neg c5, zg, Option.bind_some, hg, Option.bind_some, g1 _ (by omega), Option.bind_some, zZ [] x (by simp), hz, hp', yW, decide_eq_false c5]
    simp
   ·have hpos : (0 : Int) < (p.length : Int) := by have := List.length_pos_iff.2 c0; omega
    obtain ⟨z, hz⟩ := next (acc ++ [44, 32] ++ zq x) (by simp only [List.length_append, List.length_cons, List.length_nil]; omega)
    refine ⟨z, ?_⟩
    rw [yk, if_pos (by omega), if_pos hpos, if_pos (zc (by decide) (by simp only [List.length_cons, List.length_nil]; omega)), if_neg c5, zg, Option.bind_some, hg, Option.bind_some, g1 _ (by simp only [List.length_append, List.length_cons, List.length_nil]; omega), Option.bind_some, zZ p x (by omega), hz, hp', yW, decide_eq_false c5, decide_eq_false c0]
    simp
structure SayK (G : Nat → GExpr → List UInt8 → Option (List UInt8)) (M : Nat) (v : GExpr) : Prop where
 kid : ∀ m x, x ∈ v.Kids → ∀ b : List UInt8, b.length <= M → G m x b = some (b ++ brk m x.Kind (zq x))
 len : ∀ x ∈ v.Kids, (zq x).length <= 31 * xsz x + 21
theorem DE {G : GExpr → List UInt8 → Option (List UInt8)} {M : Nat} {x : GExpr} (hM : M <= 2 ^ 39) (hl : (zq x).length <= 2 ^ 26) (hG : ∀ b : List UInt8, b.length <= M + 1 → G x b = some (b ++ zq x)) {b : List UInt8} (hb : b.length <= M) : ZO G x b = some (b ++ brk 1 x.Kind (zq x)) := by
 unfold ZO brk
 by_cases c1 : 15 <= x.Kind
 ·rw [if_pos c1]
  by_cases c2 : x.Kind <= 22
  ·rw [if_pos c2, if_pos (zc (by decide) (by simp only [List.length_cons, List.length_nil]; omega)), hG _ (by simp only [List.length_append, List.length_cons, List.length_nil]; omega), Option.bind_some, if_pos (zc (by decide) (by simp only [List.length_append, List.length_cons, List.length_nil]; omega)), if_pos (.inl ⟨Nat.le_refl _, c1, c2⟩)]
   simp
  ·rw [if_neg c2, hG _ (by omega), if_neg (by omega)]; rfl
 ·rw [if_neg c1, hG _ (by omega), if_neg (by omega)]; rfl
theorem G1 {G G2 : GExpr → List UInt8 → Option (List UInt8)} {M : Nat} {x : GExpr} (hM : M <= 2 ^ 39) (hl : (zq x).length <= 2 ^ 26) (hG : ∀ b : List UInt8, b.length <= M + 1 → G x b = some (b ++ zq x)) (hG2 : ∀ b : List UInt8, b.length <= M → G2 x b = some (b ++ brk 1 x.Kind (zq x))) {b : List UInt8} (hb : b.length <= M) : jB G G2 x b = some (b ++ brk 2 x.Kind (zq x)) := by
 unfold jB
 by_cases c : x.Kind = 13 ∨ x.Kind = 14
 ·have e : brk 2 x.Kind (zq x) = 40 :: (zq x ++ [41]) := if_pos (.inr ⟨rfl, c⟩)
  rw [e]
  have r1 : zd 1 (b.length + [(40 : UInt8)].length) := zc (by decide) (by simp only [List.length_cons, List.length_nil]; omega)
  have r2 : zd 1 ((b ++ [40] ++ zq x).length + [(41 : UInt8)].length) := zc (by decide) (by simp only [List.length_append, List.length_cons, List.length_nil]; omega)
  have h := hG (b ++ [40]) (by simp only [List.length_append, List.length_cons, List.length_nil]; omega)
  rw [if_pos r1, h, Option.bind_some, if_pos r2]
  rcases c with c | c
  ·rw [if_pos c]; simp
  ·rw [if_neg (by omega), if_pos c]; simp
 ·have e : brk 2 x.Kind (zq x) = brk 1 x.Kind (zq x) := by
   unfold brk
   by_cases c2 : 15 <= x.Kind ∧ x.Kind <= 22
   ·rw [if_pos (.inl ⟨by decide, c2⟩), if_pos (.inl ⟨by decide, c2⟩)]
   ·rw [if_neg (by omega), if_neg (by omega)]
  rw [if_neg (by omega), if_neg (by omega), hG2 b hb, e]; rfl
theorem BI (k : Int) (t : List UInt8) : brk 0 k t = t := if_neg (by omega)
theorem MW {k : Int} : v8 k = some (WS k) := by
 unfold v8 WS
 (repeat' split) <;> rfl
theorem HV {Gl Gp Gs Gi : GExpr → List UInt8 → Option (List UInt8)} {M : Nat} {v : GExpr} {b : List UInt8} (hM : M <= 2 ^ 39) (hs : xsz v <= 2 ^ 20) (hv : qN v = true) (hlen : ∀ x ∈ v.Kids, (zq x).length <= 31 * xsz x + 21)
  (hl : ∀ b : List UInt8, b.length <= M → Gl v b = some (b ++ yW (decide (v.Kind = 5)) true v.K v.Kids)) (hll : (yW (decide (v.Kind = 5)) true v.K v.Kids).length <= 2 ^ 25) (hp : ∀ x ∈ v.Kids, ∀ b : List UInt8, b.length <= M → Gp x b = some (b ++ brk 2 x.Kind (zq x)))
  (hsy : ∀ x ∈ v.Kids, ∀ b : List UInt8, b.length <= M → Gs x b = some (b ++ brk 0 x.Kind (zq x))) (hi : ∀ x ∈ v.Kids, ∀ b : List UInt8, b.length <= M → Gi x b = some (b ++ brk 1 x.Kind (zq x))) (hb : b.length + 2 ^ 27 <= M) : ko Gl Gp Gs Gi v b = some (b ++ zq v) := by
 obtain ⟨l1, l2, l3, l4, l5, l6, l7, l8, l9, l10, l11⟩ := ZI hv
 have hxv := xN v
 have kx : ∀ (m i : Nat) x, v.Kids[i]? = some x → yU m i v.Kids = brk m x.Kind (zq x) ∧ (brk m x.Kind (zq x)).length <= 2 ^ 25 + 2 := fun m i x hx => by
  have h1 := List.mem_of_getElem? hx
  have h2 := hlen x h1
  have h3 := yz h1
  have h4 := Th m x.Kind (zq x)
  exact ⟨Vb m _ i x hx, by omega⟩
 have hsg := Jp v.Kind
 rw [xO]
 unfold ko
 by_cases e0 : v.Kind = 0
 ·rw [if_pos e0, if_pos e0]
  rw [if_pos (zc (by decide) (by simp only [List.length_append, List.length_cons, List.length_nil]; omega))]
 rw [if_neg e0, if_neg e0]
 by_cases e1 : v.Kind = 1
 ·rw [if_pos e1, if_pos e1]
  by_cases c : v.N = 1
  ·rw [if_pos c, c, show z6 1 = some 1 from rfl, Option.bind_some, show ([[102, 97, 108, 115, 101], [116, 114, 117, 101]] : List (List UInt8))[1]? = some [116, 114, 117, 101] from rfl, Option.bind_some, if_pos (zc (by decide) (by simp only [List.length_append, List.length_cons, List.length_nil]; omega))]
  ·rw [if_neg c, show v.N = 0 by have := l2 e1; omega, show z6 0 = some 0 from rfl, Option.bind_some, show ([[102, 97, 108, 115, 101], [116, 114, 117, 101]] : List (List UInt8))[0]? = some [102, 97, 108, 115, 101] from rfl, Option.bind_some, if_pos (zc (by decide) (by simp only [List.length_append, List.length_cons, List.length_nil]; omega))]
 rw [if_neg e1, if_neg e1]
 by_cases e2 : v.Kind = 2
 ·rw [if_pos e2, if_pos e2]
  have h := l3 e2
  have := KZ (n := v.N) (by omega) (by omega)
  rw [Ok (by omega) (by omega), Option.bind_some, if_pos (zc (by decide) (by omega))]
 rw [if_neg e2, if_neg e2]
 by_cases e3 : v.Kind = 3
 ·rw [if_pos e3, if_pos e3]
  have := ZH v.S
  have hq : (Yq v.S).length = (ZG v.S).length + 2 := by simp [Yq]
  rw [show qC v.S = some (Yq v.S) from if_pos (by omega), Option.bind_some, if_pos (zc (by decide) (by omega))]
 rw [if_neg e3, if_neg e3]
 by_cases e4 : v.Kind = 4
 ·rw [if_pos e4, if_pos e4]
  rw [decide_eq_false (show ¬ v.Kind = 5 by omega)] at hl hll
  rw [if_pos (zc (by decide) (by simp only [List.length_append, List.length_cons, List.length_nil]; omega)), hl _ (by simp only [List.length_append, List.length_cons, List.length_nil]; omega), Option.bind_some, if_pos (zc (by decide) (by simp only [List.length_append, List.length_cons, List.length_nil]; omega))]
  simp
 rw [if_neg e4, if_neg e4]
 by_cases e5 : v.Kind = 5
 ·rw [if_pos e5, if_pos e5]
  rw [decide_eq_true e5] at hl hll
  rw [if_pos (zc (by decide) (by simp only [List.length_append, List.length_cons, List.length_nil]; omega)), hl _ (by simp only [List.length_append, List.length_cons, List.length_nil]; omega), Option.bind_some, if_pos (zc (by decide) (by simp only [List.length_append, List.length_cons, List.length_nil]; omega))]
  simp
 rw [if_neg e5, if_neg e5]
 by_cases e6 : v.Kind = 6
 ·rw [if_pos e6, if_pos e6]
  rw [if_pos (zc (by decide) (by simp only [List.length_append, List.length_cons, List.length_nil]; omega)), if_pos (zc (by decide) (by simp only [List.length_append, List.length_cons, List.length_nil]; omega))]
  simp
 rw [if_neg e6, if_neg e6]
 by_cases e7 : v.Kind = 7
 ·rw [if_pos e7, if_pos e7]
  rw [if_pos (zc (by decide) (by omega))]
 rw [if_neg e7, if_neg e7]
 by_cases e8 : v.Kind = 8
 ·rw [if_pos e8, if_pos e8]
  obtain ⟨x0, g0, m0⟩ := vm (i := 0) (l6 (.inl e8)) (by decide)
  obtain ⟨k0, k1⟩ := kx 2 0 x0 g0
  rw [g0, Option.bind_some, hp x0 m0 _ (by omega), Option.bind_some, if_pos (zc (by decide) (by simp only [List.length_append, List.length_cons, List.length_nil]; omega)), if_pos (zc (by decide) (by simp only [List.length_append, List.length_cons, List.length_nil]; omega)), k0]
  simp
 rw [if_neg e8, if_neg e8]
 by_cases e9 : v.Kind = 9
 ·rw [if_pos e9, if_pos e9]
  obtain ⟨x0, g0, m0⟩ := vm (i := 0) (l7 (.inl e9)) (by decide)
  obtain ⟨x1, g1, m1⟩ := vm (i := 1) (l7 (.inl e9)) (by decide)
  obtain ⟨k0, k1⟩ := kx 2 0 x0 g0
  obtain ⟨k2, k3⟩ := kx 0 1 x1 g1
  rw [g0, Option.bind_some, hp x0 m0 _ (by omega), Option.bind_some, if_pos (zc (by decide) (by simp only [List.length_append, List.length_cons, List.length_nil]; omega)), g1, Option.bind_some, hsy x1 m1 _ (by simp only [List.length_append, List.length_cons, List.length_nil]; omega), Option.bind_some, if_pos (zc (by decide) (by simp only [List.length_append, List.length_cons, List.length_nil]; omega)), k0, k2]
  simp
 rw [if_neg e9, if_neg e9]
 by_cases e10 : v.Kind = 10
 ·rw [if_pos e10, if_pos e10]
  rw [if_pos (zc (by decide) (by simp only [List.length_append, List.length_cons, List.length_nil]; omega))]
 rw [if_neg e10, if_neg e10]
 by_cases e11 : v.Kind = 11
 ·rw [if_pos e11, if_pos e11]
  rw [if_pos (zc (by decide) (by simp only [List.length_append, List.length_cons, List.length_nil]; omega))]
 rw [if_neg e11, if_neg e11]
 by_cases e12 : v.Kind = 12
 ·rw [if_pos e12, if_pos e12]
  rw [if_pos (zc (by decide) (by simp only [List.length_append, List.length_cons, List.length_nil]; omega))]
 rw [if_neg e12, if_neg e12]
 by_cases e13 : v.Kind = 13
 ·rw [if_pos e13, if_pos e13]
  obtain ⟨x0, g0, m0⟩ := vm (i := 0) (l6 (.inr (.inl e13))) (by decide)
  obtain ⟨k0, k1⟩ := kx 1 0 x0 g0
  rw [if_pos (zc (by decide) (by simp only [List.length_append, List.length_cons, List.length_nil]; omega)), g0, Option.bind_some, hi x0 m0 _ (by simp only [List.length_append, List.length_cons, List.length_nil]; omega), k0]
  simp
 rw [if_neg e13, if_neg e13]
 by_cases e14 : v.Kind = 14
 ·rw [if_pos e14, if_pos e14]
  obtain ⟨x0, g0, m0⟩ := vm (i := 0) (l6 (.inr (.inr e14))) (by decide)
  obtain ⟨k0, k1⟩ := kx 1 0 x0 g0
  rw [if_pos (zc (by decide) (by simp only [List.length_append, List.length_cons, List.length_nil]; omega)), g0, Option.bind_some, hi x0 m0 _ (by simp only [List.length_append, List.length_cons, List.length_nil]; omega), k0]
  simp
 rw [if_neg e14, if_neg e14]
 by_cases e22 : v.Kind = 22
 ·rw [if_pos e22, if_pos e22]
  obtain ⟨x0, g0, m0⟩ := vm (i := 0) (l8 e22) (by decide)
  obtain ⟨x1, g1, m1⟩ := vm (i := 1) (l8 e22) (by decide)
  obtain ⟨x2, g2, m2⟩ := vm (i := 2) (l8 e22) (by decide)
  obtain ⟨k0, k1⟩ := kx 1 0 x0 g0
  obtain ⟨k2, k3⟩ := kx 1 1 x1 g1
  obtain ⟨k4, k5⟩ := kx 1 2 x2 g2
  rw [g0, Option.bind_some, hi x0 m0 _ (by omega), Option.bind_some, if_pos (zc (by decide) (by simp only [List.length_append, List.length_cons, List.length_nil]; omega)), g1, Option.bind_some, hi x1 m1 _ (by simp only [List.length_append, List.length_cons, List.length_nil]; omega), Option.bind_some, if_pos (zc (by decide) (by simp only [List.length_append, List.length_cons, List.length_nil]; omega)), g2, Option.bind_some, hi x2 m2 _ (by simp only [List.length_append, List.length_cons, List.length_nil]; omega), Option.bind_some, k0, k2, k4]
  simp
 rw [if_neg e22, if_neg e22]
 by_cases e23 : v.Kind = 23
 ·rw [if_pos e23, if_pos e23]
  rw [decide_eq_false (show ¬ v.Kind = 5 by omega)] at hl hll
  rw [if_pos (zc (by decide) (by omega)), if_pos (zc (by decide) (by simp only [List.length_append, List.length_cons, List.length_nil]; omega)), hl _ (by simp only [List.length_append, List.length_cons, List.length_nil]; omega), Option.bind_some, if_pos (zc (by decide) (by simp only [List.length_append, List.length_cons, List.length_nil]; omega))]
  simp
 rw [if_neg e23, if_neg e23]
 obtain ⟨x0, g0, m0⟩ := vm (i := 0) (l7 (.inr (by omega))) (by decide)
 obtain ⟨x1, g1, m1⟩ := vm (i := 1) (l7 (.inr (by omega))) (by decide)
 obtain ⟨k0, k1⟩ := kx 1 0 x0 g0
 obtain ⟨k2, k3⟩ := kx 1 1 x1 g1
 rw [g0, Option.bind_some, hi x0 m0 _ (by omega), Option.bind_some, MW, Option.bind_some, if_pos (zc (by decide) (by simp only [List.length_append]; omega)), g1, Option.bind_some, hi x1 m1 _ (by simp only [List.length_append]; omega), k0, k2]
 simp
theorem OB : ∀ (d : Nat) (v : GExpr) (b : List UInt8) (f : Nat), frX d v = true → xsz v <= 2 ^ 20 → b.length + d * 2 ^ 28 <= 2 ^ 39 → 4 * xsz v + 8 <= f → zP f v b = some (b ++ zq v)
 | 0, v, b, f, h, _, _, _ => by simp [frX] at h
 | d + 1, v, b, f, h, hs, hb, hf => by
  rw [frX, Bool.and_eq_true, List.all_eq_true] at h
  obtain ⟨h1, h2⟩ := h
  obtain ⟨l1, l2, l3, l4, l5, _⟩ := ZI h1
  obtain ⟨f, rfl, hf'⟩ : ∃ n, f = n + 3 ∧ 4 * xsz v + 5 <= n := ⟨f - 3, by omega, by omega⟩
  have hv := xN v
  have hkl := yd v.Kids
  have hx : ∀ x ∈ v.Kids, 1 + xsz x <= zx v.Kids := fun x hx => yz hx
  have hlen : ∀ x ∈ v.Kids, (zq x).length <= 31 * xsz x + 21 := fun x hx => xb d x (h2 x hx)
  have say : ∀ (g : Nat), f <= g → ∀ x ∈ v.Kids, ∀ b : List UInt8, b.length <= 2 ^ 39 - d * 2 ^ 28 → zP g x b = some (b ++ zq x) := fun g hg x hx' b hb' => by
   have := hx x hx'
   exact OB d x b g (h2 x hx') (by omega) (by omega) (by omega)
  have inn : ∀ (g : Nat), f <= g → ∀ x ∈ v.Kids, ∀ b : List UInt8, b.length <= 2 ^ 39 - d * 2 ^ 28 - 1 → xy (g + 1) x b = some (b ++ brk 1 x.Kind (zq x)) := fun g hg x hx' b hb' => by
   have := hx x hx'
   have := hlen x hx'
   exact DE (M := 2 ^ 39 - d * 2 ^ 28 - 1) (by omega) (by omega) (fun b hb => say g hg x hx' b (by omega)) hb'
  have hd : d * 2 ^ 28 + 2 ^ 28 <= 2 ^ 39 := by omega
  rw [show zP (f + 3) v b = ko (wm (f + 2)) (wl (f + 2)) (zP (f + 2)) (xy (f + 2)) v b from rfl]
  refine HV (M := 2 ^ 39 - d * 2 ^ 28 - 1 - 2 ^ 26) (by omega) hs h1 hlen (fun b hb' => ?_) ?_ (fun x hx' b hb' => ?_) (fun x hx' b hb' => ?_) (fun x hx' b hb' => inn (f + 1) (by omega) x hx' b (by omega)) (by omega)
  ·rw [show wm (f + 2) v b = vC (zP (f + 1)) (f + 1) v b from rfl]
   unfold vC
   obtain ⟨z, hz⟩ := On (G := zP (f + 1)) (M := 2 ^ 39 - d * 2 ^ 28) (by omega) hs l4 (fun x hx' => ⟨fun b hb => say (f + 1) (by omega) x hx' b hb, hlen x hx'⟩) v.Kids [] [] v.K b (f + 1) rfl (fun _ => ⟨rfl, rfl⟩) (by omega) (by omega)
   simp only [List.length_nil, Int.natCast_zero] at hz
   rw [hz]; simp
  ·by_cases c5 : v.Kind = 5
   ·rw [decide_eq_true c5]
    have := kB (p := fun x => frX d x = true) (fun x hx => xb d x hx) true v.Kids true v.K (fun x hx => h2 x hx) (fun _ => by rw [l4 c5]; exact Nat.le_refl _)
    rw [if_pos rfl] at this; omega
   ·rw [decide_eq_false c5]
    have := kB (p := fun x => frX d x = true) (fun x hx => xb d x hx) false v.Kids true v.K (fun x hx => h2 x hx) (fun e => by cases e)
    rw [if_neg (by decide)] at this; omega
  ·have := hx x hx'
   have := hlen x hx'
   rw [show wl (f + 2) x b = jB (zP (f + 1)) (xy (f + 1)) x b from rfl]
   exact G1 (M := 2 ^ 39 - d * 2 ^ 28 - 1) (by omega) (by omega) (fun b hb => say (f + 1) (by omega) x hx' b (by omega)) (fun b hb => inn f (Nat.le_refl _) x hx' b (by omega)) (by omega)
  ·rw [BI]; exact say (f + 2) (by omega) x hx' b (by omega)
noncomputable def wE (a0 : GExpr) (e0 : (List UInt8)) : Option (List UInt8) := if frX 10 a0 = true ∧ xsz a0 <= 2 ^ 20 ∧ e0.length <= 2 ^ 38 then some (e0 ++ zq a0) else none
theorem WB {v : GExpr} {b : List UInt8} (h : frX 10 v = true) (hs : xsz v <= 2 ^ 20) (hb : b.length <= 2 ^ 38) : wE v b = some (b ++ zq v) := if_pos ⟨h, hs, hb⟩
theorem VK (a0 : GExpr) (e0 : (List UInt8)) (r : (List UInt8)) (h : wE a0 e0 = some r) : ∃ n, zP n a0 e0 = some r := by
 unfold wE at h
 obtain ⟨⟨h0, h1, h2⟩, h⟩ := yg h
 exact ⟨4 * xsz a0 + 8, by rw [<- h]; exact OB 10 a0 e0 _ h0 h1 (by omega) (Nat.le_refl _)⟩
theorem DF : vl Kk := by
 intro a0 e0 r h
 obtain ⟨n, hn⟩ := RQ a0 e0 r h
 exact (vD n).1 a0 e0 r hn
theorem HW : vA Qc := by
 intro a0 e0 r h
 obtain ⟨n, hn⟩ := KE a0 e0 r h
 exact (vD n).2.1 a0 e0 r hn
theorem HX : vB Qd := by
 intro a0 e0 r h
 obtain ⟨n, hn⟩ := KF a0 e0 r h
 exact (vD n).2.2.1 a0 e0 r hn
theorem vE : wD wE := by
 intro a0 e0 r h
 obtain ⟨n, hn⟩ := VK a0 e0 r h
 exact (vD n).2.2.2 a0 e0 r hn
def X4 (F : (List GItem) → Option (List UInt8)) : Prop := ∀ (a0 : (List GItem)), Oc (F a0) 36 [] [vq zo a0] fun r => (.val false [.own 1 (eL za r)], [])
def yx (a0 : (List GItem)) (v1 : Int) (v4 : GItem) : Nat → Int → (List UInt8) → Option (Int × (List UInt8))
  | 0, _, _ => none
  | m + 1, v2, v3 =>
  if v2 < (v4.Exprs.length : Int) then
   if zd 1 (v3.length + [(32 : UInt8)].length) then
   (z6 v2).bind fun i3 =>
   (v4.Names[i3]?).bind fun x4 =>
   if zd 1 ((v3 ++ [(32 : UInt8)]).length + x4.length) then
   if zd 1 (((v3 ++ [(32 : UInt8)]) ++ x4).length + [32, 61, 32].length) then
   (v4.Exprs[i3]?).bind fun x7 =>
   (wE x7 (((v3 ++ [(32 : UInt8)]) ++ x4) ++ [32, 61, 32])).bind fun r8 =>
   yx a0 v1 v4 m (w64 (v2 + 1)) r8
   else none
   else none
   else none
  else
  some (v2, v3)
theorem jK (a0 : (List GItem)) (v1 : Int) (v4 : GItem) (m : Nat) : ∀ (v2 : Int) (v3 : (List UInt8)), Ol (yx a0 v1 v4 m v2 v3) 36 (zY Tryd.f36 1) ⟨[(0, vq zo a0), (3, vr 0), (4, vi v1), (5, vp 1 0), (6, vi v2)], [.obj 1 (eL za v3), .var (yn v4)], 0⟩ fun o => match o with | ⟨o_0, o_1⟩ => (.exit 3, ⟨[(0, vq zo a0), (3, vr 0), (4, vi v1), (5, vp 1 0), (6, vi o_0), (63, vb false)], [.obj 1 (eL za o_1), .var (yn v4)], 0⟩) := by
  induction m with
  | zero => intro v2 v3 o h; cases h
  | succ m ih => exact fun v2 v3 => tlp (
   .le ze v4.Exprs <|
   .lI v2 (v4.Exprs.length : Int) (fun c1 =>
    .pl zb [(32 : UInt8)] <|
    .ap 1 zb v3 [(32 : UInt8)] fun n2 =>
    .na v2 fun i3 =>
    .ix0 (z7 za) v4.Names i3 fun x4 =>
    .ap 1 zb (v3 ++ [(32 : UInt8)]) x4 fun n5 =>
    .os [32, 61, 32] <|
    .ap 1 zb ((v3 ++ [(32 : UInt8)]) ++ x4) [32, 61, 32] fun n6 =>
    .ag 1 <|
    .ix zA v4.Exprs i3 fun x7 =>
    .cl (vE x7 (((v3 ++ [(32 : UInt8)]) ++ x4) ++ [32, 61, 32])) fun r8 =>
    .go (ih (w64 (v2 + 1)) r8)) fun c1 =>
   .ret (v2, v3))
def yb (n : Nat) (a0 : (List GItem)) : Nat → Int → (List UInt8) → Option (Int × (List UInt8))
  | 0, _, _ => none
  | m + 1, v1, v2 =>
  if v1 < (a0.length : Int) then
   (z6 v1).bind fun i2 =>
   (a0[i2]?).bind fun x3 =>
   (z6 x3.Kind).bind fun i4 =>
   ([[108, 111, 99, 97, 108], [114, 101, 115], [111, 117, 116]][i4]?).bind fun x5 =>
   if zd 1 (v2.length + x5.length) then
   if zd 1 ((v2 ++ x5).length + [(32 : UInt8)].length) then
   if zd 1 (((v2 ++ x5) ++ [(32 : UInt8)]).length + x3.Name.length) then
   if x3.Kind = 1 then
    if x3.Many = 1 then
     if zd 1 ((((v2 ++ x5) ++ [(32 : UInt8)]) ++ x3.Name).length + [32, 99, 111, 117, 110, 116, 32].length) then
     (wE x3.By ((((v2 ++ x5) ++ [(32 : UInt8)]) ++ x3.Name) ++ [32, 99, 111, 117, 110, 116, 32])).bind fun r12 =>
     if zd 1 (r12.length + [32, 123].length) then
     (yx a0 v1 x3 n 0 (r12 ++ [32, 123])).bind fun ⟨o14_0, o14_1⟩ =>
     if zd 1 (o14_1.length + [32, 125, 10].length) then
     yb n a0 m (w64 (v1 + 1)) (o14_1 ++ [32, 125, 10])
     else none
     else none
     else none
    else
    if x3.Many = 2 then
     if zd 1 ((((v2 ++ x5) ++ [(32 : UInt8)]) ++ x3.Name).length + [32, 101, 97, 99, 104, 32].length) then
     (wE x3.By ((((v2 ++ x5) ++ [(32 : UInt8)]) ++ x3.Name) ++ [32, 101, 97, 99, 104, 32])).bind fun r13 =>
     if zd 1 (r13.length + [32, 123].length) then
     (yx a0 v1 x3 n 0 (r13 ++ [32, 123])).bind fun ⟨o15_0, o15_1⟩ =>
     if zd 1 (o15_1.length + [32, 125, 10].length) then
     yb n a0 m (w64 (v1 + 1)) (o15_1 ++ [32, 125, 10])
     else none
     else none
     else none
    else
    if zd 1 ((((v2 ++ x5) ++ [(32 : UInt8)]) ++ x3.Name).length + [32, 123].length) then
    (yx a0 v1 x3 n 0 ((((v2 ++ x5) ++ [(32 : UInt8)]) ++ x3.Name) ++ [32, 123])).bind fun ⟨o13_0, o13_1⟩ =>
    if zd 1 (o13_1.length + [32, 125, 10].length) then
    yb n a0 m (w64 (v1 + 1)) (o13_1 ++ [32, 125, 10])
    else none
    else none
   else
   if zd 1 ((((v2 ++ x5) ++ [(32 : UInt8)]) ++ x3.Name).length + [32, 61, 32].length) then
   (x3.Exprs[0]?).bind fun x11 =>
   (wE x11 ((((v2 ++ x5) ++ [(32 : UInt8)]) ++ x3.Name) ++ [32, 61, 32])).bind fun r12 =>
   if zd 1 (r12.length + [(10 : UInt8)].length) then
   yb n a0 m (w64 (v1 + 1)) (r12 ++ [(10 : UInt8)])
   else none
   else none
   else none
   else none
   else none
  else
  some (v1, v2)
theorem Qm (n : Nat) (a0 : (List GItem)) (m : Nat) : ∀ (v1 : Int) (v2 : (List UInt8)), Ol (yb n a0 m v1 v2) 36 (zY Tryd.f36 0) ⟨[(0, vq zo a0), (3, vr 0), (4, vi v1)], [.obj 1 (eL za v2)], 0⟩ fun o => match o with | ⟨o_0, o_1⟩ => (.exit 0, ⟨[(0, vq zo a0), (3, vr 0), (4, vi o_0), (10, vb false)], [.obj 1 (eL za o_1)], 0⟩) := by
  induction m with
  | zero => intro v1 v2 o h; cases h
  | succ m ih => exact fun v1 v2 => tlp (
   .le zo a0 <|
   .lI v1 (a0.length : Int) (fun c1 =>
    .na v1 fun i2 =>
    .ix xB a0 i2 fun x3 =>
    .na x3.Kind fun i4 =>
    .ix0 wr [[108, 111, 99, 97, 108], [114, 101, 115], [111, 117, 116]] i4 fun x5 =>
    .ag 0 <|
    .os x5 <|
    .ap 1 zb v2 x5 fun n6 =>
    .pl zb [(32 : UInt8)] <|
    .ap 1 zb (v2 ++ x5) [(32 : UInt8)] fun n7 =>
    .ap 1 zb ((v2 ++ x5) ++ [(32 : UInt8)]) x3.Name fun n8 =>
    .eI x3.Kind 1 (fun c9 =>
     .eI x3.Many 1 (fun c10 =>
      .os [32, 99, 111, 117, 110, 116, 32] <|
      .ap 1 zb (((v2 ++ x5) ++ [(32 : UInt8)]) ++ x3.Name) [32, 99, 111, 117, 110, 116, 32] fun n11 =>
      .cl (vE x3.By ((((v2 ++ x5) ++ [(32 : UInt8)]) ++ x3.Name) ++ [32, 99, 111, 117, 110, 116, 32])) fun r12 =>
      .os [32, 123] <|
      .ap 1 zb r12 [32, 123] fun n13 =>
      .lp (jK a0 v1 x3 n 0 (r12 ++ [32, 123])) fun ⟨o14_0, o14_1⟩ =>
      .os [32, 125, 10] <|
      .ap 1 zb o14_1 [32, 125, 10] fun n15 =>
      .go (ih (w64 (v1 + 1)) (o14_1 ++ [32, 125, 10]))) fun c10 =>
     .eI x3.Many 2 (fun c11 =>
      .os [32, 101, 97, 99, 104, 32] <|
      .ap 1 zb (((v2 ++ x5) ++ [(32 : UInt8)]) ++ x3.Name) [32, 101, 97, 99, 104, 32] fun n12 =>
      .cl (vE x3.By ((((v2 ++ x5) ++ [(32 : UInt8)]) ++ x3.Name) ++ [32, 101, 97, 99, 104, 32])) fun r13 =>
      .os [32, 123] <|
      .ap 1 zb r13 [32, 123] fun n14 =>
      .lp (jK a0 v1 x3 n 0 (r13 ++ [32, 123])) fun ⟨o15_0, o15_1⟩ =>
      .os [32, 125, 10] <|
      .ap 1 zb o15_1 [32, 125, 10] fun n16 =>
      .go (ih (w64 (v1 + 1)) (o15_1 ++ [32, 125, 10]))) fun c11 =>
     .os [32, 123] <|
     .ap 1 zb (((v2 ++ x5) ++ [(32 : UInt8)]) ++ x3.Name) [32, 123] fun n12 =>
     .lp (jK a0 v1 x3 n 0 ((((v2 ++ x5) ++ [(32 : UInt8)]) ++ x3.Name) ++ [32, 123])) fun ⟨o13_0, o13_1⟩ =>
     .os [32, 125, 10] <|
     .ap 1 zb o13_1 [32, 125, 10] fun n14 =>
     .go (ih (w64 (v1 + 1)) (o13_1 ++ [32, 125, 10]))) fun c9 =>
    .os [32, 61, 32] <|
    .ap 1 zb (((v2 ++ x5) ++ [(32 : UInt8)]) ++ x3.Name) [32, 61, 32] fun n10 =>
    .nl 0 <|
    .ix zA x3.Exprs 0 fun x11 =>
    .cl (vE x11 ((((v2 ++ x5) ++ [(32 : UInt8)]) ++ x3.Name) ++ [32, 61, 32])) fun r12 =>
    .pl zb [(10 : UInt8)] <|
    .ap 1 zb r12 [(10 : UInt8)] fun n13 =>
    .go (ih (w64 (v1 + 1)) (r12 ++ [(10 : UInt8)]))) fun c1 =>
   .ret (v1, v2))
def Zq (n : Nat) (a0 : (List GItem)) : Option (List UInt8) :=
 (yb n a0 n 0 []).bind fun ⟨o1_0, o1_1⟩ =>
 some o1_1
theorem VL (n : Nat) : X4 (Zq n) := fun a0 => tc (
 .lp (Qm n a0 n 0 []) fun ⟨o1_0, o1_1⟩ =>
 .ret o1_1) (zw Tryd.func36)
theorem P1 {x : GItem} {a : List GItem} {v1 : Int} (hs : itz x <= 2 ^ 20) (hex : x.Exprs.all (frX 10) = true) : ∀ (es pe : List GExpr) (ns pn : List (List UInt8)) (acc : List UInt8) (m : Nat), x.Exprs = pe ++ es → x.Names = pn ++ ns → pe.length = pn.length → es.length = ns.length → es.length < m → acc.length + 31 * zx es + 31 * bsz ns <= 2 ^ 36 →
  ∃ z, yx a v1 x m (pe.length : Int) acc = some (z, acc ++ jX ns es) := by
 unfold itz at hs
 have hl := yd x.Exprs
 intro es
 induction es with
 | nil =>
  intro pe ns pn acc m he hn hp hq hm hb
  obtain ⟨m, rfl, _⟩ := zi hm
  cases ns with
  | nil => exact ⟨_, by rw [yx, he, List.append_nil, if_neg (by omega), jX, List.append_nil]; simp⟩
  | cons n ns => simp at hq
 | cons e es ih =>
  intro pe ns pn acc m he hn hp hq hm hb
  obtain ⟨m, rfl, hm'⟩ := zi hm
  cases ns with
  | nil => simp at hq
  | cons n ns =>
   simp only [List.length_cons] at hq hm'
   rw [qM] at hb
   simp only [zx] at hb
   have hlen : x.Exprs.length = pe.length + (es.length + 1) := by rw [he]; simp
   have hge : x.Exprs[pe.length]? = some e := by rw [he]; exact zN pe e es
   have hgn : x.Names[pe.length]? = some n := by rw [hn, hp]; exact zN pn n ns
   have hfe : frX 10 e = true := List.all_eq_true.1 hex e (by rw [he]; simp)
   have hxe := yz (l := x.Exprs) (v := e) (by rw [he]; simp)
   have hse := xb 10 e hfe
   obtain ⟨z, hz⟩ := ih (pe ++ [e]) ns (pn ++ [n]) (acc ++ [32] ++ n ++ [32, 61, 32] ++ zq e) m (by rw [he]; simp) (by rw [hn]; simp) (by simp [hp]) (by omega) (by omega) (by simp only [List.length_append, List.length_cons, List.length_nil]; omega)
   refine ⟨z, ?_⟩
   rw [yx, if_pos (by omega), if_pos (zc (by decide) (by simp only [List.length_cons, List.length_nil]; omega)), zg, Option.bind_some, hgn, Option.bind_some, if_pos (zc (by decide) (by simp only [List.length_append, List.length_cons, List.length_nil]; omega)), if_pos (zc (by decide) (by simp only [List.length_append, List.length_cons, List.length_nil]; omega)), hge, Option.bind_some, WB hfe (by omega) (by simp only [List.length_append, List.length_cons, List.length_nil]; omega), Option.bind_some, zZ pe e (by omega), hz, jX]
   simp
theorem LC {l : List GItem} {x : GItem} {n m : Nat} {p : List GItem} {acc : List UInt8} (hg : l[p.length]? = some x) (hp : p.length < l.length) (hl : l.length <= 2 ^ 30) (hx : ItTx x) (hs : itz x <= 2 ^ 20) (hn : itz x < n) (hb : acc.length <= 2 ^ 35) : yb n l (m + 1) (p.length : Int) acc = yb n l m ((p ++ [x]).length : Int) (acc ++ itT x ++ [10]) := by
 have hlen := Wh hx
 have hs' := hs
 unfold itz at hs' hn
 have hel := yd x.Exprs
 have hat := XA x.Names x.Exprs hx.ex
 have hnm := jg x.Names
 have wd : ∃ i, z6 x.Kind = some i ∧ ([[108, 111, 99, 97, 108], [114, 101, 115], [111, 117, 116]] : List (List UInt8))[i]? = some (jz x.Kind) := by
  have hk := hx.k
  have hk3 : x.Kind = 0 ∨ x.Kind = 1 ∨ x.Kind = 2 := by omega
  rcases hk3 with e | e | e <;> rw [e]
  ·exact ⟨0, rfl, rfl⟩
  ·exact ⟨1, rfl, rfl⟩
  ·exact ⟨2, rfl, rfl⟩
 obtain ⟨i, i1, i2⟩ := wd
 have hw := Jr x.Kind
 rw [yb, if_pos (by omega), zg, Option.bind_some, hg, Option.bind_some, i1, Option.bind_some, i2, Option.bind_some, if_pos (zc (by decide) (by omega)), if_pos (zc (by decide) (by simp only [List.length_append, List.length_cons, List.length_nil]; omega)), if_pos (zc (by decide) (by simp only [List.length_append, List.length_cons, List.length_nil]; omega)), zZ p x (by omega)]
 have attr : ∀ (b : List UInt8), b.length <= 2 ^ 35 + 2 ^ 34 → x.Kind = 1 → ∃ z, yx l (p.length : Int) x n 0 b = some (z, b ++ jX x.Names x.Exprs) := fun b hb' k1 => by
  obtain ⟨z, hz⟩ := P1 (a := l) (v1 := (p.length : Int)) hs hx.ex x.Exprs [] x.Names [] b n rfl rfl rfl (by rw [hx.nm k1]) (by omega) (by omega)
  simp only [List.length_nil, Int.natCast_zero] at hz
  exact ⟨z, hz⟩
 by_cases k1 : x.Kind = 1
 ·have hT : itT x = jz x.Kind ++ (32 :: (x.Name ++ ((if x.Many = 1 then [32, 99, 111, 117, 110, 116, 32] ++ zq x.By else if x.Many = 2 then [32, 101, 97, 99, 104, 32] ++ zq x.By else []) ++ ([32, 123] ++ (jX x.Names x.Exprs ++ [32, 125]))))) := by unfold itT; rw [if_pos k1]
  rw [if_pos k1, hT]
  by_cases m1 : x.Many = 1
  ·have fb := hx.bf k1 (by omega)
   have lb := xb 10 x.By fb
   obtain ⟨z, hz⟩ := attr (acc ++ jz x.Kind ++ [32] ++ x.Name ++ [32, 99, 111, 117, 110, 116, 32] ++ zq x.By ++ [32, 123]) (by simp only [List.length_append, List.length_cons, List.length_nil]; omega) k1
   rw [if_pos m1, if_pos m1, if_pos (zc (by decide) (by simp only [List.length_append, List.length_cons, List.length_nil]; omega)), WB fb (by omega) (by simp only [List.length_append, List.length_cons, List.length_nil]; omega), Option.bind_some, if_pos (zc (by decide) (by simp only [List.length_append, List.length_cons, List.length_nil]; omega)), hz, Option.bind_some]
   dsimp only
   rw [if_pos (zc (by decide) (by simp only [List.length_append, List.length_cons, List.length_nil]; omega))]
   refine congrArg _ ?_
   simp
  ·rw [if_neg m1, if_neg m1]
   by_cases m2 : x.Many = 2
   ·have fb := hx.bf k1 (by omega)
    have lb := xb 10 x.By fb
    obtain ⟨z, hz⟩ := attr (acc ++ jz x.Kind ++ [32] ++ x.Name ++ [32, 101, 97, 99, 104, 32] ++ zq x.By ++ [32, 123]) (by simp only [List.length_append, List.length_cons, List.length_nil]; omega) k1
    rw [if_pos m2, if_pos m2, if_pos (zc (by decide) (by simp only [List.length_append, List.length_cons, List.length_nil]; omega)), WB fb (by omega) (by simp only [List.length_append, List.length_cons, List.length_nil]; omega), Option.bind_some, if_pos (zc (by decide) (by simp only [List.length_append, List.length_cons, List.length_nil]; omega)), hz, Option.bind_some]
    dsimp only
    rw [if_pos (zc (by decide) (by simp only [List.length_append, List.length_cons, List.length_nil]; omega))]
    refine congrArg _ ?_
    simp
   ·obtain ⟨z, hz⟩ := attr (acc ++ jz x.Kind ++ [32] ++ x.Name ++ [32, 123]) (by simp only [List.length_append, List.length_cons, List.length_nil]; omega) k1
    rw [if_neg m2, if_neg m2, if_pos (zc (by decide) (by simp only [List.length_append, List.length_cons, List.length_nil]; omega)), hz, Option.bind_some]
    dsimp only
    rw [if_pos (zc (by decide) (by simp only [List.length_append, List.length_cons, List.length_nil]; omega))]
    refine congrArg _ ?_
    simp
 ·have hT : itT x = jz x.Kind ++ (32 :: (x.Name ++ ([32, 61, 32] ++ Vc x.Exprs))) := by unfold itT; rw [if_neg k1]
  have h1 := hx.one k1
  rw [if_neg k1, hT]
  cases hE : x.Exprs with
  | nil => rw [hE] at h1; simp at h1
  | cons e es =>
   have hfe : frX 10 e = true := List.all_eq_true.1 hx.ex e (by rw [hE]; simp)
   have hxe := yz (l := x.Exprs) (v := e) (by rw [hE]; simp)
   have le := xb 10 e hfe
   rw [if_pos (zc (by decide) (by simp only [List.length_append, List.length_cons, List.length_nil]; omega)), show (e :: es)[0]? = some e from rfl, Option.bind_some, WB hfe (by omega) (by simp only [List.length_append, List.length_cons, List.length_nil]; omega), Option.bind_some, if_pos (zc (by decide) (by simp only [List.length_append, List.length_cons, List.length_nil]; omega))]
   refine congrArg _ ?_
   simp [Vc]
theorem LD {l : List GItem} {n : Nat} (hl : yE l <= 2 ^ 20) (hn : yE l < n) (hx : ∀ x ∈ l, ItTx x) : ∀ (q p : List GItem) (acc : List UInt8) (m : Nat), l = p ++ q → q.length < m → acc.length + 80 * yE q <= 2 ^ 35 → ∃ z, yb n l m (p.length : Int) acc = some (z, acc ++ Xg q) := by
 have hll := ql l
 intro q
 induction q with
 | nil =>
  intro p acc m he hm _
  obtain ⟨m, rfl, _⟩ := zi hm
  exact ⟨_, by rw [yb, he, List.append_nil, if_neg (by omega), Xg, List.append_nil]⟩
 | cons x q ih =>
  intro p acc m he hm hb
  obtain ⟨m, rfl, hm'⟩ := zi hm
  have hlen : l.length = p.length + (q.length + 1) := by rw [he]; simp
  have hg : l[p.length]? = some x := by rw [he]; exact zN p x q
  have hmx := ZJ (l := l) (v := x) (by rw [he]; simp)
  have hxx := hx x (by rw [he]; simp)
  have hil := Wh hxx
  simp only [yE, List.length_cons] at hb hm'
  obtain ⟨z, hz⟩ := ih (p ++ [x]) (acc ++ itT x ++ [10]) m (by rw [he]; simp) (by omega) (by simp only [List.length_append, List.length_cons, List.length_nil]; omega)
  exact ⟨z, by rw [LC hg (by omega) (by omega) hxx (by omega) (by omega) (by omega), hz, Xg]; simp⟩
open Classical in
noncomputable def qD (a0 : (List GItem)) : Option (List UInt8) := if yE a0 <= 2 ^ 20 ∧ ∀ x ∈ a0, ItTx x then some (Xg a0) else none
theorem G3 {l : List GItem} (h : yE l <= 2 ^ 20) (hx : ∀ x ∈ l, ItTx x) : qD l = some (Xg l) := if_pos ⟨h, hx⟩
theorem QY (a0 : (List GItem)) (r : (List UInt8)) (h : qD a0 = some r) : ∃ n, Zq n a0 = some r := by
 unfold qD at h
 obtain ⟨⟨h0, h1⟩, h⟩ := yg h
 have hll := ql a0
 obtain ⟨z, hz⟩ := LD (n := yE a0 + 1) h0 (Nat.lt_succ_self _) h1 a0 [] [] (yE a0 + 1) rfl (by omega) (by simp only [List.length_nil]; omega)
 refine ⟨yE a0 + 1, ?_⟩
 unfold Zq
 simp only [List.length_nil, Int.natCast_zero, List.nil_append] at hz
 rw [hz, <- h]; rfl
theorem KG : X4 qD := fun a0 r h => (QY a0 r h).elim fun n hn => VL n a0 r hn
def qQ (a0 : (List GItem)) : Option (List UInt8) :=
 (qA a0).bind fun r1 =>
 match r1 with
 | true =>
  (qD a0).bind fun r2 =>
  some r2
 | false =>
  some []
theorem QZ (a0 : (List GItem)) : Oc (qQ a0) 15 [] [vq zo a0] fun r => (.val false [.own 1 (eL za r)], []) := tc (
 .cl (KB a0) fun r1 =>
 .vN 0 r1 (
  .cl (KG a0) fun r2 =>
  .ret r2) <|
 .ret []) (zw Tryd.func15)
def xI (a0 : Int) (a1 : Int) (a2 : Int) : Option Bool :=
 if a1 <= a0 then
  some (decide (a0 <= a2))
 else
 some false
theorem jt (a0 : Int) (a1 : Int) (a2 : Int) : Oc (xI a0 a1 a2) 91 [] [vi a0, vi a1, vi a2] fun r => (vb r, []) := tc (
 .gI a1 a0 (fun c1 =>
  .gD a0 a2 <|
  .ret (decide (a0 <= a2))) fun c1 =>
 .ret false) (zw Tryd.func91)
def Qe (F : (List UInt8) → Option Bool) : Prop := ∀ (a0 : (List UInt8)), Oc (F a0) 90 [] [vq za a0] fun r => (vb r, [])
def wz (a0 : (List UInt8)) (v1 : Int) : Nat → Int → Option (Bool ⊕ Int)
  | 0, _ => none
  | m + 1, v2 =>
  if v2 < v1 then
   (z6 v2).bind fun i2 =>
   (a0[i2]?).bind fun x3 =>
   if ((x3.toNat : Nat) : Int) < 97 then
    some (.inl false)
   else
   if 122 < ((x3.toNat : Nat) : Int) then
    some (.inl false)
   else
   wz a0 v1 m (w64 (v2 + 1))
  else
  some (.inr v2)
theorem JP (a0 : (List UInt8)) (v1 : Int) (m : Nat) : ∀ (v2 : Int), Ol (wz a0 v1 m v2) 90 (zY Tryd.f90 0) ⟨[(0, vq za a0), (5, vq za a0), (6, vi v1), (7, vi v2)], [], 0⟩ fun o => match o with | .inl o_0 => (.ret, ⟨[(2, vb o_0)], [], 0⟩) | .inr (o_1) => (.exit 0, ⟨[(0, vq za a0), (5, vq za a0), (6, vi v1), (7, vi o_1), (8, vb false)], [], 0⟩) := by
  induction m with
  | zero => intro v2 o h; cases h
  | succ m ih => exact fun v2 => tlp (
   .lI v2 v1 (fun c1 =>
    .na v2 fun i2 =>
    .ix0 za a0 i2 fun x3 =>
    .lI ((x3.toNat : Nat) : Int) 97 (fun c4 =>
     .ret (.inl false)) fun c4 =>
    .lI 122 ((x3.toNat : Nat) : Int) (fun c5 =>
     .ret (.inl false)) fun c5 =>
    .go (ih (w64 (v2 + 1)))) fun c1 =>
   .ret (.inr v2))
def Yk (n : Nat) (a0 : (List UInt8)) : Option Bool :=
 (wz a0 (a0.length : Int) n 0).bind fun o1 =>
 match o1 with
 | .inl o1_0 =>
  some o1_0
 | .inr (o1_1) =>
  (xI (a0.length : Int) 1 8).bind fun r2 =>
  some r2
theorem Uk (n : Nat) : Qe (Yk n) := fun a0 => tc (
 .le za a0 <|
 .l2 (JP a0 (a0.length : Int) n 0) (fun o1_0 =>
  .ret o1_0) fun o1_1 =>
 .le za a0 <|
 .cl (jt (a0.length : Int) 1 8) fun r2 =>
 .ret r2) (zw Tryd.func90)
theorem KH {a : List UInt8} (ha : a.length <= 2 ^ 20) : ∀ (d i m : Nat), i + d = a.length → d < m → ∃ z, wz a (a.length : Int) m (i : Int) = some (if (a.drop i).all (inB 97 122) = true then .inr z else .inl false) := by
 intro d
 induction d with
 | zero =>
  intro i m hi hm
  obtain ⟨m, rfl, _⟩ := zi hm
  exact ⟨_, by rw [wz, if_neg (by omega), List.drop_eq_nil_of_le (by omega)]; rfl⟩
 | succ d ih =>
  intro i m hi hm
  obtain ⟨m, rfl, hm'⟩ := zi hm
  have hil : i < a.length := by omega
  rw [wz, if_pos (by omega), zg, Option.bind_some, zu hil, Option.bind_some, yi (by omega), yP hil, List.all_cons]
  by_cases h1 : ((a[i].toNat : Nat) : Int) < 97
  ·exact ⟨0, by rw [if_pos h1, if_neg]; simp [inB]; omega⟩
  ·rw [if_neg h1]
   by_cases h2 : (122 : Int) < ((a[i].toNat : Nat) : Int)
   ·exact ⟨0, by rw [if_pos h2, if_neg]; simp [inB]; omega⟩
   ·rw [if_neg h2, show inB 97 122 a[i] = true by simp [inB]; omega, Bool.true_and]
    exact ih (i + 1) m (by omega) (by omega)
theorem Hm (a b c : Int) : xI a b c = some (decide (b <= a ∧ a <= c)) := by
 unfold xI
 by_cases h : b <= a
 ·rw [if_pos h]; simp [h]
 ·rw [if_neg h]; simp [h]
def xA (a0 : (List UInt8)) : Option Bool := if a0.length <= 2 ^ 20 then some (yV a0) else none
theorem KI (a0 : (List UInt8)) (r : Bool) (h : xA a0 = some r) : ∃ n, Yk n a0 = some r := by
 unfold xA at h
 obtain ⟨ha, h⟩ := yg h
 refine ⟨a0.length + 1, ?_⟩
 obtain ⟨z, hz⟩ := KH ha a0.length 0 (a0.length + 1) (by omega) (by omega)
 rw [show ((0 : Nat) : Int) = 0 from rfl, List.drop_zero] at hz
 unfold Yk
 rw [<- h, hz]
 unfold yV
 have hd : decide (1 <= a0.length ∧ a0.length <= 8) = decide ((1 : Int) <= (a0.length : Int) ∧ (a0.length : Int) <= 8) := decide_eq_decide.2 (by omega)
 rw [hd]
 cases a0.all (inB 97 122)
 ·rw [Bool.and_false]; rfl
 ·rw [Bool.and_true]
  simp only [if_true, Option.bind_some, Hm]
theorem jc : Qe xA := fun a0 r h => (KI a0 r h).elim fun n hn => Uk n a0 r hn
def vK : Option (List (List UInt8)) :=
 some [[110, 117, 108, 108], [116, 114, 117, 101], [102, 97, 108, 115, 101], [105, 110, 100, 101, 120], [107, 101, 121], [118, 97, 108], [108, 111, 99, 97, 108], [114, 101, 115], [111, 117, 116], [99, 111, 117, 110, 116], [101, 97, 99, 104]]
theorem JQ : Oc vK 127 [] [] fun r => (.val false [.own 1 (eL wr r)], []) := tc (
 .ret [[110, 117, 108, 108], [116, 114, 117, 101], [102, 97, 108, 115, 101], [105, 110, 100, 101, 120], [107, 101, 121], [118, 97, 108], [108, 111, 99, 97, 108], [114, 101, 115], [111, 117, 116], [99, 111, 117, 110, 116], [101, 97, 99, 104]]) (zw Tryd.func127)
def vZ (F : (List (List UInt8)) → (List UInt8) → Option Int) : Prop := ∀ (a0 : (List (List UInt8))) (a1 : (List UInt8)), Oc (F a0 a1) 138 [] [vq wr a0, vs a1] fun r => (vi r, [])
def yA (a0 : (List (List UInt8))) (a1 : (List UInt8)) (v2 : Int) : Nat → Int → Option (Int ⊕ Int)
  | 0, _ => none
  | m + 1, v3 =>
  if v3 < v2 then
   (z6 v3).bind fun i2 =>
   (a0[i2]?).bind fun x3 =>
   if a1 = x3 then
    some (.inl v3)
   else
   yA a0 a1 v2 m (w64 (v3 + 1))
  else
  some (.inr v3)
theorem Y4 (a0 : (List (List UInt8))) (a1 : (List UInt8)) (v2 : Int) (m : Nat) : ∀ (v3 : Int), Ol (yA a0 a1 v2 m v3) 138 (zY Tryd.f138 0) ⟨[(0, vq wr a0), (1, vs a1), (7, vi v2), (8, vi v3)], [], 0⟩ fun o => match o with | .inl o_0 => (.ret, ⟨[(4, vi o_0)], [], 0⟩) | .inr (o_1) => (.exit 0, ⟨[(0, vq wr a0), (1, vs a1), (7, vi v2), (8, vi o_1), (9, vb false)], [], 0⟩) := by
  induction m with
  | zero => intro v3 o h; cases h
  | succ m ih => exact fun v3 => tlp (
   .lI v3 v2 (fun c1 =>
    .na v3 fun i2 =>
    .ix0 wr a0 i2 fun x3 =>
    .sI a1 x3 (fun c4 =>
     .ret (.inl v3)) fun c4 =>
    .go (ih (w64 (v3 + 1)))) fun c1 =>
   .ret (.inr v3))
def jd (n : Nat) (a0 : (List (List UInt8))) (a1 : (List UInt8)) : Option Int :=
 (yA a0 a1 (a0.length : Int) n 0).bind fun o1 =>
 match o1 with
 | .inl o1_0 =>
  some o1_0
 | .inr (o1_1) =>
  some (-1)
theorem XT (n : Nat) : vZ (jd n) := fun a0 a1 => tc (
 .le wr a0 <|
 .l2 (Y4 a0 a1 (a0.length : Int) n 0) (fun o1_0 =>
  .ret o1_0) fun o1_1 =>
 .ret (-1)) (zw Tryd.func138)
def ixF (a : List UInt8) : List (List UInt8) → Nat → Int
 | [], _ => -1
 | x :: r, i => if a = x then (i : Int) else ixF a r (i + 1)
theorem HY (a : List UInt8) (l : List (List UInt8)) (i : Nat) : decide (0 <= ixF a l i) = l.any fun w => decide (w = a) := by
 induction l generalizing i with
 | nil => rfl
 | cons x l ih =>
  rw [ixF, List.any_cons]
  by_cases h : a = x
  ·rw [if_pos h, decide_eq_true h.symm, Bool.true_or]; exact decide_eq_true (by omega)
  ·rw [if_neg h, show decide (x = a) = false from decide_eq_false fun e => h e.symm, Bool.false_or]; exact ih _
theorem LE {a : List UInt8} {l : List (List UInt8)} (hl : l.length <= 2 ^ 20) : ∀ (d i m : Nat), i + d = l.length → d < m → ∃ z, yA l a (l.length : Int) m (i : Int) = some (if 0 <= ixF a (l.drop i) i then .inl (ixF a (l.drop i) i) else .inr z) := by
 intro d
 induction d with
 | zero =>
  intro i m hi hm
  obtain ⟨m, rfl, _⟩ := zi hm
  exact ⟨_, by rw [yA, if_neg (by omega), List.drop_eq_nil_of_le (by omega)]; rfl⟩
 | succ d ih =>
  intro i m hi hm
  obtain ⟨m, rfl, hm'⟩ := zi hm
  have hil : i < l.length := by omega
  rw [yA, if_pos (by omega), zg, Option.bind_some, zu hil, Option.bind_some, yi (by omega), yP hil, ixF]
  by_cases h : a = l[i]
  ·exact ⟨0, by rw [if_pos h, if_pos h, if_pos (by omega)]⟩
  ·rw [if_neg h, if_neg h]
   exact ih (i + 1) m (by omega) (by omega)
def xJ (a0 : (List (List UInt8))) (a1 : (List UInt8)) : Option Int := if a0.length <= 2 ^ 20 then some (ixF a1 a0 0) else none
theorem YV (a0 : (List (List UInt8))) (a1 : (List UInt8)) (r : Int) (h : xJ a0 a1 = some r) : ∃ n, jd n a0 a1 = some r := by
 unfold xJ at h
 obtain ⟨ha, h⟩ := yg h
 obtain ⟨z, hz⟩ := LE (a := a1) ha a0.length 0 (a0.length + 1) (by omega) (by omega)
 rw [show ((0 : Nat) : Int) = 0 from rfl, List.drop_zero] at hz
 refine ⟨a0.length + 1, ?_⟩
 unfold jd
 rw [hz, <- h]
 have hm : ∀ (l : List (List UInt8)) (i : Nat), ixF a1 l i = -1 ∨ 0 <= ixF a1 l i := fun l => by
  induction l with
  | nil => exact fun i => .inl rfl
  | cons x l ih => intro i; rw [ixF]; split; exact .inr (by omega); exact ih _
 rcases hm a0 0 with h | h
 ·rw [h]; rfl
 ·rw [if_pos h]; rfl
theorem XE : vZ xJ := fun a0 a1 r h => (YV a0 a1 r h).elim fun n hn => XT n a0 a1 r hn
def qd (a0 : (List (List UInt8))) (a1 : (List UInt8)) : Option Bool :=
 (xJ a0 a1).bind fun r1 =>
 some (decide (0 <= r1))
theorem Y5 (a0 : (List (List UInt8))) (a1 : (List UInt8)) : Oc (qd a0 a1) 126 [] [vq wr a0, vs a1] fun r => (vb r, []) := tc (
 .cl (XE a0 a1) fun r1 =>
 .gD 0 r1 <|
 .ret (decide (0 <= r1))) (zw Tryd.func126)
def qx (a0 : (List UInt8)) : Option Bool :=
 (xA a0).bind fun r1 =>
 match r1 with
 | true =>
  (vK).bind fun r2 =>
  (qd r2 a0).bind fun r3 =>
  some (!r3)
 | false =>
  some false
theorem Z8 (a0 : (List UInt8)) : Oc (qx a0) 105 [] [vq za a0] fun r => (vb r, []) := tc (
 .cl (jc a0) fun r1 =>
 .vM 0 r1 (
  .cl (JQ) fun r2 =>
  .az 0 1 <|
  .az 0 1 <|
  .bt a0 <|
  .az 0 1 <|
  .vw Ba r2 <|
  .cl (Y5 r2 a0) fun r3 =>
  .az 0 2 <|
  .az 0 2 <|
  .ret (!r3)) <|
 .az 0 0 <|
 .az 0 0 <|
 .az 0 0 <|
 .az 0 0 <|
 .az 0 0 <|
 .ret false) (zw Tryd.func105)
def jS (a0 : (List UInt8)) (a1 : (List UInt8)) : Option Int :=
 (jH a0 a1).bind fun r1 =>
 some r1
theorem YW (a0 : (List UInt8)) (a1 : (List UInt8)) : Oc (jS a0 a1) 110 [] [vq za a0, vq za a1] fun r => (vi r, []) := tc (
 .cl (ZW a0 a1) fun r1 =>
 .ret r1) (zw Tryd.func110)
def Qf (F : (List UInt8) → Option Bool) : Prop := ∀ (a0 : (List UInt8)), Oc (F a0) 118 [] [vq za a0] fun r => (vb r, [])
def w4 (a0 : (List UInt8)) (v1 : Int) : Nat → Int → Option (Bool ⊕ Int)
  | 0, _ => none
  | m + 1, v2 =>
  if v2 < v1 then
   (z6 v2).bind fun i2 =>
   (a0[i2]?).bind fun x3 =>
   if ((x3.toNat : Nat) : Int) < 32 then
    some (.inl false)
   else
   if 126 < ((x3.toNat : Nat) : Int) then
    some (.inl false)
   else
   w4 a0 v1 m (w64 (v2 + 1))
  else
  some (.inr v2)
theorem JR (a0 : (List UInt8)) (v1 : Int) (m : Nat) : ∀ (v2 : Int), Ol (w4 a0 v1 m v2) 118 (zY Tryd.f118 0) ⟨[(0, vq za a0), (5, vq za a0), (6, vi v1), (7, vi v2)], [], 0⟩ fun o => match o with | .inl o_0 => (.ret, ⟨[(2, vb o_0)], [], 0⟩) | .inr (o_1) => (.exit 0, ⟨[(0, vq za a0), (5, vq za a0), (6, vi v1), (7, vi o_1), (8, vb false)], [], 0⟩) := by
  induction m with
  | zero => intro v2 o h; cases h
  | succ m ih => exact fun v2 => tlp (
   .lI v2 v1 (fun c1 =>
    .na v2 fun i2 =>
    .ix0 za a0 i2 fun x3 =>
    .lI ((x3.toNat : Nat) : Int) 32 (fun c4 =>
     .ret (.inl false)) fun c4 =>
    .lI 126 ((x3.toNat : Nat) : Int) (fun c5 =>
     .ret (.inl false)) fun c5 =>
    .go (ih (w64 (v2 + 1)))) fun c1 =>
   .ret (.inr v2))
def Yl (n : Nat) (a0 : (List UInt8)) : Option Bool :=
 (w4 a0 (a0.length : Int) n 0).bind fun o1 =>
 match o1 with
 | .inl o1_0 =>
  some o1_0
 | .inr (o1_1) =>
  some (decide ((a0.length : Int) <= 20))
theorem Ul (n : Nat) : Qf (Yl n) := fun a0 => tc (
 .le za a0 <|
 .l2 (JR a0 (a0.length : Int) n 0) (fun o1_0 =>
  .ret o1_0) fun o1_1 =>
 .le za a0 <|
 .gD (a0.length : Int) 20 <|
 .ret (decide ((a0.length : Int) <= 20))) (zw Tryd.func118)
theorem KJ {a : List UInt8} (ha : a.length <= 2 ^ 20) : ∀ (d i m : Nat), i + d = a.length → d < m → ∃ z, w4 a (a.length : Int) m (i : Int) = some (if (a.drop i).all (inB 32 126) = true then .inr z else .inl false) := by
 intro d
 induction d with
 | zero =>
  intro i m hi hm
  obtain ⟨m, rfl, _⟩ := zi hm
  exact ⟨_, by rw [w4, if_neg (by omega), List.drop_eq_nil_of_le (by omega)]; rfl⟩
 | succ d ih =>
  intro i m hi hm
  obtain ⟨m, rfl, hm'⟩ := zi hm
  have hil : i < a.length := by omega
  rw [w4, if_pos (by omega), zg, Option.bind_some, zu hil, Option.bind_some, yi (by omega), yP hil, List.all_cons]
  by_cases h1 : ((a[i].toNat : Nat) : Int) < 32
  ·exact ⟨0, by rw [if_pos h1, if_neg]; simp [inB]; omega⟩
  ·rw [if_neg h1]
   by_cases h2 : (126 : Int) < ((a[i].toNat : Nat) : Int)
   ·exact ⟨0, by rw [if_pos h2, if_neg]; simp [inB]; omega⟩
   ·rw [if_neg h2, show inB 32 126 a[i] = true by simp [inB]; omega, Bool.true_and]
    exact ih (i + 1) m (by omega) (by omega)
def jC (a0 : (List UInt8)) : Option Bool := if a0.length <= 2 ^ 20 then some (ZP a0) else none
theorem KK (a0 : (List UInt8)) (r : Bool) (h : jC a0 = some r) : ∃ n, Yl n a0 = some r := by
 unfold jC at h
 obtain ⟨ha, h⟩ := yg h
 refine ⟨a0.length + 1, ?_⟩
 obtain ⟨z, hz⟩ := KJ ha a0.length 0 (a0.length + 1) (by omega) (by omega)
 rw [show ((0 : Nat) : Int) = 0 from rfl, List.drop_zero] at hz
 unfold Yl
 rw [<- h, hz]
 unfold ZP
 by_cases hl : a0.length <= 20
 ·rw [decide_eq_true hl]
  cases a0.all (inB 32 126)
  ·rfl
  ·show some (decide _) = _; rw [decide_eq_true (by omega)]; rfl
 ·rw [decide_eq_false hl]
  cases a0.all (inB 32 126)
  ·rfl
  ·show some (decide _) = _; rw [decide_eq_false (by omega)]; rfl
theorem RR : Qf jC := fun a0 r h => (KK a0 r h).elim fun n hn => Ul n a0 r hn
def wK (F : GExpr → Int → Option Bool) : Prop := ∀ (a0 : GExpr) (e0 : Int), Oc (F a0 e0) 139 [.var [ci e0]] [.val true (yh a0), vp 0 0] fun r => (vb r, [.var [ci e0]])
def y5 (F : (List GExpr) → Int → Option Int) : Prop := ∀ (a0 : (List GExpr)) (e0 : Int), Oc (F a0 e0) 128 [.var [ci e0]] [vq ze a0, .val false [.fn 139 [.ptr 0 0]]] fun r => (vi r, [.var [ci e0]])
def zW (F : (List GExpr) → Int → Option Bool) : Prop := ∀ (a0 : (List GExpr)) (e0 : Int), Oc (F a0 e0) 106 [.var [ci e0]] [vq ze a0, .val false [.fn 139 [.ptr 0 0]]] fun r => (vb r, [.var [ci e0]])
def jT (F : GExpr → Int → Option Bool) : Prop := ∀ (a0 : GExpr) (a1 : Int), Oc (F a0 a1) 129 [] [.val true (yh a0), vi a1] fun r => (vb r, [])
def va (G_impl_isFormed : GExpr → Int → Option Bool) (a0 : GExpr) (e0 : Int) : Option Bool :=
 (G_impl_isFormed a0 (w64 (e0 - 1))).bind fun r1 =>
 some (!r1)
theorem JS (G_impl_isFormed : GExpr → Int → Option Bool) (H_impl_isFormed : jT G_impl_isFormed) : wK (va G_impl_isFormed) := fun a0 e0 => tc (
 .cl (H_impl_isFormed a0 (w64 (e0 - 1))) fun r1 =>
 .ret (!r1)) (zw Tryd.func139)
def zK (G_impl_isFormed_1 : GExpr → Int → Option Bool) (a0 : (List GExpr)) (v1 : Int) (e0 : Int) : Nat → Int → Option (Int ⊕ Int)
  | 0, _ => none
  | m + 1, v2 =>
  if v2 < v1 then
   (z6 v2).bind fun i2 =>
   (a0[i2]?).bind fun x3 =>
   (G_impl_isFormed_1 x3 e0).bind fun r4 =>
   match r4 with
   | true =>
    some (.inl v2)
   | false =>
    zK G_impl_isFormed_1 a0 v1 e0 m (w64 (v2 + 1))
  else
  some (.inr v2)
theorem jL (G_impl_isFormed_1 : GExpr → Int → Option Bool) (H_impl_isFormed_1 : wK G_impl_isFormed_1) (a0 : (List GExpr)) (v1 : Int) (e0 : Int) (m : Nat) : ∀ (v2 : Int), Ol (zK G_impl_isFormed_1 a0 v1 e0 m v2) 128 (zY Tryd.f128 0) ⟨[(0, vq ze a0), (1, .val false [.fn 139 [.ptr 0 0]]), (7, vi v1), (8, vi v2)], [.var [ci e0]], 1⟩ fun o => match o with | .inl o_0 => (.ret, ⟨[(4, vi o_0)], [.var [ci e0]], 1⟩) | .inr (o_1) => (.exit 0, ⟨[(0, vq ze a0), (1, .val false [.fn 139 [.ptr 0 0]]), (7, vi v1), (8, vi o_1), (9, vb false)], [.var [ci e0]], 1⟩) := by
  induction m with
  | zero => intro v2 o h; cases h
  | succ m ih => exact fun v2 => tlp (
   .lI v2 v1 (fun c1 =>
    .na v2 fun i2 =>
    .ix zA a0 i2 fun x3 =>
    .cl (H_impl_isFormed_1 x3 e0) fun r4 =>
    .vM 0 r4 (
     .ret (.inl v2)) <|
    .go (ih (w64 (v2 + 1)))) fun c1 =>
   .ret (.inr v2))
def y6 (G_impl_isFormed_1 : GExpr → Int → Option Bool) (n : Nat) (a0 : (List GExpr)) (e0 : Int) : Option Int :=
 (zK G_impl_isFormed_1 a0 (a0.length : Int) e0 n 0).bind fun o1 =>
 match o1 with
 | .inl o1_0 =>
  some o1_0
 | .inr (o1_1) =>
  some (-1)
theorem vc (G_impl_isFormed_1 : GExpr → Int → Option Bool) (H_impl_isFormed_1 : wK G_impl_isFormed_1) (n : Nat) : y5 (y6 G_impl_isFormed_1 n) := fun a0 e0 => tc (
 .le ze a0 <|
 .l2 (jL G_impl_isFormed_1 H_impl_isFormed_1 a0 (a0.length : Int) e0 n 0) (fun o1_0 =>
  .ret o1_0) fun o1_1 =>
 .ret (-1)) (zw Tryd.func128)
def yT (G_slices_IndexFunc_Expr_isFormed_1 : (List GExpr) → Int → Option Int) (a0 : (List GExpr)) (e0 : Int) : Option Bool :=
 (G_slices_IndexFunc_Expr_isFormed_1 a0 e0).bind fun r1 =>
 some (decide (0 <= r1))
theorem jY (G_slices_IndexFunc_Expr_isFormed_1 : (List GExpr) → Int → Option Int) (H_slices_IndexFunc_Expr_isFormed_1 : y5 G_slices_IndexFunc_Expr_isFormed_1) : zW (yT G_slices_IndexFunc_Expr_isFormed_1) := fun a0 e0 => tc (
 .cl (H_slices_IndexFunc_Expr_isFormed_1 a0 e0) fun r1 =>
 .gD 0 r1 <|
 .ret (decide (0 <= r1))) (zw Tryd.func106)
def yY (G_slices_ContainsFunc_Expr_isFormed_1 : (List GExpr) → Int → Option Bool) (v0 : Int) (v1 : Bool) (v2 : (List (List UInt8))) (a0 : GExpr) (a1 : Int) : Nat → Int → Option (Bool ⊕ Int)
  | 0, _ => none
  | m + 1, v3 =>
  if v3 < v0 then
   (z6 v3).bind fun i2 =>
   (v2[i2]?).bind fun x3 =>
   (xA x3).bind fun r4 =>
   match r4 with
   | true =>
    if 0 < v3 then
     (z6 (w64 (v3 - 1))).bind fun i6 =>
     (a0.K[i6]?).bind fun x7 =>
     (jS x7 x3).bind fun r8 =>
     if 0 <= r8 then
      some (.inl false)
     else
     yY G_slices_ContainsFunc_Expr_isFormed_1 v0 v1 v2 a0 a1 m (w64 (v3 + 1))
    else
    yY G_slices_ContainsFunc_Expr_isFormed_1 v0 v1 v2 a0 a1 m (w64 (v3 + 1))
   | false =>
    some (.inl false)
  else
  some (.inr v3)
theorem Qn (G_slices_ContainsFunc_Expr_isFormed_1 : (List GExpr) → Int → Option Bool) (H_slices_ContainsFunc_Expr_isFormed_1 : zW G_slices_ContainsFunc_Expr_isFormed_1) (v0 : Int) (v1 : Bool) (v2 : (List (List UInt8))) (a0 : GExpr) (a1 : Int) (m : Nat) : ∀ (v3 : Int), Ol (yY G_slices_ContainsFunc_Expr_isFormed_1 v0 v1 v2 a0 a1 m v3) 129 (zY Tryd.f129 0) ⟨[(2, vp 0 0), (3, vp 1 0), (5, vi v0), (6, vb v1), (96, vq (z7 za) v2), (97, vi v0), (98, vi v3)], [.var (yh a0), .var [ci a1]], 0⟩ fun o => match o with | .inl o_0 => (.ret, ⟨[(4, vb o_0)], [], 0⟩) | .inr (o_1) => (.exit 1, ⟨[(2, vp 0 0), (3, vp 1 0), (5, vi v0), (6, vb v1), (96, vq (z7 za) v2), (97, vi v0), (98, vi o_1), (99, vb false)], [.var (yh a0), .var [ci a1]], 0⟩) := by
  induction m with
  | zero => intro v3 o h; cases h
  | succ m ih => exact fun v3 => tlp (
   .lI v3 v0 (fun c1 =>
    .na v3 fun i2 =>
    .ix0 (z7 za) v2 i2 fun x3 =>
    .cl (jc x3) fun r4 =>
    .vN 0 r4 (
     .an 0 0 <|
     .lI 0 v3 (fun c5 =>
      .an 0 0 <|
      .na (w64 (v3 - 1)) fun i6 =>
      .ix0 (z7 za) a0.K i6 fun x7 =>
      .cl (YW x7 x3) fun r8 =>
      .gI 0 r8 (fun c9 =>
       .an 0 3 <|
       .an 1 3 <|
       .ret (.inl false)) fun c9 =>
      .an 0 3 <|
      .an 1 3 <|
      .go (ih (w64 (v3 + 1)))) fun c5 =>
     .an 0 0 <|
     .an 9 0 <|
     .an 1 0 <|
     .go (ih (w64 (v3 + 1)))) <|
    .an 0 0 <|
    .an 0 0 <|
    .an 0 0 <|
    .an 0 0 <|
    .ret (.inl false)) fun c1 =>
   .ret (.inr v3))
def xS (G_slices_ContainsFunc_Expr_isFormed_1 : (List GExpr) → Int → Option Bool) (n : Nat) (a0 : GExpr) (a1 : Int) : Option Bool :=
 if a1 = 0 then
  some false
 else
 if a0.Kind = 5 then
  if a0.N = 0 then
   (yY G_slices_ContainsFunc_Expr_isFormed_1 (a0.K.length : Int) false a0.K a0 a1 n 0).bind fun o4 =>
   match o4 with
   | .inl o4_0 =>
    some o4_0
   | .inr (o4_1) =>
    if 0 < (a0.S.length : Int) then
     some false
    else
    if (a0.Kids.length : Int) = (a0.K.length : Int) then
     if 150 < (a0.K.length : Int) then
      some false
     else
     (G_slices_ContainsFunc_Expr_isFormed_1 a0.Kids a1).bind fun r8 =>
     some (!r8)
    else
    some false
  else
  some false
 else
 if 0 < (a0.K.length : Int) then
  some false
 else
 if a0.Kind = 1 then
  (xI a0.N 0 1).bind fun r5 =>
  match r5 with
  | true =>
   if 0 < (a0.S.length : Int) then
    some false
   else
   if (a0.Kids.length : Int) = 0 then
    (G_slices_ContainsFunc_Expr_isFormed_1 a0.Kids a1).bind fun r8 =>
    some (!r8)
   else
   some false
  | false =>
   some false
 else
 if a0.Kind = 2 then
  (xI a0.N 0 1000000000000).bind fun r6 =>
  match r6 with
  | true =>
   if 0 < (a0.S.length : Int) then
    some false
   else
   if (a0.Kids.length : Int) = 0 then
    (G_slices_ContainsFunc_Expr_isFormed_1 a0.Kids a1).bind fun r9 =>
    some (!r9)
   else
   some false
  | false =>
   some false
 else
 if a0.N = 0 then
  if a0.Kind = 0 then
   if 0 < (a0.S.length : Int) then
    some false
   else
   if (a0.Kids.length : Int) = 0 then
    (G_slices_ContainsFunc_Expr_isFormed_1 a0.Kids a1).bind fun r10 =>
    some (!r10)
   else
   some false
  else
  if a0.Kind = 10 then
   if 0 < (a0.S.length : Int) then
    some false
   else
   if (a0.Kids.length : Int) = 0 then
    (G_slices_ContainsFunc_Expr_isFormed_1 a0.Kids a1).bind fun r11 =>
    some (!r11)
   else
   some false
  else
  if a0.Kind = 11 then
   if 0 < (a0.S.length : Int) then
    some false
   else
   if (a0.Kids.length : Int) = 0 then
    (G_slices_ContainsFunc_Expr_isFormed_1 a0.Kids a1).bind fun r12 =>
    some (!r12)
   else
   some false
  else
  if a0.Kind = 12 then
   if 0 < (a0.S.length : Int) then
    some false
   else
   if (a0.Kids.length : Int) = 0 then
    (G_slices_ContainsFunc_Expr_isFormed_1 a0.Kids a1).bind fun r13 =>
    some (!r13)
   else
   some false
  else
  if a0.Kind = 3 then
   (jC a0.S).bind fun r12 =>
   match r12 with
   | true =>
    if (a0.Kids.length : Int) = 0 then
     (G_slices_ContainsFunc_Expr_isFormed_1 a0.Kids a1).bind fun r14 =>
     some (!r14)
    else
    some false
   | false =>
    some false
  else
  if a0.Kind = 6 then
   (xA a0.S).bind fun r13 =>
   match r13 with
   | true =>
    if (a0.Kids.length : Int) = 0 then
     (G_slices_ContainsFunc_Expr_isFormed_1 a0.Kids a1).bind fun r15 =>
     some (!r15)
    else
    some false
   | false =>
    some false
  else
  if a0.Kind = 8 then
   (xA a0.S).bind fun r14 =>
   match r14 with
   | true =>
    if (a0.Kids.length : Int) = 1 then
     (G_slices_ContainsFunc_Expr_isFormed_1 a0.Kids a1).bind fun r16 =>
     some (!r16)
    else
    some false
   | false =>
    some false
  else
  if a0.Kind = 7 then
   (qx a0.S).bind fun r15 =>
   match r15 with
   | true =>
    if (a0.Kids.length : Int) = 0 then
     (G_slices_ContainsFunc_Expr_isFormed_1 a0.Kids a1).bind fun r17 =>
     some (!r17)
    else
    some false
   | false =>
    some false
  else
  if a0.Kind = 23 then
   (qx a0.S).bind fun r16 =>
   match r16 with
   | true =>
    if 150 < (a0.Kids.length : Int) then
     some false
    else
    (G_slices_ContainsFunc_Expr_isFormed_1 a0.Kids a1).bind fun r18 =>
    some (!r18)
   | false =>
    some false
  else
  if a0.Kind = 4 then
   if 0 < (a0.S.length : Int) then
    some false
   else
   if 150 < (a0.Kids.length : Int) then
    some false
   else
   (G_slices_ContainsFunc_Expr_isFormed_1 a0.Kids a1).bind fun r19 =>
   some (!r19)
  else
  if a0.Kind = 13 then
   if 0 < (a0.S.length : Int) then
    some false
   else
   if (a0.Kids.length : Int) = 1 then
    (G_slices_ContainsFunc_Expr_isFormed_1 a0.Kids a1).bind fun r20 =>
    some (!r20)
   else
   some false
  else
  if a0.Kind = 14 then
   if 0 < (a0.S.length : Int) then
    some false
   else
   if (a0.Kids.length : Int) = 1 then
    (G_slices_ContainsFunc_Expr_isFormed_1 a0.Kids a1).bind fun r21 =>
    some (!r21)
   else
   some false
  else
  if a0.Kind = 9 then
   if 0 < (a0.S.length : Int) then
    some false
   else
   if (a0.Kids.length : Int) = 2 then
    (G_slices_ContainsFunc_Expr_isFormed_1 a0.Kids a1).bind fun r22 =>
    some (!r22)
   else
   some false
  else
  if a0.Kind = 15 then
   if 0 < (a0.S.length : Int) then
    some false
   else
   if (a0.Kids.length : Int) = 2 then
    (G_slices_ContainsFunc_Expr_isFormed_1 a0.Kids a1).bind fun r23 =>
    some (!r23)
   else
   some false
  else
  if a0.Kind = 16 then
   if 0 < (a0.S.length : Int) then
    some false
   else
   if (a0.Kids.length : Int) = 2 then
    (G_slices_ContainsFunc_Expr_isFormed_1 a0.Kids a1).bind fun r24 =>
    some (!r24)
   else
   some false
  else
  if a0.Kind = 17 then
   if 0 < (a0.S.length : Int) then
    some false
   else
   if (a0.Kids.length : Int) = 2 then
    (G_slices_ContainsFunc_Expr_isFormed_1 a0.Kids a1).bind fun r25 =>
    some (!r25)
   else
   some false
  else
  if a0.Kind = 18 then
   if 0 < (a0.S.length : Int) then
    some false
   else
   if (a0.Kids.length : Int) = 2 then
    (G_slices_ContainsFunc_Expr_isFormed_1 a0.Kids a1).bind fun r26 =>
    some (!r26)
   else
   some false
  else
  if a0.Kind = 19 then
   if 0 < (a0.S.length : Int) then
    some false
   else
   if (a0.Kids.length : Int) = 2 then
    (G_slices_ContainsFunc_Expr_isFormed_1 a0.Kids a1).bind fun r27 =>
    some (!r27)
   else
   some false
  else
  if a0.Kind = 20 then
   if 0 < (a0.S.length : Int) then
    some false
   else
   if (a0.Kids.length : Int) = 2 then
    (G_slices_ContainsFunc_Expr_isFormed_1 a0.Kids a1).bind fun r28 =>
    some (!r28)
   else
   some false
  else
  if a0.Kind = 21 then
   if 0 < (a0.S.length : Int) then
    some false
   else
   if (a0.Kids.length : Int) = 2 then
    (G_slices_ContainsFunc_Expr_isFormed_1 a0.Kids a1).bind fun r29 =>
    some (!r29)
   else
   some false
  else
  if a0.Kind = 22 then
   if 0 < (a0.S.length : Int) then
    some false
   else
   if (a0.Kids.length : Int) = 3 then
    (G_slices_ContainsFunc_Expr_isFormed_1 a0.Kids a1).bind fun r30 =>
    some (!r30)
   else
   some false
  else
  some false
 else
 some false
theorem VM (G_slices_ContainsFunc_Expr_isFormed_1 : (List GExpr) → Int → Option Bool) (H_slices_ContainsFunc_Expr_isFormed_1 : zW G_slices_ContainsFunc_Expr_isFormed_1) (n : Nat) : jT (xS G_slices_ContainsFunc_Expr_isFormed_1 n) := fun a0 a1 => tc (
 .eI a1 0 (fun c1 =>
  .ret false) fun c1 =>
 .eI a0.Kind 5 (fun c2 =>
  .q (.eFo a0.Kind 1 (by omega)) <|
  .q (.eFo a0.Kind 2 (by omega)) <|
  .eI a0.N 0 (fun c3 =>
   .q (.eFo a0.Kind 1 (by omega)) <|
   .q (.eFo a0.Kind 2 (by omega)) <|
   .q (.eFo a0.Kind 0 (by omega)) <|
   .q (.eFo a0.Kind 10 (by omega)) <|
   .q (.eFo a0.Kind 11 (by omega)) <|
   .q (.eFo a0.Kind 12 (by omega)) <|
   .q (.eFo a0.Kind 3 (by omega)) <|
   .q (.eFo a0.Kind 6 (by omega)) <|
   .q (.eFo a0.Kind 8 (by omega)) <|
   .q (.eFo a0.Kind 7 (by omega)) <|
   .q (.eFo a0.Kind 23 (by omega)) <|
   .q (.eFo a0.Kind 4 (by omega)) <|
   .q (.eT c2) <|
   .le (z7 za) a0.K <|
   .le (z7 za) a0.K <|
   .l2 (Qn G_slices_ContainsFunc_Expr_isFormed_1 H_slices_ContainsFunc_Expr_isFormed_1 (a0.K.length : Int) false a0.K a0 a1 n 0) (fun o4_0 =>
    .ret o4_0) fun o4_1 =>
   .le za a0.S <|
   .lI 0 (a0.S.length : Int) (fun c5 =>
    .ret false) fun c5 =>
   .le ze a0.Kids <|
   .eI (a0.Kids.length : Int) (a0.K.length : Int) (fun c6 =>
    .lI 150 (a0.K.length : Int) (fun c7 =>
     .ret false) fun c7 =>
    .cl (H_slices_ContainsFunc_Expr_isFormed_1 a0.Kids a1) fun r8 =>
    .ret (!r8)) fun c6 =>
   .ret false) fun c3 =>
  .ret false) fun c2 =>
 .le (z7 za) a0.K <|
 .lI 0 (a0.K.length : Int) (fun c3 =>
  .ret false) fun c3 =>
 .eI a0.Kind 1 (fun c4 =>
  .q (.eT c4) <|
  .cl (jt a0.N 0 1) fun r5 =>
  .vN 0 r5 (
   .le za a0.S <|
   .lI 0 (a0.S.length : Int) (fun c6 =>
    .ret false) fun c6 =>
   .le ze a0.Kids <|
   .eI (a0.Kids.length : Int) 0 (fun c7 =>
    .q (.lFo 150 0 (by omega)) <|
    .cl (H_slices_ContainsFunc_Expr_isFormed_1 a0.Kids a1) fun r8 =>
    .ret (!r8)) fun c7 =>
   .ret false) <|
  .ret false) fun c4 =>
 .eI a0.Kind 2 (fun c5 =>
  .q (.eF c4) <|
  .q (.eT c5) <|
  .cl (jt a0.N 0 1000000000000) fun r6 =>
  .vN 0 r6 (
   .le za a0.S <|
   .lI 0 (a0.S.length : Int) (fun c7 =>
    .ret false) fun c7 =>
   .le ze a0.Kids <|
   .eI (a0.Kids.length : Int) 0 (fun c8 =>
    .q (.lFo 150 0 (by omega)) <|
    .cl (H_slices_ContainsFunc_Expr_isFormed_1 a0.Kids a1) fun r9 =>
    .ret (!r9)) fun c8 =>
   .ret false) <|
  .ret false) fun c5 =>
 .eI a0.N 0 (fun c6 =>
  .q (.eF c4) <|
  .q (.eF c5) <|
  .eI a0.Kind 0 (fun c7 =>
   .le za a0.S <|
   .lI 0 (a0.S.length : Int) (fun c8 =>
    .ret false) fun c8 =>
   .le ze a0.Kids <|
   .eI (a0.Kids.length : Int) 0 (fun c9 =>
    .q (.lFo 150 0 (by omega)) <|
    .cl (H_slices_ContainsFunc_Expr_isFormed_1 a0.Kids a1) fun r10 =>
    .ret (!r10)) fun c9 =>
   .ret false) fun c7 =>
  .eI a0.Kind 10 (fun c8 =>
   .le za a0.S <|
   .lI 0 (a0.S.length : Int) (fun c9 =>
    .ret false) fun c9 =>
   .le ze a0.Kids <|
   .eI (a0.Kids.length : Int) 0 (fun c10 =>
    .q (.lFo 150 0 (by omega)) <|
    .cl (H_slices_ContainsFunc_Expr_isFormed_1 a0.Kids a1) fun r11 =>
    .ret (!r11)) fun c10 =>
   .ret false) fun c8 =>
  .eI a0.Kind 11 (fun c9 =>
   .le za a0.S <|
   .lI 0 (a0.S.length : Int) (fun c10 =>
    .ret false) fun c10 =>
   .le ze a0.Kids <|
   .eI (a0.Kids.length : Int) 0 (fun c11 =>
    .q (.lFo 150 0 (by omega)) <|
    .cl (H_slices_ContainsFunc_Expr_isFormed_1 a0.Kids a1) fun r12 =>
    .ret (!r12)) fun c11 =>
   .ret false) fun c9 =>
  .eI a0.Kind 12 (fun c10 =>
   .le za a0.S <|
   .lI 0 (a0.S.length : Int) (fun c11 =>
    .ret false) fun c11 =>
   .le ze a0.Kids <|
   .eI (a0.Kids.length : Int) 0 (fun c12 =>
    .q (.lFo 150 0 (by omega)) <|
    .cl (H_slices_ContainsFunc_Expr_isFormed_1 a0.Kids a1) fun r13 =>
    .ret (!r13)) fun c12 =>
   .ret false) fun c10 =>
  .eI a0.Kind 3 (fun c11 =>
   .cl (RR a0.S) fun r12 =>
   .vN 0 r12 (
    .le ze a0.Kids <|
    .eI (a0.Kids.length : Int) 0 (fun c13 =>
     .q (.lFo 150 0 (by omega)) <|
     .cl (H_slices_ContainsFunc_Expr_isFormed_1 a0.Kids a1) fun r14 =>
     .ret (!r14)) fun c13 =>
    .ret false) <|
   .ret false) fun c11 =>
  .eI a0.Kind 6 (fun c12 =>
   .cl (jc a0.S) fun r13 =>
   .vN 0 r13 (
    .q (.eFo a0.Kind 8 (by omega)) <|
    .le ze a0.Kids <|
    .eI (a0.Kids.length : Int) 0 (fun c14 =>
     .q (.lFo 150 0 (by omega)) <|
     .cl (H_slices_ContainsFunc_Expr_isFormed_1 a0.Kids a1) fun r15 =>
     .ret (!r15)) fun c14 =>
    .ret false) <|
   .ret false) fun c12 =>
  .eI a0.Kind 8 (fun c13 =>
   .cl (jc a0.S) fun r14 =>
   .vN 0 r14 (
    .q (.eT c13) <|
    .le ze a0.Kids <|
    .eI (a0.Kids.length : Int) 1 (fun c15 =>
     .q (.lFo 150 1 (by omega)) <|
     .cl (H_slices_ContainsFunc_Expr_isFormed_1 a0.Kids a1) fun r16 =>
     .ret (!r16)) fun c15 =>
    .ret false) <|
   .ret false) fun c13 =>
  .eI a0.Kind 7 (fun c14 =>
   .cl (Z8 a0.S) fun r15 =>
   .vN 0 r15 (
    .q (.eFo a0.Kind 23 (by omega)) <|
    .le ze a0.Kids <|
    .eI (a0.Kids.length : Int) 0 (fun c16 =>
     .q (.lFo 150 0 (by omega)) <|
     .cl (H_slices_ContainsFunc_Expr_isFormed_1 a0.Kids a1) fun r17 =>
     .ret (!r17)) fun c16 =>
    .ret false) <|
   .ret false) fun c14 =>
  .eI a0.Kind 23 (fun c15 =>
   .cl (Z8 a0.S) fun r16 =>
   .vN 0 r16 (
    .q (.eT c15) <|
    .le ze a0.Kids <|
    .le ze a0.Kids <|
    .q (.eTo (a0.Kids.length : Int) (a0.Kids.length : Int) (by omega)) <|
    .lI 150 (a0.Kids.length : Int) (fun c17 =>
     .ret false) fun c17 =>
    .cl (H_slices_ContainsFunc_Expr_isFormed_1 a0.Kids a1) fun r18 =>
    .ret (!r18)) <|
   .ret false) fun c15 =>
  .eI a0.Kind 4 (fun c16 =>
   .le ze a0.Kids <|
   .le za a0.S <|
   .lI 0 (a0.S.length : Int) (fun c17 =>
    .ret false) fun c17 =>
   .le ze a0.Kids <|
   .q (.eTo (a0.Kids.length : Int) (a0.Kids.length : Int) (by omega)) <|
   .lI 150 (a0.Kids.length : Int) (fun c18 =>
    .ret false) fun c18 =>
   .cl (H_slices_ContainsFunc_Expr_isFormed_1 a0.Kids a1) fun r19 =>
   .ret (!r19)) fun c16 =>
  .q (.eF c2) <|
  .eI a0.Kind 13 (fun c17 =>
   .le za a0.S <|
   .lI 0 (a0.S.length : Int) (fun c18 =>
    .ret false) fun c18 =>
   .le ze a0.Kids <|
   .eI (a0.Kids.length : Int) 1 (fun c19 =>
    .q (.lFo 150 1 (by omega)) <|
    .cl (H_slices_ContainsFunc_Expr_isFormed_1 a0.Kids a1) fun r20 =>
    .ret (!r20)) fun c19 =>
   .ret false) fun c17 =>
  .eI a0.Kind 14 (fun c18 =>
   .le za a0.S <|
   .lI 0 (a0.S.length : Int) (fun c19 =>
    .ret false) fun c19 =>
   .le ze a0.Kids <|
   .eI (a0.Kids.length : Int) 1 (fun c20 =>
    .q (.lFo 150 1 (by omega)) <|
    .cl (H_slices_ContainsFunc_Expr_isFormed_1 a0.Kids a1) fun r21 =>
    .ret (!r21)) fun c20 =>
   .ret false) fun c18 =>
  .eI a0.Kind 9 (fun c19 =>
   .le za a0.S <|
   .lI 0 (a0.S.length : Int) (fun c20 =>
    .ret false) fun c20 =>
   .le ze a0.Kids <|
   .eI (a0.Kids.length : Int) 2 (fun c21 =>
    .q (.lFo 150 2 (by omega)) <|
    .cl (H_slices_ContainsFunc_Expr_isFormed_1 a0.Kids a1) fun r22 =>
    .ret (!r22)) fun c21 =>
   .ret false) fun c19 =>
  .eI a0.Kind 15 (fun c20 =>
   .le za a0.S <|
   .lI 0 (a0.S.length : Int) (fun c21 =>
    .ret false) fun c21 =>
   .le ze a0.Kids <|
   .eI (a0.Kids.length : Int) 2 (fun c22 =>
    .q (.lFo 150 2 (by omega)) <|
    .cl (H_slices_ContainsFunc_Expr_isFormed_1 a0.Kids a1) fun r23 =>
    .ret (!r23)) fun c22 =>
   .ret false) fun c20 =>
  .eI a0.Kind 16 (fun c21 =>
   .le za a0.S <|
   .lI 0 (a0.S.length : Int) (fun c22 =>
    .ret false) fun c22 =>
   .le ze a0.Kids <|
   .eI (a0.Kids.length : Int) 2 (fun c23 =>
    .q (.lFo 150 2 (by omega)) <|
    .cl (H_slices_ContainsFunc_Expr_isFormed_1 a0.Kids a1) fun r24 =>
    .ret (!r24)) fun c23 =>
   .ret false) fun c21 =>
  .eI a0.Kind 17 (fun c22 =>
   .le za a0.S <|
   .lI 0 (a0.S.length : Int) (fun c23 =>
    .ret false) fun c23 =>
   .le ze a0.Kids <|
   .eI (a0.Kids.length : Int) 2 (fun c24 =>
    .q (.lFo 150 2 (by omega)) <|
    .cl (H_slices_ContainsFunc_Expr_isFormed_1 a0.Kids a1) fun r25 =>
    .ret (!r25)) fun c24 =>
   .ret false) fun c22 =>
  .eI a0.Kind 18 (fun c23 =>
   .le za a0.S <|
   .lI 0 (a0.S.length : Int) (fun c24 =>
    .ret false) fun c24 =>
   .le ze a0.Kids <|
   .eI (a0.Kids.length : Int) 2 (fun c25 =>
    .q (.lFo 150 2 (by omega)) <|
    .cl (H_slices_ContainsFunc_Expr_isFormed_1 a0.Kids a1) fun r26 =>
    .ret (!r26)) fun c25 =>
   .ret false) fun c23 =>
  .eI a0.Kind 19 (fun c24 =>
   .le za a0.S <|
   .lI 0 (a0.S.length : Int) (fun c25 =>
    .ret false) fun c25 =>
   .le ze a0.Kids <|
   .eI (a0.Kids.length : Int) 2 (fun c26 =>
    .q (.lFo 150 2 (by omega)) <|
    .cl (H_slices_ContainsFunc_Expr_isFormed_1 a0.Kids a1) fun r27 =>
    .ret (!r27)) fun c26 =>
   .ret false) fun c24 =>
  .eI a0.Kind 20 (fun c25 =>
   .le za a0.S <|
   .lI 0 (a0.S.length : Int) (fun c26 =>
    .ret false) fun c26 =>
   .le ze a0.Kids <|
   .eI (a0.Kids.length : Int) 2 (fun c27 =>
    .q (.lFo 150 2 (by omega)) <|
    .cl (H_slices_ContainsFunc_Expr_isFormed_1 a0.Kids a1) fun r28 =>
    .ret (!r28)) fun c27 =>
   .ret false) fun c25 =>
  .eI a0.Kind 21 (fun c26 =>
   .le za a0.S <|
   .lI 0 (a0.S.length : Int) (fun c27 =>
    .ret false) fun c27 =>
   .le ze a0.Kids <|
   .eI (a0.Kids.length : Int) 2 (fun c28 =>
    .q (.lFo 150 2 (by omega)) <|
    .cl (H_slices_ContainsFunc_Expr_isFormed_1 a0.Kids a1) fun r29 =>
    .ret (!r29)) fun c28 =>
   .ret false) fun c26 =>
  .eI a0.Kind 22 (fun c27 =>
   .le za a0.S <|
   .lI 0 (a0.S.length : Int) (fun c28 =>
    .ret false) fun c28 =>
   .le ze a0.Kids <|
   .eI (a0.Kids.length : Int) 3 (fun c29 =>
    .q (.lFo 150 3 (by omega)) <|
    .cl (H_slices_ContainsFunc_Expr_isFormed_1 a0.Kids a1) fun r30 =>
    .ret (!r30)) fun c29 =>
   .ret false) fun c27 =>
  .ret false) fun c6 =>
 .ret false) (zw Tryd.func129)
mutual
def yQ : Nat → GExpr → Int → Option Bool
 | 0, _, _ => none
 | n + 1, a0, e0 => va (xo n) a0 e0
def zG : Nat → (List GExpr) → Int → Option Int
 | 0, _, _ => none
 | n + 1, a0, e0 => y6 (yQ n) n a0 e0
def zD : Nat → (List GExpr) → Int → Option Bool
 | 0, _, _ => none
 | n + 1, a0, e0 => yT (zG n) a0 e0
def xo : Nat → GExpr → Int → Option Bool
 | 0, _, _ => none
 | n + 1, a0, a1 => xS (zD n) n a0 a1
end
theorem qn (n : Nat) : wK (yQ n) ∧ y5 (zG n) ∧ zW (zD n) ∧ jT (xo n) := by
 induction n with
 | zero => exact ⟨fun _ _ _ h => (by rw [yQ] at h; cases h), fun _ _ _ h => (by rw [zG] at h; cases h), fun _ _ _ h => (by rw [zD] at h; cases h), fun _ _ _ h => (by rw [xo] at h; cases h)⟩
 | succ n ih =>
  obtain ⟨ih_impl_isFormed_1, ih_slices_IndexFunc_Expr_isFormed_1, ih_slices_ContainsFunc_Expr_isFormed_1, ih_impl_isFormed⟩ := ih
  exact ⟨fun a0 e0 r h => JS (xo n) ih_impl_isFormed a0 e0 r (by rw [yQ] at h; exact h),
   fun a0 e0 r h => vc (yQ n) ih_impl_isFormed_1 n a0 e0 r (by rw [zG] at h; exact h),
   fun a0 e0 r h => jY (zG n) ih_slices_IndexFunc_Expr_isFormed_1 a0 e0 r (by rw [zD] at h; exact h),
   fun a0 a1 r h => VM (zD n) ih_slices_ContainsFunc_Expr_isFormed_1 n a0 a1 r (by rw [xo] at h; exact h)⟩
theorem OC (a b : List UInt8) : jS a b = some (Lib.compareBytes a b) := rfl
theorem X5 {a : List UInt8} (h : a.length <= 2 ^ 20) : xA a = some (yV a) := if_pos h
theorem MX {a : List UInt8} (h : a.length <= 2 ^ 20) : jC a = some (ZP a) := if_pos h
theorem jZ {G : GExpr → Int → Option Bool} {a : List GExpr} {f : Nat} {e : Int} {p : GExpr → Bool} (ha : a.length <= 2 ^ 20) (hf : a.length < f) (hG : ∀ x ∈ a, G x e = some (!p x)) : ∃ r : Int, y6 G f a e = some r ∧ decide (0 <= r) = !(a.all p) := by
 have loop : ∀ (d i m : Nat), i + d = a.length → d < m → ∃ (q : Nat) (z : Int), zK G a (a.length : Int) e m (i : Int) = some (if (a.drop i).all p = true then .inr z else .inl (q : Int)) := by
  intro d
  induction d with
  | zero =>
   intro i m hi hm
   obtain ⟨m, rfl, _⟩ := zi hm
   exact ⟨0, _, by rw [zK, if_neg (by omega), List.drop_eq_nil_of_le (by omega)]; rfl⟩
  | succ d ih =>
   intro i m hi hm
   obtain ⟨m, rfl, hm'⟩ := zi hm
   have hil : i < a.length := by omega
   rw [zK, if_pos (by omega), zg, Option.bind_some, zu hil, Option.bind_some, hG _ (List.getElem_mem hil), Option.bind_some, yi (by omega), yP hil, List.all_cons]
   cases hp : p a[i] with
   | false => exact ⟨i, 0, rfl⟩
   | true =>
    obtain ⟨q, z, hz⟩ := ih (i + 1) m (by omega) (by omega)
    exact ⟨q, z, by rw [Bool.true_and]; exact hz⟩
 obtain ⟨q, z, hz⟩ := loop a.length 0 f (by omega) (by omega)
 rw [show ((0 : Nat) : Int) = 0 from rfl, List.drop_zero] at hz
 unfold y6
 rw [hz, Option.bind_some]
 cases hp : a.all p with
 | true => exact ⟨-1, rfl, rfl⟩
 | false => exact ⟨(q : Int), rfl, by simp⟩
theorem Um {G : List GExpr → Int → Option Bool} {v : GExpr} {v1 : Bool} {a1 : Int} (hs : xsz v <= 2 ^ 20) : ∀ (d i m : Nat), i + d = v.K.length → d < m → ∃ z, yY G (v.K.length : Int) v1 v.K v a1 m (i : Int) = some (if xm v.K i d = true then .inr z else .inl false) := by
 have he := xN v
 have hl := jg v.K
 intro d
 induction d with
 | zero =>
  intro i m hi hm
  obtain ⟨m, rfl, _⟩ := zi hm
  exact ⟨_, by rw [yY, if_neg (by omega)]; rfl⟩
 | succ d ih =>
  intro i m hi hm
  obtain ⟨m, rfl, hm'⟩ := zi hm
  have hil : i < v.K.length := by omega
  have hx := YC (List.getElem_mem hil)
  rw [yY, if_pos (by omega), zg, Option.bind_some, zu hil, Option.bind_some, X5 (by omega), Option.bind_some, yi (by omega), jk]
  obtain ⟨z, hz⟩ := ih (i + 1) m (by omega) (by omega)
  cases hnm : yV v.K[i] with
  | false =>
   refine ⟨0, ?_⟩
   have : kOk v.K i = false := by
    by_cases h0 : i = 0
    ·subst h0; rw [kA hil, hnm]
    ·rw [jh hil (by omega), hnm]; rfl
   rw [this]; rfl
  | true =>
   dsimp only
   by_cases h0 : 0 < i
   ·rw [if_pos (by omega), YO (by omega) h0, zg, Option.bind_some, zu (show i - 1 < v.K.length by omega), Option.bind_some, OC, Option.bind_some]
    by_cases hb : Op.bytesLess (v.K[i - 1]'(by omega)) v.K[i] = true
    ·rw [if_neg (by rw [Xf]; exact fun h => h hb), jh hil h0, hnm, hb]
     exact ⟨z, hz⟩
    ·rw [if_pos (by rw [Xf]; exact hb), jh hil h0, hnm, show Op.bytesLess (v.K[i - 1]'(by omega)) v.K[i] = false by simpa using hb]
     exact ⟨0, rfl⟩
   ·have : i = 0 := by omega
    subst this
    rw [if_neg (by omega), kA hil, hnm]
    exact ⟨z, hz⟩
theorem TG {a : List UInt8} (h : a.length <= 2 ^ 20) : qx a = some (yV a && !vG a) := by
 unfold qx
 rw [X5 h, Option.bind_some]
 cases yV a with
 | false => rfl
 | true =>
  dsimp only
  rw [show vK = some VW from rfl, Option.bind_some]
  unfold qd xJ
  rw [if_pos (by decide), Option.bind_some, Option.bind_some, HY]
  rfl
theorem P2 {G : List GExpr → Int → Option Bool} {v : GExpr} {n : Nat} {a1 : Int} {X : Option Bool} (hs : v.S.length <= 2 ^ 20) (h1 : ¬ a1 = 0) (h5 : ¬ v.Kind = 5)
  (hX : ((G v.Kids a1).bind fun r => some (!r)) = X) : Dec X (some false) (vh v ∧ v.Kids.length <= 150) (xS G n v a1) := by
 have hw := Nl (yV v.S) (vG v.S)
 unfold xS vh
 rw [if_neg h1, if_neg h5]
 have q1 : (0 : Int) <= (v.S.length : Int) := by omega
 have q2 : (0 : Int) <= (v.K.length : Int) := by omega
 have q3 : (0 : Int) <= (v.Kids.length : Int) := by omega
 rw [show (v.Kids.length <= 150) = ((v.Kids.length : Int) <= 150) from propext (by omega)]
 generalize v.Kind = k at h5
 generalize (v.S.length : Int) = s at q1
 generalize (v.K.length : Int) = kk at q2
 generalize (v.Kids.length : Int) = kl at q3
 repeat' first
  | refine Dec.ite (fun _ => ?_) (fun _ => ?_)
  | refine Dec.bndD (Hm _ _ _) (fun _ => ?_) (fun _ => ?_)
  | refine Dec.bndB (MX hs) (fun _ => ?_) (fun _ => ?_)
  | refine Dec.bndB (X5 hs) (fun _ => ?_) (fun _ => ?_)
  | refine Dec.bndB (TG hs) (fun _ => ?_) (fun _ => ?_)
 all_goals first
  | (refine .inl ⟨hX, ?_⟩; (try subst_vars); first | (simp [ZE, arI]; done) | (simp [ZE, arI]; omega))
  | (refine .inr ⟨rfl, ?_⟩; rintro ⟨h, hk⟩; (try subst_vars); first
   | (have g := h.1; clear h hw; omega)
   | (have g := h.2.2.2.1; clear h hw; omega)
   | (have g := h.2.2.2.2.2.2.1; clear h hw; omega)
   | (simp [ZE, arI] at h; done)
   | (simp [ZE, arI] at h; omega))
theorem LF {G : List GExpr → Int → Option Bool} {v : GExpr} {f d : Nat} (hs : xsz v <= 2 ^ 20) (hf : v.K.length < f) (hd : 0 < d) (hG : G v.Kids (d : Int) = some (!(v.Kids.all (frX (d - 1))))) : xS G f v (d : Int) = some (frX d v) := by
 obtain ⟨e, rfl⟩ : ∃ e, d = e + 1 := ⟨d - 1, by omega⟩
 have he := xN v
 have hl := yd v.Kids
 have hb := jg v.K
 rw [show e + 1 - 1 = e by omega] at hG
 rw [YU]
 have no : qN v = false → some false = some (qN v && v.Kids.all (frX e)) := fun h => by rw [h]; rfl
 have yes : qN v = true → ((G v.Kids ((e + 1 : Nat) : Int)).bind fun r => some (!r)) = some (qN v && v.Kids.all (frX e)) := fun h => by rw [hG, Option.bind_some, h, Bool.not_not, Bool.true_and]
 by_cases h5 : v.Kind = 5
 ·have har := JC v.Kind
  have hbad : ∀ {p : Prop}, p → (p → ¬ (vh v ∧ v.Kids.length <= 150 ∧ (v.Kind = 5 → xm v.K 0 v.K.length = true))) → qN v = false := fun hp h => by
   cases hx : qN v with
   | false => rfl
   | true => exact (h hp (K8 hx)).elim
  unfold xS
  rw [if_neg (by omega), if_pos h5]
  by_cases a2 : v.N = 0
  ·rw [if_pos a2]
   obtain ⟨z, hz⟩ := Um (G := G) (v1 := false) (a1 := ((e + 1 : Nat) : Int)) hs v.K.length 0 f (by omega) (by omega)
   rw [show ((0 : Nat) : Int) = 0 from rfl] at hz
   rw [hz, Option.bind_some]
   cases hk : xm v.K 0 v.K.length with
   | false => exact no (hbad hk fun h h' => by have := h'.2.2 h5; rw [h] at this; cases this)
   | true =>
    rw [if_pos rfl]
    dsimp only
    by_cases a3 : 0 < (v.S.length : Int)
    ·rw [if_pos a3]; exact no (hbad a3 fun h h' => by have := h'.1; unfold vh ZE at this; omega)
    ·rw [if_neg a3]
     by_cases a4 : (v.Kids.length : Int) = (v.K.length : Int)
     ·rw [if_pos a4]
      by_cases a5 : 150 < (v.K.length : Int)
      ·rw [if_pos a5]; exact no (hbad a5 fun h h' => by have := h'.2.1; omega)
      ·rw [if_neg a5]
       refine yes (X1 ?_ (by omega) fun _ => hk)
       unfold vh ZE; omega
     ·rw [if_neg a4]; exact no (hbad a4 fun h h' => by have := h'.1; unfold vh ZE at this; omega)
  ·rw [if_neg a2]; exact no (hbad a2 fun h h' => by have := h'.1; unfold vh ZE at this; omega)
 ·rcases P2 (G := G) (n := f) (v := v) (a1 := ((e + 1 : Nat) : Int)) (by omega) (by omega) h5 rfl with ⟨h, hL⟩ | ⟨h, hL⟩
  ·rw [h]; exact yes (X1 hL.1 hL.2 fun k => (h5 k).elim)
  ·rw [h]
   refine no ?_
   cases hx : qN v with
   | false => rfl
   | true => have := K8 hx; exact (hL ⟨this.1, this.2.1⟩).elim
theorem LG : ∀ (N : Nat) (v : GExpr), xsz v < N → xsz v <= 2 ^ 20 → ∀ (f d : Nat), 4 * xsz v + 6 <= f → d <= 2 ^ 20 → xo f v (d : Int) = some (frX d v) := by
 intro N
 induction N with
 | zero => intro v hv; omega
 | succ N ih =>
  intro v hv hs f d hf hd
  have he := xN v
  have hl := yd v.Kids
  have hb := jg v.K
  obtain ⟨f, rfl, _⟩ := zi (show 0 < f by omega)
  rw [xo]
  by_cases h0 : d = 0
  ·subst h0; unfold xS; rw [if_pos (show ((0 : Nat) : Int) = 0 from rfl)]; rfl
  refine LF hs (by omega) (by omega) ?_
  obtain ⟨f, rfl, _⟩ := zi (show 0 < f by omega)
  obtain ⟨f, rfl, _⟩ := zi (show 0 < f by omega)
  obtain ⟨f, rfl, _⟩ := zi (show 0 < f by omega)
  rw [zD]
  unfold yT
  rw [zG]
  obtain ⟨r, hr, hr2⟩ := jZ (G := yQ (f + 1)) (a := v.Kids) (f := f + 1) (e := (d : Int)) (p := frX (d - 1)) (by omega) (by omega) fun x hx => by
   have := yz hx
   rw [yQ]
   unfold va
   rw [YO (by omega) (by omega), ih x (by omega) (by omega) f (d - 1) (by omega) (by omega)]
   rfl
  rw [hr, Option.bind_some, hr2]
def Ys (a0 : GExpr) (e0 : Int) : Option Bool := none
theorem WC (a0 : GExpr) (e0 : Int) (r : Bool) (h : Ys a0 e0 = some r) : ∃ n, yQ n a0 e0 = some r := by cases h
def wL (a0 : (List GExpr)) (e0 : Int) : Option Int := none
theorem ka (a0 : (List GExpr)) (e0 : Int) (r : Int) (h : wL a0 e0 = some r) : ∃ n, zG n a0 e0 = some r := by cases h
def w8 (a0 : (List GExpr)) (e0 : Int) : Option Bool := none
theorem ju (a0 : (List GExpr)) (e0 : Int) (r : Bool) (h : w8 a0 e0 = some r) : ∃ n, zD n a0 e0 = some r := by cases h
noncomputable def qE (a0 : GExpr) (a1 : Int) : Option Bool := if xsz a0 <= 2 ^ 20 ∧ 0 <= a1 ∧ a1 <= 2 ^ 20 then some (frX a1.toNat a0) else none
theorem Ja (a0 : GExpr) (a1 : Int) (r : Bool) (h : qE a0 a1 = some r) : ∃ n, xo n a0 a1 = some r := by
 unfold qE at h
 obtain ⟨⟨hs, h0, h1⟩, h⟩ := yg h
 refine ⟨4 * xsz a0 + 6, ?_⟩
 have := LG _ a0 (Nat.lt_succ_self _) hs _ a1.toNat (Nat.le_refl _) (by omega)
 rw [show ((a1.toNat : Nat) : Int) = a1 by omega] at this
 rw [this]; exact h
theorem MY : wK Ys := by
 intro a0 e0 r h
 obtain ⟨n, hn⟩ := WC a0 e0 r h
 exact (qn n).1 a0 e0 r hn
theorem J9 : y5 wL := by
 intro a0 e0 r h
 obtain ⟨n, hn⟩ := ka a0 e0 r h
 exact (qn n).2.1 a0 e0 r hn
theorem Qo : zW w8 := by
 intro a0 e0 r h
 obtain ⟨n, hn⟩ := ju a0 e0 r h
 exact (qn n).2.2.1 a0 e0 r hn
theorem KM : jT qE := by
 intro a0 a1 r h
 obtain ⟨n, hn⟩ := Ja a0 a1 r h
 exact (qn n).2.2.2 a0 a1 r hn
def wM (F : GExpr → Option Int) : Prop := ∀ (a0 : GExpr), Oc (F a0) 78 [] [.val true (yh a0)] fun r => (vi r, [])
def xg (G_impl_Expr_parts : GExpr → Option Int) (v1 : (List GExpr)) (v2 : Int) : Nat → Int → Int → Option (Int × Int)
  | 0, _, _ => none
  | m + 1, v0, v3 =>
  if v3 < v2 then
   (z6 v3).bind fun i2 =>
   (v1[i2]?).bind fun x3 =>
   (G_impl_Expr_parts x3).bind fun r4 =>
   xg G_impl_Expr_parts v1 v2 m (w64 (v0 + r4)) (w64 (v3 + 1))
  else
  some (v0, v3)
theorem XU (G_impl_Expr_parts : GExpr → Option Int) (H_impl_Expr_parts : wM G_impl_Expr_parts) (v1 : (List GExpr)) (v2 : Int) (m : Nat) : ∀ (v0 : Int) (v3 : Int), Ol (xg G_impl_Expr_parts v1 v2 m v0 v3) 78 (zY Tryd.f78 0) ⟨[(3, vi v0), (7, vq ze v1), (8, vi v2), (9, vi v3)], [], 0⟩ fun o => match o with | ⟨o_0, o_1⟩ => (.exit 0, ⟨[(3, vi o_0), (7, vq ze v1), (8, vi v2), (9, vi o_1), (10, vb false)], [], 0⟩) := by
  induction m with
  | zero => intro v0 v3 o h; cases h
  | succ m ih => exact fun v0 v3 => tlp (
   .lI v3 v2 (fun c1 =>
    .na v3 fun i2 =>
    .ix zA v1 i2 fun x3 =>
    .cl (H_impl_Expr_parts x3) fun r4 =>
    .go (ih (w64 (v0 + r4)) (w64 (v3 + 1)))) fun c1 =>
   .ret (v0, v3))
def qR (G_impl_Expr_parts : GExpr → Option Int) (n : Nat) (a0 : GExpr) : Option Int :=
 (xg G_impl_Expr_parts a0.Kids (a0.Kids.length : Int) n 1 0).bind fun ⟨o1_0, o1_1⟩ =>
 some o1_0
theorem JT (G_impl_Expr_parts : GExpr → Option Int) (H_impl_Expr_parts : wM G_impl_Expr_parts) (n : Nat) : wM (qR G_impl_Expr_parts n) := fun a0 => tc (
 .le ze a0.Kids <|
 .lp (XU G_impl_Expr_parts H_impl_Expr_parts a0.Kids (a0.Kids.length : Int) n 1 0) fun ⟨o1_0, o1_1⟩ =>
 .ret o1_0) (zw Tryd.func78)
def yR : Nat → GExpr → Option Int
 | 0, _ => none
 | n + 1, a0 => qR (yR n) n a0
theorem Qp (n : Nat) : wM (yR n) := by
 induction n with
 | zero => exact fun _ _ h => (by rw [yR] at h; cases h)
 | succ n ih =>
  have ih_impl_Expr_parts := ih
  exact fun a0 r h => JT (yR n) ih_impl_Expr_parts n a0 r (by rw [yR] at h; exact h)
theorem JU {G : GExpr → Option Int} {v : GExpr} {f : Nat} (hs : xsz v <= 2 ^ 20) (hf : v.Kids.length < f) (hG : ∀ x ∈ v.Kids, G x = some (((ptX x) : Nat) : Int)) : qR G f v = some (((ptX v) : Nat) : Int) := by
 have he := xN v
 have hl := yd v.Kids
 have loop : ∀ (d i m : Nat) (r : Int), i + d = v.Kids.length → d < m → 0 <= r → r <= 2 ^ 21 - zU (v.Kids.drop i) → ∃ z, xg G v.Kids (v.Kids.length : Int) m r (i : Int) = some (r + zU (v.Kids.drop i), z) := by
  intro d
  induction d with
  | zero =>
   intro i m r hi hm h0 h1
   obtain ⟨m, rfl, _⟩ := zi hm
   exact ⟨_, by rw [xg, if_neg (by omega), List.drop_eq_nil_of_le (by omega)]; simp [zU]; rfl⟩
  | succ d ih =>
   intro i m r hi hm h0 h1
   obtain ⟨m, rfl, hm'⟩ := zi hm
   have hil : i < v.Kids.length := by omega
   have hp : zU (v.Kids.drop i) = ptX v.Kids[i] + zU (v.Kids.drop (i + 1)) := by rw [yP hil]; simp only [zU]
   rw [hp] at h1 ⊢
   rw [xg, if_pos (by omega), zg, Option.bind_some, zu hil, Option.bind_some, hG _ (List.getElem_mem hil), Option.bind_some, yi (by omega), yF (by omega) (by omega)]
   obtain ⟨z, hz⟩ := ih (i + 1) m (r + ptX v.Kids[i]) (by omega) (by omega) (by omega) (by omega)
   exact ⟨z, by rw [hz]; congr 2; omega⟩
 have hle := JB v.Kids
 obtain ⟨z, hz⟩ := loop v.Kids.length 0 f 1 (by omega) (by omega) (by omega) (by rw [List.drop_zero]; omega)
 rw [show ((0 : Nat) : Int) = 0 from rfl, List.drop_zero] at hz
 unfold qR
 rw [hz, PH]
 simp only [Option.bind_some]
 congr 1
theorem JV : ∀ (N : Nat) (v : GExpr), xsz v < N → xsz v <= 2 ^ 20 → ∀ f : Nat, xsz v + 2 <= f → yR f v = some (((ptX v) : Nat) : Int) := by
 intro N
 induction N with
 | zero => intro v hv; omega
 | succ N ih =>
  intro v hv hs f hf
  obtain ⟨f, rfl, _⟩ := zi (show 0 < f by omega)
  have he := xN v
  have hl := yd v.Kids
  rw [yR]
  refine JU hs (by omega) fun x hx => ?_
  have := yz hx
  exact ih x (by omega) (by omega) f (by omega)
def y7 (a0 : GExpr) : Option Int := if xsz a0 <= 2 ^ 20 then some (((ptX a0) : Nat) : Int) else none
theorem WD (a0 : GExpr) (r : Int) (h : y7 a0 = some r) : ∃ n, yR n a0 = some r := by
 unfold y7 at h
 obtain ⟨ha, h⟩ := yg h
 exact ⟨xsz a0 + 2, by rw [<- h]; exact JV _ a0 (Nat.lt_succ_self _) ha _ (Nat.le_refl _)⟩
theorem kq : wM y7 := by
 intro a0 r h
 obtain ⟨n, hn⟩ := WD a0 r h
 exact (Qp n) a0 r hn
def qy (a0 : GExpr) : Option Bool :=
 (qE a0 10).bind fun r1 =>
 match r1 with
 | true =>
  (y7 a0).bind fun r2 =>
  some (decide (r2 <= 150))
 | false =>
  some false
theorem Z9 (a0 : GExpr) : Oc (qy a0) 108 [] [.val true (yh a0)] fun r => (vb r, []) := tc (
 .cl (KM a0 10) fun r1 =>
 .vM 0 r1 (
  .az 0 0 <|
  .cl (kq a0) fun r2 =>
  .az 0 1 <|
  .gD r2 150 <|
  .az 0 1 <|
  .ret (decide (r2 <= 150))) <|
 .az 0 0 <|
 .az 0 0 <|
 .az 0 0 <|
 .ret false) (zw Tryd.func108)
def Zr (a0 : GExpr) : Option Bool :=
 (qy a0).bind fun r1 =>
 some (!r1)
theorem KN (a0 : GExpr) : Oc (Zr a0) 107 [] [.val true (yh a0)] fun r => (vb r, []) := tc (
 .cl (Z9 a0) fun r1 =>
 .ret (!r1)) (zw Tryd.func107)
end
end Go.Am.Try
