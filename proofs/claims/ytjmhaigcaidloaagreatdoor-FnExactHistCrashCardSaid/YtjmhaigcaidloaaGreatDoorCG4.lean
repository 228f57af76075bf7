
/- The functions of the program in plain Lean, and that the machine answers as they do; conditions at each theorem. -/
import Derived.Test.YtjmhaigcaidloaaGreatDoorCG3
set_option linter.unusedVariables false
set_option linter.unusedSimpArgs false
namespace Go.Am.Try
open Go.Am Go.Proofs
set_option linter.unusedVariables false
set_option maxRecDepth 20000
set_option maxHeartbeats 2000000
noncomputable section
def wL (a0 : GState) (a1 : GEvent) : Option (GState × Bool) :=
 (yB a0).bind fun r1 =>
 (kl a0 a1).bind fun r2 =>
 match r2 with
 | true =>
  (yh (GState.mk (w64 (r1.Serial + 1)) r1.Open r1.Pending r1.Act r1.Entries) a1.Addr).bind fun ⟨r3_0, r3_1⟩ =>
  if a1.Kind = 0 then
   some ((GState.mk (w64 (r1.Serial + 1)) true r1.Pending r1.Act r1.Entries), true)
  else
  if a1.Kind = 1 then
   (zO a1.Addr).bind fun r6 =>
   some ((GState.mk (w64 (r1.Serial + 1)) r1.Open r6 a1.Act r1.Entries), true)
  else
  if a1.Kind = 2 then
   (zO a1.Addr).bind fun r7 =>
   (yU a1.Val).bind fun r8 =>
   (yx a1.Deps).bind fun r9 =>
   match r3_1 with
   | true =>
    (zu r3_0).bind fun i10 =>
    (r1.Entries[i10]?).bind fun x11 =>
    some ((GState.mk (w64 (r1.Serial + 1)) r1.Open [] 0 (r1.Entries.set i10 (GEntry.mk r7 r8 r9 false (w64 (r1.Serial + 1))))), true)
   | false =>
    (wD r3_0 r1.Entries [(GEntry.mk r7 r8 r9 false (w64 (r1.Serial + 1)))]).bind fun r10 =>
    some ((GState.mk (w64 (r1.Serial + 1)) r1.Open [] 0 r10), true)
  else
  if a1.Kind = 3 then
   (wE r3_0 (w64 (r3_0 + 1)) r1.Entries).bind fun r8 =>
   some ((GState.mk (w64 (r1.Serial + 1)) r1.Open [] 0 r8), true)
  else
  if a1.Kind = 4 then
   (qB false (w64 (r1.Serial + 1)) r1.Open r1.Act r1.Pending r1.Entries).bind fun r9 =>
   some ((GState.mk r9.Serial true [] 0 r9.Entries), true)
  else
  if a1.Kind = 6 then
   (qB true (w64 (r1.Serial + 1)) r1.Open r1.Act r1.Pending r1.Entries).bind fun r10 =>
   some ((GState.mk r10.Serial false [] 0 r10.Entries), true)
  else
  if a1.Kind = 5 then
   some ((GState.mk (w64 (r1.Serial + 1)) false [] 0 r1.Entries), true)
  else
  some ((GState.mk (w64 (r1.Serial + 1)) r1.Open [] 0 r1.Entries), true)
 | false =>
  some (r1, false)
theorem TG (a0 : GState) (a1 : GEvent) : Oc (wL a0 a1) 80 [] [.val true (zW a0), .val true (qu a1)] fun r => (.tup [(true, (Qi r.1)), (false, [.bool r.2])], []) := tc (
 .cl (ZP a0) fun r1 =>
 .cl (VJ a0 a1) fun r2 =>
 .vN 0 r2 (
  .vw zN r1.Pending <|
  .vo ya r1.Entries <|
  .cl (qP (GState.mk (w64 (r1.Serial + 1)) r1.Open r1.Pending r1.Act r1.Entries) a1.Addr) fun ⟨r3_0, r3_1⟩ =>
  .eI a1.Kind 0 (fun c4 =>
   .ret ((GState.mk (w64 (r1.Serial + 1)) true r1.Pending r1.Act r1.Entries), true)) fun c4 =>
  .eI a1.Kind 1 (fun c5 =>
   .cl (xd a1.Addr) fun r6 =>
   .ret ((GState.mk (w64 (r1.Serial + 1)) r1.Open r6 a1.Act r1.Entries), true)) fun c5 =>
  .eI a1.Kind 2 (fun c6 =>
   .cl (xd a1.Addr) fun r7 =>
   .cl (ZO a1.Val) fun r8 =>
   .cl (kj a1.Deps) fun r9 =>
   .vM 0 r3_1 (
    .na r3_0 fun i10 =>
    .ix z8 r1.Entries i10 fun x11 =>
    .ag 0 <|
    .sl (z8 (GEntry.mk r7 r8 r9 false (w64 (r1.Serial + 1)))) r1.Entries i10 <|
    .ret ((GState.mk (w64 (r1.Serial + 1)) r1.Open [] 0 (r1.Entries.set i10 (GEntry.mk r7 r8 r9 false (w64 (r1.Serial + 1))))), true)) <|
   .cl (Yc r3_0 r1.Entries [(GEntry.mk r7 r8 r9 false (w64 (r1.Serial + 1)))]) fun r10 =>
   .ret ((GState.mk (w64 (r1.Serial + 1)) r1.Open [] 0 r10), true)) fun c6 =>
  .eI a1.Kind 3 (fun c7 =>
   .cl (QT r3_0 (w64 (r3_0 + 1)) r1.Entries) fun r8 =>
   .ret ((GState.mk (w64 (r1.Serial + 1)) r1.Open [] 0 r8), true)) fun c7 =>
  .eI a1.Kind 4 (fun c8 =>
   .q (.eFo a1.Kind 6 (by omega)) <|
   .cl (Xh false (w64 (r1.Serial + 1)) r1.Open r1.Act r1.Pending r1.Entries) fun r9 =>
   .q (.eT c8) <|
   .ret ((GState.mk r9.Serial true [] 0 r9.Entries), true)) fun c8 =>
  .eI a1.Kind 6 (fun c9 =>
   .q (.eT c9) <|
   .cl (Xh true (w64 (r1.Serial + 1)) r1.Open r1.Act r1.Pending r1.Entries) fun r10 =>
   .q (.eF c8) <|
   .ret ((GState.mk r10.Serial false [] 0 r10.Entries), true)) fun c9 =>
  .eI a1.Kind 5 (fun c10 =>
   .ret ((GState.mk (w64 (r1.Serial + 1)) false [] 0 r1.Entries), true)) fun c10 =>
  .ret ((GState.mk (w64 (r1.Serial + 1)) r1.Open [] 0 r1.Entries), true)) <|
 .ret (r1, false)) (zf Tryz.func80)
def Y3 (F : GHistory → Option ((List GState) × Bool)) : Prop := ∀ (a0 : GHistory), Oc (F a0) 91 [] [.val true (yj a0)] fun r => (.tup [(false, [cq Yy r.1]), (false, [.bool r.2])], [])
def yM (v0 : (List GEvent)) (v1 : Int) : Nat → Int → (List GState) → Option ((Bool × (List GState)) ⊕ (Int × (List GState)))
  | 0, _, _ => none
  | m + 1, v2, v3 =>
  if v2 < v1 then
   (zu v2).bind fun i2 =>
   (v0[i2]?).bind fun x3 =>
   (ZD x3).bind fun r4 =>
   match r4 with
   | true =>
    (v3[i2]?).bind fun x5 =>
    (wL x5 x3).bind fun ⟨r6_0, r6_1⟩ =>
    match r6_1 with
    | true =>
     if ym 72 (v3.length + [r6_0].length) then
     yM v0 v1 m (w64 (v2 + 1)) (v3 ++ [r6_0])
     else none
    | false =>
     some (.inl (false, []))
   | false =>
    some (.inl (false, []))
  else
  some (.inr (v2, v3))
theorem W7 (v0 : (List GEvent)) (v1 : Int) (m : Nat) : ∀ (v2 : Int) (v3 : (List GState)), Ol (yM v0 v1 m v2 v3) 91 (zI Tryz.f91 0) ⟨[(4, vr 0), (33, vq zy v0), (34, vi v1), (35, vi v2)], [.obj 5 (eL Yy v3)], 0⟩ fun o => match o with | .inl ⟨o_0_0, o_0_1⟩ => (.ret, ⟨[(2, vr 0), (3, vb o_0_0)], [.obj 5 (eL Yy o_0_1)], 0⟩) | .inr (⟨o_1_0, o_1_1⟩) => (.exit 0, ⟨[(4, vr 0), (33, vq zy v0), (34, vi v1), (35, vi o_1_0), (36, vb false)], [.obj 5 (eL Yy o_1_1)], 0⟩) := by
  induction m with
  | zero => intro v2 v3 o h; cases h
  | succ m ih => exact fun v2 v3 => tlp (
   .lI v2 v1 (fun c1 =>
    .na v2 fun i2 =>
    .ix qG v0 i2 fun x3 =>
    .cl (UT x3) fun r4 =>
    .vN 0 r4 (
     .ag 3 <|
     .ix Y5 v3 i2 fun x5 =>
     .ag 0 <|
     .cl (TG x5 x3) fun ⟨r6_0, r6_1⟩ =>
     .vN 0 r6_1 (
      .vw zN r6_0.Pending <|
      .vo ya r6_0.Entries <|
      .pl Yz [r6_0] <|
      .ap 72 Yz v3 [r6_0] fun n7 =>
      .go (ih (w64 (v2 + 1)) (v3 ++ [r6_0]))) <|
     .ret (.inl (false, []))) <|
    .ret (.inl (false, []))) fun c1 =>
   .ret (.inr (v2, v3)))
def qQ (n : Nat) (a0 : GHistory) : Option ((List GState) × Bool) :=
 (kH a0.Base).bind fun r1 =>
 match r1 with
 | true =>
  if 300 < (a0.Events.length : Int) then
   some ([], false)
  else
  (xa a0.Safe 0 (a0.Events.length : Int)).bind fun r3 =>
  match r3 with
  | true =>
   (yB a0.Base).bind fun r4 =>
   (yM a0.Events (a0.Events.length : Int) n 0 [r4]).bind fun o5 =>
   match o5 with
   | .inl ⟨o5_0_0, o5_0_1⟩ =>
    some (o5_0_1, o5_0_0)
   | .inr (⟨o5_1_0, o5_1_1⟩) =>
    some (o5_1_1, true)
  | false =>
   some ([], false)
 | false =>
  some ([], false)
theorem Jk (n : Nat) : Y3 (qQ n) := fun a0 => tc (
 .cl (US a0.Base) fun r1 =>
 .vN 0 r1 (
  .an 0 0 <|
  .an 0 0 <|
  .le zy a0.Events <|
  .an 0 0 <|
  .lI 300 (a0.Events.length : Int) (fun c2 =>
   .an 0 0 <|
   .vw Yz [] <|
   .ret ([], false)) fun c2 =>
  .an 0 0 <|
  .le zy a0.Events <|
  .cl (qz a0.Safe 0 (a0.Events.length : Int)) fun r3 =>
  .vN 2 r3 (
   .cl (ZP a0.Base) fun r4 =>
   .vw zN r4.Pending <|
   .vo ya r4.Entries <|
   .le zy a0.Events <|
   .l2 (W7 a0.Events (a0.Events.length : Int) n 0 [r4]) (fun ⟨o5_0_0, o5_0_1⟩ =>
    .vw Yz o5_0_1 <|
    .ret (o5_0_1, o5_0_0)) fun ⟨o5_1_0, o5_1_1⟩ =>
   .vw Yz o5_1_1 <|
   .ret (o5_1_1, true)) <|
  .vw Yz [] <|
  .ret ([], false)) <|
 .an 0 0 <|
 .an 0 0 <|
 .an 0 0 <|
 .an 0 0 <|
 .vw Yz [] <|
 .ret ([], false)) (zf Tryz.func91)
def w6 (a0 : GHistory) : Option ((List GState) × Bool) := qQ (a0.Events.length + 5) a0
theorem Qc (a0 : GHistory) (r : ((List GState) × Bool)) (h : w6 a0 = some r) : ∃ n, qQ n a0 = some r := ⟨_, h⟩
theorem QR : Y3 w6 := fun a0 r h => (Qc a0 r h).elim fun n hn => Jk n a0 r hn
def vh (a0 : GHistory) : Option Bool :=
 (w6 a0).bind fun ⟨r1_0, r1_1⟩ =>
 some r1_1
theorem RC (a0 : GHistory) : Oc (vh a0) 89 [] [.val true (yj a0)] fun r => (vb r, []) := tc (
 .cl (QR a0) fun ⟨r1_0, r1_1⟩ =>
 .ret r1_1) (zf Tryz.func89)
def vj (a0 : GEvent) : Option GEvent :=
 (zO a0.Addr).bind fun r1 =>
 (yU a0.Val).bind fun r2 =>
 (yx a0.Deps).bind fun r3 =>
 some (GEvent.mk a0.Kind r1 a0.Act r2 r3)
theorem RD (a0 : GEvent) : Oc (vj a0) 104 [] [.val true (qu a0)] fun r => (.val true (Kd r), []) := tc (
 .cl (xd a0.Addr) fun r1 =>
 .cl (ZO a0.Val) fun r2 =>
 .cl (kj a0.Deps) fun r3 =>
 .ret (GEvent.mk a0.Kind r1 a0.Act r2 r3)) (zf Tryz.func104)
def XM (F : GHistory → Option GHistory) : Prop := ∀ (a0 : GHistory), Oc (F a0) 100 [] [.val true (yj a0)] fun r => (.val true (Xd r), [])
def xl (v0 : (List GEvent)) (v1 : Int) (v3 : Int) (v4 : Bool) (v5 : Int) (v6 : Int) (v7 : Int) (v8 : Bool) (v9 : Int) (v10 : Int) (v11 : (List UInt8)) (v12 : (List GEntry)) (v13 : (List GEvent)) (v14 : (List UInt8)) (v15 : (List GEntry)) : Nat → Int → (List GEvent) → Option (Int × (List GEvent))
  | 0, _, _ => none
  | m + 1, v2, v16 =>
  if v2 < v1 then
   (zu v2).bind fun i2 =>
   (v0[i2]?).bind fun x3 =>
   (vj x3).bind fun r4 =>
   if ym 152 (v16.length + [r4].length) then
   xl v0 v1 v3 v4 v5 v6 v7 v8 v9 v10 v11 v12 v13 v14 v15 m (w64 (v2 + 1)) (v16 ++ [r4])
   else none
  else
  some (v2, v16)
theorem QS (v0 : (List GEvent)) (v1 : Int) (v3 : Int) (v4 : Bool) (v5 : Int) (v6 : Int) (v7 : Int) (v8 : Bool) (v9 : Int) (v10 : Int) (v11 : (List UInt8)) (v12 : (List GEntry)) (v13 : (List GEvent)) (v14 : (List UInt8)) (v15 : (List GEntry)) (m : Nat) : ∀ (v2 : Int) (v16 : (List GEvent)), Ol (xl v0 v1 v3 v4 v5 v6 v7 v8 v9 v10 v11 v12 v13 v14 v15 m v2 v16) 100 (zI Tryz.f100 0) ⟨[(2, vp 0 0), (3, vp 1 0), (13, vq zy v0), (14, vi v1), (15, vi v2)], [.var [ci v3, .bool v4, .ref 2, ci v5, .ref 3, .ref 4, ci v6], .var [ci v7, .bool v8, .ref 5, ci v9, .ref 6, .ref 7, ci v10], .obj 1 (eL za v11), .obj 9 (eL zr v12), .obj 9 (eL zU v13), .obj 1 (eL za v14), .obj 9 (eL zr v15), .obj 9 (eL zU v16)], 0⟩ fun o => match o with | ⟨o_0, o_1⟩ => (.exit 0, ⟨[(2, vp 0 0), (3, vp 1 0), (13, vq zy v0), (14, vi v1), (15, vi o_0), (16, vb false)], [.var [ci v3, .bool v4, .ref 2, ci v5, .ref 3, .ref 4, ci v6], .var [ci v7, .bool v8, .ref 5, ci v9, .ref 6, .ref 7, ci v10], .obj 1 (eL za v11), .obj 9 (eL zr v12), .obj 9 (eL zU v13), .obj 1 (eL za v14), .obj 9 (eL zr v15), .obj 9 (eL zU o_1)], 0⟩) := by
  induction m with
  | zero => intro v2 v16 o h; cases h
  | succ m ih => exact fun v2 v16 => tlp (
   .lI v2 v1 (fun c1 =>
    .na v2 fun i2 =>
    .ix qG v0 i2 fun x3 =>
    .cl (RD x3) fun r4 =>
    .ao 152 yt v16 [r4] fun n5 =>
    .go (ih (w64 (v2 + 1)) (v16 ++ [r4]))) fun c1 =>
   .ret (v2, v16))
def Zs (n : Nat) (a0 : GHistory) : Option GHistory :=
 (yB a0.Base).bind fun r1 =>
 (xl a0.Events (a0.Events.length : Int) 0 false 0 0 r1.Serial r1.Open r1.Act a0.Safe [] [] [] r1.Pending r1.Entries n 0 []).bind fun ⟨o2_0, o2_1⟩ =>
 some (GHistory.mk r1 o2_1 a0.Safe)
theorem VK (n : Nat) : XM (Zs n) := fun a0 => tc (
 .cl (ZP a0.Base) fun r1 =>
 .le zy a0.Events <|
 .lp (QS a0.Events (a0.Events.length : Int) 0 false 0 0 r1.Serial r1.Open r1.Act a0.Safe [] [] [] r1.Pending r1.Entries n 0 []) fun ⟨o2_0, o2_1⟩ =>
 .ret (GHistory.mk r1 o2_1 a0.Safe)) (zf Tryz.func100)
theorem Hy {e : GEvent} (h : xf e <= 2 ^ 38) : vj e = some e := by
 unfold xf at h
 unfold vj zO yU yx
 rw [if_pos (xF (by decide) (by omega)), Option.bind_some, if_pos (by omega), Option.bind_some, if_pos (by omega), Option.bind_some]
 cases e; rfl
theorem Hz {a : List GEvent} {v3 : Int} {v4 : Bool} {v5 v6 v7 : Int} {v8 : Bool} {v9 v10 : Int} {v11 : List UInt8} {v12 : List GEntry} {v13 : List GEvent} {v14 : List UInt8} {v15 : List GEntry} (ha : zX a <= 2 ^ 38) : ∀ (l p : List GEvent) (m : Nat), a = p ++ l → l.length < m → ∃ z, xl a (a.length : Int) v3 v4 v5 v6 v7 v8 v9 v10 v11 v12 v13 v14 v15 m (p.length : Int) p = some (z, a) := by
 have hl := jQ a
 intro l
 induction l with
 | nil =>
  intro p m he hm
  obtain ⟨m, rfl, _⟩ := zg hm
  exact ⟨_, by rw [xl, he, List.append_nil, if_neg (by omega)]⟩
 | cons x l ih =>
  intro p m he hm
  obtain ⟨m, rfl, hm'⟩ := zg hm
  have hx : 1 + xf x <= zX a := XQ (by rw [he]; simp)
  have hlen : a.length = p.length + (l.length + 1) := by rw [he]; simp
  obtain ⟨z, hz⟩ := ih (p ++ [x]) m (by rw [he]; simp) (by simp only [List.length_cons] at hm'; omega)
  refine ⟨z, ?_⟩
  rw [xl, if_pos (by omega), zb, Option.bind_some, show a[p.length]? = some x by rw [he]; exact zF p x l, Option.bind_some, Hy (by omega), Option.bind_some, if_pos (j8 (by simp only [List.length_cons, List.length_nil]; omega)), y4 p x (by omega), hz]
def qC (a0 : GHistory) : Option GHistory := if ssz a0.Base + zX a0.Events <= 2 ^ 38 then some a0 else none
theorem Jl (a0 : GHistory) (r : GHistory) (h : qC a0 = some r) : ∃ n, Zs n a0 = some r := by
 unfold qC at h
 obtain ⟨ha, h⟩ := zB h
 refine ⟨a0.Events.length + 1, ?_⟩
 unfold Zs yB
 obtain ⟨z, hz⟩ := Hz (a := a0.Events) (v3 := 0) (v4 := false) (v5 := 0) (v6 := 0) (v7 := a0.Base.Serial) (v8 := a0.Base.Open) (v9 := a0.Base.Act) (v10 := a0.Safe) (v11 := []) (v12 := []) (v13 := []) (v14 := a0.Base.Pending) (v15 := a0.Base.Entries) (by omega) a0.Events [] (a0.Events.length + 1) rfl (by omega)
 simp only [List.length_nil, Int.natCast_zero] at hz
 rw [if_pos (by omega), Option.bind_some, hz, <- h]
 cases a0; rfl
theorem KH : XM qC := fun a0 r h => (Jl a0 r h).elim fun n hn => VK n a0 r hn
def vk (a0 : GHistory) (a1 : Int) : Option GHistory :=
 (vh a0).bind fun r1 =>
 match r1 with
 | true =>
  (qC a0).bind fun r2 =>
  (zu (w64 (r2.Safe + (if (w64 ((a0.Events.length : Int) - a0.Safe)) < (if a1 < 0 then 0 else a1) then (w64 ((a0.Events.length : Int) - a0.Safe)) else (if a1 < 0 then 0 else a1))))).bind fun i3 =>
  (xI r2.Events none (some i3)).bind fun s4 =>
  some (GHistory.mk r2.Base s4 (w64 (r2.Safe + (if (w64 ((a0.Events.length : Int) - a0.Safe)) < (if a1 < 0 then 0 else a1) then (w64 ((a0.Events.length : Int) - a0.Safe)) else (if a1 < 0 then 0 else a1)))))
 | false =>
  some (GHistory.mk (GState.mk 0 false [] 0 []) [] 0)
theorem RE (a0 : GHistory) (a1 : Int) : Oc (vk a0 a1) 47 [] [.val true (yj a0), vi a1] fun r => (.val true (Xd r), []) := tc (
 .cl (RC a0) fun r1 =>
 .vN 0 r1 (
  .cl (KH a0) fun r2 =>
  .le zy a0.Events <|
  .na (w64 (r2.Safe + (if (w64 ((a0.Events.length : Int) - a0.Safe)) < (if a1 < 0 then 0 else a1) then (w64 ((a0.Events.length : Int) - a0.Safe)) else (if a1 < 0 then 0 else a1)))) fun i3 =>
  .ct zU r2.Events none (some i3) fun s4 =>
  .ret (GHistory.mk r2.Base s4 (w64 (r2.Safe + (if (w64 ((a0.Events.length : Int) - a0.Safe)) < (if a1 < 0 then 0 else a1) then (w64 ((a0.Events.length : Int) - a0.Safe)) else (if a1 < 0 then 0 else a1)))))) <|
 .ret (GHistory.mk (GState.mk 0 false [] 0 []) [] 0)) (zf Tryz.func47)
def Jm (F : (List UInt8) → (List UInt8) → Option Bool) : Prop := ∀ (a0 : (List UInt8)) (a1 : (List UInt8)), Oc (F a0 a1) 38 [] [vq za a0, vq za a1] fun r => (vb r, [])
def wQ (a0 : (List UInt8)) (a1 : (List UInt8)) : Nat → Int → Option (Bool ⊕ Int)
  | 0, _ => none
  | m + 1, v2 =>
  if v2 < (a0.length : Int) then
   (zu v2).bind fun i2 =>
   (a0[i2]?).bind fun x3 =>
   (a1[i2]?).bind fun x4 =>
   if ((x3.toNat : Nat) : Int) = ((x4.toNat : Nat) : Int) then
    wQ a0 a1 m (w64 (v2 + 1))
   else
   some (.inl false)
  else
  some (.inr v2)
theorem VL (a0 : (List UInt8)) (a1 : (List UInt8)) (m : Nat) : ∀ (v2 : Int), Ol (wQ a0 a1 m v2) 38 (zI Tryz.f38 0) ⟨[(0, vq za a0), (1, vq za a1), (5, vi v2)], [], 0⟩ fun o => match o with | .inl o_0 => (.ret, ⟨[(4, vb o_0)], [], 0⟩) | .inr (o_1) => (.exit 0, ⟨[(0, vq za a0), (1, vq za a1), (5, vi o_1), (14, vb false)], [], 0⟩) := by
  induction m with
  | zero => intro v2 o h; cases h
  | succ m ih => exact fun v2 => tlp (
   .le za a0 <|
   .lI v2 (a0.length : Int) (fun c1 =>
    .na v2 fun i2 =>
    .ix0 za a0 i2 fun x3 =>
    .ag 1 <|
    .ix0 za a1 i2 fun x4 =>
    .eI ((x3.toNat : Nat) : Int) ((x4.toNat : Nat) : Int) (fun c5 =>
     .go (ih (w64 (v2 + 1)))) fun c5 =>
    .ret (.inl false)) fun c1 =>
   .ret (.inr v2))
def Xw (n : Nat) (a0 : (List UInt8)) (a1 : (List UInt8)) : Option Bool :=
 if (a0.length : Int) = (a1.length : Int) then
  (wQ a0 a1 n 0).bind fun o2 =>
  match o2 with
  | .inl o2_0 =>
   some o2_0
  | .inr (o2_1) =>
   some true
 else
 some false
theorem Oq (n : Nat) : Jm (Xw n) := fun a0 a1 => tc (
 .le za a0 <|
 .le za a1 <|
 .eI (a0.length : Int) (a1.length : Int) (fun c1 =>
  .l2 (VL a0 a1 n 0) (fun o2_0 =>
   .ret o2_0) fun o2_1 =>
  .ret true) fun c1 =>
 .ret false) (zf Tryz.func38)
theorem Na {a : List UInt8} (ha : a.length <= 2 ^ 40) : ∀ (d i m : Nat), i + d = a.length → d < m → ∃ z, wQ a a m (i : Int) = some (.inr z) := by
 intro d
 induction d with
 | zero =>
  intro i m hi hm
  obtain ⟨m, rfl, _⟩ := zg hm
  exact ⟨_, by rw [wQ, if_neg (by omega)]⟩
 | succ d ih =>
  intro i m hi hm
  obtain ⟨m, rfl, hm'⟩ := zg hm
  have hil : i < a.length := by omega
  rw [wQ, if_pos (by omega), zb, Option.bind_some, zl hil, Option.bind_some, Option.bind_some, if_pos rfl, zG (by omega)]
  exact ih (i + 1) m (by omega) (by omega)
def yn (a0 : (List UInt8)) (a1 : (List UInt8)) : Option Bool := if a0 = a1 ∧ a0.length <= 2 ^ 40 then some true else none
theorem RF (a0 : (List UInt8)) (a1 : (List UInt8)) (r : Bool) (h : yn a0 a1 = some r) : ∃ n, Xw n a0 a1 = some r := by
 unfold yn at h
 obtain ⟨⟨he, ha⟩, h2⟩ := zB h
 clear h
 subst he
 refine ⟨a0.length + 1, ?_⟩
 obtain ⟨z, hz⟩ := Na ha a0.length 0 (a0.length + 1) (by omega) (by omega)
 rw [show ((0 : Nat) : Int) = 0 from rfl] at hz
 unfold Xw
 rw [if_pos rfl, hz]; exact h2
theorem qR : Jm yn := fun a0 a1 r h => (RF a0 a1 r h).elim fun n hn => Oq n a0 a1 r hn
def QE (F : (List (List UInt8)) → (List (List UInt8)) → Option Bool) : Prop := ∀ (a0 : (List (List UInt8))) (a1 : (List (List UInt8))), Oc (F a0 a1) 63 [] [vq (zt za) a0, vq (zt za) a1] fun r => (vb r, [])
def w7 (a0 : (List (List UInt8))) (a1 : (List (List UInt8))) : Nat → Int → Option (Bool ⊕ Int)
  | 0, _ => none
  | m + 1, v2 =>
  if v2 < (a0.length : Int) then
   (zu v2).bind fun i2 =>
   (a0[i2]?).bind fun x3 =>
   (a1[i2]?).bind fun x4 =>
   (yn x3 x4).bind fun r5 =>
   match r5 with
   | true =>
    w7 a0 a1 m (w64 (v2 + 1))
   | false =>
    some (.inl false)
  else
  some (.inr v2)
theorem KI (a0 : (List (List UInt8))) (a1 : (List (List UInt8))) (m : Nat) : ∀ (v2 : Int), Ol (w7 a0 a1 m v2) 63 (zI Tryz.f63 0) ⟨[(0, vq (zt za) a0), (1, vq (zt za) a1), (5, vi v2)], [], 0⟩ fun o => match o with | .inl o_0 => (.ret, ⟨[(4, vb o_0)], [], 0⟩) | .inr (o_1) => (.exit 0, ⟨[(0, vq (zt za) a0), (1, vq (zt za) a1), (5, vi o_1), (14, vb false)], [], 0⟩) := by
  induction m with
  | zero => intro v2 o h; cases h
  | succ m ih => exact fun v2 => tlp (
   .le (zt za) a0 <|
   .lI v2 (a0.length : Int) (fun c1 =>
    .na v2 fun i2 =>
    .ix0 (zt za) a0 i2 fun x3 =>
    .ag 1 <|
    .ix0 (zt za) a1 i2 fun x4 =>
    .cl (qR x3 x4) fun r5 =>
    .vN 0 r5 (
     .go (ih (w64 (v2 + 1)))) <|
    .ret (.inl false)) fun c1 =>
   .ret (.inr v2))
def YX (n : Nat) (a0 : (List (List UInt8))) (a1 : (List (List UInt8))) : Option Bool :=
 if (a0.length : Int) = (a1.length : Int) then
  (w7 a0 a1 n 0).bind fun o2 =>
  match o2 with
  | .inl o2_0 =>
   some o2_0
  | .inr (o2_1) =>
   some true
 else
 some false
theorem UU (n : Nat) : QE (YX n) := fun a0 a1 => tc (
 .le (zt za) a0 <|
 .le (zt za) a1 <|
 .eI (a0.length : Int) (a1.length : Int) (fun c1 =>
  .l2 (KI a0 a1 n 0) (fun o2_0 =>
   .ret o2_0) fun o2_1 =>
  .ret true) fun c1 =>
 .ret false) (zf Tryz.func63)
theorem L6 {a : List (List UInt8)} (ha : bsz a <= 2 ^ 40) : ∀ (d i m : Nat), i + d = a.length → d < m → ∃ z, w7 a a m (i : Int) = some (.inr z) := by
 have hl := qv a
 intro d
 induction d with
 | zero =>
  intro i m hi hm
  obtain ⟨m, rfl, _⟩ := zg hm
  exact ⟨_, by rw [w7, if_neg (by omega)]⟩
 | succ d ih =>
  intro i m hi hm
  obtain ⟨m, rfl, hm'⟩ := zg hm
  have hil : i < a.length := by omega
  have hx := ZI (List.getElem_mem hil)
  rw [w7, if_pos (by omega), zb, Option.bind_some, zl hil, Option.bind_some, Option.bind_some]
  unfold yn
  rw [if_pos ⟨rfl, by omega⟩, Option.bind_some, zG (by omega)]
  exact ih (i + 1) m (by omega) (by omega)
def xi (a0 : (List (List UInt8))) (a1 : (List (List UInt8))) : Option Bool := if a0 = a1 ∧ bsz a0 <= 2 ^ 40 then some true else none
theorem VM (a0 : (List (List UInt8))) (a1 : (List (List UInt8))) (r : Bool) (h : xi a0 a1 = some r) : ∃ n, YX n a0 a1 = some r := by
 unfold xi at h
 obtain ⟨⟨he, ha⟩, h2⟩ := zB h
 clear h
 subst he
 have hl := qv a0
 refine ⟨a0.length + 1, ?_⟩
 obtain ⟨z, hz⟩ := L6 ha a0.length 0 (a0.length + 1) (by omega) (by omega)
 rw [show ((0 : Nat) : Int) = 0 from rfl] at hz
 unfold YX
 rw [if_pos rfl, hz]; exact h2
theorem Yu : QE xi := fun a0 a1 r h => (VM a0 a1 r h).elim fun n hn => UU n a0 a1 r hn
def Za (F : (List GValue) → (List GValue) → Option Bool) : Prop := ∀ (a0 : (List GValue)) (a1 : (List GValue)), Oc (F a0 a1) 144 [] [vq zh a0, vq zh a1] fun r => (vb r, [])
def kI (F : GValue → GValue → Option Bool) : Prop := ∀ (a0 : GValue) (a1 : GValue), Oc (F a0 a1) 82 [] [.val true (zC a0), .val true (zC a1)] fun r => (vb r, [])
def w8 (G_laws_eqValue : GValue → GValue → Option Bool) (a0 : (List GValue)) (a1 : (List GValue)) : Nat → Int → Option (Bool ⊕ Int)
  | 0, _ => none
  | m + 1, v2 =>
  if v2 < (a0.length : Int) then
   (zu v2).bind fun i2 =>
   (a0[i2]?).bind fun x3 =>
   (a1[i2]?).bind fun x4 =>
   (G_laws_eqValue x3 x4).bind fun r5 =>
   match r5 with
   | true =>
    w8 G_laws_eqValue a0 a1 m (w64 (v2 + 1))
   | false =>
    some (.inl false)
  else
  some (.inr v2)
theorem KJ (G_laws_eqValue : GValue → GValue → Option Bool) (H_laws_eqValue : kI G_laws_eqValue) (a0 : (List GValue)) (a1 : (List GValue)) (m : Nat) : ∀ (v2 : Int), Ol (w8 G_laws_eqValue a0 a1 m v2) 144 (zI Tryz.f144 0) ⟨[(0, vq zh a0), (1, vq zh a1), (5, vi v2)], [], 0⟩ fun o => match o with | .inl o_0 => (.ret, ⟨[(4, vb o_0)], [], 0⟩) | .inr (o_1) => (.exit 0, ⟨[(0, vq zh a0), (1, vq zh a1), (5, vi o_1), (14, vb false)], [], 0⟩) := by
  induction m with
  | zero => intro v2 o h; cases h
  | succ m ih => exact fun v2 => tlp (
   .le zh a0 <|
   .lI v2 (a0.length : Int) (fun c1 =>
    .na v2 fun i2 =>
    .ix yu a0 i2 fun x3 =>
    .ag 1 <|
    .ix yu a1 i2 fun x4 =>
    .cl (H_laws_eqValue x3 x4) fun r5 =>
    .vN 0 r5 (
     .go (ih (w64 (v2 + 1)))) <|
    .ret (.inl false)) fun c1 =>
   .ret (.inr v2))
def Zb (G_laws_eqValue : GValue → GValue → Option Bool) (n : Nat) (a0 : (List GValue)) (a1 : (List GValue)) : Option Bool :=
 if (a0.length : Int) = (a1.length : Int) then
  (w8 G_laws_eqValue a0 a1 n 0).bind fun o2 =>
  match o2 with
  | .inl o2_0 =>
   some o2_0
  | .inr (o2_1) =>
   some true
 else
 some false
theorem UV (G_laws_eqValue : GValue → GValue → Option Bool) (H_laws_eqValue : kI G_laws_eqValue) (n : Nat) : Za (Zb G_laws_eqValue n) := fun a0 a1 => tc (
 .le zh a0 <|
 .le zh a1 <|
 .eI (a0.length : Int) (a1.length : Int) (fun c1 =>
  .l2 (KJ G_laws_eqValue H_laws_eqValue a0 a1 n 0) (fun o2_0 =>
   .ret o2_0) fun o2_1 =>
  .ret true) fun c1 =>
 .ret false) (zf Tryz.func144)
def Xx (G_laws_eqValueS : (List GValue) → (List GValue) → Option Bool) (a0 : GValue) (a1 : GValue) : Option Bool :=
 if a0.Kind = a1.Kind then
  if a0.N = a1.N then
   (yn a0.S a1.S).bind fun r3 =>
   match r3 with
   | true =>
    (xi a0.K a1.K).bind fun r4 =>
    match r4 with
    | true =>
     (G_laws_eqValueS a0.L a1.L).bind fun r5 =>
     match r5 with
     | true =>
      some true
     | false =>
      some false
    | false =>
     some false
   | false =>
    some false
  else
  some false
 else
 some false
theorem Ot (G_laws_eqValueS : (List GValue) → (List GValue) → Option Bool) (H_laws_eqValueS : Za G_laws_eqValueS) : kI (Xx G_laws_eqValueS) := fun a0 a1 => tc (
 .eI a0.Kind a1.Kind (fun c1 =>
  .eI a0.N a1.N (fun c2 =>
   .cl (qR a0.S a1.S) fun r3 =>
   .vN 0 r3 (
    .cl (Yu a0.K a1.K) fun r4 =>
    .vN 0 r4 (
     .cl (H_laws_eqValueS a0.L a1.L) fun r5 =>
     .vN 0 r5 (
      .ret true) <|
     .ret false) <|
    .ret false) <|
   .ret false) fun c2 =>
  .ret false) fun c1 =>
 .ret false) (zf Tryz.func82)
mutual
def xW : Nat → (List GValue) → (List GValue) → Option Bool
 | 0, _, _ => none
 | n + 1, a0, a1 => Zb (w9 n) n a0 a1
def w9 : Nat → GValue → GValue → Option Bool
 | 0, _, _ => none
 | n + 1, a0, a1 => Xx (xW n) a0 a1
end
theorem Wn (n : Nat) : Za (xW n) ∧ kI (w9 n) := by
 induction n with
 | zero => exact ⟨fun _ _ _ h => (by rw [xW] at h; cases h), fun _ _ _ h => (by rw [w9] at h; cases h)⟩
 | succ n ih =>
  obtain ⟨ih_laws_eqValueS, ih_laws_eqValue⟩ := ih
  exact ⟨fun a0 a1 r h => UV (w9 n) ih_laws_eqValue n a0 a1 r (by rw [xW] at h; exact h),
   fun a0 a1 r h => Ot (xW n) ih_laws_eqValueS a0 a1 r (by rw [w9] at h; exact h)⟩
theorem UW {G : GValue → GValue → Option Bool} {a : List GValue} {f : Nat} (ha : a.length <= 2 ^ 40) (hf : a.length < f) (hG : ∀ v ∈ a, G v v = some true) : Zb G f a a = some true := by
 have loop : ∀ (d i m : Nat), i + d = a.length → d < m → ∃ z, w8 G a a m (i : Int) = some (.inr z) := by
  intro d
  induction d with
  | zero =>
   intro i m hi hm
   obtain ⟨m, rfl, _⟩ := zg hm
   exact ⟨_, by rw [w8, if_neg (by omega)]⟩
  | succ d ih =>
   intro i m hi hm
   obtain ⟨m, rfl, hm'⟩ := zg hm
   have hil : i < a.length := by omega
   rw [w8, if_pos (by omega), zb, Option.bind_some, zl hil, Option.bind_some, Option.bind_some, hG _ (List.getElem_mem hil), Option.bind_some, zG (by omega)]
   exact ih (i + 1) m (by omega) (by omega)
 obtain ⟨z, hz⟩ := loop a.length 0 f (by omega) (by omega)
 rw [show ((0 : Nat) : Int) = 0 from rfl] at hz
 unfold Zb
 rw [if_pos rfl, hz]; rfl
theorem OS : ∀ (N : Nat) (v : GValue), vsz v < N → vsz v <= 2 ^ 40 → ∀ f : Nat, 2 * vsz v + 3 <= f → w9 f v v = some true := by
 intro N
 induction N with
 | zero => intro v hv; omega
 | succ N ih =>
  intro v hv hs f hf
  obtain ⟨f, rfl, _⟩ := zg (show 0 < f by omega)
  obtain ⟨f, rfl, _⟩ := zg (show 0 < f by omega)
  have he := xH v
  have hl := yN v.L
  rw [w9]
  unfold Xx yn xi
  rw [if_pos rfl, if_pos rfl, if_pos (show v.S = v.S ∧ v.S.length <= 2 ^ 40 from ⟨rfl, by omega⟩), Option.bind_some]
  dsimp only
  rw [if_pos (show v.K = v.K ∧ bsz v.K <= 2 ^ 40 from ⟨rfl, by omega⟩), Option.bind_some]
  dsimp only
  rw [xW, UW (by omega) (by omega) fun x hx => ?_]
  ·rfl
  ·have := wl hx
   exact ih x (by omega) (by omega) f (by omega)
open Classical in
noncomputable def YY (a0 : (List GValue)) (a1 : (List GValue)) : Option Bool := if a0 = a1 ∧ y6 a0 <= 2 ^ 40 then some true else none
theorem VN (a0 : (List GValue)) (a1 : (List GValue)) (r : Bool) (h : YY a0 a1 = some r) : ∃ n, xW n a0 a1 = some r := by
 unfold YY at h
 obtain ⟨⟨he, ha⟩, h2⟩ := zB h
 clear h
 subst he
 have hl := yN a0
 refine ⟨2 * y6 a0 + 5, ?_⟩
 rw [xW, UW (by omega) (by omega) fun x hx => ?_, h2]
 have := wl hx
 exact OS _ x (Nat.lt_succ_self _) (by omega) _ (by omega)
open Classical in
noncomputable def qr (a0 : GValue) (a1 : GValue) : Option Bool := if a0 = a1 ∧ vsz a0 <= 2 ^ 40 then some true else none
theorem RG (a0 : GValue) (a1 : GValue) (r : Bool) (h : qr a0 a1 = some r) : ∃ n, w9 n a0 a1 = some r := by
 unfold qr at h
 obtain ⟨⟨he, ha⟩, h2⟩ := zB h
 clear h
 subst he
 exact ⟨2 * vsz a0 + 3, by rw [<- h2]; exact OS _ a0 (Nat.lt_succ_self _) ha _ (Nat.le_refl _)⟩
theorem Bp : Za YY := by
 intro a0 a1 r h
 obtain ⟨n, hn⟩ := VN a0 a1 r h
 exact (Wn n).1 a0 a1 r hn
theorem QF : kI qr := by
 intro a0 a1 r h
 obtain ⟨n, hn⟩ := RG a0 a1 r h
 exact (Wn n).2 a0 a1 r hn
def kJ (a0 : GEntry) (a1 : GEntry) : Option Bool :=
 (yn a0.Addr a1.Addr).bind fun r1 =>
 match r1 with
 | true =>
  (qr a0.Val a1.Val).bind fun r2 =>
  match r2 with
  | true =>
   (xi a0.Deps a1.Deps).bind fun r3 =>
   match r3 with
   | true =>
    if a0.Taint = true then
     if a1.Taint = true then
      if a0.Turned = a1.Turned then
       some true
      else
      some false
     else
     some false
    else
    if a1.Taint = true then
     some false
    else
    if a0.Turned = a1.Turned then
     some true
    else
    some false
   | false =>
    some false
  | false =>
   some false
 | false =>
  some false
theorem UX (a0 : GEntry) (a1 : GEntry) : Oc (kJ a0 a1) 143 [] [.val true (jt a0), .val true (jt a1)] fun r => (vb r, []) := tc (
 .cl (qR a0.Addr a1.Addr) fun r1 =>
 .vN 0 r1 (
  .cl (QF a0.Val a1.Val) fun r2 =>
  .vN 0 r2 (
   .cl (Yu a0.Deps a1.Deps) fun r3 =>
   .vN 0 r3 (
    .sp (a0.Taint = true) (fun c4 =>
     .sp (a1.Taint = true) (fun c5 =>
      .eb c4 c5 <|
      .eI a0.Turned a1.Turned (fun c6 =>
       .ret true) fun c6 =>
      .ret false) fun c5 =>
     .eb c4 (bF c5) <|
     .ret false) fun c4 =>
    .sp (a1.Taint = true) (fun c5 =>
     .eb (bF c4) c5 <|
     .ret false) fun c5 =>
    .eb (bF c4) (bF c5) <|
    .eI a0.Turned a1.Turned (fun c6 =>
     .ret true) fun c6 =>
    .ret false) <|
   .ret false) <|
  .ret false) <|
 .ret false) (zf Tryz.func143)
def QG (F : (List GEntry) → (List GEntry) → Option Bool) : Prop := ∀ (a0 : (List GEntry)) (a1 : (List GEntry)), Oc (F a0 a1) 81 [] [vq zj a0, vq zj a1] fun r => (vb r, [])
def wA (a0 : (List GEntry)) (a1 : (List GEntry)) : Nat → Int → Option (Bool ⊕ Int)
  | 0, _ => none
  | m + 1, v2 =>
  if v2 < (a0.length : Int) then
   (zu v2).bind fun i2 =>
   (a0[i2]?).bind fun x3 =>
   (a1[i2]?).bind fun x4 =>
   (kJ x3 x4).bind fun r5 =>
   match r5 with
   | true =>
    wA a0 a1 m (w64 (v2 + 1))
   | false =>
    some (.inl false)
  else
  some (.inr v2)
theorem KK (a0 : (List GEntry)) (a1 : (List GEntry)) (m : Nat) : ∀ (v2 : Int), Ol (wA a0 a1 m v2) 81 (zI Tryz.f81 0) ⟨[(0, vq zj a0), (1, vq zj a1), (5, vi v2)], [], 0⟩ fun o => match o with | .inl o_0 => (.ret, ⟨[(4, vb o_0)], [], 0⟩) | .inr (o_1) => (.exit 0, ⟨[(0, vq zj a0), (1, vq zj a1), (5, vi o_1), (14, vb false)], [], 0⟩) := by
  induction m with
  | zero => intro v2 o h; cases h
  | succ m ih => exact fun v2 => tlp (
   .le zj a0 <|
   .lI v2 (a0.length : Int) (fun c1 =>
    .na v2 fun i2 =>
    .ix zT a0 i2 fun x3 =>
    .ag 1 <|
    .ix zT a1 i2 fun x4 =>
    .cl (UX x3 x4) fun r5 =>
    .vN 0 r5 (
     .go (ih (w64 (v2 + 1)))) <|
    .ret (.inl false)) fun c1 =>
   .ret (.inr v2))
def YZ (n : Nat) (a0 : (List GEntry)) (a1 : (List GEntry)) : Option Bool :=
 if (a0.length : Int) = (a1.length : Int) then
  (wA a0 a1 n 0).bind fun o2 =>
  match o2 with
  | .inl o2_0 =>
   some o2_0
  | .inr (o2_1) =>
   some true
 else
 some false
theorem UY (n : Nat) : QG (YZ n) := fun a0 a1 => tc (
 .le zj a0 <|
 .le zj a1 <|
 .eI (a0.length : Int) (a1.length : Int) (fun c1 =>
  .l2 (KK a0 a1 n 0) (fun o2_0 =>
   .ret o2_0) fun o2_1 =>
  .ret true) fun c1 =>
 .ret false) (zf Tryz.func81)
theorem L7 {a : List GEntry} (ha : a.length <= 2 ^ 40) (hG : ∀ v ∈ a, kJ v v = some true) : ∀ (d i m : Nat), i + d = a.length → d < m → ∃ z, wA a a m (i : Int) = some (.inr z) := by
 intro d
 induction d with
 | zero =>
  intro i m hi hm
  obtain ⟨m, rfl, _⟩ := zg hm
  exact ⟨_, by rw [wA, if_neg (by omega)]⟩
 | succ d ih =>
  intro i m hi hm
  obtain ⟨m, rfl, hm'⟩ := zg hm
  have hil : i < a.length := by omega
  rw [wA, if_pos (by omega), zb, Option.bind_some, zl hil, Option.bind_some, Option.bind_some, hG _ (List.getElem_mem hil), Option.bind_some, zG (by omega)]
  exact ih (i + 1) m (by omega) (by omega)
theorem H0 {v : GEntry} (h : esz v <= 2 ^ 39) : kJ v v = some true := by
 unfold esz at h
 unfold kJ yn qr xi
 rw [if_pos ⟨rfl, by omega⟩, Option.bind_some]
 dsimp only
 rw [if_pos ⟨rfl, by omega⟩, Option.bind_some]
 dsimp only
 rw [if_pos ⟨rfl, by omega⟩, Option.bind_some]
 dsimp only
 rw [if_pos rfl]
 cases v.Taint <;> rfl
open Classical in
noncomputable def qS (a0 : (List GEntry)) (a1 : (List GEntry)) : Option Bool := if a0 = a1 ∧ yb a0 <= 2 ^ 39 then some true else none
theorem RV {s : List GEntry} (h : yb s <= 2 ^ 39) : qS s s = some true := if_pos ⟨rfl, h⟩
theorem VO (a0 : (List GEntry)) (a1 : (List GEntry)) (r : Bool) (h : qS a0 a1 = some r) : ∃ n, YZ n a0 a1 = some r := by
 unfold qS at h
 obtain ⟨⟨he, ha⟩, h2⟩ := zB h
 clear h
 subst he
 have hl := qw a0
 refine ⟨a0.length + 1, ?_⟩
 obtain ⟨z, hz⟩ := L7 (a := a0) (by omega) (fun v hv => H0 (by have := X4 hv; omega)) a0.length 0 (a0.length + 1) (by omega) (by omega)
 rw [show ((0 : Nat) : Int) = 0 from rfl] at hz
 unfold YZ
 rw [if_pos rfl, hz]; exact h2
theorem Qd : QG qS := fun a0 a1 r h => (VO a0 a1 r h).elim fun n hn => UY n a0 a1 r hn
def ZE (a0 : GState) (a1 : GState) : Option Bool :=
 if a0.Serial = a1.Serial then
  if a0.Open = true then
   if a1.Open = true then
    (yn a0.Pending a1.Pending).bind fun r4 =>
    match r4 with
    | true =>
     if a0.Act = a1.Act then
      (qS a0.Entries a1.Entries).bind fun r6 =>
      match r6 with
      | true =>
       some true
      | false =>
       some false
     else
     some false
    | false =>
     some false
   else
   some false
  else
  if a1.Open = true then
   some false
  else
  (yn a0.Pending a1.Pending).bind fun r4 =>
  match r4 with
  | true =>
   if a0.Act = a1.Act then
    (qS a0.Entries a1.Entries).bind fun r6 =>
    match r6 with
    | true =>
     some true
    | false =>
     some false
   else
   some false
  | false =>
   some false
 else
 some false
theorem UZ (a0 : GState) (a1 : GState) : Oc (ZE a0 a1) 21 [] [.val true (zW a0), .val true (zW a1)] fun r => (vb r, []) := tc (
 .eI a0.Serial a1.Serial (fun c1 =>
  .sp (a0.Open = true) (fun c2 =>
   .sp (a1.Open = true) (fun c3 =>
    .eb c2 c3 <|
    .cl (qR a0.Pending a1.Pending) fun r4 =>
    .vN 0 r4 (
     .eI a0.Act a1.Act (fun c5 =>
      .cl (Qd a0.Entries a1.Entries) fun r6 =>
      .vN 0 r6 (
       .ret true) <|
      .ret false) fun c5 =>
     .ret false) <|
    .ret false) fun c3 =>
   .eb c2 (bF c3) <|
   .ret false) fun c2 =>
  .sp (a1.Open = true) (fun c3 =>
   .eb (bF c2) c3 <|
   .ret false) fun c3 =>
  .eb (bF c2) (bF c3) <|
  .cl (qR a0.Pending a1.Pending) fun r4 =>
  .vN 0 r4 (
   .eI a0.Act a1.Act (fun c5 =>
    .cl (Qd a0.Entries a1.Entries) fun r6 =>
    .vN 0 r6 (
     .ret true) <|
    .ret false) fun c5 =>
   .ret false) <|
  .ret false) fun c1 =>
 .ret false) (zf Tryz.func21)
def kK (a0 : GEvent) (a1 : GEvent) : Option Bool :=
 if a0.Kind = a1.Kind then
  (yn a0.Addr a1.Addr).bind fun r2 =>
  match r2 with
  | true =>
   if a0.Act = a1.Act then
    (qr a0.Val a1.Val).bind fun r4 =>
    match r4 with
    | true =>
     (xi a0.Deps a1.Deps).bind fun r5 =>
     match r5 with
     | true =>
      some true
     | false =>
      some false
    | false =>
     some false
   else
   some false
  | false =>
   some false
 else
 some false
theorem Pa (a0 : GEvent) (a1 : GEvent) : Oc (kK a0 a1) 22 [] [.val true (qu a0), .val true (qu a1)] fun r => (vb r, []) := tc (
 .eI a0.Kind a1.Kind (fun c1 =>
  .cl (qR a0.Addr a1.Addr) fun r2 =>
  .vN 0 r2 (
   .eI a0.Act a1.Act (fun c3 =>
    .cl (QF a0.Val a1.Val) fun r4 =>
    .vN 0 r4 (
     .cl (Yu a0.Deps a1.Deps) fun r5 =>
     .vN 0 r5 (
      .ret true) <|
     .ret false) <|
    .ret false) fun c3 =>
   .ret false) <|
  .ret false) fun c1 =>
 .ret false) (zf Tryz.func22)
def QH (F : (List GEvent) → (List GEvent) → Option Bool) : Prop := ∀ (a0 : (List GEvent)) (a1 : (List GEvent)), Oc (F a0 a1) 90 [] [vq zy a0, vq zy a1] fun r => (vb r, [])
def wB (a0 : (List GEvent)) (a1 : (List GEvent)) : Nat → Int → Option (Bool ⊕ Int)
  | 0, _ => none
  | m + 1, v2 =>
  if v2 < (a0.length : Int) then
   (zu v2).bind fun i2 =>
   (a0[i2]?).bind fun x3 =>
   (a1[i2]?).bind fun x4 =>
   (kK x3 x4).bind fun r5 =>
   match r5 with
   | true =>
    wB a0 a1 m (w64 (v2 + 1))
   | false =>
    some (.inl false)
  else
  some (.inr v2)
theorem KM (a0 : (List GEvent)) (a1 : (List GEvent)) (m : Nat) : ∀ (v2 : Int), Ol (wB a0 a1 m v2) 90 (zI Tryz.f90 0) ⟨[(0, vq zy a0), (1, vq zy a1), (5, vi v2)], [], 0⟩ fun o => match o with | .inl o_0 => (.ret, ⟨[(4, vb o_0)], [], 0⟩) | .inr (o_1) => (.exit 0, ⟨[(0, vq zy a0), (1, vq zy a1), (5, vi o_1), (14, vb false)], [], 0⟩) := by
  induction m with
  | zero => intro v2 o h; cases h
  | succ m ih => exact fun v2 => tlp (
   .le zy a0 <|
   .lI v2 (a0.length : Int) (fun c1 =>
    .na v2 fun i2 =>
    .ix qG a0 i2 fun x3 =>
    .ag 1 <|
    .ix qG a1 i2 fun x4 =>
    .cl (Pa x3 x4) fun r5 =>
    .vN 0 r5 (
     .go (ih (w64 (v2 + 1)))) <|
    .ret (.inl false)) fun c1 =>
   .ret (.inr v2))
def Xa (n : Nat) (a0 : (List GEvent)) (a1 : (List GEvent)) : Option Bool :=
 if (a0.length : Int) = (a1.length : Int) then
  (wB a0 a1 n 0).bind fun o2 =>
  match o2 with
  | .inl o2_0 =>
   some o2_0
  | .inr (o2_1) =>
   some true
 else
 some false
theorem Pb (n : Nat) : QH (Xa n) := fun a0 a1 => tc (
 .le zy a0 <|
 .le zy a1 <|
 .eI (a0.length : Int) (a1.length : Int) (fun c1 =>
  .l2 (KM a0 a1 n 0) (fun o2_0 =>
   .ret o2_0) fun o2_1 =>
  .ret true) fun c1 =>
 .ret false) (zf Tryz.func90)
theorem L8 {a : List GEvent} (ha : a.length <= 2 ^ 40) (hG : ∀ v ∈ a, kK v v = some true) : ∀ (d i m : Nat), i + d = a.length → d < m → ∃ z, wB a a m (i : Int) = some (.inr z) := by
 intro d
 induction d with
 | zero =>
  intro i m hi hm
  obtain ⟨m, rfl, _⟩ := zg hm
  exact ⟨_, by rw [wB, if_neg (by omega)]⟩
 | succ d ih =>
  intro i m hi hm
  obtain ⟨m, rfl, hm'⟩ := zg hm
  have hil : i < a.length := by omega
  rw [wB, if_pos (by omega), zb, Option.bind_some, zl hil, Option.bind_some, Option.bind_some, hG _ (List.getElem_mem hil), Option.bind_some, zG (by omega)]
  exact ih (i + 1) m (by omega) (by omega)
theorem H1 {v : GEvent} (h : xf v <= 2 ^ 39) : kK v v = some true := by
 unfold xf at h
 unfold kK yn qr xi
 rw [if_pos rfl, if_pos ⟨rfl, by omega⟩, Option.bind_some]
 dsimp only
 rw [if_pos rfl, if_pos ⟨rfl, by omega⟩, Option.bind_some]
 dsimp only
 rw [if_pos ⟨rfl, by omega⟩, Option.bind_some]
open Classical in
noncomputable def jM (a0 : (List GEvent)) (a1 : (List GEvent)) : Option Bool := if a0 = a1 ∧ zX a0 <= 2 ^ 39 then some true else none
theorem NS {s : List GEvent} (h : zX s <= 2 ^ 39) : jM s s = some true := if_pos ⟨rfl, h⟩
theorem VP (a0 : (List GEvent)) (a1 : (List GEvent)) (r : Bool) (h : jM a0 a1 = some r) : ∃ n, Xa n a0 a1 = some r := by
 unfold jM at h
 obtain ⟨⟨he, ha⟩, h2⟩ := zB h
 clear h
 subst he
 have hl := jQ a0
 refine ⟨a0.length + 1, ?_⟩
 obtain ⟨z, hz⟩ := L8 (a := a0) (by omega) (fun v hv => H1 (by have := XQ hv; omega)) a0.length 0 (a0.length + 1) (by omega) (by omega)
 rw [show ((0 : Nat) : Int) = 0 from rfl] at hz
 unfold Xa
 rw [if_pos rfl, hz]; exact h2
theorem TH : QH jM := fun a0 a1 r h => (VP a0 a1 r h).elim fun n hn => Pb n a0 a1 r hn
def jr (a0 : GHistory) (a1 : GHistory) : Option Bool :=
 (ZE a0.Base a1.Base).bind fun r1 =>
 match r1 with
 | true =>
  (jM a0.Events a1.Events).bind fun r2 =>
  match r2 with
  | true =>
   if a0.Safe = a1.Safe then
    some true
   else
   some false
  | false =>
   some false
 | false =>
  some false
theorem Wo (a0 : GHistory) (a1 : GHistory) : Oc (jr a0 a1) 30 [] [.val true (yj a0), .val true (yj a1)] fun r => (vb r, []) := tc (
 .cl (UZ a0.Base a1.Base) fun r1 =>
 .vN 0 r1 (
  .cl (TH a0.Events a1.Events) fun r2 =>
  .vN 0 r2 (
   .eI a0.Safe a1.Safe (fun c3 =>
    .ret true) fun c3 =>
   .ret false) <|
  .ret false) <|
 .ret false) (zf Tryz.func30)
def Qe (F : Int → (List UInt8) → Option (Int × (List UInt8))) : Prop := ∀ (a0 : Int) (e0 : (List UInt8)), Oc (F a0 e0) 39 [.obj 1 (eL za e0)] [vr 0, vi a0] fun r => (vi r.1, [.obj 1 (eL za r.2)])
def wa : Nat → Int → Int → (List UInt8) → Option (Int × Int × (List UInt8))
  | 0, _, _, _ => none
  | m + 1, a0, v1, e0 =>
  if v1 < (e0.length : Int) then
   (zu v1).bind fun i2 =>
   (e0[i2]?).bind fun x3 =>
   wa m (w64 (a0 + 1)) (w64 (v1 + 1)) (e0.set i2 (b8 a0))
  else
  some (a0, v1, e0)
theorem JQ (m : Nat) : ∀ (a0 : Int) (v1 : Int) (e0 : (List UInt8)), Ol (wa m a0 v1 e0) 39 (zI Tryz.f39 0) ⟨[(0, vr 0), (1, vi a0), (5, vi v1)], [.obj 1 (eL za e0)], 1⟩ fun o => match o with | ⟨o_0, o_1, o_2⟩ => (.exit 0, ⟨[(0, vr 0), (1, vi o_0), (5, vi o_1), (9, vb false)], [.obj 1 (eL za o_2)], 1⟩) := by
  induction m with
  | zero => intro a0 v1 e0 o h; cases h
  | succ m ih => exact fun a0 v1 e0 => tlp (
   .le za e0 <|
   .lI v1 (e0.length : Int) (fun c1 =>
    .na v1 fun i2 =>
    .ix0 za e0 i2 fun x3 =>
    .ag 0 <|
    .sl (e := za) (x := (b8 a0)) (c := [.int .u8 (((b8 a0).toNat : Nat) : Int)]) rfl e0 i2 <|
    .go (ih (w64 (a0 + 1)) (w64 (v1 + 1)) (e0.set i2 (b8 a0)))) fun c1 =>
   .ret (a0, v1, e0))
def Yv (n : Nat) (a0 : Int) (e0 : (List UInt8)) : Option (Int × (List UInt8)) :=
 (wa n a0 0 e0).bind fun ⟨o1_0, o1_1, o1_2⟩ =>
 some (o1_0, o1_2)
theorem TJ (n : Nat) : Qe (Yv n) := fun a0 e0 => tc (
 .lp (JQ n a0 0 e0) fun ⟨o1_0, o1_1, o1_2⟩ =>
 .ret (o1_0, o1_2)) (zf Tryz.func39)
theorem Ou : ∀ (l p : List UInt8) (k : Int) (m : Nat), 0 <= k → k + 2 * l.length <= 2 ^ 41 → p.length + l.length <= 2 ^ 41 → l.length < m → ∃ z, wa m k (p.length : Int) (p ++ l) = some (k + l.length, z, p ++ mB k l) := by
 intro l
 induction l with
 | nil =>
  intro p k m _ _ _ hm
  obtain ⟨m, rfl, _⟩ := zg hm
  exact ⟨_, by rw [wa, if_neg (wc p)]; simp [mB]; rfl⟩
 | cons x l ih =>
  intro p k m h0 h1 h2 hm
  obtain ⟨m, rfl, hm'⟩ := zg hm
  simp only [List.length_cons] at h1 h2 hm'
  obtain ⟨z, hz⟩ := ih (p ++ [b8 k]) (k + 1) m (by omega) (by omega) (by simp; omega) (by omega)
  rw [wa, if_pos (vE p x l), zb, Option.bind_some, zF, Option.bind_some, wC, y4 p (b8 k) (by omega), zV (x := k + 1) (by omega) (by omega), Qj p (b8 k) l, hz]
  refine ⟨z, ?_⟩
  rw [mB, Qj p (b8 k) (mB (k + 1) l)]
  simp only [List.length_cons]
  rw [show k + 1 + (l.length : Int) = k + ((l.length + 1 : Nat) : Int) by omega]
def yy (a0 : Int) (e0 : (List UInt8)) : Option (Int × (List UInt8)) := if 0 <= a0 ∧ a0 + 2 * e0.length <= 2 ^ 41 then some (a0 + e0.length, mB a0 e0) else none
theorem qD {a : Int} {s : List UInt8} (h0 : 0 <= a) (h1 : a + 2 * s.length <= 2 ^ 41) : yy a s = some (a + s.length, mB a s) := if_pos ⟨h0, h1⟩
theorem KN (a0 : Int) (e0 : (List UInt8)) (r : (Int × (List UInt8))) (h : yy a0 e0 = some r) : ∃ n, Yv n a0 e0 = some r := by
 unfold yy at h
 obtain ⟨⟨h0, h1⟩, h⟩ := zB h
 obtain ⟨z, hz⟩ := Ou e0 [] a0 (e0.length + 1) h0 h1 (by simp; omega) (by omega)
 refine ⟨e0.length + 1, ?_⟩
 unfold Yv
 simp only [List.nil_append, List.length_nil, Int.natCast_zero] at hz
 rw [hz]
 exact h
theorem xN : Qe yy := fun a0 e0 r h => (KN a0 e0 r h).elim fun n hn => TJ n a0 e0 r hn
def Wp (F : Int → (List (List UInt8)) → Option (Int × (List (List UInt8)))) : Prop := ∀ (a0 : Int) (e0 : (List (List UInt8))), Oc (F a0 e0) 64 [.obj 1 (eL (y8 1 za) e0)] [vr 0, vi a0] fun r => (vi r.1, [.obj 1 (eL (y8 1 za) r.2)])
def xy : Nat → Int → Int → (List (List UInt8)) → Option (Int × Int × (List (List UInt8)))
  | 0, _, _, _ => none
  | m + 1, a0, v1, e0 =>
  if v1 < (e0.length : Int) then
   (zu v1).bind fun i2 =>
   (e0[i2]?).bind fun x3 =>
   (yy a0 x3).bind fun ⟨r4_0, r4_1⟩ =>
   xy m r4_0 (w64 (v1 + 1)) (e0.set i2 r4_1)
  else
  some (a0, v1, e0)
theorem Jn (m : Nat) : ∀ (a0 : Int) (v1 : Int) (e0 : (List (List UInt8))), Ol (xy m a0 v1 e0) 64 (zI Tryz.f64 0) ⟨[(0, vr 0), (1, vi a0), (5, vi v1)], [.obj 1 (eL (y8 1 za) e0)], 1⟩ fun o => match o with | ⟨o_0, o_1, o_2⟩ => (.exit 0, ⟨[(0, vr 0), (1, vi o_0), (5, vi o_1), (9, vb false)], [.obj 1 (eL (y8 1 za) o_2)], 1⟩) := by
  induction m with
  | zero => intro a0 v1 e0 o h; cases h
  | succ m ih => exact fun a0 v1 e0 => tlp (
   .le (y8 1 za) e0 <|
   .lI v1 (e0.length : Int) (fun c1 =>
    .na v1 fun i2 =>
    .ix0 (y8 1 za) e0 i2 fun x3 =>
    .ag 0 <|
    .cl (xN a0 x3) fun ⟨r4_0, r4_1⟩ =>
    .ag 1 <|
    .sl (e := (y8 1 za)) (x := r4_1) (c := [.own 1 (eL za r4_1)]) rfl e0 i2 <|
    .go (ih r4_0 (w64 (v1 + 1)) (e0.set i2 r4_1))) fun c1 =>
   .ret (a0, v1, e0))
def ZQ (n : Nat) (a0 : Int) (e0 : (List (List UInt8))) : Option (Int × (List (List UInt8))) :=
 (xy n a0 0 e0).bind fun ⟨o1_0, o1_1, o1_2⟩ =>
 some (o1_0, o1_2)
theorem RH (n : Nat) : Wp (ZQ n) := fun a0 e0 => tc (
 .lp (Jn n a0 0 e0) fun ⟨o1_0, o1_1, o1_2⟩ =>
 .ret (o1_0, o1_2)) (zf Tryz.func64)
theorem Pc : ∀ (l p : List (List UInt8)) (k : Int) (m : Nat), 0 <= k → k + 2 * bsz l <= 2 ^ 41 → p.length + l.length <= 2 ^ 41 → l.length < m → ∃ z, xy m k (p.length : Int) (p ++ l) = some (k + cB l, z, p ++ mBB k l) := by
 intro l
 induction l with
 | nil =>
  intro p k m _ _ _ hm
  obtain ⟨m, rfl, _⟩ := zg hm
  exact ⟨_, by rw [xy, if_neg (wc p)]; simp [mBB, cB]; rfl⟩
 | cons x l ih =>
  intro p k m h0 h1 h2 hm
  obtain ⟨m, rfl, hm'⟩ := zg hm
  rw [Nt] at h1
  simp only [List.length_cons] at h2 hm'
  obtain ⟨z, hz⟩ := ih (p ++ [mB k x]) (k + x.length) m (by omega) (by omega) (by simp; omega) (by omega)
  rw [xy, if_pos (vE p x l), zb, Option.bind_some, zF, Option.bind_some, qD (by omega) (by omega), Option.bind_some]
  dsimp only
  rw [wC, y4 p (mB k x) (by omega), Qj p (mB k x) l, hz]
  refine ⟨z, ?_⟩
  rw [mBB, Qj p (mB k x) (mBB (k + x.length) l), Gy]
  rw [show k + (x.length : Int) + (cB l : Int) = k + ((x.length + cB l : Nat) : Int) by omega]
def yG (a0 : Int) (e0 : (List (List UInt8))) : Option (Int × (List (List UInt8))) := if 0 <= a0 ∧ a0 + 2 * bsz e0 <= 2 ^ 41 then some (a0 + cB e0, mBB a0 e0) else none
theorem vC {a : Int} {s : List (List UInt8)} (h0 : 0 <= a) (h1 : a + 2 * bsz s <= 2 ^ 41) : yG a s = some (a + cB s, mBB a s) := if_pos ⟨h0, h1⟩
theorem JR (a0 : Int) (e0 : (List (List UInt8))) (r : (Int × (List (List UInt8)))) (h : yG a0 e0 = some r) : ∃ n, ZQ n a0 e0 = some r := by
 unfold yG at h
 obtain ⟨⟨h0, h1⟩, h⟩ := zB h
 have := qv e0
 obtain ⟨z, hz⟩ := Pc e0 [] a0 (e0.length + 1) h0 h1 (by simp; omega) (by omega)
 refine ⟨e0.length + 1, ?_⟩
 unfold ZQ
 simp only [List.nil_append, List.length_nil, Int.natCast_zero] at hz
 rw [hz]
 exact h
theorem qE : Wp yG := fun a0 e0 r h => (JR a0 e0 r h).elim fun n hn => RH n a0 e0 r hn
def qV (F : Int → (List GValue) → Option (Int × (List GValue))) : Prop := ∀ (a0 : Int) (e0 : (List GValue)), Oc (F a0 e0) 145 [.obj 5 (eL zv e0)] [vr 0, vi a0] fun r => (vi r.1, [.obj 5 (eL zv r.2)])
def xz (G_laws_markValueS : Int → (List GValue) → Option (Int × (List GValue))) : Nat → Int → Int → (List GValue) → Option (Int × Int × (List GValue))
  | 0, _, _, _ => none
  | m + 1, a0, v1, e0 =>
  if v1 < (e0.length : Int) then
   (zu v1).bind fun i2 =>
   (e0[i2]?).bind fun x3 =>
   ((e0.set i2 (GValue.mk a0 x3.N x3.S x3.K x3.L))[i2]?).bind fun x4 =>
   (((e0.set i2 (GValue.mk a0 x3.N x3.S x3.K x3.L)).set i2 (GValue.mk x4.Kind (w64 (a0 + 1)) x4.S x4.K x4.L))[i2]?).bind fun x5 =>
   (yy (w64 ((w64 (a0 + 1)) + 1)) x5.S).bind fun ⟨r6_0, r6_1⟩ =>
   ((((e0.set i2 (GValue.mk a0 x3.N x3.S x3.K x3.L)).set i2 (GValue.mk x4.Kind (w64 (a0 + 1)) x4.S x4.K x4.L)).set i2 (GValue.mk x5.Kind x5.N r6_1 x5.K x5.L))[i2]?).bind fun x7 =>
   (yG r6_0 x7.K).bind fun ⟨r8_0, r8_1⟩ =>
   (((((e0.set i2 (GValue.mk a0 x3.N x3.S x3.K x3.L)).set i2 (GValue.mk x4.Kind (w64 (a0 + 1)) x4.S x4.K x4.L)).set i2 (GValue.mk x5.Kind x5.N r6_1 x5.K x5.L)).set i2 (GValue.mk x7.Kind x7.N x7.S r8_1 x7.L))[i2]?).bind fun x9 =>
   (G_laws_markValueS r8_0 x9.L).bind fun ⟨r10_0, r10_1⟩ =>
   xz G_laws_markValueS m r10_0 (w64 (v1 + 1)) (((((e0.set i2 (GValue.mk a0 x3.N x3.S x3.K x3.L)).set i2 (GValue.mk x4.Kind (w64 (a0 + 1)) x4.S x4.K x4.L)).set i2 (GValue.mk x5.Kind x5.N r6_1 x5.K x5.L)).set i2 (GValue.mk x7.Kind x7.N x7.S r8_1 x7.L)).set i2 (GValue.mk x9.Kind x9.N x9.S x9.K r10_1))
  else
  some (a0, v1, e0)
theorem Jo (G_laws_markValueS : Int → (List GValue) → Option (Int × (List GValue))) (H_laws_markValueS : qV G_laws_markValueS) (m : Nat) : ∀ (a0 : Int) (v1 : Int) (e0 : (List GValue)), Ol (xz G_laws_markValueS m a0 v1 e0) 145 (zI Tryz.f145 0) ⟨[(0, vr 0), (1, vi a0), (5, vi v1)], [.obj 5 (eL zv e0)], 1⟩ fun o => match o with | ⟨o_0, o_1, o_2⟩ => (.exit 0, ⟨[(0, vr 0), (1, vi o_0), (5, vi o_1), (9, vb false)], [.obj 5 (eL zv o_2)], 1⟩) := by
  induction m with
  | zero => intro a0 v1 e0 o h; cases h
  | succ m ih => exact fun a0 v1 e0 => tlp (
   .le zv e0 <|
   .lI v1 (e0.length : Int) (fun c1 =>
    .na v1 fun i2 =>
    .ix yo e0 i2 fun x3 =>
    .ag 0 <|
    .sl (yo (GValue.mk a0 x3.N x3.S x3.K x3.L)) e0 i2 <|
    .ag 1 <|
    .ix yo (e0.set i2 (GValue.mk a0 x3.N x3.S x3.K x3.L)) i2 fun x4 =>
    .ag 0 <|
    .sl (yo (GValue.mk x4.Kind (w64 (a0 + 1)) x4.S x4.K x4.L)) (e0.set i2 (GValue.mk a0 x3.N x3.S x3.K x3.L)) i2 <|
    .ag 2 <|
    .ix yo ((e0.set i2 (GValue.mk a0 x3.N x3.S x3.K x3.L)).set i2 (GValue.mk x4.Kind (w64 (a0 + 1)) x4.S x4.K x4.L)) i2 fun x5 =>
    .ag 0 <|
    .cl (xN (w64 ((w64 (a0 + 1)) + 1)) x5.S) fun ⟨r6_0, r6_1⟩ =>
    .ag 1 <|
    .sl (yo (GValue.mk x5.Kind x5.N r6_1 x5.K x5.L)) ((e0.set i2 (GValue.mk a0 x3.N x3.S x3.K x3.L)).set i2 (GValue.mk x4.Kind (w64 (a0 + 1)) x4.S x4.K x4.L)) i2 <|
    .ag 4 <|
    .ix yo (((e0.set i2 (GValue.mk a0 x3.N x3.S x3.K x3.L)).set i2 (GValue.mk x4.Kind (w64 (a0 + 1)) x4.S x4.K x4.L)).set i2 (GValue.mk x5.Kind x5.N r6_1 x5.K x5.L)) i2 fun x7 =>
    .ag 0 <|
    .cl (qE r6_0 x7.K) fun ⟨r8_0, r8_1⟩ =>
    .ag 1 <|
    .sl (yo (GValue.mk x7.Kind x7.N x7.S r8_1 x7.L)) (((e0.set i2 (GValue.mk a0 x3.N x3.S x3.K x3.L)).set i2 (GValue.mk x4.Kind (w64 (a0 + 1)) x4.S x4.K x4.L)).set i2 (GValue.mk x5.Kind x5.N r6_1 x5.K x5.L)) i2 <|
    .ag 6 <|
    .ix yo ((((e0.set i2 (GValue.mk a0 x3.N x3.S x3.K x3.L)).set i2 (GValue.mk x4.Kind (w64 (a0 + 1)) x4.S x4.K x4.L)).set i2 (GValue.mk x5.Kind x5.N r6_1 x5.K x5.L)).set i2 (GValue.mk x7.Kind x7.N x7.S r8_1 x7.L)) i2 fun x9 =>
    .ag 0 <|
    .cl (H_laws_markValueS r8_0 x9.L) fun ⟨r10_0, r10_1⟩ =>
    .ag 1 <|
    .sl (yo (GValue.mk x9.Kind x9.N x9.S x9.K r10_1)) ((((e0.set i2 (GValue.mk a0 x3.N x3.S x3.K x3.L)).set i2 (GValue.mk x4.Kind (w64 (a0 + 1)) x4.S x4.K x4.L)).set i2 (GValue.mk x5.Kind x5.N r6_1 x5.K x5.L)).set i2 (GValue.mk x7.Kind x7.N x7.S r8_1 x7.L)) i2 <|
    .go (ih r10_0 (w64 (v1 + 1)) (((((e0.set i2 (GValue.mk a0 x3.N x3.S x3.K x3.L)).set i2 (GValue.mk x4.Kind (w64 (a0 + 1)) x4.S x4.K x4.L)).set i2 (GValue.mk x5.Kind x5.N r6_1 x5.K x5.L)).set i2 (GValue.mk x7.Kind x7.N x7.S r8_1 x7.L)).set i2 (GValue.mk x9.Kind x9.N x9.S x9.K r10_1)))) fun c1 =>
   .ret (a0, v1, e0))
def ZR (G_laws_markValueS : Int → (List GValue) → Option (Int × (List GValue))) (n : Nat) (a0 : Int) (e0 : (List GValue)) : Option (Int × (List GValue)) :=
 (xz G_laws_markValueS n a0 0 e0).bind fun ⟨o1_0, o1_1, o1_2⟩ =>
 some (o1_0, o1_2)
theorem RI (G_laws_markValueS : Int → (List GValue) → Option (Int × (List GValue))) (H_laws_markValueS : qV G_laws_markValueS) (n : Nat) : qV (ZR G_laws_markValueS n) := fun a0 e0 => tc (
 .lp (Jo G_laws_markValueS H_laws_markValueS n a0 0 e0) fun ⟨o1_0, o1_1, o1_2⟩ =>
 .ret (o1_0, o1_2)) (zf Tryz.func145)
def yH : Nat → Int → (List GValue) → Option (Int × (List GValue))
 | 0, _, _ => none
 | n + 1, a0, e0 => ZR (yH n) n a0 e0
theorem KO (n : Nat) : qV (yH n) := by
 induction n with
 | zero => exact fun _ _ _ h => (by rw [yH] at h; cases h)
 | succ n ih =>
  have ih_laws_markValueS := ih
  exact fun a0 e0 r h => RI (yH n) ih_laws_markValueS n a0 e0 r (by rw [yH] at h; exact h)
theorem Pd {G : Int → List GValue → Option (Int × List GValue)} : ∀ (l p : List GValue) (k : Int) (m : Nat), (∀ v ∈ l, ∀ i : Int, 0 <= i → i + 2 * y6 v.L <= 2 ^ 41 → G i v.L = some (i + cVs v.L, mVs i v.L)) → 0 <= k → k + 2 * y6 l <= 2 ^ 41 → p.length + l.length <= 2 ^ 41 → l.length < m → ∃ z, xz G m k (p.length : Int) (p ++ l) = some (k + cVs l, z, p ++ mVs k l) := by
 intro l
 induction l with
 | nil =>
  intro p k m _ _ _ _ hm
  obtain ⟨m, rfl, _⟩ := zg hm
  exact ⟨_, by rw [xz, if_neg (wc p)]; simp [mVs, cVs]; rfl⟩
 | cons x l ih =>
  intro p k m hG h0 h1 h2 hm
  obtain ⟨m, rfl, hm'⟩ := zg hm
  simp only [List.length_cons] at h2 hm'
  have hx := hG x List.mem_cons_self
  have hc := W9 x
  obtain ⟨kd, n, s, kk, ks⟩ := x
  have hb := ju kk
  have hd := XP ks
  simp only [y6, vsz] at h1
  simp only [cV, vsz] at hc
  simp only [GValue.L] at hx
  obtain ⟨z, hz⟩ := ih (p ++ [mV k (.mk kd n s kk ks)]) (k + cV (.mk kd n s kk ks)) m (fun v hv => hG v (List.mem_cons_of_mem _ hv)) (by omega) (by simp only [cV]; omega) (by simp; omega) (by omega)
  rw [xz, if_pos (vE p _ l), zb, Option.bind_some, zF, Option.bind_some]
  simp only [wC, zF, Option.bind_some, GValue.Kind, GValue.N, GValue.S, GValue.K, GValue.L]
  rw [zV (x := k + 1) (by omega) (by omega), zV (x := k + 1 + 1) (by omega) (by omega), qD (by omega) (by omega)]
  simp only [Option.bind_some, wC, zF, GValue.Kind, GValue.N, GValue.S, GValue.K, GValue.L]
  rw [vC (by omega) (by omega)]
  simp only [Option.bind_some, wC, zF, GValue.Kind, GValue.N, GValue.S, GValue.K, GValue.L]
  rw [hx _ (by omega) (by omega)]
  simp only [Option.bind_some, wC, zF, GValue.Kind, GValue.N, GValue.S, GValue.K, GValue.L]
  refine ⟨z, ?_⟩
  rw [y4 p (mV k (.mk kd n s kk ks)) (by omega), show GValue.mk k (k + 1) (mB (k + 1 + 1) s) (mBB (k + 1 + 1 + s.length) kk) (mVs (k + 1 + 1 + s.length + cB kk) ks) = mV k (.mk kd n s kk ks) by simp only [mV], Qj p _ l,
   show k + 1 + 1 + (s.length : Int) + (cB kk : Int) + (cVs ks : Int) = k + ((cV (.mk kd n s kk ks) : Nat) : Int) by simp only [cV]; omega, hz]
  simp only [mVs, cVs, List.append_assoc, List.singleton_append]
  rw [show k + ((cV (.mk kd n s kk ks) : Nat) : Int) + (cVs l : Int) = k + ((cV (.mk kd n s kk ks) + cVs l : Nat) : Int) by omega]
theorem Nb : ∀ (N : Nat) (l : List GValue), y6 l < N → ∀ (k : Int) (f : Nat), 0 <= k → k + 2 * y6 l <= 2 ^ 41 → y6 l + 2 <= f → yH f k l = some (k + cVs l, mVs k l) := by
 intro N
 induction N with
 | zero => intro l hl; omega
 | succ N ih =>
  intro l hl k f h0 h1 hf
  obtain ⟨f, rfl, _⟩ := zg (show 0 < f by omega)
  have hlen := yN l
  rw [yH]
  unfold ZR
  obtain ⟨z, hz⟩ := Pd (G := yH f) l [] k f (fun v hv i g0 g1 => by
   have := wl hv
   have := xH v
   exact ih v.L (by omega) i f g0 g1 (by omega)) h0 h1 (by simp; omega) (by omega)
  simp only [List.nil_append, List.length_nil, Int.natCast_zero] at hz
  rw [hz]; rfl
def wR (a0 : Int) (e0 : (List GValue)) : Option (Int × (List GValue)) := if 0 <= a0 ∧ a0 + 2 * y6 e0 <= 2 ^ 41 then some (a0 + cVs e0, mVs a0 e0) else none
theorem Kx {a : Int} {s : List GValue} (h0 : 0 <= a) (h1 : a + 2 * y6 s <= 2 ^ 41) : wR a s = some (a + cVs s, mVs a s) := if_pos ⟨h0, h1⟩
theorem JS (a0 : Int) (e0 : (List GValue)) (r : (Int × (List GValue))) (h : wR a0 e0 = some r) : ∃ n, yH n a0 e0 = some r := by
 unfold wR at h
 obtain ⟨⟨h0, h1⟩, h⟩ := zB h
 exact ⟨y6 e0 + 2, by rw [Nb _ e0 (Nat.lt_succ_self _) a0 _ h0 h1 (Nat.le_refl _), h]⟩
theorem XN : qV wR := by
 intro a0 e0 r h
 obtain ⟨n, hn⟩ := JS a0 e0 r h
 exact (KO n) a0 e0 r hn
def Wq (F : Int → (List GEntry) → Option (Int × (List GEntry))) : Prop := ∀ (a0 : Int) (e0 : (List GEntry)), Oc (F a0 e0) 83 [.obj 9 (eL zr e0)] [vr 0, vi a0] fun r => (vi r.1, [.obj 9 (eL zr r.2)])
def xA : Nat → Int → Int → (List GEntry) → Option (Int × Int × (List GEntry))
  | 0, _, _, _ => none
  | m + 1, a0, v1, e0 =>
  if v1 < (e0.length : Int) then
   (zu v1).bind fun i2 =>
   (e0[i2]?).bind fun x3 =>
   (yy a0 x3.Addr).bind fun ⟨r4_0, r4_1⟩ =>
   ((e0.set i2 (GEntry.mk r4_1 x3.Val x3.Deps x3.Taint x3.Turned))[i2]?).bind fun x5 =>
   (((e0.set i2 (GEntry.mk r4_1 x3.Val x3.Deps x3.Taint x3.Turned)).set i2 (GEntry.mk x5.Addr (GValue.mk r4_0 x5.Val.N x5.Val.S x5.Val.K x5.Val.L) x5.Deps x5.Taint x5.Turned))[i2]?).bind fun x6 =>
   ((((e0.set i2 (GEntry.mk r4_1 x3.Val x3.Deps x3.Taint x3.Turned)).set i2 (GEntry.mk x5.Addr (GValue.mk r4_0 x5.Val.N x5.Val.S x5.Val.K x5.Val.L) x5.Deps x5.Taint x5.Turned)).set i2 (GEntry.mk x6.Addr (GValue.mk x6.Val.Kind (w64 (r4_0 + 1)) x6.Val.S x6.Val.K x6.Val.L) x6.Deps x6.Taint x6.Turned))[i2]?).bind fun x7 =>
   (yy (w64 ((w64 (r4_0 + 1)) + 1)) x7.Val.S).bind fun ⟨r8_0, r8_1⟩ =>
   (((((e0.set i2 (GEntry.mk r4_1 x3.Val x3.Deps x3.Taint x3.Turned)).set i2 (GEntry.mk x5.Addr (GValue.mk r4_0 x5.Val.N x5.Val.S x5.Val.K x5.Val.L) x5.Deps x5.Taint x5.Turned)).set i2 (GEntry.mk x6.Addr (GValue.mk x6.Val.Kind (w64 (r4_0 + 1)) x6.Val.S x6.Val.K x6.Val.L) x6.Deps x6.Taint x6.Turned)).set i2 (GEntry.mk x7.Addr (GValue.mk x7.Val.Kind x7.Val.N r8_1 x7.Val.K x7.Val.L) x7.Deps x7.Taint x7.Turned))[i2]?).bind fun x9 =>
   (yG r8_0 x9.Val.K).bind fun ⟨r10_0, r10_1⟩ =>
   ((((((e0.set i2 (GEntry.mk r4_1 x3.Val x3.Deps x3.Taint x3.Turned)).set i2 (GEntry.mk x5.Addr (GValue.mk r4_0 x5.Val.N x5.Val.S x5.Val.K x5.Val.L) x5.Deps x5.Taint x5.Turned)).set i2 (GEntry.mk x6.Addr (GValue.mk x6.Val.Kind (w64 (r4_0 + 1)) x6.Val.S x6.Val.K x6.Val.L) x6.Deps x6.Taint x6.Turned)).set i2 (GEntry.mk x7.Addr (GValue.mk x7.Val.Kind x7.Val.N r8_1 x7.Val.K x7.Val.L) x7.Deps x7.Taint x7.Turned)).set i2 (GEntry.mk x9.Addr (GValue.mk x9.Val.Kind x9.Val.N x9.Val.S r10_1 x9.Val.L) x9.Deps x9.Taint x9.Turned))[i2]?).bind fun x11 =>
   (wR r10_0 x11.Val.L).bind fun ⟨r12_0, r12_1⟩ =>
   (((((((e0.set i2 (GEntry.mk r4_1 x3.Val x3.Deps x3.Taint x3.Turned)).set i2 (GEntry.mk x5.Addr (GValue.mk r4_0 x5.Val.N x5.Val.S x5.Val.K x5.Val.L) x5.Deps x5.Taint x5.Turned)).set i2 (GEntry.mk x6.Addr (GValue.mk x6.Val.Kind (w64 (r4_0 + 1)) x6.Val.S x6.Val.K x6.Val.L) x6.Deps x6.Taint x6.Turned)).set i2 (GEntry.mk x7.Addr (GValue.mk x7.Val.Kind x7.Val.N r8_1 x7.Val.K x7.Val.L) x7.Deps x7.Taint x7.Turned)).set i2 (GEntry.mk x9.Addr (GValue.mk x9.Val.Kind x9.Val.N x9.Val.S r10_1 x9.Val.L) x9.Deps x9.Taint x9.Turned)).set i2 (GEntry.mk x11.Addr (GValue.mk x11.Val.Kind x11.Val.N x11.Val.S x11.Val.K r12_1) x11.Deps x11.Taint x11.Turned))[i2]?).bind fun x13 =>
   (yG r12_0 x13.Deps).bind fun ⟨r14_0, r14_1⟩ =>
   ((((((((e0.set i2 (GEntry.mk r4_1 x3.Val x3.Deps x3.Taint x3.Turned)).set i2 (GEntry.mk x5.Addr (GValue.mk r4_0 x5.Val.N x5.Val.S x5.Val.K x5.Val.L) x5.Deps x5.Taint x5.Turned)).set i2 (GEntry.mk x6.Addr (GValue.mk x6.Val.Kind (w64 (r4_0 + 1)) x6.Val.S x6.Val.K x6.Val.L) x6.Deps x6.Taint x6.Turned)).set i2 (GEntry.mk x7.Addr (GValue.mk x7.Val.Kind x7.Val.N r8_1 x7.Val.K x7.Val.L) x7.Deps x7.Taint x7.Turned)).set i2 (GEntry.mk x9.Addr (GValue.mk x9.Val.Kind x9.Val.N x9.Val.S r10_1 x9.Val.L) x9.Deps x9.Taint x9.Turned)).set i2 (GEntry.mk x11.Addr (GValue.mk x11.Val.Kind x11.Val.N x11.Val.S x11.Val.K r12_1) x11.Deps x11.Taint x11.Turned)).set i2 (GEntry.mk x13.Addr x13.Val r14_1 x13.Taint x13.Turned))[i2]?).bind fun x15 =>
   (((((((((e0.set i2 (GEntry.mk r4_1 x3.Val x3.Deps x3.Taint x3.Turned)).set i2 (GEntry.mk x5.Addr (GValue.mk r4_0 x5.Val.N x5.Val.S x5.Val.K x5.Val.L) x5.Deps x5.Taint x5.Turned)).set i2 (GEntry.mk x6.Addr (GValue.mk x6.Val.Kind (w64 (r4_0 + 1)) x6.Val.S x6.Val.K x6.Val.L) x6.Deps x6.Taint x6.Turned)).set i2 (GEntry.mk x7.Addr (GValue.mk x7.Val.Kind x7.Val.N r8_1 x7.Val.K x7.Val.L) x7.Deps x7.Taint x7.Turned)).set i2 (GEntry.mk x9.Addr (GValue.mk x9.Val.Kind x9.Val.N x9.Val.S r10_1 x9.Val.L) x9.Deps x9.Taint x9.Turned)).set i2 (GEntry.mk x11.Addr (GValue.mk x11.Val.Kind x11.Val.N x11.Val.S x11.Val.K r12_1) x11.Deps x11.Taint x11.Turned)).set i2 (GEntry.mk x13.Addr x13.Val r14_1 x13.Taint x13.Turned)).set i2 (GEntry.mk x15.Addr x15.Val x15.Deps (decide ((r14_0.tmod 3) = 0)) x15.Turned))[i2]?).bind fun x16 =>
   xA m (w64 ((w64 (r14_0 + 1)) + 1)) (w64 (v1 + 1)) (((((((((e0.set i2 (GEntry.mk r4_1 x3.Val x3.Deps x3.Taint x3.Turned)).set i2 (GEntry.mk x5.Addr (GValue.mk r4_0 x5.Val.N x5.Val.S x5.Val.K x5.Val.L) x5.Deps x5.Taint x5.Turned)).set i2 (GEntry.mk x6.Addr (GValue.mk x6.Val.Kind (w64 (r4_0 + 1)) x6.Val.S x6.Val.K x6.Val.L) x6.Deps x6.Taint x6.Turned)).set i2 (GEntry.mk x7.Addr (GValue.mk x7.Val.Kind x7.Val.N r8_1 x7.Val.K x7.Val.L) x7.Deps x7.Taint x7.Turned)).set i2 (GEntry.mk x9.Addr (GValue.mk x9.Val.Kind x9.Val.N x9.Val.S r10_1 x9.Val.L) x9.Deps x9.Taint x9.Turned)).set i2 (GEntry.mk x11.Addr (GValue.mk x11.Val.Kind x11.Val.N x11.Val.S x11.Val.K r12_1) x11.Deps x11.Taint x11.Turned)).set i2 (GEntry.mk x13.Addr x13.Val r14_1 x13.Taint x13.Turned)).set i2 (GEntry.mk x15.Addr x15.Val x15.Deps (decide ((r14_0.tmod 3) = 0)) x15.Turned)).set i2 (GEntry.mk x16.Addr x16.Val x16.Deps x16.Taint (w64 (r14_0 + 1))))
  else
  some (a0, v1, e0)
theorem Jp (m : Nat) : ∀ (a0 : Int) (v1 : Int) (e0 : (List GEntry)), Ol (xA m a0 v1 e0) 83 (zI Tryz.f83 0) ⟨[(0, vr 0), (1, vi a0), (5, vi v1)], [.obj 9 (eL zr e0)], 1⟩ fun o => match o with | ⟨o_0, o_1, o_2⟩ => (.exit 0, ⟨[(0, vr 0), (1, vi o_0), (5, vi o_1), (9, vb false)], [.obj 9 (eL zr o_2)], 1⟩) := by
  induction m with
  | zero => intro a0 v1 e0 o h; cases h
  | succ m ih => exact fun a0 v1 e0 => tlp (
   .le zr e0 <|
   .lI v1 (e0.length : Int) (fun c1 =>
    .na v1 fun i2 =>
    .ix z8 e0 i2 fun x3 =>
    .ag 0 <|
    .cl (xN a0 x3.Addr) fun ⟨r4_0, r4_1⟩ =>
    .ag 1 <|
    .sl (z8 (GEntry.mk r4_1 x3.Val x3.Deps x3.Taint x3.Turned)) e0 i2 <|
    .ag 2 <|
    .ix z8 (e0.set i2 (GEntry.mk r4_1 x3.Val x3.Deps x3.Taint x3.Turned)) i2 fun x5 =>
    .ag 0 <|
    .sl (z8 (GEntry.mk x5.Addr (GValue.mk r4_0 x5.Val.N x5.Val.S x5.Val.K x5.Val.L) x5.Deps x5.Taint x5.Turned)) (e0.set i2 (GEntry.mk r4_1 x3.Val x3.Deps x3.Taint x3.Turned)) i2 <|
    .ag 3 <|
    .ix z8 ((e0.set i2 (GEntry.mk r4_1 x3.Val x3.Deps x3.Taint x3.Turned)).set i2 (GEntry.mk x5.Addr (GValue.mk r4_0 x5.Val.N x5.Val.S x5.Val.K x5.Val.L) x5.Deps x5.Taint x5.Turned)) i2 fun x6 =>
    .ag 0 <|
    .sl (z8 (GEntry.mk x6.Addr (GValue.mk x6.Val.Kind (w64 (r4_0 + 1)) x6.Val.S x6.Val.K x6.Val.L) x6.Deps x6.Taint x6.Turned)) ((e0.set i2 (GEntry.mk r4_1 x3.Val x3.Deps x3.Taint x3.Turned)).set i2 (GEntry.mk x5.Addr (GValue.mk r4_0 x5.Val.N x5.Val.S x5.Val.K x5.Val.L) x5.Deps x5.Taint x5.Turned)) i2 <|
    .ag 4 <|
    .ix z8 (((e0.set i2 (GEntry.mk r4_1 x3.Val x3.Deps x3.Taint x3.Turned)).set i2 (GEntry.mk x5.Addr (GValue.mk r4_0 x5.Val.N x5.Val.S x5.Val.K x5.Val.L) x5.Deps x5.Taint x5.Turned)).set i2 (GEntry.mk x6.Addr (GValue.mk x6.Val.Kind (w64 (r4_0 + 1)) x6.Val.S x6.Val.K x6.Val.L) x6.Deps x6.Taint x6.Turned)) i2 fun x7 =>
    .ag 0 <|
    .cl (xN (w64 ((w64 (r4_0 + 1)) + 1)) x7.Val.S) fun ⟨r8_0, r8_1⟩ =>
    .ag 1 <|
    .sl (z8 (GEntry.mk x7.Addr (GValue.mk x7.Val.Kind x7.Val.N r8_1 x7.Val.K x7.Val.L) x7.Deps x7.Taint x7.Turned)) (((e0.set i2 (GEntry.mk r4_1 x3.Val x3.Deps x3.Taint x3.Turned)).set i2 (GEntry.mk x5.Addr (GValue.mk r4_0 x5.Val.N x5.Val.S x5.Val.K x5.Val.L) x5.Deps x5.Taint x5.Turned)).set i2 (GEntry.mk x6.Addr (GValue.mk x6.Val.Kind (w64 (r4_0 + 1)) x6.Val.S x6.Val.K x6.Val.L) x6.Deps x6.Taint x6.Turned)) i2 <|
    .ag 6 <|
    .ix z8 ((((e0.set i2 (GEntry.mk r4_1 x3.Val x3.Deps x3.Taint x3.Turned)).set i2 (GEntry.mk x5.Addr (GValue.mk r4_0 x5.Val.N x5.Val.S x5.Val.K x5.Val.L) x5.Deps x5.Taint x5.Turned)).set i2 (GEntry.mk x6.Addr (GValue.mk x6.Val.Kind (w64 (r4_0 + 1)) x6.Val.S x6.Val.K x6.Val.L) x6.Deps x6.Taint x6.Turned)).set i2 (GEntry.mk x7.Addr (GValue.mk x7.Val.Kind x7.Val.N r8_1 x7.Val.K x7.Val.L) x7.Deps x7.Taint x7.Turned)) i2 fun x9 =>
    .ag 0 <|
    .cl (qE r8_0 x9.Val.K) fun ⟨r10_0, r10_1⟩ =>
    .ag 1 <|
    .sl (z8 (GEntry.mk x9.Addr (GValue.mk x9.Val.Kind x9.Val.N x9.Val.S r10_1 x9.Val.L) x9.Deps x9.Taint x9.Turned)) ((((e0.set i2 (GEntry.mk r4_1 x3.Val x3.Deps x3.Taint x3.Turned)).set i2 (GEntry.mk x5.Addr (GValue.mk r4_0 x5.Val.N x5.Val.S x5.Val.K x5.Val.L) x5.Deps x5.Taint x5.Turned)).set i2 (GEntry.mk x6.Addr (GValue.mk x6.Val.Kind (w64 (r4_0 + 1)) x6.Val.S x6.Val.K x6.Val.L) x6.Deps x6.Taint x6.Turned)).set i2 (GEntry.mk x7.Addr (GValue.mk x7.Val.Kind x7.Val.N r8_1 x7.Val.K x7.Val.L) x7.Deps x7.Taint x7.Turned)) i2 <|
    .ag 8 <|
    .ix z8 (((((e0.set i2 (GEntry.mk r4_1 x3.Val x3.Deps x3.Taint x3.Turned)).set i2 (GEntry.mk x5.Addr (GValue.mk r4_0 x5.Val.N x5.Val.S x5.Val.K x5.Val.L) x5.Deps x5.Taint x5.Turned)).set i2 (GEntry.mk x6.Addr (GValue.mk x6.Val.Kind (w64 (r4_0 + 1)) x6.Val.S x6.Val.K x6.Val.L) x6.Deps x6.Taint x6.Turned)).set i2 (GEntry.mk x7.Addr (GValue.mk x7.Val.Kind x7.Val.N r8_1 x7.Val.K x7.Val.L) x7.Deps x7.Taint x7.Turned)).set i2 (GEntry.mk x9.Addr (GValue.mk x9.Val.Kind x9.Val.N x9.Val.S r10_1 x9.Val.L) x9.Deps x9.Taint x9.Turned)) i2 fun x11 =>
    .ag 0 <|
    .cl (XN r10_0 x11.Val.L) fun ⟨r12_0, r12_1⟩ =>
    .ag 1 <|
    .sl (z8 (GEntry.mk x11.Addr (GValue.mk x11.Val.Kind x11.Val.N x11.Val.S x11.Val.K r12_1) x11.Deps x11.Taint x11.Turned)) (((((e0.set i2 (GEntry.mk r4_1 x3.Val x3.Deps x3.Taint x3.Turned)).set i2 (GEntry.mk x5.Addr (GValue.mk r4_0 x5.Val.N x5.Val.S x5.Val.K x5.Val.L) x5.Deps x5.Taint x5.Turned)).set i2 (GEntry.mk x6.Addr (GValue.mk x6.Val.Kind (w64 (r4_0 + 1)) x6.Val.S x6.Val.K x6.Val.L) x6.Deps x6.Taint x6.Turned)).set i2 (GEntry.mk x7.Addr (GValue.mk x7.Val.Kind x7.Val.N r8_1 x7.Val.K x7.Val.L) x7.Deps x7.Taint x7.Turned)).set i2 (GEntry.mk x9.Addr (GValue.mk x9.Val.Kind x9.Val.N x9.Val.S r10_1 x9.Val.L) x9.Deps x9.Taint x9.Turned)) i2 <|
    .ag 10 <|
    .ix z8 ((((((e0.set i2 (GEntry.mk r4_1 x3.Val x3.Deps x3.Taint x3.Turned)).set i2 (GEntry.mk x5.Addr (GValue.mk r4_0 x5.Val.N x5.Val.S x5.Val.K x5.Val.L) x5.Deps x5.Taint x5.Turned)).set i2 (GEntry.mk x6.Addr (GValue.mk x6.Val.Kind (w64 (r4_0 + 1)) x6.Val.S x6.Val.K x6.Val.L) x6.Deps x6.Taint x6.Turned)).set i2 (GEntry.mk x7.Addr (GValue.mk x7.Val.Kind x7.Val.N r8_1 x7.Val.K x7.Val.L) x7.Deps x7.Taint x7.Turned)).set i2 (GEntry.mk x9.Addr (GValue.mk x9.Val.Kind x9.Val.N x9.Val.S r10_1 x9.Val.L) x9.Deps x9.Taint x9.Turned)).set i2 (GEntry.mk x11.Addr (GValue.mk x11.Val.Kind x11.Val.N x11.Val.S x11.Val.K r12_1) x11.Deps x11.Taint x11.Turned)) i2 fun x13 =>
    .ag 0 <|
    .cl (qE r12_0 x13.Deps) fun ⟨r14_0, r14_1⟩ =>
    .ag 1 <|
    .sl (z8 (GEntry.mk x13.Addr x13.Val r14_1 x13.Taint x13.Turned)) ((((((e0.set i2 (GEntry.mk r4_1 x3.Val x3.Deps x3.Taint x3.Turned)).set i2 (GEntry.mk x5.Addr (GValue.mk r4_0 x5.Val.N x5.Val.S x5.Val.K x5.Val.L) x5.Deps x5.Taint x5.Turned)).set i2 (GEntry.mk x6.Addr (GValue.mk x6.Val.Kind (w64 (r4_0 + 1)) x6.Val.S x6.Val.K x6.Val.L) x6.Deps x6.Taint x6.Turned)).set i2 (GEntry.mk x7.Addr (GValue.mk x7.Val.Kind x7.Val.N r8_1 x7.Val.K x7.Val.L) x7.Deps x7.Taint x7.Turned)).set i2 (GEntry.mk x9.Addr (GValue.mk x9.Val.Kind x9.Val.N x9.Val.S r10_1 x9.Val.L) x9.Deps x9.Taint x9.Turned)).set i2 (GEntry.mk x11.Addr (GValue.mk x11.Val.Kind x11.Val.N x11.Val.S x11.Val.K r12_1) x11.Deps x11.Taint x11.Turned)) i2 <|
    .q ⟨.nz 3, .b true, rfl⟩ <|
    .eD (r14_0.tmod 3) 0 <|
    .ag 12 <|
    .ix z8 (((((((e0.set i2 (GEntry.mk r4_1 x3.Val x3.Deps x3.Taint x3.Turned)).set i2 (GEntry.mk x5.Addr (GValue.mk r4_0 x5.Val.N x5.Val.S x5.Val.K x5.Val.L) x5.Deps x5.Taint x5.Turned)).set i2 (GEntry.mk x6.Addr (GValue.mk x6.Val.Kind (w64 (r4_0 + 1)) x6.Val.S x6.Val.K x6.Val.L) x6.Deps x6.Taint x6.Turned)).set i2 (GEntry.mk x7.Addr (GValue.mk x7.Val.Kind x7.Val.N r8_1 x7.Val.K x7.Val.L) x7.Deps x7.Taint x7.Turned)).set i2 (GEntry.mk x9.Addr (GValue.mk x9.Val.Kind x9.Val.N x9.Val.S r10_1 x9.Val.L) x9.Deps x9.Taint x9.Turned)).set i2 (GEntry.mk x11.Addr (GValue.mk x11.Val.Kind x11.Val.N x11.Val.S x11.Val.K r12_1) x11.Deps x11.Taint x11.Turned)).set i2 (GEntry.mk x13.Addr x13.Val r14_1 x13.Taint x13.Turned)) i2 fun x15 =>
    .ag 0 <|
    .sl (z8 (GEntry.mk x15.Addr x15.Val x15.Deps (decide ((r14_0.tmod 3) = 0)) x15.Turned)) (((((((e0.set i2 (GEntry.mk r4_1 x3.Val x3.Deps x3.Taint x3.Turned)).set i2 (GEntry.mk x5.Addr (GValue.mk r4_0 x5.Val.N x5.Val.S x5.Val.K x5.Val.L) x5.Deps x5.Taint x5.Turned)).set i2 (GEntry.mk x6.Addr (GValue.mk x6.Val.Kind (w64 (r4_0 + 1)) x6.Val.S x6.Val.K x6.Val.L) x6.Deps x6.Taint x6.Turned)).set i2 (GEntry.mk x7.Addr (GValue.mk x7.Val.Kind x7.Val.N r8_1 x7.Val.K x7.Val.L) x7.Deps x7.Taint x7.Turned)).set i2 (GEntry.mk x9.Addr (GValue.mk x9.Val.Kind x9.Val.N x9.Val.S r10_1 x9.Val.L) x9.Deps x9.Taint x9.Turned)).set i2 (GEntry.mk x11.Addr (GValue.mk x11.Val.Kind x11.Val.N x11.Val.S x11.Val.K r12_1) x11.Deps x11.Taint x11.Turned)).set i2 (GEntry.mk x13.Addr x13.Val r14_1 x13.Taint x13.Turned)) i2 <|
    .ag 13 <|
    .ix z8 ((((((((e0.set i2 (GEntry.mk r4_1 x3.Val x3.Deps x3.Taint x3.Turned)).set i2 (GEntry.mk x5.Addr (GValue.mk r4_0 x5.Val.N x5.Val.S x5.Val.K x5.Val.L) x5.Deps x5.Taint x5.Turned)).set i2 (GEntry.mk x6.Addr (GValue.mk x6.Val.Kind (w64 (r4_0 + 1)) x6.Val.S x6.Val.K x6.Val.L) x6.Deps x6.Taint x6.Turned)).set i2 (GEntry.mk x7.Addr (GValue.mk x7.Val.Kind x7.Val.N r8_1 x7.Val.K x7.Val.L) x7.Deps x7.Taint x7.Turned)).set i2 (GEntry.mk x9.Addr (GValue.mk x9.Val.Kind x9.Val.N x9.Val.S r10_1 x9.Val.L) x9.Deps x9.Taint x9.Turned)).set i2 (GEntry.mk x11.Addr (GValue.mk x11.Val.Kind x11.Val.N x11.Val.S x11.Val.K r12_1) x11.Deps x11.Taint x11.Turned)).set i2 (GEntry.mk x13.Addr x13.Val r14_1 x13.Taint x13.Turned)).set i2 (GEntry.mk x15.Addr x15.Val x15.Deps (decide ((r14_0.tmod 3) = 0)) x15.Turned)) i2 fun x16 =>
    .ag 0 <|
    .sl (z8 (GEntry.mk x16.Addr x16.Val x16.Deps x16.Taint (w64 (r14_0 + 1)))) ((((((((e0.set i2 (GEntry.mk r4_1 x3.Val x3.Deps x3.Taint x3.Turned)).set i2 (GEntry.mk x5.Addr (GValue.mk r4_0 x5.Val.N x5.Val.S x5.Val.K x5.Val.L) x5.Deps x5.Taint x5.Turned)).set i2 (GEntry.mk x6.Addr (GValue.mk x6.Val.Kind (w64 (r4_0 + 1)) x6.Val.S x6.Val.K x6.Val.L) x6.Deps x6.Taint x6.Turned)).set i2 (GEntry.mk x7.Addr (GValue.mk x7.Val.Kind x7.Val.N r8_1 x7.Val.K x7.Val.L) x7.Deps x7.Taint x7.Turned)).set i2 (GEntry.mk x9.Addr (GValue.mk x9.Val.Kind x9.Val.N x9.Val.S r10_1 x9.Val.L) x9.Deps x9.Taint x9.Turned)).set i2 (GEntry.mk x11.Addr (GValue.mk x11.Val.Kind x11.Val.N x11.Val.S x11.Val.K r12_1) x11.Deps x11.Taint x11.Turned)).set i2 (GEntry.mk x13.Addr x13.Val r14_1 x13.Taint x13.Turned)).set i2 (GEntry.mk x15.Addr x15.Val x15.Deps (decide ((r14_0.tmod 3) = 0)) x15.Turned)) i2 <|
    .go (ih (w64 ((w64 (r14_0 + 1)) + 1)) (w64 (v1 + 1)) (((((((((e0.set i2 (GEntry.mk r4_1 x3.Val x3.Deps x3.Taint x3.Turned)).set i2 (GEntry.mk x5.Addr (GValue.mk r4_0 x5.Val.N x5.Val.S x5.Val.K x5.Val.L) x5.Deps x5.Taint x5.Turned)).set i2 (GEntry.mk x6.Addr (GValue.mk x6.Val.Kind (w64 (r4_0 + 1)) x6.Val.S x6.Val.K x6.Val.L) x6.Deps x6.Taint x6.Turned)).set i2 (GEntry.mk x7.Addr (GValue.mk x7.Val.Kind x7.Val.N r8_1 x7.Val.K x7.Val.L) x7.Deps x7.Taint x7.Turned)).set i2 (GEntry.mk x9.Addr (GValue.mk x9.Val.Kind x9.Val.N x9.Val.S r10_1 x9.Val.L) x9.Deps x9.Taint x9.Turned)).set i2 (GEntry.mk x11.Addr (GValue.mk x11.Val.Kind x11.Val.N x11.Val.S x11.Val.K r12_1) x11.Deps x11.Taint x11.Turned)).set i2 (GEntry.mk x13.Addr x13.Val r14_1 x13.Taint x13.Turned)).set i2 (GEntry.mk x15.Addr x15.Val x15.Deps (decide ((r14_0.tmod 3) = 0)) x15.Turned)).set i2 (GEntry.mk x16.Addr x16.Val x16.Deps x16.Taint (w64 (r14_0 + 1)))))) fun c1 =>
   .ret (a0, v1, e0))
def ZS (n : Nat) (a0 : Int) (e0 : (List GEntry)) : Option (Int × (List GEntry)) :=
 (xA n a0 0 e0).bind fun ⟨o1_0, o1_1, o1_2⟩ =>
 some (o1_0, o1_2)
theorem RJ (n : Nat) : Wq (ZS n) := fun a0 e0 => tc (
 .lp (Jp n a0 0 e0) fun ⟨o1_0, o1_1, o1_2⟩ =>
 .ret (o1_0, o1_2)) (zf Tryz.func83)
theorem Pe : ∀ (l p : List GEntry) (k : Int) (m : Nat), 0 <= k → k + 4 * yb l <= 2 ^ 40 → p.length + l.length <= 2 ^ 40 → l.length < m → ∃ z, xA m k (p.length : Int) (p ++ l) = some (k + cEs l, z, p ++ mEs k l) := by
 intro l
 induction l with
 | nil =>
  intro p k m _ _ _ hm
  obtain ⟨m, rfl, _⟩ := zg hm
  exact ⟨_, by rw [xA, if_neg (wc p)]; simp [mEs, cEs]; rfl⟩
 | cons x l ih =>
  intro p k m h0 h1 h2 hm
  obtain ⟨m, rfl, hm'⟩ := zg hm
  simp only [List.length_cons] at h2 hm'
  have hc := H6 x
  simp only [yb] at h1
  obtain ⟨z, hz⟩ := ih (p ++ [mE k x]) (k + cE x) m (by omega) (by omega) (by simp; omega) (by omega)
  have hcv := W9 x.Val
  have hcd := ju x.Deps
  have hve := xH x.Val
  have hcq := Pp x.Val
  have hmq := Pq (k + x.Addr.length) x.Val
  have hb := ju x.Val.K
  have hd := XP x.Val.L
  have hmE : mE k x = .mk (mB k x.Addr) (mV (k + x.Addr.length) x.Val) (mBB (k + x.Addr.length + cV x.Val) x.Deps) (decide ((k + x.Addr.length + cV x.Val + cB x.Deps).tmod 3 = 0)) (k + x.Addr.length + cV x.Val + cB x.Deps + 1) := rfl
  have hcE : cE x = x.Addr.length + cV x.Val + cB x.Deps + 2 := rfl
  unfold esz at h1 hc
  obtain ⟨ad, v, dp, ta, tu⟩ := x
  obtain ⟨kd, n, s, kk, ks⟩ := v
  simp only [GEntry.Addr, GEntry.Val, GEntry.Deps, GValue.S, GValue.K, GValue.L] at *
  rw [xA, if_pos (vE p _ l), zb, Option.bind_some, zF, Option.bind_some]
  simp only [GEntry.Addr, GEntry.Val, GEntry.Deps, GEntry.Taint, GEntry.Turned]
  rw [qD (by omega) (by omega)]
  simp only [Option.bind_some, wC, zF, GValue.Kind, GValue.N, GValue.S, GValue.K, GValue.L, GEntry.Addr, GEntry.Val, GEntry.Deps, GEntry.Taint, GEntry.Turned]
  rw [zV (x := k + (ad.length : Int) + 1) (by omega) (by omega), zV (x := k + (ad.length : Int) + 1 + 1) (by omega) (by omega), qD (by omega) (by omega)]
  simp only [Option.bind_some, wC, zF, GValue.Kind, GValue.N, GValue.S, GValue.K, GValue.L, GEntry.Addr, GEntry.Val, GEntry.Deps, GEntry.Taint, GEntry.Turned]
  rw [vC (by omega) (by omega)]
  simp only [Option.bind_some, wC, zF, GValue.Kind, GValue.N, GValue.S, GValue.K, GValue.L, GEntry.Addr, GEntry.Val, GEntry.Deps, GEntry.Taint, GEntry.Turned]
  rw [Kx (by omega) (by omega)]
  simp only [Option.bind_some, wC, zF, GValue.Kind, GValue.N, GValue.S, GValue.K, GValue.L, GEntry.Addr, GEntry.Val, GEntry.Deps, GEntry.Taint, GEntry.Turned]
  have e1 : k + (ad.length : Int) + 1 + 1 + (s.length : Int) + (cB kk : Int) + (cVs ks : Int) = k + (ad.length : Int) + (cV (.mk kd n s kk ks) : Int) := by omega
  rw [e1, vC (by omega) (by omega)]
  simp only [Option.bind_some, wC, zF, GValue.Kind, GValue.N, GValue.S, GValue.K, GValue.L, GEntry.Addr, GEntry.Val, GEntry.Deps, GEntry.Taint, GEntry.Turned]
  rw [zV (x := k + (ad.length : Int) + (cV (.mk kd n s kk ks) : Int) + (cB dp : Int) + 1) (by omega) (by omega), zV (x := k + (ad.length : Int) + (cV (.mk kd n s kk ks) : Int) + (cB dp : Int) + 1 + 1) (by omega) (by omega), <- hmq]
  refine ⟨z, Eq.trans ?_ (Eq.trans hz ?_)⟩
  ·congr 1
   ·omega
   ·exact y4 p (mE k _) (by omega)
   ·rw [List.append_assoc, List.singleton_append, hmE]; congr
  simp only [mEs, cEs, List.append_assoc, List.singleton_append]
  rw [show k + ((cE (.mk ad (.mk kd n s kk ks) dp ta tu) : Nat) : Int) + (cEs l : Int) = k + ((cE (.mk ad (.mk kd n s kk ks) dp ta tu) + cEs l : Nat) : Int) by omega]
def qW (a0 : Int) (e0 : (List GEntry)) : Option (Int × (List GEntry)) := if 0 <= a0 ∧ a0 + 4 * yb e0 <= 2 ^ 40 then some (a0 + cEs e0, mEs a0 e0) else none
theorem Ky {a : Int} {s : List GEntry} (h0 : 0 <= a) (h1 : a + 4 * yb s <= 2 ^ 40) : qW a s = some (a + cEs s, mEs a s) := if_pos ⟨h0, h1⟩
theorem JT (a0 : Int) (e0 : (List GEntry)) (r : (Int × (List GEntry))) (h : qW a0 e0 = some r) : ∃ n, ZS n a0 e0 = some r := by
 unfold qW at h
 obtain ⟨⟨h0, h1⟩, h⟩ := zB h
 have := qw e0
 obtain ⟨z, hz⟩ := Pe e0 [] a0 (e0.length + 1) h0 h1 (by simp; omega) (by omega)
 refine ⟨e0.length + 1, ?_⟩
 unfold ZS
 simp only [List.nil_append, List.length_nil, Int.natCast_zero] at hz
 rw [hz]
 exact h
theorem VQ : Wq qW := fun a0 e0 r h => (JT a0 e0 r h).elim fun n hn => RJ n a0 e0 r hn
def vl (a0_0 : Int) (a0_1 : Bool) (a0_3 : Int) (a1 : Int) (e0 : (List UInt8)) (e1 : (List GEntry)) : Option (Int × (List UInt8) × (List GEntry)) :=
 (yy a1 e0).bind fun ⟨r1_0, r1_1⟩ =>
 (qW r1_0 e1).bind fun ⟨r2_0, r2_1⟩ =>
 some (r2_0, r1_1, r2_1)
theorem RK (a0_0 : Int) (a0_1 : Bool) (a0_3 : Int) (a1 : Int) (e0 : (List UInt8)) (e1 : (List GEntry)) : Oc (vl a0_0 a0_1 a0_3 a1 e0 e1) 23 [.obj 1 (eL za e0), .obj 9 (eL zr e1)] [.val true [ci a0_0, .bool a0_1, .ref 0, ci a0_3, .ref 1], vi a1] fun r => (vi r.1, [.obj 1 (eL za r.2.1), .obj 9 (eL zr r.2.2)]) := tc (
 .cl (xN a1 e0) fun ⟨r1_0, r1_1⟩ =>
 .cl (VQ r1_0 e1) fun ⟨r2_0, r2_1⟩ =>
 .ret (r2_0, r1_1, r2_1)) (zf Tryz.func23)
def Wr (F : Int → (List GEvent) → Option (Int × (List GEvent))) : Prop := ∀ (a0 : Int) (e0 : (List GEvent)), Oc (F a0 e0) 92 [.obj 9 (eL zU e0)] [vr 0, vi a0] fun r => (vi r.1, [.obj 9 (eL zU r.2)])
def xB : Nat → Int → Int → (List GEvent) → Option (Int × Int × (List GEvent))
  | 0, _, _, _ => none
  | m + 1, a0, v1, e0 =>
  if v1 < (e0.length : Int) then
   (zu v1).bind fun i2 =>
   (e0[i2]?).bind fun x3 =>
   ((e0.set i2 (GEvent.mk a0 x3.Addr x3.Act x3.Val x3.Deps))[i2]?).bind fun x4 =>
   (yy (w64 (a0 + 1)) x4.Addr).bind fun ⟨r5_0, r5_1⟩ =>
   (((e0.set i2 (GEvent.mk a0 x3.Addr x3.Act x3.Val x3.Deps)).set i2 (GEvent.mk x4.Kind r5_1 x4.Act x4.Val x4.Deps))[i2]?).bind fun x6 =>
   ((((e0.set i2 (GEvent.mk a0 x3.Addr x3.Act x3.Val x3.Deps)).set i2 (GEvent.mk x4.Kind r5_1 x4.Act x4.Val x4.Deps)).set i2 (GEvent.mk x6.Kind x6.Addr r5_0 x6.Val x6.Deps))[i2]?).bind fun x7 =>
   (((((e0.set i2 (GEvent.mk a0 x3.Addr x3.Act x3.Val x3.Deps)).set i2 (GEvent.mk x4.Kind r5_1 x4.Act x4.Val x4.Deps)).set i2 (GEvent.mk x6.Kind x6.Addr r5_0 x6.Val x6.Deps)).set i2 (GEvent.mk x7.Kind x7.Addr x7.Act (GValue.mk (w64 (r5_0 + 1)) x7.Val.N x7.Val.S x7.Val.K x7.Val.L) x7.Deps))[i2]?).bind fun x8 =>
   ((((((e0.set i2 (GEvent.mk a0 x3.Addr x3.Act x3.Val x3.Deps)).set i2 (GEvent.mk x4.Kind r5_1 x4.Act x4.Val x4.Deps)).set i2 (GEvent.mk x6.Kind x6.Addr r5_0 x6.Val x6.Deps)).set i2 (GEvent.mk x7.Kind x7.Addr x7.Act (GValue.mk (w64 (r5_0 + 1)) x7.Val.N x7.Val.S x7.Val.K x7.Val.L) x7.Deps)).set i2 (GEvent.mk x8.Kind x8.Addr x8.Act (GValue.mk x8.Val.Kind (w64 ((w64 (r5_0 + 1)) + 1)) x8.Val.S x8.Val.K x8.Val.L) x8.Deps))[i2]?).bind fun x9 =>
   (yy (w64 ((w64 ((w64 (r5_0 + 1)) + 1)) + 1)) x9.Val.S).bind fun ⟨r10_0, r10_1⟩ =>
   (((((((e0.set i2 (GEvent.mk a0 x3.Addr x3.Act x3.Val x3.Deps)).set i2 (GEvent.mk x4.Kind r5_1 x4.Act x4.Val x4.Deps)).set i2 (GEvent.mk x6.Kind x6.Addr r5_0 x6.Val x6.Deps)).set i2 (GEvent.mk x7.Kind x7.Addr x7.Act (GValue.mk (w64 (r5_0 + 1)) x7.Val.N x7.Val.S x7.Val.K x7.Val.L) x7.Deps)).set i2 (GEvent.mk x8.Kind x8.Addr x8.Act (GValue.mk x8.Val.Kind (w64 ((w64 (r5_0 + 1)) + 1)) x8.Val.S x8.Val.K x8.Val.L) x8.Deps)).set i2 (GEvent.mk x9.Kind x9.Addr x9.Act (GValue.mk x9.Val.Kind x9.Val.N r10_1 x9.Val.K x9.Val.L) x9.Deps))[i2]?).bind fun x11 =>
   (yG r10_0 x11.Val.K).bind fun ⟨r12_0, r12_1⟩ =>
   ((((((((e0.set i2 (GEvent.mk a0 x3.Addr x3.Act x3.Val x3.Deps)).set i2 (GEvent.mk x4.Kind r5_1 x4.Act x4.Val x4.Deps)).set i2 (GEvent.mk x6.Kind x6.Addr r5_0 x6.Val x6.Deps)).set i2 (GEvent.mk x7.Kind x7.Addr x7.Act (GValue.mk (w64 (r5_0 + 1)) x7.Val.N x7.Val.S x7.Val.K x7.Val.L) x7.Deps)).set i2 (GEvent.mk x8.Kind x8.Addr x8.Act (GValue.mk x8.Val.Kind (w64 ((w64 (r5_0 + 1)) + 1)) x8.Val.S x8.Val.K x8.Val.L) x8.Deps)).set i2 (GEvent.mk x9.Kind x9.Addr x9.Act (GValue.mk x9.Val.Kind x9.Val.N r10_1 x9.Val.K x9.Val.L) x9.Deps)).set i2 (GEvent.mk x11.Kind x11.Addr x11.Act (GValue.mk x11.Val.Kind x11.Val.N x11.Val.S r12_1 x11.Val.L) x11.Deps))[i2]?).bind fun x13 =>
   (wR r12_0 x13.Val.L).bind fun ⟨r14_0, r14_1⟩ =>
   (((((((((e0.set i2 (GEvent.mk a0 x3.Addr x3.Act x3.Val x3.Deps)).set i2 (GEvent.mk x4.Kind r5_1 x4.Act x4.Val x4.Deps)).set i2 (GEvent.mk x6.Kind x6.Addr r5_0 x6.Val x6.Deps)).set i2 (GEvent.mk x7.Kind x7.Addr x7.Act (GValue.mk (w64 (r5_0 + 1)) x7.Val.N x7.Val.S x7.Val.K x7.Val.L) x7.Deps)).set i2 (GEvent.mk x8.Kind x8.Addr x8.Act (GValue.mk x8.Val.Kind (w64 ((w64 (r5_0 + 1)) + 1)) x8.Val.S x8.Val.K x8.Val.L) x8.Deps)).set i2 (GEvent.mk x9.Kind x9.Addr x9.Act (GValue.mk x9.Val.Kind x9.Val.N r10_1 x9.Val.K x9.Val.L) x9.Deps)).set i2 (GEvent.mk x11.Kind x11.Addr x11.Act (GValue.mk x11.Val.Kind x11.Val.N x11.Val.S r12_1 x11.Val.L) x11.Deps)).set i2 (GEvent.mk x13.Kind x13.Addr x13.Act (GValue.mk x13.Val.Kind x13.Val.N x13.Val.S x13.Val.K r14_1) x13.Deps))[i2]?).bind fun x15 =>
   (yG r14_0 x15.Deps).bind fun ⟨r16_0, r16_1⟩ =>
   xB m r16_0 (w64 (v1 + 1)) (((((((((e0.set i2 (GEvent.mk a0 x3.Addr x3.Act x3.Val x3.Deps)).set i2 (GEvent.mk x4.Kind r5_1 x4.Act x4.Val x4.Deps)).set i2 (GEvent.mk x6.Kind x6.Addr r5_0 x6.Val x6.Deps)).set i2 (GEvent.mk x7.Kind x7.Addr x7.Act (GValue.mk (w64 (r5_0 + 1)) x7.Val.N x7.Val.S x7.Val.K x7.Val.L) x7.Deps)).set i2 (GEvent.mk x8.Kind x8.Addr x8.Act (GValue.mk x8.Val.Kind (w64 ((w64 (r5_0 + 1)) + 1)) x8.Val.S x8.Val.K x8.Val.L) x8.Deps)).set i2 (GEvent.mk x9.Kind x9.Addr x9.Act (GValue.mk x9.Val.Kind x9.Val.N r10_1 x9.Val.K x9.Val.L) x9.Deps)).set i2 (GEvent.mk x11.Kind x11.Addr x11.Act (GValue.mk x11.Val.Kind x11.Val.N x11.Val.S r12_1 x11.Val.L) x11.Deps)).set i2 (GEvent.mk x13.Kind x13.Addr x13.Act (GValue.mk x13.Val.Kind x13.Val.N x13.Val.S x13.Val.K r14_1) x13.Deps)).set i2 (GEvent.mk x15.Kind x15.Addr x15.Act x15.Val r16_1))
  else
  some (a0, v1, e0)
theorem Jq (m : Nat) : ∀ (a0 : Int) (v1 : Int) (e0 : (List GEvent)), Ol (xB m a0 v1 e0) 92 (zI Tryz.f92 0) ⟨[(0, vr 0), (1, vi a0), (5, vi v1)], [.obj 9 (eL zU e0)], 1⟩ fun o => match o with | ⟨o_0, o_1, o_2⟩ => (.exit 0, ⟨[(0, vr 0), (1, vi o_0), (5, vi o_1), (9, vb false)], [.obj 9 (eL zU o_2)], 1⟩) := by
  induction m with
  | zero => intro a0 v1 e0 o h; cases h
  | succ m ih => exact fun a0 v1 e0 => tlp (
   .le zU e0 <|
   .lI v1 (e0.length : Int) (fun c1 =>
    .na v1 fun i2 =>
    .ix yi e0 i2 fun x3 =>
    .ag 0 <|
    .sl (yi (GEvent.mk a0 x3.Addr x3.Act x3.Val x3.Deps)) e0 i2 <|
    .ag 1 <|
    .ix yi (e0.set i2 (GEvent.mk a0 x3.Addr x3.Act x3.Val x3.Deps)) i2 fun x4 =>
    .ag 0 <|
    .cl (xN (w64 (a0 + 1)) x4.Addr) fun ⟨r5_0, r5_1⟩ =>
    .ag 1 <|
    .sl (yi (GEvent.mk x4.Kind r5_1 x4.Act x4.Val x4.Deps)) (e0.set i2 (GEvent.mk a0 x3.Addr x3.Act x3.Val x3.Deps)) i2 <|
    .ag 3 <|
    .ix yi ((e0.set i2 (GEvent.mk a0 x3.Addr x3.Act x3.Val x3.Deps)).set i2 (GEvent.mk x4.Kind r5_1 x4.Act x4.Val x4.Deps)) i2 fun x6 =>
    .ag 0 <|
    .sl (yi (GEvent.mk x6.Kind x6.Addr r5_0 x6.Val x6.Deps)) ((e0.set i2 (GEvent.mk a0 x3.Addr x3.Act x3.Val x3.Deps)).set i2 (GEvent.mk x4.Kind r5_1 x4.Act x4.Val x4.Deps)) i2 <|
    .ag 4 <|
    .ix yi (((e0.set i2 (GEvent.mk a0 x3.Addr x3.Act x3.Val x3.Deps)).set i2 (GEvent.mk x4.Kind r5_1 x4.Act x4.Val x4.Deps)).set i2 (GEvent.mk x6.Kind x6.Addr r5_0 x6.Val x6.Deps)) i2 fun x7 =>
    .ag 0 <|
    .sl (yi (GEvent.mk x7.Kind x7.Addr x7.Act (GValue.mk (w64 (r5_0 + 1)) x7.Val.N x7.Val.S x7.Val.K x7.Val.L) x7.Deps)) (((e0.set i2 (GEvent.mk a0 x3.Addr x3.Act x3.Val x3.Deps)).set i2 (GEvent.mk x4.Kind r5_1 x4.Act x4.Val x4.Deps)).set i2 (GEvent.mk x6.Kind x6.Addr r5_0 x6.Val x6.Deps)) i2 <|
    .ag 5 <|
    .ix yi ((((e0.set i2 (GEvent.mk a0 x3.Addr x3.Act x3.Val x3.Deps)).set i2 (GEvent.mk x4.Kind r5_1 x4.Act x4.Val x4.Deps)).set i2 (GEvent.mk x6.Kind x6.Addr r5_0 x6.Val x6.Deps)).set i2 (GEvent.mk x7.Kind x7.Addr x7.Act (GValue.mk (w64 (r5_0 + 1)) x7.Val.N x7.Val.S x7.Val.K x7.Val.L) x7.Deps)) i2 fun x8 =>
    .ag 0 <|
    .sl (yi (GEvent.mk x8.Kind x8.Addr x8.Act (GValue.mk x8.Val.Kind (w64 ((w64 (r5_0 + 1)) + 1)) x8.Val.S x8.Val.K x8.Val.L) x8.Deps)) ((((e0.set i2 (GEvent.mk a0 x3.Addr x3.Act x3.Val x3.Deps)).set i2 (GEvent.mk x4.Kind r5_1 x4.Act x4.Val x4.Deps)).set i2 (GEvent.mk x6.Kind x6.Addr r5_0 x6.Val x6.Deps)).set i2 (GEvent.mk x7.Kind x7.Addr x7.Act (GValue.mk (w64 (r5_0 + 1)) x7.Val.N x7.Val.S x7.Val.K x7.Val.L) x7.Deps)) i2 <|
    .ag 6 <|
    .ix yi (((((e0.set i2 (GEvent.mk a0 x3.Addr x3.Act x3.Val x3.Deps)).set i2 (GEvent.mk x4.Kind r5_1 x4.Act x4.Val x4.Deps)).set i2 (GEvent.mk x6.Kind x6.Addr r5_0 x6.Val x6.Deps)).set i2 (GEvent.mk x7.Kind x7.Addr x7.Act (GValue.mk (w64 (r5_0 + 1)) x7.Val.N x7.Val.S x7.Val.K x7.Val.L) x7.Deps)).set i2 (GEvent.mk x8.Kind x8.Addr x8.Act (GValue.mk x8.Val.Kind (w64 ((w64 (r5_0 + 1)) + 1)) x8.Val.S x8.Val.K x8.Val.L) x8.Deps)) i2 fun x9 =>
    .ag 0 <|
    .cl (xN (w64 ((w64 ((w64 (r5_0 + 1)) + 1)) + 1)) x9.Val.S) fun ⟨r10_0, r10_1⟩ =>
    .ag 1 <|
    .sl (yi (GEvent.mk x9.Kind x9.Addr x9.Act (GValue.mk x9.Val.Kind x9.Val.N r10_1 x9.Val.K x9.Val.L) x9.Deps)) (((((e0.set i2 (GEvent.mk a0 x3.Addr x3.Act x3.Val x3.Deps)).set i2 (GEvent.mk x4.Kind r5_1 x4.Act x4.Val x4.Deps)).set i2 (GEvent.mk x6.Kind x6.Addr r5_0 x6.Val x6.Deps)).set i2 (GEvent.mk x7.Kind x7.Addr x7.Act (GValue.mk (w64 (r5_0 + 1)) x7.Val.N x7.Val.S x7.Val.K x7.Val.L) x7.Deps)).set i2 (GEvent.mk x8.Kind x8.Addr x8.Act (GValue.mk x8.Val.Kind (w64 ((w64 (r5_0 + 1)) + 1)) x8.Val.S x8.Val.K x8.Val.L) x8.Deps)) i2 <|
    .ag 8 <|
    .ix yi ((((((e0.set i2 (GEvent.mk a0 x3.Addr x3.Act x3.Val x3.Deps)).set i2 (GEvent.mk x4.Kind r5_1 x4.Act x4.Val x4.Deps)).set i2 (GEvent.mk x6.Kind x6.Addr r5_0 x6.Val x6.Deps)).set i2 (GEvent.mk x7.Kind x7.Addr x7.Act (GValue.mk (w64 (r5_0 + 1)) x7.Val.N x7.Val.S x7.Val.K x7.Val.L) x7.Deps)).set i2 (GEvent.mk x8.Kind x8.Addr x8.Act (GValue.mk x8.Val.Kind (w64 ((w64 (r5_0 + 1)) + 1)) x8.Val.S x8.Val.K x8.Val.L) x8.Deps)).set i2 (GEvent.mk x9.Kind x9.Addr x9.Act (GValue.mk x9.Val.Kind x9.Val.N r10_1 x9.Val.K x9.Val.L) x9.Deps)) i2 fun x11 =>
    .ag 0 <|
    .cl (qE r10_0 x11.Val.K) fun ⟨r12_0, r12_1⟩ =>
    .ag 1 <|
    .sl (yi (GEvent.mk x11.Kind x11.Addr x11.Act (GValue.mk x11.Val.Kind x11.Val.N x11.Val.S r12_1 x11.Val.L) x11.Deps)) ((((((e0.set i2 (GEvent.mk a0 x3.Addr x3.Act x3.Val x3.Deps)).set i2 (GEvent.mk x4.Kind r5_1 x4.Act x4.Val x4.Deps)).set i2 (GEvent.mk x6.Kind x6.Addr r5_0 x6.Val x6.Deps)).set i2 (GEvent.mk x7.Kind x7.Addr x7.Act (GValue.mk (w64 (r5_0 + 1)) x7.Val.N x7.Val.S x7.Val.K x7.Val.L) x7.Deps)).set i2 (GEvent.mk x8.Kind x8.Addr x8.Act (GValue.mk x8.Val.Kind (w64 ((w64 (r5_0 + 1)) + 1)) x8.Val.S x8.Val.K x8.Val.L) x8.Deps)).set i2 (GEvent.mk x9.Kind x9.Addr x9.Act (GValue.mk x9.Val.Kind x9.Val.N r10_1 x9.Val.K x9.Val.L) x9.Deps)) i2 <|
    .ag 10 <|
    .ix yi (((((((e0.set i2 (GEvent.mk a0 x3.Addr x3.Act x3.Val x3.Deps)).set i2 (GEvent.mk x4.Kind r5_1 x4.Act x4.Val x4.Deps)).set i2 (GEvent.mk x6.Kind x6.Addr r5_0 x6.Val x6.Deps)).set i2 (GEvent.mk x7.Kind x7.Addr x7.Act (GValue.mk (w64 (r5_0 + 1)) x7.Val.N x7.Val.S x7.Val.K x7.Val.L) x7.Deps)).set i2 (GEvent.mk x8.Kind x8.Addr x8.Act (GValue.mk x8.Val.Kind (w64 ((w64 (r5_0 + 1)) + 1)) x8.Val.S x8.Val.K x8.Val.L) x8.Deps)).set i2 (GEvent.mk x9.Kind x9.Addr x9.Act (GValue.mk x9.Val.Kind x9.Val.N r10_1 x9.Val.K x9.Val.L) x9.Deps)).set i2 (GEvent.mk x11.Kind x11.Addr x11.Act (GValue.mk x11.Val.Kind x11.Val.N x11.Val.S r12_1 x11.Val.L) x11.Deps)) i2 fun x13 =>
    .ag 0 <|
    .cl (XN r12_0 x13.Val.L) fun ⟨r14_0, r14_1⟩ =>
    .ag 1 <|
    .sl (yi (GEvent.mk x13.Kind x13.Addr x13.Act (GValue.mk x13.Val.Kind x13.Val.N x13.Val.S x13.Val.K r14_1) x13.Deps)) (((((((e0.set i2 (GEvent.mk a0 x3.Addr x3.Act x3.Val x3.Deps)).set i2 (GEvent.mk x4.Kind r5_1 x4.Act x4.Val x4.Deps)).set i2 (GEvent.mk x6.Kind x6.Addr r5_0 x6.Val x6.Deps)).set i2 (GEvent.mk x7.Kind x7.Addr x7.Act (GValue.mk (w64 (r5_0 + 1)) x7.Val.N x7.Val.S x7.Val.K x7.Val.L) x7.Deps)).set i2 (GEvent.mk x8.Kind x8.Addr x8.Act (GValue.mk x8.Val.Kind (w64 ((w64 (r5_0 + 1)) + 1)) x8.Val.S x8.Val.K x8.Val.L) x8.Deps)).set i2 (GEvent.mk x9.Kind x9.Addr x9.Act (GValue.mk x9.Val.Kind x9.Val.N r10_1 x9.Val.K x9.Val.L) x9.Deps)).set i2 (GEvent.mk x11.Kind x11.Addr x11.Act (GValue.mk x11.Val.Kind x11.Val.N x11.Val.S r12_1 x11.Val.L) x11.Deps)) i2 <|
    .ag 12 <|
    .ix yi ((((((((e0.set i2 (GEvent.mk a0 x3.Addr x3.Act x3.Val x3.Deps)).set i2 (GEvent.mk x4.Kind r5_1 x4.Act x4.Val x4.Deps)).set i2 (GEvent.mk x6.Kind x6.Addr r5_0 x6.Val x6.Deps)).set i2 (GEvent.mk x7.Kind x7.Addr x7.Act (GValue.mk (w64 (r5_0 + 1)) x7.Val.N x7.Val.S x7.Val.K x7.Val.L) x7.Deps)).set i2 (GEvent.mk x8.Kind x8.Addr x8.Act (GValue.mk x8.Val.Kind (w64 ((w64 (r5_0 + 1)) + 1)) x8.Val.S x8.Val.K x8.Val.L) x8.Deps)).set i2 (GEvent.mk x9.Kind x9.Addr x9.Act (GValue.mk x9.Val.Kind x9.Val.N r10_1 x9.Val.K x9.Val.L) x9.Deps)).set i2 (GEvent.mk x11.Kind x11.Addr x11.Act (GValue.mk x11.Val.Kind x11.Val.N x11.Val.S r12_1 x11.Val.L) x11.Deps)).set i2 (GEvent.mk x13.Kind x13.Addr x13.Act (GValue.mk x13.Val.Kind x13.Val.N x13.Val.S x13.Val.K r14_1) x13.Deps)) i2 fun x15 =>
    .ag 0 <|
    .cl (qE r14_0 x15.Deps) fun ⟨r16_0, r16_1⟩ =>
    .ag 1 <|
    .sl (yi (GEvent.mk x15.Kind x15.Addr x15.Act x15.Val r16_1)) ((((((((e0.set i2 (GEvent.mk a0 x3.Addr x3.Act x3.Val x3.Deps)).set i2 (GEvent.mk x4.Kind r5_1 x4.Act x4.Val x4.Deps)).set i2 (GEvent.mk x6.Kind x6.Addr r5_0 x6.Val x6.Deps)).set i2 (GEvent.mk x7.Kind x7.Addr x7.Act (GValue.mk (w64 (r5_0 + 1)) x7.Val.N x7.Val.S x7.Val.K x7.Val.L) x7.Deps)).set i2 (GEvent.mk x8.Kind x8.Addr x8.Act (GValue.mk x8.Val.Kind (w64 ((w64 (r5_0 + 1)) + 1)) x8.Val.S x8.Val.K x8.Val.L) x8.Deps)).set i2 (GEvent.mk x9.Kind x9.Addr x9.Act (GValue.mk x9.Val.Kind x9.Val.N r10_1 x9.Val.K x9.Val.L) x9.Deps)).set i2 (GEvent.mk x11.Kind x11.Addr x11.Act (GValue.mk x11.Val.Kind x11.Val.N x11.Val.S r12_1 x11.Val.L) x11.Deps)).set i2 (GEvent.mk x13.Kind x13.Addr x13.Act (GValue.mk x13.Val.Kind x13.Val.N x13.Val.S x13.Val.K r14_1) x13.Deps)) i2 <|
    .go (ih r16_0 (w64 (v1 + 1)) (((((((((e0.set i2 (GEvent.mk a0 x3.Addr x3.Act x3.Val x3.Deps)).set i2 (GEvent.mk x4.Kind r5_1 x4.Act x4.Val x4.Deps)).set i2 (GEvent.mk x6.Kind x6.Addr r5_0 x6.Val x6.Deps)).set i2 (GEvent.mk x7.Kind x7.Addr x7.Act (GValue.mk (w64 (r5_0 + 1)) x7.Val.N x7.Val.S x7.Val.K x7.Val.L) x7.Deps)).set i2 (GEvent.mk x8.Kind x8.Addr x8.Act (GValue.mk x8.Val.Kind (w64 ((w64 (r5_0 + 1)) + 1)) x8.Val.S x8.Val.K x8.Val.L) x8.Deps)).set i2 (GEvent.mk x9.Kind x9.Addr x9.Act (GValue.mk x9.Val.Kind x9.Val.N r10_1 x9.Val.K x9.Val.L) x9.Deps)).set i2 (GEvent.mk x11.Kind x11.Addr x11.Act (GValue.mk x11.Val.Kind x11.Val.N x11.Val.S r12_1 x11.Val.L) x11.Deps)).set i2 (GEvent.mk x13.Kind x13.Addr x13.Act (GValue.mk x13.Val.Kind x13.Val.N x13.Val.S x13.Val.K r14_1) x13.Deps)).set i2 (GEvent.mk x15.Kind x15.Addr x15.Act x15.Val r16_1)))) fun c1 =>
   .ret (a0, v1, e0))
def ZT (n : Nat) (a0 : Int) (e0 : (List GEvent)) : Option (Int × (List GEvent)) :=
 (xB n a0 0 e0).bind fun ⟨o1_0, o1_1, o1_2⟩ =>
 some (o1_0, o1_2)
theorem RL (n : Nat) : Wr (ZT n) := fun a0 e0 => tc (
 .lp (Jq n a0 0 e0) fun ⟨o1_0, o1_1, o1_2⟩ =>
 .ret (o1_0, o1_2)) (zf Tryz.func92)
theorem Pf : ∀ (l p : List GEvent) (k : Int) (m : Nat), 0 <= k → k + 4 * zX l <= 2 ^ 40 → p.length + l.length <= 2 ^ 40 → l.length < m → ∃ z, xB m k (p.length : Int) (p ++ l) = some (k + jZ l, z, p ++ vR k l) := by
 intro l
 induction l with
 | nil =>
  intro p k m _ _ _ hm
  obtain ⟨m, rfl, _⟩ := zg hm
  exact ⟨_, by rw [xB, if_neg (wc p)]; simp [vR, jZ]; rfl⟩
 | cons x l ih =>
  intro p k m h0 h1 h2 hm
  obtain ⟨m, rfl, hm'⟩ := zg hm
  simp only [List.length_cons] at h2 hm'
  have hc := N0 x
  simp only [zX] at h1
  obtain ⟨z, hz⟩ := ih (p ++ [mEv k x]) (k + cEv x) m (by omega) (by omega) (by simp; omega) (by omega)
  have hcv := W9 x.Val
  have hcd := ju x.Deps
  have hve := xH x.Val
  have hcq := Pp x.Val
  have hmq := Pq (k + 1 + x.Addr.length + 1) x.Val
  have hb := ju x.Val.K
  have hd := XP x.Val.L
  have hmE : mEv k x = .mk k (mB (k + 1) x.Addr) (k + 1 + x.Addr.length) (mV (k + 1 + x.Addr.length + 1) x.Val) (mBB (k + 1 + x.Addr.length + 1 + cV x.Val) x.Deps) := rfl
  have hcE : cEv x = x.Addr.length + cV x.Val + cB x.Deps + 2 := rfl
  unfold xf at h1 hc
  obtain ⟨ek, ad, ac, v, dp⟩ := x
  obtain ⟨kd, n, s, kk, ks⟩ := v
  simp only [GEvent.Addr, GEvent.Val, GEvent.Deps, GValue.S, GValue.K, GValue.L] at *
  rw [xB, if_pos (vE p _ l), zb, Option.bind_some, zF, Option.bind_some]
  simp only [wC, zF, Option.bind_some, GEvent.Kind, GEvent.Addr, GEvent.Act, GEvent.Val, GEvent.Deps]
  rw [zV (x := k + 1) (by omega) (by omega), qD (by omega) (by omega)]
  simp only [Option.bind_some, wC, zF, GValue.Kind, GValue.N, GValue.S, GValue.K, GValue.L, GEvent.Kind, GEvent.Addr, GEvent.Act, GEvent.Val, GEvent.Deps]
  rw [zV (x := k + 1 + (ad.length : Int) + 1) (by omega) (by omega), zV (x := k + 1 + (ad.length : Int) + 1 + 1) (by omega) (by omega), zV (x := k + 1 + (ad.length : Int) + 1 + 1 + 1) (by omega) (by omega), qD (by omega) (by omega)]
  simp only [Option.bind_some, wC, zF, GValue.Kind, GValue.N, GValue.S, GValue.K, GValue.L, GEvent.Kind, GEvent.Addr, GEvent.Act, GEvent.Val, GEvent.Deps]
  rw [vC (by omega) (by omega)]
  simp only [Option.bind_some, wC, zF, GValue.Kind, GValue.N, GValue.S, GValue.K, GValue.L, GEvent.Kind, GEvent.Addr, GEvent.Act, GEvent.Val, GEvent.Deps]
  rw [Kx (by omega) (by omega)]
  simp only [Option.bind_some, wC, zF, GValue.Kind, GValue.N, GValue.S, GValue.K, GValue.L, GEvent.Kind, GEvent.Addr, GEvent.Act, GEvent.Val, GEvent.Deps]
  have e1 : k + 1 + (ad.length : Int) + 1 + 1 + 1 + (s.length : Int) + (cB kk : Int) + (cVs ks : Int) = k + 1 + (ad.length : Int) + 1 + (cV (.mk kd n s kk ks) : Int) := by omega
  rw [e1, vC (by omega) (by omega)]
  simp only [Option.bind_some, wC, zF, GValue.Kind, GValue.N, GValue.S, GValue.K, GValue.L, GEvent.Kind, GEvent.Addr, GEvent.Act, GEvent.Val, GEvent.Deps]
  rw [<- hmq]
  refine ⟨z, Eq.trans ?_ (Eq.trans hz ?_)⟩
  ·congr 1
   ·omega
   ·exact y4 p (mEv k _) (by omega)
   ·rw [List.append_assoc, List.singleton_append, hmE]
  simp only [vR, jZ, List.append_assoc, List.singleton_append]
  rw [show k + ((cEv (.mk ek ad ac (.mk kd n s kk ks) dp) : Nat) : Int) + (jZ l : Int) = k + ((cEv (.mk ek ad ac (.mk kd n s kk ks) dp) + jZ l : Nat) : Int) by omega]
def qX (a0 : Int) (e0 : (List GEvent)) : Option (Int × (List GEvent)) := if 0 <= a0 ∧ a0 + 4 * zX e0 <= 2 ^ 40 then some (a0 + jZ e0, vR a0 e0) else none
theorem Kz {a : Int} {s : List GEvent} (h0 : 0 <= a) (h1 : a + 4 * zX s <= 2 ^ 40) : qX a s = some (a + jZ s, vR a s) := if_pos ⟨h0, h1⟩
theorem JU (a0 : Int) (e0 : (List GEvent)) (r : (Int × (List GEvent))) (h : qX a0 e0 = some r) : ∃ n, ZT n a0 e0 = some r := by
 unfold qX at h
 obtain ⟨⟨h0, h1⟩, h⟩ := zB h
 have := jQ e0
 obtain ⟨z, hz⟩ := Pf e0 [] a0 (e0.length + 1) h0 h1 (by simp; omega) (by omega)
 refine ⟨e0.length + 1, ?_⟩
 unfold ZT
 simp only [List.nil_append, List.length_nil, Int.natCast_zero] at hz
 rw [hz]
 exact h
theorem VR : Wr qX := fun a0 e0 r h => (JU a0 e0 r h).elim fun n hn => RL n a0 e0 r hn
def xq (a0_0 : Int) (a0_1 : Bool) (a0_3 : Int) (a0_6 : Int) (a1 : Int) (e0 : (List UInt8)) (e1 : (List GEntry)) (e2 : (List GEvent)) : Option (Int × (List UInt8) × (List GEntry) × (List GEvent)) :=
 (vl a0_0 a0_1 a0_3 a1 e0 e1).bind fun ⟨r1_0, r1_1, r1_2⟩ =>
 (qX r1_0 e2).bind fun ⟨r2_0, r2_1⟩ =>
 some (r2_0, r1_1, r1_2, r2_1)
theorem Xi (a0_0 : Int) (a0_1 : Bool) (a0_3 : Int) (a0_6 : Int) (a1 : Int) (e0 : (List UInt8)) (e1 : (List GEntry)) (e2 : (List GEvent)) : Oc (xq a0_0 a0_1 a0_3 a0_6 a1 e0 e1 e2) 33 [.obj 1 (eL za e0), .obj 9 (eL zr e1), .obj 9 (eL zU e2)] [.val true [ci a0_0, .bool a0_1, .ref 0, ci a0_3, .ref 1, .ref 2, ci a0_6], vi a1] fun r => (vi r.1, [.obj 1 (eL za r.2.1), .obj 9 (eL zr r.2.2.1), .obj 9 (eL zU r.2.2.2)]) := tc (
 .cl (RK a0_0 a0_1 a0_3 a1 e0 e1) fun ⟨r1_0, r1_1, r1_2⟩ =>
 .cl (VR r1_0 e2) fun ⟨r2_0, r2_1⟩ =>
 .ret (r2_0, r1_1, r1_2, r2_1)) (zf Tryz.func33)
def Qf (F : (List UInt8) → Int → Option Int) : Prop := ∀ (a0 : (List UInt8)) (a1 : Int), Oc (F a0 a1) 40 [] [vq za a0, vi a1] fun r => (vi r, [])
def wb (a0 : (List UInt8)) : Nat → Int → Int → Option (Int ⊕ (Int × Int))
  | 0, _, _ => none
  | m + 1, a1, v2 =>
  if v2 < (a0.length : Int) then
   (zu v2).bind fun i2 =>
   (a0[i2]?).bind fun x3 =>
   if ((x3.toNat : Nat) : Int) = (((b8 a1).toNat : Nat) : Int) then
    wb a0 m (w64 (a1 + 1)) (w64 (v2 + 1))
   else
   some (.inl (-1))
  else
  some (.inr (a1, v2))
theorem JV (a0 : (List UInt8)) (m : Nat) : ∀ (a1 : Int) (v2 : Int), Ol (wb a0 m a1 v2) 40 (zI Tryz.f40 0) ⟨[(0, vq za a0), (1, vi a1), (5, vi v2)], [], 0⟩ fun o => match o with | .inl o_0 => (.ret, ⟨[(4, vi o_0)], [], 0⟩) | .inr (⟨o_1_0, o_1_1⟩) => (.exit 0, ⟨[(0, vq za a0), (1, vi o_1_0), (5, vi o_1_1), (9, vb false)], [], 0⟩) := by
  induction m with
  | zero => intro a1 v2 o h; cases h
  | succ m ih => exact fun a1 v2 => tlp (
   .le za a0 <|
   .lI v2 (a0.length : Int) (fun c1 =>
    .na v2 fun i2 =>
    .ix0 za a0 i2 fun x3 =>
    .eI ((x3.toNat : Nat) : Int) (((b8 a1).toNat : Nat) : Int) (fun c4 =>
     .go (ih (w64 (a1 + 1)) (w64 (v2 + 1)))) fun c4 =>
    .ret (.inl (-1))) fun c1 =>
   .ret (.inr (a1, v2)))
def Yw (n : Nat) (a0 : (List UInt8)) (a1 : Int) : Option Int :=
 (wb a0 n a1 0).bind fun o1 =>
 match o1 with
 | .inl o1_0 =>
  some o1_0
 | .inr (⟨o1_1_0, o1_1_1⟩) =>
  some o1_1_0
theorem TK (n : Nat) : Qf (Yw n) := fun a0 a1 => tc (
 .l2 (JV a0 n a1 0) (fun o1_0 =>
  .ret o1_0) fun ⟨o1_1_0, o1_1_1⟩ =>
 .ret o1_1_0) (zf Tryz.func40)
theorem Ov {a : List UInt8} : ∀ (l p : List UInt8) (k : Int) (m : Nat), a = p ++ l → mB k l = l → 0 <= k → k + 2 * l.length <= 2 ^ 41 → p.length + l.length <= 2 ^ 41 → l.length < m → ∃ z, wb a m k (p.length : Int) = some (.inr (k + l.length, z)) := by
 intro l
 induction l with
 | nil =>
  intro p k m ha _ _ _ _ hm
  subst ha
  obtain ⟨m, rfl, _⟩ := zg hm
  exact ⟨_, by rw [wb, if_neg (wc p)]; simp; rfl⟩
 | cons x l ih =>
  intro p k m ha hm0 h0 h1 h2 hm
  obtain ⟨m, rfl, hm'⟩ := zg hm
  simp only [List.length_cons] at h1 h2 hm'
  rw [mB] at hm0
  obtain ⟨e1, e2⟩ := List.cons.inj hm0
  obtain ⟨z, hz⟩ := ih (p ++ [x]) (k + 1) m (by rw [ha]; simp) e2 (by omega) (by omega) (by simp; omega) (by omega)
  refine ⟨z, ?_⟩
  rw [wb, if_pos (by rw [ha]; exact vE p x l), zb, Option.bind_some, show a[p.length]? = some x by rw [ha]; exact zF p x l, Option.bind_some, if_pos (by rw [e1]), y4 p x (by omega), zV (x := k + 1) (by omega) (by omega), hz]
  simp only [List.length_cons]
  rw [show k + 1 + (l.length : Int) = k + ((l.length + 1 : Nat) : Int) by omega]
def yz (a0 : (List UInt8)) (a1 : Int) : Option Int := if mB a1 a0 = a0 ∧ 0 <= a1 ∧ a1 + 2 * a0.length <= 2 ^ 41 then some (a1 + a0.length) else none
theorem js {a : Int} {s : List UInt8} (h : mB a s = s) (h0 : 0 <= a) (h1 : a + 2 * s.length <= 2 ^ 41) : yz s a = some (a + s.length) := if_pos ⟨h, h0, h1⟩
theorem KP (a0 : (List UInt8)) (a1 : Int) (r : Int) (h : yz a0 a1 = some r) : ∃ n, Yw n a0 a1 = some r := by
 unfold yz at h
 obtain ⟨⟨he, h0, h1⟩, h⟩ := zB h
 obtain ⟨z, hz⟩ := Ov (a := a0) a0 [] a1 (a0.length + 1) rfl he h0 h1 (by simp; omega) (by omega)
 refine ⟨a0.length + 1, ?_⟩
 unfold Yw
 simp only [List.length_nil, Int.natCast_zero] at hz
 rw [hz]
 exact h
theorem xO : Qf yz := fun a0 a1 r h => (KP a0 a1 r h).elim fun n hn => TK n a0 a1 r hn
def Ws (F : (List (List UInt8)) → Int → Option Int) : Prop := ∀ (a0 : (List (List UInt8))) (a1 : Int), Oc (F a0 a1) 65 [] [vq (zt za) a0, vi a1] fun r => (vi r, [])
def xC (a0 : (List (List UInt8))) : Nat → Int → Int → Option (Int ⊕ (Int × Int))
  | 0, _, _ => none
  | m + 1, a1, v2 =>
  if v2 < (a0.length : Int) then
   (zu v2).bind fun i2 =>
   (a0[i2]?).bind fun x3 =>
   (yz x3 a1).bind fun r4 =>
   if r4 < 0 then
    some (.inl (-1))
   else
   xC a0 m r4 (w64 (v2 + 1))
  else
  some (.inr (a1, v2))
theorem Jr (a0 : (List (List UInt8))) (m : Nat) : ∀ (a1 : Int) (v2 : Int), Ol (xC a0 m a1 v2) 65 (zI Tryz.f65 0) ⟨[(0, vq (zt za) a0), (1, vi a1), (5, vi v2)], [], 0⟩ fun o => match o with | .inl o_0 => (.ret, ⟨[(4, vi o_0)], [], 0⟩) | .inr (⟨o_1_0, o_1_1⟩) => (.exit 0, ⟨[(0, vq (zt za) a0), (1, vi o_1_0), (5, vi o_1_1), (9, vb false)], [], 0⟩) := by
  induction m with
  | zero => intro a1 v2 o h; cases h
  | succ m ih => exact fun a1 v2 => tlp (
   .le (zt za) a0 <|
   .lI v2 (a0.length : Int) (fun c1 =>
    .na v2 fun i2 =>
    .ix0 (zt za) a0 i2 fun x3 =>
    .cl (xO x3 a1) fun r4 =>
    .lI r4 0 (fun c5 =>
     .ret (.inl (-1))) fun c5 =>
    .go (ih r4 (w64 (v2 + 1)))) fun c1 =>
   .ret (.inr (a1, v2)))
def ZU (n : Nat) (a0 : (List (List UInt8))) (a1 : Int) : Option Int :=
 (xC a0 n a1 0).bind fun o1 =>
 match o1 with
 | .inl o1_0 =>
  some o1_0
 | .inr (⟨o1_1_0, o1_1_1⟩) =>
  some o1_1_0
theorem RM (n : Nat) : Ws (ZU n) := fun a0 a1 => tc (
 .l2 (Jr a0 n a1 0) (fun o1_0 =>
  .ret o1_0) fun ⟨o1_1_0, o1_1_1⟩ =>
 .ret o1_1_0) (zf Tryz.func65)
theorem Pg {a : List (List UInt8)} : ∀ (l p : List (List UInt8)) (k : Int) (m : Nat), a = p ++ l → mBB k l = l → 0 <= k → k + 2 * bsz l <= 2 ^ 41 → p.length + l.length <= 2 ^ 41 → l.length < m → ∃ z, xC a m k (p.length : Int) = some (.inr (k + cB l, z)) := by
 intro l
 induction l with
 | nil =>
  intro p k m ha _ _ _ _ hm
  subst ha
  obtain ⟨m, rfl, _⟩ := zg hm
  exact ⟨_, by rw [xC, if_neg (wc p)]; simp [cB]; rfl⟩
 | cons x l ih =>
  intro p k m ha hm0 h0 h1 h2 hm
  obtain ⟨m, rfl, hm'⟩ := zg hm
  rw [Nt] at h1
  simp only [List.length_cons] at h2 hm'
  rw [mBB] at hm0
  obtain ⟨e1, e2⟩ := List.cons.inj hm0
  obtain ⟨z, hz⟩ := ih (p ++ [x]) (k + x.length) m (by rw [ha]; simp) e2 (by omega) (by omega) (by simp; omega) (by omega)
  refine ⟨z, ?_⟩
  rw [xC, if_pos (by rw [ha]; exact vE p x l), zb, Option.bind_some, show a[p.length]? = some x by rw [ha]; exact zF p x l, Option.bind_some, js e1 (by omega) (by omega), Option.bind_some, if_neg (by omega), y4 p x (by omega), hz, Gy]
  rw [show k + (x.length : Int) + (cB l : Int) = k + ((x.length + cB l : Nat) : Int) by omega]
def yI (a0 : (List (List UInt8))) (a1 : Int) : Option Int := if mBB a1 a0 = a0 ∧ 0 <= a1 ∧ a1 + 2 * bsz a0 <= 2 ^ 41 then some (a1 + cB a0) else none
theorem vD {a : Int} {s : List (List UInt8)} (h : mBB a s = s) (h0 : 0 <= a) (h1 : a + 2 * bsz s <= 2 ^ 41) : yI s a = some (a + cB s) := if_pos ⟨h, h0, h1⟩
theorem JW (a0 : (List (List UInt8))) (a1 : Int) (r : Int) (h : yI a0 a1 = some r) : ∃ n, ZU n a0 a1 = some r := by
 unfold yI at h
 obtain ⟨⟨he, h0, h1⟩, h⟩ := zB h
 have := qv a0
 obtain ⟨z, hz⟩ := Pg (a := a0) a0 [] a1 (a0.length + 1) rfl he h0 h1 (by simp; omega) (by omega)
 refine ⟨a0.length + 1, ?_⟩
 unfold ZU
 simp only [List.length_nil, Int.natCast_zero] at hz
 rw [hz]
 exact h
theorem qF : Ws yI := fun a0 a1 r h => (JW a0 a1 r h).elim fun n hn => RM n a0 a1 r hn
end
end Go.Am.Try
