
/- The functions of the program in plain Lean, and that the machine answers as they do; conditions at each theorem. -/
import Derived.Test.YtjmhaigcaidloaaGreatDoorKG3
set_option linter.unusedVariables false
set_option linter.unusedSimpArgs false
namespace Go.Am.Try
open Go.Am Go.Proofs
set_option linter.unusedVariables false
set_option maxRecDepth 20000
set_option maxHeartbeats 2000000
noncomputable section
def wM (a0 : GState) (a1 : GEvent) : Option (GState × Bool) :=
 (yD a0).bind fun r1 =>
 (kr a0 a1).bind fun r2 =>
 match r2 with
 | true =>
  (yh (GState.mk (w64 (r1.Serial + 1)) r1.Open r1.Pending r1.Act r1.Entries) a1.Addr).bind fun ⟨r3_0, r3_1⟩ =>
  if a1.Kind = 0 then
   some ((GState.mk (w64 (r1.Serial + 1)) true r1.Pending r1.Act r1.Entries), true)
  else
  if a1.Kind = 1 then
   (zQ a1.Addr).bind fun r6 =>
   some ((GState.mk (w64 (r1.Serial + 1)) r1.Open r6 a1.Act r1.Entries), true)
  else
  if a1.Kind = 2 then
   (zQ a1.Addr).bind fun r7 =>
   (yW a1.Val).bind fun r8 =>
   (yx a1.Deps).bind fun r9 =>
   match r3_1 with
   | true =>
    (zv r3_0).bind fun i10 =>
    (r1.Entries[i10]?).bind fun x11 =>
    some ((GState.mk (w64 (r1.Serial + 1)) r1.Open [] 0 (r1.Entries.set i10 (GEntry.mk r7 r8 r9 false (w64 (r1.Serial + 1))))), true)
   | false =>
    (wE r3_0 r1.Entries [(GEntry.mk r7 r8 r9 false (w64 (r1.Serial + 1)))]).bind fun r10 =>
    some ((GState.mk (w64 (r1.Serial + 1)) r1.Open [] 0 r10), true)
  else
  if a1.Kind = 3 then
   (wF r3_0 (w64 (r3_0 + 1)) r1.Entries).bind fun r8 =>
   some ((GState.mk (w64 (r1.Serial + 1)) r1.Open [] 0 r8), true)
  else
  if a1.Kind = 4 then
   (qC false (w64 (r1.Serial + 1)) r1.Open r1.Act r1.Pending r1.Entries).bind fun r9 =>
   some ((GState.mk r9.Serial true [] 0 r9.Entries), true)
  else
  if a1.Kind = 6 then
   (qC true (w64 (r1.Serial + 1)) r1.Open r1.Act r1.Pending r1.Entries).bind fun r10 =>
   some ((GState.mk r10.Serial false [] 0 r10.Entries), true)
  else
  if a1.Kind = 5 then
   some ((GState.mk (w64 (r1.Serial + 1)) false [] 0 r1.Entries), true)
  else
  some ((GState.mk (w64 (r1.Serial + 1)) r1.Open [] 0 r1.Entries), true)
 | false =>
  some (r1, false)
theorem TJ (a0 : GState) (a1 : GEvent) : Oc (wM a0 a1) 80 [] [.val true (zX a0), .val true (qw a1)] fun r => (.tup [(true, (X3 r.1)), (false, [.bool r.2])], []) := tc (
 .cl (ZT a0) fun r1 =>
 .cl (VO a0 a1) fun r2 =>
 .vN 0 r2 (
  .vw zG r1.Pending <|
  .vo zN r1.Entries <|
  .cl (qR (GState.mk (w64 (r1.Serial + 1)) r1.Open r1.Pending r1.Act r1.Entries) a1.Addr) fun ⟨r3_0, r3_1⟩ =>
  .eI a1.Kind 0 (fun c4 =>
   .ret ((GState.mk (w64 (r1.Serial + 1)) true r1.Pending r1.Act r1.Entries), true)) fun c4 =>
  .eI a1.Kind 1 (fun c5 =>
   .cl (xe a1.Addr) fun r6 =>
   .ret ((GState.mk (w64 (r1.Serial + 1)) r1.Open r6 a1.Act r1.Entries), true)) fun c5 =>
  .eI a1.Kind 2 (fun c6 =>
   .cl (xe a1.Addr) fun r7 =>
   .cl (ZS a1.Val) fun r8 =>
   .cl (kq a1.Deps) fun r9 =>
   .vM 0 r3_1 (
    .na r3_0 fun i10 =>
    .ix z8 r1.Entries i10 fun x11 =>
    .ag 0 <|
    .sl (z8 (GEntry.mk r7 r8 r9 false (w64 (r1.Serial + 1)))) r1.Entries i10 <|
    .ret ((GState.mk (w64 (r1.Serial + 1)) r1.Open [] 0 (r1.Entries.set i10 (GEntry.mk r7 r8 r9 false (w64 (r1.Serial + 1))))), true)) <|
   .cl (Yh r3_0 r1.Entries [(GEntry.mk r7 r8 r9 false (w64 (r1.Serial + 1)))]) fun r10 =>
   .ret ((GState.mk (w64 (r1.Serial + 1)) r1.Open [] 0 r10), true)) fun c6 =>
  .eI a1.Kind 3 (fun c7 =>
   .cl (QU r3_0 (w64 (r3_0 + 1)) r1.Entries) fun r8 =>
   .ret ((GState.mk (w64 (r1.Serial + 1)) r1.Open [] 0 r8), true)) fun c7 =>
  .eI a1.Kind 4 (fun c8 =>
   .q (.eFo a1.Kind 6 (by omega)) <|
   .cl (Xh false (w64 (r1.Serial + 1)) r1.Open r1.Act r1.Pending r1.Entries) fun r9 =>
   .q (.eT c8) <|
   .ret ((GState.mk r9.Serial true [] 0 r9.Entries), true)) fun c8 =>
  .eI a1.Kind 6 (fun c9 =>
   .q (.eT c9) <|
   .cl (Xh true (w64 (r1.Serial + 1)) r1.Open r1.Act r1.Pending r1.Entries) fun r10 =>
   .q (.eF c8) <|
   .ret ((GState.mk r10.Serial false [] 0 r10.Entries), true)) fun c9 =>
  .eI a1.Kind 5 (fun c10 =>
   .ret ((GState.mk (w64 (r1.Serial + 1)) false [] 0 r1.Entries), true)) fun c10 =>
  .ret ((GState.mk (w64 (r1.Serial + 1)) r1.Open [] 0 r1.Entries), true)) <|
 .ret (r1, false)) (zf Tryz.func80)
def Y3 (F : GHistory → Option ((List GState) × Bool)) : Prop := ∀ (a0 : GHistory), Oc (F a0) 91 [] [.val true (yj a0)] fun r => (.tup [(false, [.own 5 (eL Zx r.1)]), (false, [.bool r.2])], [])
def yO (v0 : (List GEvent)) (v1 : Int) : Nat → Int → (List GState) → Option ((Bool × (List GState)) ⊕ (Int × (List GState)))
  | 0, _, _ => none
  | m + 1, v2, v3 =>
  if v2 < v1 then
   (zv v2).bind fun i2 =>
   (v0[i2]?).bind fun x3 =>
   (ZH x3).bind fun r4 =>
   match r4 with
   | true =>
    (v3[i2]?).bind fun x5 =>
    (wM x5 x3).bind fun ⟨r6_0, r6_1⟩ =>
    ((v3.set i2 x5)[i2]?).bind fun x7 =>
    match r6_1 with
    | true =>
     if yl 72 (((v3.set i2 x5).set i2 (GState.mk x7.Serial x7.Open x7.Pending x7.Act x5.Entries)).length + [r6_0].length) then
     yO v0 v1 m (w64 (v2 + 1)) (((v3.set i2 x5).set i2 (GState.mk x7.Serial x7.Open x7.Pending x7.Act x5.Entries)) ++ [r6_0])
     else none
    | false =>
     some (.inl (false, []))
   | false =>
    some (.inl (false, []))
  else
  some (.inr (v2, v3))
theorem W7 (v0 : (List GEvent)) (v1 : Int) (m : Nat) : ∀ (v2 : Int) (v3 : (List GState)), Ol (yO v0 v1 m v2 v3) 91 (zJ Tryz.f91 0) ⟨[(4, vr 0), (33, vq zw v0), (34, vi v1), (35, vi v2)], [.obj 5 (eL Zx v3)], 0⟩ fun o => match o with | .inl ⟨o_0_0, o_0_1⟩ => (.ret, ⟨[(2, vr 0), (3, vb o_0_0)], [.obj 5 (eL Zx o_0_1)], 0⟩) | .inr (⟨o_1_0, o_1_1⟩) => (.exit 0, ⟨[(4, vr 0), (33, vq zw v0), (34, vi v1), (35, vi o_1_0), (36, vb false)], [.obj 5 (eL Zx o_1_1)], 0⟩) := by
  induction m with
  | zero => intro v2 v3 o h; cases h
  | succ m ih => exact fun v2 v3 => tlp (
   .lI v2 v1 (fun c1 =>
    .na v2 fun i2 =>
    .ix xW v0 i2 fun x3 =>
    .cl (UU x3) fun r4 =>
    .vN 0 r4 (
     .ag 3 <|
     .ix Xc v3 i2 fun x5 =>
     .ag 0 <|
     .vw zG x5.Pending <|
     .vo zN x5.Entries <|
     .cl (TJ x5 x3) fun ⟨r6_0, r6_1⟩ =>
     .cn jt r6_0.Pending <|
     .cn zN r6_0.Entries <|
     .ag 1 <|
     .sl (Xc x5) v3 i2 <|
     .ix Xc (v3.set i2 x5) i2 fun x7 =>
     .sl (Xc (GState.mk x7.Serial x7.Open x7.Pending x7.Act x5.Entries)) (v3.set i2 x5) i2 <|
     .vN 0 r6_1 (
      .ao 72 B9 ((v3.set i2 x5).set i2 (GState.mk x7.Serial x7.Open x7.Pending x7.Act x5.Entries)) [r6_0] fun n8 =>
      .go (ih (w64 (v2 + 1)) (((v3.set i2 x5).set i2 (GState.mk x7.Serial x7.Open x7.Pending x7.Act x5.Entries)) ++ [r6_0]))) <|
     .ret (.inl (false, []))) <|
    .ret (.inl (false, []))) fun c1 =>
   .ret (.inr (v2, v3)))
def qS (n : Nat) (a0 : GHistory) : Option ((List GState) × Bool) :=
 (kL a0.Base).bind fun r1 =>
 match r1 with
 | true =>
  if 300 < (a0.Events.length : Int) then
   some ([], false)
  else
  (yA a0.Safe 0 (a0.Events.length : Int)).bind fun r3 =>
  match r3 with
  | true =>
   (yD a0.Base).bind fun r4 =>
   (yO a0.Events (a0.Events.length : Int) n 0 [r4]).bind fun o5 =>
   match o5 with
   | .inl ⟨o5_0_0, o5_0_1⟩ =>
    some (o5_0_1, o5_0_0)
   | .inr (⟨o5_1_0, o5_1_1⟩) =>
    some (o5_1_1, true)
  | false =>
   some ([], false)
 | false =>
  some ([], false)
theorem Jm (n : Nat) : Y3 (qS n) := fun a0 => tc (
 .cl (UT a0.Base) fun r1 =>
 .vN 0 r1 (
  .an 0 0 <|
  .an 0 0 <|
  .le zw a0.Events <|
  .an 0 0 <|
  .lI 300 (a0.Events.length : Int) (fun c2 =>
   .an 0 0 <|
   .ret ([], false)) fun c2 =>
  .an 0 0 <|
  .le zw a0.Events <|
  .cl (wK a0.Safe 0 (a0.Events.length : Int)) fun r3 =>
  .vN 2 r3 (
   .cl (ZT a0.Base) fun r4 =>
   .le zw a0.Events <|
   .l2 (W7 a0.Events (a0.Events.length : Int) n 0 [r4]) (fun ⟨o5_0_0, o5_0_1⟩ =>
    .ret (o5_0_1, o5_0_0)) fun ⟨o5_1_0, o5_1_1⟩ =>
   .ret (o5_1_1, true)) <|
  .ret ([], false)) <|
 .an 0 0 <|
 .an 0 0 <|
 .an 0 0 <|
 .an 0 0 <|
 .ret ([], false)) (zf Tryz.func91)
def w7 (a0 : GHistory) : Option ((List GState) × Bool) := qS (a0.Events.length + 5) a0
theorem Qc (a0 : GHistory) (r : ((List GState) × Bool)) (h : w7 a0 = some r) : ∃ n, qS n a0 = some r := ⟨_, h⟩
theorem QR : Y3 w7 := fun a0 r h => (Qc a0 r h).elim fun n hn => Jm n a0 r hn
def vl (a0 : GEvent) : Option GEvent :=
 (zQ a0.Addr).bind fun r1 =>
 (yW a0.Val).bind fun r2 =>
 (yx a0.Deps).bind fun r3 =>
 some (GEvent.mk a0.Kind r1 a0.Act r2 r3)
theorem RG (a0 : GEvent) : Oc (vl a0) 104 [] [.val true (qw a0)] fun r => (.val true (Kh r), []) := tc (
 .cl (xe a0.Addr) fun r1 =>
 .cl (ZS a0.Val) fun r2 =>
 .cl (kq a0.Deps) fun r3 =>
 .ret (GEvent.mk a0.Kind r1 a0.Act r2 r3)) (zf Tryz.func104)
def XN (F : GHistory → Option GHistory) : Prop := ∀ (a0 : GHistory), Oc (F a0) 100 [] [.val true (yj a0)] fun r => (.val true (Xd r), [])
def xm (v0 : (List GEvent)) (v1 : Int) (v3 : Int) (v4 : Bool) (v5 : Int) (v6 : Int) (v7 : Int) (v8 : Bool) (v9 : Int) (v10 : Int) (v11 : (List UInt8)) (v12 : (List GEntry)) (v13 : (List GEvent)) (v14 : (List UInt8)) (v15 : (List GEntry)) : Nat → Int → (List GEvent) → Option (Int × (List GEvent))
  | 0, _, _ => none
  | m + 1, v2, v16 =>
  if v2 < v1 then
   (zv v2).bind fun i2 =>
   (v0[i2]?).bind fun x3 =>
   (vl x3).bind fun r4 =>
   if yl 152 (v16.length + [r4].length) then
   xm v0 v1 v3 v4 v5 v6 v7 v8 v9 v10 v11 v12 v13 v14 v15 m (w64 (v2 + 1)) (v16 ++ [r4])
   else none
  else
  some (v2, v16)
theorem QS (v0 : (List GEvent)) (v1 : Int) (v3 : Int) (v4 : Bool) (v5 : Int) (v6 : Int) (v7 : Int) (v8 : Bool) (v9 : Int) (v10 : Int) (v11 : (List UInt8)) (v12 : (List GEntry)) (v13 : (List GEvent)) (v14 : (List UInt8)) (v15 : (List GEntry)) (m : Nat) : ∀ (v2 : Int) (v16 : (List GEvent)), Ol (xm v0 v1 v3 v4 v5 v6 v7 v8 v9 v10 v11 v12 v13 v14 v15 m v2 v16) 100 (zJ Tryz.f100 0) ⟨[(2, vp 0 0), (3, vp 1 0), (13, vq zw v0), (14, vi v1), (15, vi v2)], [.var [ci v3, .bool v4, .ref 2, ci v5, .ref 3, .ref 4, ci v6], .var [ci v7, .bool v8, .ref 5, ci v9, .ref 6, .ref 7, ci v10], .obj 1 (eL za v11), .obj 9 (eL zr v12), .obj 9 (eL yq v13), .obj 1 (eL za v14), .obj 9 (eL zr v15), .obj 9 (eL yq v16)], 0⟩ fun o => match o with | ⟨o_0, o_1⟩ => (.exit 0, ⟨[(2, vp 0 0), (3, vp 1 0), (13, vq zw v0), (14, vi v1), (15, vi o_0), (16, vb false)], [.var [ci v3, .bool v4, .ref 2, ci v5, .ref 3, .ref 4, ci v6], .var [ci v7, .bool v8, .ref 5, ci v9, .ref 6, .ref 7, ci v10], .obj 1 (eL za v11), .obj 9 (eL zr v12), .obj 9 (eL yq v13), .obj 1 (eL za v14), .obj 9 (eL zr v15), .obj 9 (eL yq o_1)], 0⟩) := by
  induction m with
  | zero => intro v2 v16 o h; cases h
  | succ m ih => exact fun v2 v16 => tlp (
   .lI v2 v1 (fun c1 =>
    .na v2 fun i2 =>
    .ix xW v0 i2 fun x3 =>
    .cl (RG x3) fun r4 =>
    .ao 152 zY v16 [r4] fun n5 =>
    .go (ih (w64 (v2 + 1)) (v16 ++ [r4]))) fun c1 =>
   .ret (v2, v16))
def Zw (n : Nat) (a0 : GHistory) : Option GHistory :=
 (yD a0.Base).bind fun r1 =>
 (xm a0.Events (a0.Events.length : Int) 0 false 0 0 r1.Serial r1.Open r1.Act a0.Safe [] [] [] r1.Pending r1.Entries n 0 []).bind fun ⟨o2_0, o2_1⟩ =>
 some (GHistory.mk r1 o2_1 a0.Safe)
theorem VP (n : Nat) : XN (Zw n) := fun a0 => tc (
 .cl (ZT a0.Base) fun r1 =>
 .le zw a0.Events <|
 .lp (QS a0.Events (a0.Events.length : Int) 0 false 0 0 r1.Serial r1.Open r1.Act a0.Safe [] [] [] r1.Pending r1.Entries n 0 []) fun ⟨o2_0, o2_1⟩ =>
 .ret (GHistory.mk r1 o2_1 a0.Safe)) (zf Tryz.func100)
theorem H3 {e : GEvent} (h : xg e <= 2 ^ 38) : vl e = some e := by
 unfold xg at h
 unfold vl zQ yW yx
 rw [if_pos (xF (by decide) (by omega)), oB, if_pos (by omega), oB, if_pos (by omega), oB]
 cases e; rfl
theorem H4 {a : List GEvent} {v3 : Int} {v4 : Bool} {v5 v6 v7 : Int} {v8 : Bool} {v9 v10 : Int} {v11 : List UInt8} {v12 : List GEntry} {v13 : List GEvent} {v14 : List UInt8} {v15 : List GEntry} (ha : zP a <= 2 ^ 38) : ∀ (l p : List GEvent) (m : Nat), a = p ++ l → l.length < m → ∃ z, xm a (a.length : Int) v3 v4 v5 v6 v7 v8 v9 v10 v11 v12 v13 v14 v15 m (p.length : Int) p = some (z, a) := by
 have hl := qI a
 intro l
 induction l with
 | nil =>
  intro p m he hm
  obtain ⟨m, rfl, _⟩ := zg hm
  exact ⟨_, by rw [xm, he, List.append_nil, if_neg (by omega)]⟩
 | cons x l ih =>
  intro p m he hm
  obtain ⟨m, rfl, hm'⟩ := zg hm
  have hx : 1 + xg x <= zP a := XR (by rw [he]; simp)
  have hlen : a.length = p.length + (l.length + 1) := by rw [he]; simp
  obtain ⟨z, hz⟩ := ih (p ++ [x]) m (by rw [he]; simp) (by simp only [List.length_cons] at hm'; omega)
  refine ⟨z, ?_⟩
  rw [xm, if_pos (by omega), zb, oB, show a[p.length]? = some x by rw [he]; exact zF p x l, oB, H3 (by omega), oB, if_pos (jl (by simp only [List.length_cons, List.length_nil]; omega)), y4 p x (by omega), hz]
def qD (a0 : GHistory) : Option GHistory := if ssz a0.Base + zP a0.Events <= 2 ^ 38 then some a0 else none
theorem Jn (a0 : GHistory) (r : GHistory) (h : qD a0 = some r) : ∃ n, Zw n a0 = some r := by
 unfold qD at h
 obtain ⟨ha, h⟩ := zB h
 refine ⟨a0.Events.length + 1, ?_⟩
 unfold Zw yD
 obtain ⟨z, hz⟩ := H4 (a := a0.Events) (v3 := 0) (v4 := false) (v5 := 0) (v6 := 0) (v7 := a0.Base.Serial) (v8 := a0.Base.Open) (v9 := a0.Base.Act) (v10 := a0.Safe) (v11 := []) (v12 := []) (v13 := []) (v14 := a0.Base.Pending) (v15 := a0.Base.Entries) (by omega) a0.Events [] (a0.Events.length + 1) rfl (by omega)
 simp only [List.length_nil, Int.natCast_zero] at hz
 rw [if_pos (by omega), oB, hz, <- h]
 cases a0; rfl
theorem KN : XN qD := fun a0 r h => (Jn a0 r h).elim fun n hn => VP n a0 r hn
def jU (a0 : GHistory) (a1 : Int) : Option (GHistory × Bool) :=
 (w7 a0).bind fun ⟨r1_0, r1_1⟩ =>
 match r1_1 with
 | true =>
  (yA a1 a0.Base.Serial (w64 (a0.Base.Serial + a0.Safe))).bind fun r2 =>
  match r2 with
  | true =>
   (qD a0).bind fun r3 =>
   (zv (w64 (a1 - a0.Base.Serial))).bind fun i4 =>
   (r1_0[i4]?).bind fun x5 =>
   (wl r3.Events (some i4) none).bind fun s6 =>
   if yl 152 (0 + s6.length) then
   some ((GHistory.mk x5 s6 (w64 (a0.Safe - (w64 (a1 - a0.Base.Serial))))), true)
   else none
  | false =>
   some ((GHistory.mk (GState.mk 0 false [] 0 []) [] 0), false)
 | false =>
  some ((GHistory.mk (GState.mk 0 false [] 0 []) [] 0), false)
theorem KO (a0 : GHistory) (a1 : Int) : Oc (jU a0 a1) 45 [] [.val true (yj a0), vi a1] fun r => (.tup [(true, (Xd r.1)), (false, [.bool r.2])], []) := tc (
 .cl (QR a0) fun ⟨r1_0, r1_1⟩ =>
 .vN 0 r1_1 (
  .an 0 0 <|
  .an 0 0 <|
  .an 0 0 <|
  .an 0 0 <|
  .an 0 0 <|
  .an 0 0 <|
  .an 0 0 <|
  .an 0 0 <|
  .an 0 0 <|
  .an 0 0 <|
  .cl (wK a1 a0.Base.Serial (w64 (a0.Base.Serial + a0.Safe))) fun r2 =>
  .an 0 1 <|
  .an 0 1 <|
  .vN 0 r2 (
   .cl (KN a0) fun r3 =>
   .na (w64 (a1 - a0.Base.Serial)) fun i4 =>
   .ix Xc r1_0 i4 fun x5 =>
   .ag 0 <|
   .ag 1 <|
   .ct yq r3.Events (some i4) none fun s6 =>
   .ao 152 zY [] s6 fun n7 =>
   .ret ((GHistory.mk x5 s6 (w64 (a0.Safe - (w64 (a1 - a0.Base.Serial))))), true)) <|
  .ret ((GHistory.mk (GState.mk 0 false [] 0 []) [] 0), false)) <|
 .an 0 0 <|
 .an 0 0 <|
 .an 0 0 <|
 .an 0 0 <|
 .an 0 0 <|
 .an 0 0 <|
 .an 0 0 <|
 .an 0 0 <|
 .an 0 0 <|
 .an 0 0 <|
 .an 0 0 <|
 .an 0 0 <|
 .ret ((GHistory.mk (GState.mk 0 false [] 0 []) [] 0), false)) (zf Tryz.func45)
def Jo (F : (List UInt8) → (List UInt8) → Option Bool) : Prop := ∀ (a0 : (List UInt8)) (a1 : (List UInt8)), Oc (F a0 a1) 38 [] [vq za a0, vq za a1] fun r => (vb r, [])
def wR (a0 : (List UInt8)) (a1 : (List UInt8)) : Nat → Int → Option (Bool ⊕ Int)
  | 0, _ => none
  | m + 1, v2 =>
  if v2 < (a0.length : Int) then
   (zv v2).bind fun i2 =>
   (a0[i2]?).bind fun x3 =>
   (a1[i2]?).bind fun x4 =>
   if ((x3.toNat : Nat) : Int) = ((x4.toNat : Nat) : Int) then
    wR a0 a1 m (w64 (v2 + 1))
   else
   some (.inl false)
  else
  some (.inr v2)
theorem VQ (a0 : (List UInt8)) (a1 : (List UInt8)) (m : Nat) : ∀ (v2 : Int), Ol (wR a0 a1 m v2) 38 (zJ Tryz.f38 0) ⟨[(0, vq za a0), (1, vq za a1), (5, vi v2)], [], 0⟩ fun o => match o with | .inl o_0 => (.ret, ⟨[(4, vb o_0)], [], 0⟩) | .inr (o_1) => (.exit 0, ⟨[(0, vq za a0), (1, vq za a1), (5, vi o_1), (14, vb false)], [], 0⟩) := by
  induction m with
  | zero => intro v2 o h; cases h
  | succ m ih => exact fun v2 => tlp (
   .le za a0 <|
   .lI v2 (a0.length : Int) (fun c1 =>
    .na v2 fun i2 =>
    .ix0 za a0 i2 fun x3 =>
    .ag 1 <|
    .ix0 za a1 i2 fun x4 =>
    .eI ((x3.toNat : Nat) : Int) ((x4.toNat : Nat) : Int) (fun c5 =>
     .go (ih (w64 (v2 + 1)))) fun c5 =>
    .ret (.inl false)) fun c1 =>
   .ret (.inr v2))
def Xw (n : Nat) (a0 : (List UInt8)) (a1 : (List UInt8)) : Option Bool :=
 if (a0.length : Int) = (a1.length : Int) then
  (wR a0 a1 n 0).bind fun o2 =>
  match o2 with
  | .inl o2_0 =>
   some o2_0
  | .inr (o2_1) =>
   some true
 else
 some false
theorem Ov (n : Nat) : Jo (Xw n) := fun a0 a1 => tc (
 .le za a0 <|
 .le za a1 <|
 .eI (a0.length : Int) (a1.length : Int) (fun c1 =>
  .l2 (VQ a0 a1 n 0) (fun o2_0 =>
   .ret o2_0) fun o2_1 =>
  .ret true) fun c1 =>
 .ret false) (zf Tryz.func38)
theorem Ng {a : List UInt8} (ha : a.length <= 2 ^ 40) : ∀ (d i m : Nat), i + d = a.length → d < m → ∃ z, wR a a m (i : Int) = some (.inr z) := by
 intro d
 induction d with
 | zero =>
  intro i m hi hm
  obtain ⟨m, rfl, _⟩ := zg hm
  exact ⟨_, by rw [wR, if_neg (by omega)]⟩
 | succ d ih =>
  intro i m hi hm
  obtain ⟨m, rfl, hm'⟩ := zg hm
  have hil : i < a.length := by omega
  rw [wR, if_pos (by omega), zb, oB, zl hil, oB, oB, if_pos rfl, zH (by omega)]
  exact ih (i + 1) m (by omega) (by omega)
def yo (a0 : (List UInt8)) (a1 : (List UInt8)) : Option Bool := if a0 = a1 ∧ a0.length <= 2 ^ 40 then some true else none
theorem RH (a0 : (List UInt8)) (a1 : (List UInt8)) (r : Bool) (h : yo a0 a1 = some r) : ∃ n, Xw n a0 a1 = some r := by
 unfold yo at h
 obtain ⟨⟨he, ha⟩, h2⟩ := zB h
 clear h
 subst he
 refine ⟨a0.length + 1, ?_⟩
 obtain ⟨z, hz⟩ := Ng ha a0.length 0 (a0.length + 1) (by omega) (by omega)
 rw [show ((0 : Nat) : Int) = 0 from rfl] at hz
 unfold Xw
 rw [if_pos rfl, hz]; exact h2
theorem qT : Jo yo := fun a0 a1 r h => (RH a0 a1 r h).elim fun n hn => Ov n a0 a1 r hn
def QD (F : (List (List UInt8)) → (List (List UInt8)) → Option Bool) : Prop := ∀ (a0 : (List (List UInt8))) (a1 : (List (List UInt8))), Oc (F a0 a1) 63 [] [vq (zt za) a0, vq (zt za) a1] fun r => (vb r, [])
def w8 (a0 : (List (List UInt8))) (a1 : (List (List UInt8))) : Nat → Int → Option (Bool ⊕ Int)
  | 0, _ => none
  | m + 1, v2 =>
  if v2 < (a0.length : Int) then
   (zv v2).bind fun i2 =>
   (a0[i2]?).bind fun x3 =>
   (a1[i2]?).bind fun x4 =>
   (yo x3 x4).bind fun r5 =>
   match r5 with
   | true =>
    w8 a0 a1 m (w64 (v2 + 1))
   | false =>
    some (.inl false)
  else
  some (.inr v2)
theorem KP (a0 : (List (List UInt8))) (a1 : (List (List UInt8))) (m : Nat) : ∀ (v2 : Int), Ol (w8 a0 a1 m v2) 63 (zJ Tryz.f63 0) ⟨[(0, vq (zt za) a0), (1, vq (zt za) a1), (5, vi v2)], [], 0⟩ fun o => match o with | .inl o_0 => (.ret, ⟨[(4, vb o_0)], [], 0⟩) | .inr (o_1) => (.exit 0, ⟨[(0, vq (zt za) a0), (1, vq (zt za) a1), (5, vi o_1), (14, vb false)], [], 0⟩) := by
  induction m with
  | zero => intro v2 o h; cases h
  | succ m ih => exact fun v2 => tlp (
   .le (zt za) a0 <|
   .lI v2 (a0.length : Int) (fun c1 =>
    .na v2 fun i2 =>
    .ix0 (zt za) a0 i2 fun x3 =>
    .ag 1 <|
    .ix0 (zt za) a1 i2 fun x4 =>
    .cl (qT x3 x4) fun r5 =>
    .vN 0 r5 (
     .go (ih (w64 (v2 + 1)))) <|
    .ret (.inl false)) fun c1 =>
   .ret (.inr v2))
def YW (n : Nat) (a0 : (List (List UInt8))) (a1 : (List (List UInt8))) : Option Bool :=
 if (a0.length : Int) = (a1.length : Int) then
  (w8 a0 a1 n 0).bind fun o2 =>
  match o2 with
  | .inl o2_0 =>
   some o2_0
  | .inr (o2_1) =>
   some true
 else
 some false
theorem UV (n : Nat) : QD (YW n) := fun a0 a1 => tc (
 .le (zt za) a0 <|
 .le (zt za) a1 <|
 .eI (a0.length : Int) (a1.length : Int) (fun c1 =>
  .l2 (KP a0 a1 n 0) (fun o2_0 =>
   .ret o2_0) fun o2_1 =>
  .ret true) fun c1 =>
 .ret false) (zf Tryz.func63)
theorem LC {a : List (List UInt8)} (ha : bsz a <= 2 ^ 40) : ∀ (d i m : Nat), i + d = a.length → d < m → ∃ z, w8 a a m (i : Int) = some (.inr z) := by
 have hl := qx a
 intro d
 induction d with
 | zero =>
  intro i m hi hm
  obtain ⟨m, rfl, _⟩ := zg hm
  exact ⟨_, by rw [w8, if_neg (by omega)]⟩
 | succ d ih =>
  intro i m hi hm
  obtain ⟨m, rfl, hm'⟩ := zg hm
  have hil : i < a.length := by omega
  have hx := ZM (List.getElem_mem hil)
  rw [w8, if_pos (by omega), zb, oB, zl hil, oB, oB]
  unfold yo
  rw [if_pos ⟨rfl, by omega⟩, oB, zH (by omega)]
  exact ih (i + 1) m (by omega) (by omega)
def xj (a0 : (List (List UInt8))) (a1 : (List (List UInt8))) : Option Bool := if a0 = a1 ∧ bsz a0 <= 2 ^ 40 then some true else none
theorem VR (a0 : (List (List UInt8))) (a1 : (List (List UInt8))) (r : Bool) (h : xj a0 a1 = some r) : ∃ n, YW n a0 a1 = some r := by
 unfold xj at h
 obtain ⟨⟨he, ha⟩, h2⟩ := zB h
 clear h
 subst he
 have hl := qx a0
 refine ⟨a0.length + 1, ?_⟩
 obtain ⟨z, hz⟩ := LC ha a0.length 0 (a0.length + 1) (by omega) (by omega)
 rw [show ((0 : Nat) : Int) = 0 from rfl] at hz
 unfold YW
 rw [if_pos rfl, hz]; exact h2
theorem Yw : QD xj := fun a0 a1 r h => (VR a0 a1 r h).elim fun n hn => UV n a0 a1 r hn
def Ze (F : (List GValue) → (List GValue) → Option Bool) : Prop := ∀ (a0 : (List GValue)) (a1 : (List GValue)), Oc (F a0 a1) 144 [] [vq zh a0, vq zh a1] fun r => (vb r, [])
def kM (F : GValue → GValue → Option Bool) : Prop := ∀ (a0 : GValue) (a1 : GValue), Oc (F a0 a1) 82 [] [.val true (zC a0), .val true (zC a1)] fun r => (vb r, [])
def w9 (G_laws_eqValue : GValue → GValue → Option Bool) (a0 : (List GValue)) (a1 : (List GValue)) : Nat → Int → Option (Bool ⊕ Int)
  | 0, _ => none
  | m + 1, v2 =>
  if v2 < (a0.length : Int) then
   (zv v2).bind fun i2 =>
   (a0[i2]?).bind fun x3 =>
   (a1[i2]?).bind fun x4 =>
   (G_laws_eqValue x3 x4).bind fun r5 =>
   match r5 with
   | true =>
    w9 G_laws_eqValue a0 a1 m (w64 (v2 + 1))
   | false =>
    some (.inl false)
  else
  some (.inr v2)
theorem KQ (G_laws_eqValue : GValue → GValue → Option Bool) (H_laws_eqValue : kM G_laws_eqValue) (a0 : (List GValue)) (a1 : (List GValue)) (m : Nat) : ∀ (v2 : Int), Ol (w9 G_laws_eqValue a0 a1 m v2) 144 (zJ Tryz.f144 0) ⟨[(0, vq zh a0), (1, vq zh a1), (5, vi v2)], [], 0⟩ fun o => match o with | .inl o_0 => (.ret, ⟨[(4, vb o_0)], [], 0⟩) | .inr (o_1) => (.exit 0, ⟨[(0, vq zh a0), (1, vq zh a1), (5, vi o_1), (14, vb false)], [], 0⟩) := by
  induction m with
  | zero => intro v2 o h; cases h
  | succ m ih => exact fun v2 => tlp (
   .le zh a0 <|
   .lI v2 (a0.length : Int) (fun c1 =>
    .na v2 fun i2 =>
    .ix yu a0 i2 fun x3 =>
    .ag 1 <|
    .ix yu a1 i2 fun x4 =>
    .cl (H_laws_eqValue x3 x4) fun r5 =>
    .vN 0 r5 (
     .go (ih (w64 (v2 + 1)))) <|
    .ret (.inl false)) fun c1 =>
   .ret (.inr v2))
def Zf (G_laws_eqValue : GValue → GValue → Option Bool) (n : Nat) (a0 : (List GValue)) (a1 : (List GValue)) : Option Bool :=
 if (a0.length : Int) = (a1.length : Int) then
  (w9 G_laws_eqValue a0 a1 n 0).bind fun o2 =>
  match o2 with
  | .inl o2_0 =>
   some o2_0
  | .inr (o2_1) =>
   some true
 else
 some false
theorem UW (G_laws_eqValue : GValue → GValue → Option Bool) (H_laws_eqValue : kM G_laws_eqValue) (n : Nat) : Ze (Zf G_laws_eqValue n) := fun a0 a1 => tc (
 .le zh a0 <|
 .le zh a1 <|
 .eI (a0.length : Int) (a1.length : Int) (fun c1 =>
  .l2 (KQ G_laws_eqValue H_laws_eqValue a0 a1 n 0) (fun o2_0 =>
   .ret o2_0) fun o2_1 =>
  .ret true) fun c1 =>
 .ret false) (zf Tryz.func144)
def Xx (G_laws_eqValueS : (List GValue) → (List GValue) → Option Bool) (a0 : GValue) (a1 : GValue) : Option Bool :=
 if a0.Kind = a1.Kind then
  if a0.N = a1.N then
   (yo a0.S a1.S).bind fun r3 =>
   match r3 with
   | true =>
    (xj a0.K a1.K).bind fun r4 =>
    match r4 with
    | true =>
     (G_laws_eqValueS a0.L a1.L).bind fun r5 =>
     match r5 with
     | true =>
      some true
     | false =>
      some false
    | false =>
     some false
   | false =>
    some false
  else
  some false
 else
 some false
theorem Ow (G_laws_eqValueS : (List GValue) → (List GValue) → Option Bool) (H_laws_eqValueS : Ze G_laws_eqValueS) : kM (Xx G_laws_eqValueS) := fun a0 a1 => tc (
 .eI a0.Kind a1.Kind (fun c1 =>
  .eI a0.N a1.N (fun c2 =>
   .cl (qT a0.S a1.S) fun r3 =>
   .vN 0 r3 (
    .cl (Yw a0.K a1.K) fun r4 =>
    .vN 0 r4 (
     .cl (H_laws_eqValueS a0.L a1.L) fun r5 =>
     .vN 0 r5 (
      .ret true) <|
     .ret false) <|
    .ret false) <|
   .ret false) fun c2 =>
  .ret false) fun c1 =>
 .ret false) (zf Tryz.func82)
mutual
def xV : Nat → (List GValue) → (List GValue) → Option Bool
 | 0, _, _ => none
 | n + 1, a0, a1 => Zf (wA n) n a0 a1
def wA : Nat → GValue → GValue → Option Bool
 | 0, _, _ => none
 | n + 1, a0, a1 => Xx (xV n) a0 a1
end
theorem Wo (n : Nat) : Ze (xV n) ∧ kM (wA n) := by
 induction n with
 | zero => exact ⟨fun _ _ _ h => (by rw [xV] at h; cases h), fun _ _ _ h => (by rw [wA] at h; cases h)⟩
 | succ n ih =>
  obtain ⟨ih_laws_eqValueS, ih_laws_eqValue⟩ := ih
  exact ⟨fun a0 a1 r h => UW (wA n) ih_laws_eqValue n a0 a1 r (by rw [xV] at h; exact h),
   fun a0 a1 r h => Ow (xV n) ih_laws_eqValueS a0 a1 r (by rw [wA] at h; exact h)⟩
theorem UX {G : GValue → GValue → Option Bool} {a : List GValue} {f : Nat} (ha : a.length <= 2 ^ 40) (hf : a.length < f) (hG : ∀ v ∈ a, G v v = some true) : Zf G f a a = some true := by
 have loop : ∀ (d i m : Nat), i + d = a.length → d < m → ∃ z, w9 G a a m (i : Int) = some (.inr z) := by
  intro d
  induction d with
  | zero =>
   intro i m hi hm
   obtain ⟨m, rfl, _⟩ := zg hm
   exact ⟨_, by rw [w9, if_neg (by omega)]⟩
  | succ d ih =>
   intro i m hi hm
   obtain ⟨m, rfl, hm'⟩ := zg hm
   have hil : i < a.length := by omega
   rw [w9, if_pos (by omega), zb, oB, zl hil, oB, oB, hG _ (List.getElem_mem hil), oB, zH (by omega)]
   exact ih (i + 1) m (by omega) (by omega)
 obtain ⟨z, hz⟩ := loop a.length 0 f (by omega) (by omega)
 rw [show ((0 : Nat) : Int) = 0 from rfl] at hz
 unfold Zf
 rw [if_pos rfl, hz]; rfl
theorem OV : ∀ (N : Nat) (v : GValue), vsz v < N → vsz v <= 2 ^ 40 → ∀ f : Nat, 2 * vsz v + 3 <= f → wA f v v = some true := by
 intro N
 induction N with
 | zero => intro v hv; omega
 | succ N ih =>
  intro v hv hs f hf
  obtain ⟨f, rfl, _⟩ := zg (show 0 < f by omega)
  obtain ⟨f, rfl, _⟩ := zg (show 0 < f by omega)
  have he := xH v
  have hl := yP v.L
  rw [wA]
  unfold Xx yo xj
  rw [if_pos rfl, if_pos rfl, if_pos (show v.S = v.S ∧ v.S.length <= 2 ^ 40 from ⟨rfl, by omega⟩), oB]
  dsimp only
  rw [if_pos (show v.K = v.K ∧ bsz v.K <= 2 ^ 40 from ⟨rfl, by omega⟩), oB]
  dsimp only
  rw [xV, UX (by omega) (by omega) fun x hx => ?_]
  ·rfl
  ·have := wm hx
   exact ih x (by omega) (by omega) f (by omega)
open Classical in
noncomputable def YX (a0 : (List GValue)) (a1 : (List GValue)) : Option Bool := if a0 = a1 ∧ y6 a0 <= 2 ^ 40 then some true else none
theorem VS (a0 : (List GValue)) (a1 : (List GValue)) (r : Bool) (h : YX a0 a1 = some r) : ∃ n, xV n a0 a1 = some r := by
 unfold YX at h
 obtain ⟨⟨he, ha⟩, h2⟩ := zB h
 clear h
 subst he
 have hl := yP a0
 refine ⟨2 * y6 a0 + 5, ?_⟩
 rw [xV, UX (by omega) (by omega) fun x hx => ?_, h2]
 have := wm hx
 exact OV _ x (Nat.lt_succ_self _) (by omega) _ (by omega)
open Classical in
noncomputable def qu (a0 : GValue) (a1 : GValue) : Option Bool := if a0 = a1 ∧ vsz a0 <= 2 ^ 40 then some true else none
theorem RI (a0 : GValue) (a1 : GValue) (r : Bool) (h : qu a0 a1 = some r) : ∃ n, wA n a0 a1 = some r := by
 unfold qu at h
 obtain ⟨⟨he, ha⟩, h2⟩ := zB h
 clear h
 subst he
 exact ⟨2 * vsz a0 + 3, by rw [<- h2]; exact OV _ a0 (Nat.lt_succ_self _) ha _ (Nat.le_refl _)⟩
theorem Bw : Ze YX := by
 intro a0 a1 r h
 obtain ⟨n, hn⟩ := VS a0 a1 r h
 exact (Wo n).1 a0 a1 r hn
theorem QE : kM qu := by
 intro a0 a1 r h
 obtain ⟨n, hn⟩ := RI a0 a1 r h
 exact (Wo n).2 a0 a1 r hn
def kN (a0 : GEntry) (a1 : GEntry) : Option Bool :=
 (yo a0.Addr a1.Addr).bind fun r1 =>
 match r1 with
 | true =>
  (qu a0.Val a1.Val).bind fun r2 =>
  match r2 with
  | true =>
   (xj a0.Deps a1.Deps).bind fun r3 =>
   match r3 with
   | true =>
    if a0.Taint = true then
     if a1.Taint = true then
      if a0.Turned = a1.Turned then
       some true
      else
      some false
     else
     some false
    else
    if a1.Taint = true then
     some false
    else
    if a0.Turned = a1.Turned then
     some true
    else
    some false
   | false =>
    some false
  | false =>
   some false
 | false =>
  some false
theorem UY (a0 : GEntry) (a1 : GEntry) : Oc (kN a0 a1) 143 [] [.val true (j3 a0), .val true (j3 a1)] fun r => (vb r, []) := tc (
 .cl (qT a0.Addr a1.Addr) fun r1 =>
 .vN 0 r1 (
  .cl (QE a0.Val a1.Val) fun r2 =>
  .vN 0 r2 (
   .cl (Yw a0.Deps a1.Deps) fun r3 =>
   .vN 0 r3 (
    .sp (a0.Taint = true) (fun c4 =>
     .sp (a1.Taint = true) (fun c5 =>
      .eb c4 c5 <|
      .eI a0.Turned a1.Turned (fun c6 =>
       .ret true) fun c6 =>
      .ret false) fun c5 =>
     .eb c4 (bF c5) <|
     .ret false) fun c4 =>
    .sp (a1.Taint = true) (fun c5 =>
     .eb (bF c4) c5 <|
     .ret false) fun c5 =>
    .eb (bF c4) (bF c5) <|
    .eI a0.Turned a1.Turned (fun c6 =>
     .ret true) fun c6 =>
    .ret false) <|
   .ret false) <|
  .ret false) <|
 .ret false) (zf Tryz.func143)
def QF (F : (List GEntry) → (List GEntry) → Option Bool) : Prop := ∀ (a0 : (List GEntry)) (a1 : (List GEntry)), Oc (F a0 a1) 81 [] [vq zj a0, vq zj a1] fun r => (vb r, [])
def wB (a0 : (List GEntry)) (a1 : (List GEntry)) : Nat → Int → Option (Bool ⊕ Int)
  | 0, _ => none
  | m + 1, v2 =>
  if v2 < (a0.length : Int) then
   (zv v2).bind fun i2 =>
   (a0[i2]?).bind fun x3 =>
   (a1[i2]?).bind fun x4 =>
   (kN x3 x4).bind fun r5 =>
   match r5 with
   | true =>
    wB a0 a1 m (w64 (v2 + 1))
   | false =>
    some (.inl false)
  else
  some (.inr v2)
theorem KR (a0 : (List GEntry)) (a1 : (List GEntry)) (m : Nat) : ∀ (v2 : Int), Ol (wB a0 a1 m v2) 81 (zJ Tryz.f81 0) ⟨[(0, vq zj a0), (1, vq zj a1), (5, vi v2)], [], 0⟩ fun o => match o with | .inl o_0 => (.ret, ⟨[(4, vb o_0)], [], 0⟩) | .inr (o_1) => (.exit 0, ⟨[(0, vq zj a0), (1, vq zj a1), (5, vi o_1), (14, vb false)], [], 0⟩) := by
  induction m with
  | zero => intro v2 o h; cases h
  | succ m ih => exact fun v2 => tlp (
   .le zj a0 <|
   .lI v2 (a0.length : Int) (fun c1 =>
    .na v2 fun i2 =>
    .ix zV a0 i2 fun x3 =>
    .ag 1 <|
    .ix zV a1 i2 fun x4 =>
    .cl (UY x3 x4) fun r5 =>
    .vN 0 r5 (
     .go (ih (w64 (v2 + 1)))) <|
    .ret (.inl false)) fun c1 =>
   .ret (.inr v2))
def YY (n : Nat) (a0 : (List GEntry)) (a1 : (List GEntry)) : Option Bool :=
 if (a0.length : Int) = (a1.length : Int) then
  (wB a0 a1 n 0).bind fun o2 =>
  match o2 with
  | .inl o2_0 =>
   some o2_0
  | .inr (o2_1) =>
   some true
 else
 some false
theorem UZ (n : Nat) : QF (YY n) := fun a0 a1 => tc (
 .le zj a0 <|
 .le zj a1 <|
 .eI (a0.length : Int) (a1.length : Int) (fun c1 =>
  .l2 (KR a0 a1 n 0) (fun o2_0 =>
   .ret o2_0) fun o2_1 =>
  .ret true) fun c1 =>
 .ret false) (zf Tryz.func81)
theorem LD {a : List GEntry} (ha : a.length <= 2 ^ 40) (hG : ∀ v ∈ a, kN v v = some true) : ∀ (d i m : Nat), i + d = a.length → d < m → ∃ z, wB a a m (i : Int) = some (.inr z) := by
 intro d
 induction d with
 | zero =>
  intro i m hi hm
  obtain ⟨m, rfl, _⟩ := zg hm
  exact ⟨_, by rw [wB, if_neg (by omega)]⟩
 | succ d ih =>
  intro i m hi hm
  obtain ⟨m, rfl, hm'⟩ := zg hm
  have hil : i < a.length := by omega
  rw [wB, if_pos (by omega), zb, oB, zl hil, oB, oB, hG _ (List.getElem_mem hil), oB, zH (by omega)]
  exact ih (i + 1) m (by omega) (by omega)
theorem H5 {v : GEntry} (h : esz v <= 2 ^ 39) : kN v v = some true := by
 unfold esz at h
 unfold kN yo qu xj
 rw [if_pos ⟨rfl, by omega⟩, oB]
 dsimp only
 rw [if_pos ⟨rfl, by omega⟩, oB]
 dsimp only
 rw [if_pos ⟨rfl, by omega⟩, oB]
 dsimp only
 rw [if_pos rfl]
 cases v.Taint <;> rfl
open Classical in
noncomputable def qU (a0 : (List GEntry)) (a1 : (List GEntry)) : Option Bool := if a0 = a1 ∧ yb a0 <= 2 ^ 39 then some true else none
theorem RX {s : List GEntry} (h : yb s <= 2 ^ 39) : qU s s = some true := if_pos ⟨rfl, h⟩
theorem VT (a0 : (List GEntry)) (a1 : (List GEntry)) (r : Bool) (h : qU a0 a1 = some r) : ∃ n, YY n a0 a1 = some r := by
 unfold qU at h
 obtain ⟨⟨he, ha⟩, h2⟩ := zB h
 clear h
 subst he
 have hl := qy a0
 refine ⟨a0.length + 1, ?_⟩
 obtain ⟨z, hz⟩ := LD (a := a0) (by omega) (fun v hv => H5 (by have := X5 hv; omega)) a0.length 0 (a0.length + 1) (by omega) (by omega)
 rw [show ((0 : Nat) : Int) = 0 from rfl] at hz
 unfold YY
 rw [if_pos rfl, hz]; exact h2
theorem Qd : QF qU := fun a0 a1 r h => (VT a0 a1 r h).elim fun n hn => UZ n a0 a1 r hn
def ZI (a0 : GState) (a1 : GState) : Option Bool :=
 if a0.Serial = a1.Serial then
  if a0.Open = true then
   if a1.Open = true then
    (yo a0.Pending a1.Pending).bind fun r4 =>
    match r4 with
    | true =>
     if a0.Act = a1.Act then
      (qU a0.Entries a1.Entries).bind fun r6 =>
      match r6 with
      | true =>
       some true
      | false =>
       some false
     else
     some false
    | false =>
     some false
   else
   some false
  else
  if a1.Open = true then
   some false
  else
  (yo a0.Pending a1.Pending).bind fun r4 =>
  match r4 with
  | true =>
   if a0.Act = a1.Act then
    (qU a0.Entries a1.Entries).bind fun r6 =>
    match r6 with
    | true =>
     some true
    | false =>
     some false
   else
   some false
  | false =>
   some false
 else
 some false
theorem Pa (a0 : GState) (a1 : GState) : Oc (ZI a0 a1) 21 [] [.val true (zX a0), .val true (zX a1)] fun r => (vb r, []) := tc (
 .eI a0.Serial a1.Serial (fun c1 =>
  .sp (a0.Open = true) (fun c2 =>
   .sp (a1.Open = true) (fun c3 =>
    .eb c2 c3 <|
    .cl (qT a0.Pending a1.Pending) fun r4 =>
    .vN 0 r4 (
     .eI a0.Act a1.Act (fun c5 =>
      .cl (Qd a0.Entries a1.Entries) fun r6 =>
      .vN 0 r6 (
       .ret true) <|
      .ret false) fun c5 =>
     .ret false) <|
    .ret false) fun c3 =>
   .eb c2 (bF c3) <|
   .ret false) fun c2 =>
  .sp (a1.Open = true) (fun c3 =>
   .eb (bF c2) c3 <|
   .ret false) fun c3 =>
  .eb (bF c2) (bF c3) <|
  .cl (qT a0.Pending a1.Pending) fun r4 =>
  .vN 0 r4 (
   .eI a0.Act a1.Act (fun c5 =>
    .cl (Qd a0.Entries a1.Entries) fun r6 =>
    .vN 0 r6 (
     .ret true) <|
    .ret false) fun c5 =>
   .ret false) <|
  .ret false) fun c1 =>
 .ret false) (zf Tryz.func21)
def kO (a0 : GEvent) (a1 : GEvent) : Option Bool :=
 if a0.Kind = a1.Kind then
  (yo a0.Addr a1.Addr).bind fun r2 =>
  match r2 with
  | true =>
   if a0.Act = a1.Act then
    (qu a0.Val a1.Val).bind fun r4 =>
    match r4 with
    | true =>
     (xj a0.Deps a1.Deps).bind fun r5 =>
     match r5 with
     | true =>
      some true
     | false =>
      some false
    | false =>
     some false
   else
   some false
  | false =>
   some false
 else
 some false
theorem Pb (a0 : GEvent) (a1 : GEvent) : Oc (kO a0 a1) 22 [] [.val true (qw a0), .val true (qw a1)] fun r => (vb r, []) := tc (
 .eI a0.Kind a1.Kind (fun c1 =>
  .cl (qT a0.Addr a1.Addr) fun r2 =>
  .vN 0 r2 (
   .eI a0.Act a1.Act (fun c3 =>
    .cl (QE a0.Val a1.Val) fun r4 =>
    .vN 0 r4 (
     .cl (Yw a0.Deps a1.Deps) fun r5 =>
     .vN 0 r5 (
      .ret true) <|
     .ret false) <|
    .ret false) fun c3 =>
   .ret false) <|
  .ret false) fun c1 =>
 .ret false) (zf Tryz.func22)
def QG (F : (List GEvent) → (List GEvent) → Option Bool) : Prop := ∀ (a0 : (List GEvent)) (a1 : (List GEvent)), Oc (F a0 a1) 90 [] [vq zw a0, vq zw a1] fun r => (vb r, [])
def wC (a0 : (List GEvent)) (a1 : (List GEvent)) : Nat → Int → Option (Bool ⊕ Int)
  | 0, _ => none
  | m + 1, v2 =>
  if v2 < (a0.length : Int) then
   (zv v2).bind fun i2 =>
   (a0[i2]?).bind fun x3 =>
   (a1[i2]?).bind fun x4 =>
   (kO x3 x4).bind fun r5 =>
   match r5 with
   | true =>
    wC a0 a1 m (w64 (v2 + 1))
   | false =>
    some (.inl false)
  else
  some (.inr v2)
theorem KS (a0 : (List GEvent)) (a1 : (List GEvent)) (m : Nat) : ∀ (v2 : Int), Ol (wC a0 a1 m v2) 90 (zJ Tryz.f90 0) ⟨[(0, vq zw a0), (1, vq zw a1), (5, vi v2)], [], 0⟩ fun o => match o with | .inl o_0 => (.ret, ⟨[(4, vb o_0)], [], 0⟩) | .inr (o_1) => (.exit 0, ⟨[(0, vq zw a0), (1, vq zw a1), (5, vi o_1), (14, vb false)], [], 0⟩) := by
  induction m with
  | zero => intro v2 o h; cases h
  | succ m ih => exact fun v2 => tlp (
   .le zw a0 <|
   .lI v2 (a0.length : Int) (fun c1 =>
    .na v2 fun i2 =>
    .ix xW a0 i2 fun x3 =>
    .ag 1 <|
    .ix xW a1 i2 fun x4 =>
    .cl (Pb x3 x4) fun r5 =>
    .vN 0 r5 (
     .go (ih (w64 (v2 + 1)))) <|
    .ret (.inl false)) fun c1 =>
   .ret (.inr v2))
def YZ (n : Nat) (a0 : (List GEvent)) (a1 : (List GEvent)) : Option Bool :=
 if (a0.length : Int) = (a1.length : Int) then
  (wC a0 a1 n 0).bind fun o2 =>
  match o2 with
  | .inl o2_0 =>
   some o2_0
  | .inr (o2_1) =>
   some true
 else
 some false
theorem Pc (n : Nat) : QG (YZ n) := fun a0 a1 => tc (
 .le zw a0 <|
 .le zw a1 <|
 .eI (a0.length : Int) (a1.length : Int) (fun c1 =>
  .l2 (KS a0 a1 n 0) (fun o2_0 =>
   .ret o2_0) fun o2_1 =>
  .ret true) fun c1 =>
 .ret false) (zf Tryz.func90)
theorem LE {a : List GEvent} (ha : a.length <= 2 ^ 40) (hG : ∀ v ∈ a, kO v v = some true) : ∀ (d i m : Nat), i + d = a.length → d < m → ∃ z, wC a a m (i : Int) = some (.inr z) := by
 intro d
 induction d with
 | zero =>
  intro i m hi hm
  obtain ⟨m, rfl, _⟩ := zg hm
  exact ⟨_, by rw [wC, if_neg (by omega)]⟩
 | succ d ih =>
  intro i m hi hm
  obtain ⟨m, rfl, hm'⟩ := zg hm
  have hil : i < a.length := by omega
  rw [wC, if_pos (by omega), zb, oB, zl hil, oB, oB, hG _ (List.getElem_mem hil), oB, zH (by omega)]
  exact ih (i + 1) m (by omega) (by omega)
theorem H6 {v : GEvent} (h : xg v <= 2 ^ 39) : kO v v = some true := by
 unfold xg at h
 unfold kO yo qu xj
 rw [if_pos rfl, if_pos ⟨rfl, by omega⟩, oB]
 dsimp only
 rw [if_pos rfl, if_pos ⟨rfl, by omega⟩, oB]
 dsimp only
 rw [if_pos ⟨rfl, by omega⟩, oB]
open Classical in
noncomputable def jV (a0 : (List GEvent)) (a1 : (List GEvent)) : Option Bool := if a0 = a1 ∧ zP a0 <= 2 ^ 39 then some true else none
theorem NX {s : List GEvent} (h : zP s <= 2 ^ 39) : jV s s = some true := if_pos ⟨rfl, h⟩
theorem VU (a0 : (List GEvent)) (a1 : (List GEvent)) (r : Bool) (h : jV a0 a1 = some r) : ∃ n, YZ n a0 a1 = some r := by
 unfold jV at h
 obtain ⟨⟨he, ha⟩, h2⟩ := zB h
 clear h
 subst he
 have hl := qI a0
 refine ⟨a0.length + 1, ?_⟩
 obtain ⟨z, hz⟩ := LE (a := a0) (by omega) (fun v hv => H6 (by have := XR hv; omega)) a0.length 0 (a0.length + 1) (by omega) (by omega)
 rw [show ((0 : Nat) : Int) = 0 from rfl] at hz
 unfold YZ
 rw [if_pos rfl, hz]; exact h2
theorem TK : QG jV := fun a0 a1 r h => (VU a0 a1 r h).elim fun n hn => Pc n a0 a1 r hn
def qv (a0 : GHistory) (a1 : GHistory) : Option Bool :=
 (ZI a0.Base a1.Base).bind fun r1 =>
 match r1 with
 | true =>
  (jV a0.Events a1.Events).bind fun r2 =>
  match r2 with
  | true =>
   if a0.Safe = a1.Safe then
    some true
   else
   some false
  | false =>
   some false
 | false =>
  some false
theorem ZU (a0 : GHistory) (a1 : GHistory) : Oc (qv a0 a1) 30 [] [.val true (yj a0), .val true (yj a1)] fun r => (vb r, []) := tc (
 .cl (Pa a0.Base a1.Base) fun r1 =>
 .vN 0 r1 (
  .cl (TK a0.Events a1.Events) fun r2 =>
  .vN 0 r2 (
   .eI a0.Safe a1.Safe (fun c3 =>
    .ret true) fun c3 =>
   .ret false) <|
  .ret false) <|
 .ret false) (zf Tryz.func30)
def Qe (F : Int → (List UInt8) → Option (Int × (List UInt8))) : Prop := ∀ (a0 : Int) (e0 : (List UInt8)), Oc (F a0 e0) 39 [.obj 1 (eL za e0)] [vr 0, vi a0] fun r => (vi r.1, [.obj 1 (eL za r.2)])
def wa : Nat → Int → Int → (List UInt8) → Option (Int × Int × (List UInt8))
  | 0, _, _, _ => none
  | m + 1, a0, v1, e0 =>
  if v1 < (e0.length : Int) then
   (zv v1).bind fun i2 =>
   (e0[i2]?).bind fun x3 =>
   wa m (w64 (a0 + 1)) (w64 (v1 + 1)) (e0.set i2 (b8 a0))
  else
  some (a0, v1, e0)
theorem JS (m : Nat) : ∀ (a0 : Int) (v1 : Int) (e0 : (List UInt8)), Ol (wa m a0 v1 e0) 39 (zJ Tryz.f39 0) ⟨[(0, vr 0), (1, vi a0), (5, vi v1)], [.obj 1 (eL za e0)], 1⟩ fun o => match o with | ⟨o_0, o_1, o_2⟩ => (.exit 0, ⟨[(0, vr 0), (1, vi o_0), (5, vi o_1), (9, vb false)], [.obj 1 (eL za o_2)], 1⟩) := by
  induction m with
  | zero => intro a0 v1 e0 o h; cases h
  | succ m ih => exact fun a0 v1 e0 => tlp (
   .le za e0 <|
   .lI v1 (e0.length : Int) (fun c1 =>
    .na v1 fun i2 =>
    .ix0 za e0 i2 fun x3 =>
    .ag 0 <|
    .sl (e := za) (x := (b8 a0)) (c := [.int .u8 (((b8 a0).toNat : Nat) : Int)]) rfl e0 i2 <|
    .go (ih (w64 (a0 + 1)) (w64 (v1 + 1)) (e0.set i2 (b8 a0)))) fun c1 =>
   .ret (a0, v1, e0))
def Yx (n : Nat) (a0 : Int) (e0 : (List UInt8)) : Option (Int × (List UInt8)) :=
 (wa n a0 0 e0).bind fun ⟨o1_0, o1_1, o1_2⟩ =>
 some (o1_0, o1_2)
theorem TM (n : Nat) : Qe (Yx n) := fun a0 e0 => tc (
 .lp (JS n a0 0 e0) fun ⟨o1_0, o1_1, o1_2⟩ =>
 .ret (o1_0, o1_2)) (zf Tryz.func39)
theorem Ox : ∀ (l p : List UInt8) (k : Int) (m : Nat), 0 <= k → k + 2 * l.length <= 2 ^ 41 → p.length + l.length <= 2 ^ 41 → l.length < m → ∃ z, wa m k (p.length : Int) (p ++ l) = some (k + l.length, z, p ++ mB k l) := by
 intro l
 induction l with
 | nil =>
  intro p k m _ _ _ hm
  obtain ⟨m, rfl, _⟩ := zg hm
  exact ⟨_, by rw [wa, if_neg (wc p)]; simp [mB]; rfl⟩
 | cons x l ih =>
  intro p k m h0 h1 h2 hm
  obtain ⟨m, rfl, hm'⟩ := zg hm
  simp only [List.length_cons] at h1 h2 hm'
  obtain ⟨z, hz⟩ := ih (p ++ [b8 k]) (k + 1) m (by omega) (by omega) (by simp; omega) (by omega)
  rw [wa, if_pos (vH p x l), zb, oB, zF, oB, wD, y4 p (b8 k) (by omega), zW (x := k + 1) (by omega) (by omega), Qi p (b8 k) l, hz]
  refine ⟨z, ?_⟩
  rw [mB, Qi p (b8 k) (mB (k + 1) l)]
  simp only [List.length_cons]
  rw [show k + 1 + (l.length : Int) = k + ((l.length + 1 : Nat) : Int) by omega]
def yy (a0 : Int) (e0 : (List UInt8)) : Option (Int × (List UInt8)) := if 0 <= a0 ∧ a0 + 2 * e0.length <= 2 ^ 41 then some (a0 + e0.length, mB a0 e0) else none
theorem qE {a : Int} {s : List UInt8} (h0 : 0 <= a) (h1 : a + 2 * s.length <= 2 ^ 41) : yy a s = some (a + s.length, mB a s) := if_pos ⟨h0, h1⟩
theorem KT (a0 : Int) (e0 : (List UInt8)) (r : (Int × (List UInt8))) (h : yy a0 e0 = some r) : ∃ n, Yx n a0 e0 = some r := by
 unfold yy at h
 obtain ⟨⟨h0, h1⟩, h⟩ := zB h
 obtain ⟨z, hz⟩ := Ox e0 [] a0 (e0.length + 1) h0 h1 (by simp; omega) (by omega)
 refine ⟨e0.length + 1, ?_⟩
 unfold Yx
 simp only [List.nil_append, List.length_nil, Int.natCast_zero] at hz
 rw [hz]
 exact h
theorem xM : Qe yy := fun a0 e0 r h => (KT a0 e0 r h).elim fun n hn => TM n a0 e0 r hn
def Wp (F : Int → (List (List UInt8)) → Option (Int × (List (List UInt8)))) : Prop := ∀ (a0 : Int) (e0 : (List (List UInt8))), Oc (F a0 e0) 64 [.obj 1 (eL (y8 1 za) e0)] [vr 0, vi a0] fun r => (vi r.1, [.obj 1 (eL (y8 1 za) r.2)])
def xy : Nat → Int → Int → (List (List UInt8)) → Option (Int × Int × (List (List UInt8)))
  | 0, _, _, _ => none
  | m + 1, a0, v1, e0 =>
  if v1 < (e0.length : Int) then
   (zv v1).bind fun i2 =>
   (e0[i2]?).bind fun x3 =>
   (yy a0 x3).bind fun ⟨r4_0, r4_1⟩ =>
   xy m r4_0 (w64 (v1 + 1)) (e0.set i2 r4_1)
  else
  some (a0, v1, e0)
theorem Jp (m : Nat) : ∀ (a0 : Int) (v1 : Int) (e0 : (List (List UInt8))), Ol (xy m a0 v1 e0) 64 (zJ Tryz.f64 0) ⟨[(0, vr 0), (1, vi a0), (5, vi v1)], [.obj 1 (eL (y8 1 za) e0)], 1⟩ fun o => match o with | ⟨o_0, o_1, o_2⟩ => (.exit 0, ⟨[(0, vr 0), (1, vi o_0), (5, vi o_1), (9, vb false)], [.obj 1 (eL (y8 1 za) o_2)], 1⟩) := by
  induction m with
  | zero => intro a0 v1 e0 o h; cases h
  | succ m ih => exact fun a0 v1 e0 => tlp (
   .le (y8 1 za) e0 <|
   .lI v1 (e0.length : Int) (fun c1 =>
    .na v1 fun i2 =>
    .ix0 (y8 1 za) e0 i2 fun x3 =>
    .ag 0 <|
    .cl (xM a0 x3) fun ⟨r4_0, r4_1⟩ =>
    .ag 1 <|
    .sl (e := (y8 1 za)) (x := r4_1) (c := [.own 1 (eL za r4_1)]) rfl e0 i2 <|
    .go (ih r4_0 (w64 (v1 + 1)) (e0.set i2 r4_1))) fun c1 =>
   .ret (a0, v1, e0))
def ZV (n : Nat) (a0 : Int) (e0 : (List (List UInt8))) : Option (Int × (List (List UInt8))) :=
 (xy n a0 0 e0).bind fun ⟨o1_0, o1_1, o1_2⟩ =>
 some (o1_0, o1_2)
theorem RJ (n : Nat) : Wp (ZV n) := fun a0 e0 => tc (
 .lp (Jp n a0 0 e0) fun ⟨o1_0, o1_1, o1_2⟩ =>
 .ret (o1_0, o1_2)) (zf Tryz.func64)
theorem Pd : ∀ (l p : List (List UInt8)) (k : Int) (m : Nat), 0 <= k → k + 2 * bsz l <= 2 ^ 41 → p.length + l.length <= 2 ^ 41 → l.length < m → ∃ z, xy m k (p.length : Int) (p ++ l) = some (k + cB l, z, p ++ mBB k l) := by
 intro l
 induction l with
 | nil =>
  intro p k m _ _ _ hm
  obtain ⟨m, rfl, _⟩ := zg hm
  exact ⟨_, by rw [xy, if_neg (wc p)]; simp [mBB, cB]; rfl⟩
 | cons x l ih =>
  intro p k m h0 h1 h2 hm
  obtain ⟨m, rfl, hm'⟩ := zg hm
  rw [Ny] at h1
  simp only [List.length_cons] at h2 hm'
  obtain ⟨z, hz⟩ := ih (p ++ [mB k x]) (k + x.length) m (by omega) (by omega) (by simp; omega) (by omega)
  rw [xy, if_pos (vH p x l), zb, oB, zF, oB, qE (by omega) (by omega), oB]
  dsimp only
  rw [wD, y4 p (mB k x) (by omega), Qi p (mB k x) l, hz]
  refine ⟨z, ?_⟩
  rw [mBB, Qi p (mB k x) (mBB (k + x.length) l), G3]
  rw [show k + (x.length : Int) + (cB l : Int) = k + ((x.length + cB l : Nat) : Int) by omega]
def yI (a0 : Int) (e0 : (List (List UInt8))) : Option (Int × (List (List UInt8))) := if 0 <= a0 ∧ a0 + 2 * bsz e0 <= 2 ^ 41 then some (a0 + cB e0, mBB a0 e0) else none
theorem vF {a : Int} {s : List (List UInt8)} (h0 : 0 <= a) (h1 : a + 2 * bsz s <= 2 ^ 41) : yI a s = some (a + cB s, mBB a s) := if_pos ⟨h0, h1⟩
theorem JT (a0 : Int) (e0 : (List (List UInt8))) (r : (Int × (List (List UInt8)))) (h : yI a0 e0 = some r) : ∃ n, ZV n a0 e0 = some r := by
 unfold yI at h
 obtain ⟨⟨h0, h1⟩, h⟩ := zB h
 have := qx e0
 obtain ⟨z, hz⟩ := Pd e0 [] a0 (e0.length + 1) h0 h1 (by simp; omega) (by omega)
 refine ⟨e0.length + 1, ?_⟩
 unfold ZV
 simp only [List.nil_append, List.length_nil, Int.natCast_zero] at hz
 rw [hz]
 exact h
theorem qF : Wp yI := fun a0 e0 r h => (JT a0 e0 r h).elim fun n hn => RJ n a0 e0 r hn
def ja (F : Int → (List GValue) → Option (Int × (List GValue))) : Prop := ∀ (a0 : Int) (e0 : (List GValue)), Oc (F a0 e0) 145 [.obj 5 (eL zu e0)] [vr 0, vi a0] fun r => (vi r.1, [.obj 5 (eL zu r.2)])
def xz (G_laws_markValueS : Int → (List GValue) → Option (Int × (List GValue))) : Nat → Int → Int → (List GValue) → Option (Int × Int × (List GValue))
  | 0, _, _, _ => none
  | m + 1, a0, v1, e0 =>
  if v1 < (e0.length : Int) then
   (zv v1).bind fun i2 =>
   (e0[i2]?).bind fun x3 =>
   ((e0.set i2 (GValue.mk a0 x3.N x3.S x3.K x3.L))[i2]?).bind fun x4 =>
   (((e0.set i2 (GValue.mk a0 x3.N x3.S x3.K x3.L)).set i2 (GValue.mk x4.Kind (w64 (a0 + 1)) x4.S x4.K x4.L))[i2]?).bind fun x5 =>
   (yy (w64 ((w64 (a0 + 1)) + 1)) x5.S).bind fun ⟨r6_0, r6_1⟩ =>
   ((((e0.set i2 (GValue.mk a0 x3.N x3.S x3.K x3.L)).set i2 (GValue.mk x4.Kind (w64 (a0 + 1)) x4.S x4.K x4.L)).set i2 (GValue.mk x5.Kind x5.N r6_1 x5.K x5.L))[i2]?).bind fun x7 =>
   (yI r6_0 x7.K).bind fun ⟨r8_0, r8_1⟩ =>
   (((((e0.set i2 (GValue.mk a0 x3.N x3.S x3.K x3.L)).set i2 (GValue.mk x4.Kind (w64 (a0 + 1)) x4.S x4.K x4.L)).set i2 (GValue.mk x5.Kind x5.N r6_1 x5.K x5.L)).set i2 (GValue.mk x7.Kind x7.N x7.S r8_1 x7.L))[i2]?).bind fun x9 =>
   (G_laws_markValueS r8_0 x9.L).bind fun ⟨r10_0, r10_1⟩ =>
   xz G_laws_markValueS m r10_0 (w64 (v1 + 1)) (((((e0.set i2 (GValue.mk a0 x3.N x3.S x3.K x3.L)).set i2 (GValue.mk x4.Kind (w64 (a0 + 1)) x4.S x4.K x4.L)).set i2 (GValue.mk x5.Kind x5.N r6_1 x5.K x5.L)).set i2 (GValue.mk x7.Kind x7.N x7.S r8_1 x7.L)).set i2 (GValue.mk x9.Kind x9.N x9.S x9.K r10_1))
  else
  some (a0, v1, e0)
theorem Jq (G_laws_markValueS : Int → (List GValue) → Option (Int × (List GValue))) (H_laws_markValueS : ja G_laws_markValueS) (m : Nat) : ∀ (a0 : Int) (v1 : Int) (e0 : (List GValue)), Ol (xz G_laws_markValueS m a0 v1 e0) 145 (zJ Tryz.f145 0) ⟨[(0, vr 0), (1, vi a0), (5, vi v1)], [.obj 5 (eL zu e0)], 1⟩ fun o => match o with | ⟨o_0, o_1, o_2⟩ => (.exit 0, ⟨[(0, vr 0), (1, vi o_0), (5, vi o_1), (9, vb false)], [.obj 5 (eL zu o_2)], 1⟩) := by
  induction m with
  | zero => intro a0 v1 e0 o h; cases h
  | succ m ih => exact fun a0 v1 e0 => tlp (
   .le zu e0 <|
   .lI v1 (e0.length : Int) (fun c1 =>
    .na v1 fun i2 =>
    .ix yp e0 i2 fun x3 =>
    .ag 0 <|
    .sl (yp (GValue.mk a0 x3.N x3.S x3.K x3.L)) e0 i2 <|
    .ag 1 <|
    .ix yp (e0.set i2 (GValue.mk a0 x3.N x3.S x3.K x3.L)) i2 fun x4 =>
    .ag 0 <|
    .sl (yp (GValue.mk x4.Kind (w64 (a0 + 1)) x4.S x4.K x4.L)) (e0.set i2 (GValue.mk a0 x3.N x3.S x3.K x3.L)) i2 <|
    .ag 2 <|
    .ix yp ((e0.set i2 (GValue.mk a0 x3.N x3.S x3.K x3.L)).set i2 (GValue.mk x4.Kind (w64 (a0 + 1)) x4.S x4.K x4.L)) i2 fun x5 =>
    .ag 0 <|
    .cl (xM (w64 ((w64 (a0 + 1)) + 1)) x5.S) fun ⟨r6_0, r6_1⟩ =>
    .ag 1 <|
    .sl (yp (GValue.mk x5.Kind x5.N r6_1 x5.K x5.L)) ((e0.set i2 (GValue.mk a0 x3.N x3.S x3.K x3.L)).set i2 (GValue.mk x4.Kind (w64 (a0 + 1)) x4.S x4.K x4.L)) i2 <|
    .ag 4 <|
    .ix yp (((e0.set i2 (GValue.mk a0 x3.N x3.S x3.K x3.L)).set i2 (GValue.mk x4.Kind (w64 (a0 + 1)) x4.S x4.K x4.L)).set i2 (GValue.mk x5.Kind x5.N r6_1 x5.K x5.L)) i2 fun x7 =>
    .ag 0 <|
    .cl (qF r6_0 x7.K) fun ⟨r8_0, r8_1⟩ =>
    .ag 1 <|
    .sl (yp (GValue.mk x7.Kind x7.N x7.S r8_1 x7.L)) (((e0.set i2 (GValue.mk a0 x3.N x3.S x3.K x3.L)).set i2 (GValue.mk x4.Kind (w64 (a0 + 1)) x4.S x4.K x4.L)).set i2 (GValue.mk x5.Kind x5.N r6_1 x5.K x5.L)) i2 <|
    .ag 6 <|
    .ix yp ((((e0.set i2 (GValue.mk a0 x3.N x3.S x3.K x3.L)).set i2 (GValue.mk x4.Kind (w64 (a0 + 1)) x4.S x4.K x4.L)).set i2 (GValue.mk x5.Kind x5.N r6_1 x5.K x5.L)).set i2 (GValue.mk x7.Kind x7.N x7.S r8_1 x7.L)) i2 fun x9 =>
    .ag 0 <|
    .cl (H_laws_markValueS r8_0 x9.L) fun ⟨r10_0, r10_1⟩ =>
    .ag 1 <|
    .sl (yp (GValue.mk x9.Kind x9.N x9.S x9.K r10_1)) ((((e0.set i2 (GValue.mk a0 x3.N x3.S x3.K x3.L)).set i2 (GValue.mk x4.Kind (w64 (a0 + 1)) x4.S x4.K x4.L)).set i2 (GValue.mk x5.Kind x5.N r6_1 x5.K x5.L)).set i2 (GValue.mk x7.Kind x7.N x7.S r8_1 x7.L)) i2 <|
    .go (ih r10_0 (w64 (v1 + 1)) (((((e0.set i2 (GValue.mk a0 x3.N x3.S x3.K x3.L)).set i2 (GValue.mk x4.Kind (w64 (a0 + 1)) x4.S x4.K x4.L)).set i2 (GValue.mk x5.Kind x5.N r6_1 x5.K x5.L)).set i2 (GValue.mk x7.Kind x7.N x7.S r8_1 x7.L)).set i2 (GValue.mk x9.Kind x9.N x9.S x9.K r10_1)))) fun c1 =>
   .ret (a0, v1, e0))
def ZW (G_laws_markValueS : Int → (List GValue) → Option (Int × (List GValue))) (n : Nat) (a0 : Int) (e0 : (List GValue)) : Option (Int × (List GValue)) :=
 (xz G_laws_markValueS n a0 0 e0).bind fun ⟨o1_0, o1_1, o1_2⟩ =>
 some (o1_0, o1_2)
theorem RK (G_laws_markValueS : Int → (List GValue) → Option (Int × (List GValue))) (H_laws_markValueS : ja G_laws_markValueS) (n : Nat) : ja (ZW G_laws_markValueS n) := fun a0 e0 => tc (
 .lp (Jq G_laws_markValueS H_laws_markValueS n a0 0 e0) fun ⟨o1_0, o1_1, o1_2⟩ =>
 .ret (o1_0, o1_2)) (zf Tryz.func145)
def yJ : Nat → Int → (List GValue) → Option (Int × (List GValue))
 | 0, _, _ => none
 | n + 1, a0, e0 => ZW (yJ n) n a0 e0
theorem KU (n : Nat) : ja (yJ n) := by
 induction n with
 | zero => exact fun _ _ _ h => (by rw [yJ] at h; cases h)
 | succ n ih =>
  have ih_laws_markValueS := ih
  exact fun a0 e0 r h => RK (yJ n) ih_laws_markValueS n a0 e0 r (by rw [yJ] at h; exact h)
theorem Pe {G : Int → List GValue → Option (Int × List GValue)} : ∀ (l p : List GValue) (k : Int) (m : Nat), (∀ v ∈ l, ∀ i : Int, 0 <= i → i + 2 * y6 v.L <= 2 ^ 41 → G i v.L = some (i + cVs v.L, mVs i v.L)) → 0 <= k → k + 2 * y6 l <= 2 ^ 41 → p.length + l.length <= 2 ^ 41 → l.length < m → ∃ z, xz G m k (p.length : Int) (p ++ l) = some (k + cVs l, z, p ++ mVs k l) := by
 intro l
 induction l with
 | nil =>
  intro p k m _ _ _ _ hm
  obtain ⟨m, rfl, _⟩ := zg hm
  exact ⟨_, by rw [xz, if_neg (wc p)]; simp [mVs, cVs]; rfl⟩
 | cons x l ih =>
  intro p k m hG h0 h1 h2 hm
  obtain ⟨m, rfl, hm'⟩ := zg hm
  simp only [List.length_cons] at h2 hm'
  have hx := hG x List.mem_cons_self
  have hc := W9 x
  obtain ⟨kd, n, s, kk, ks⟩ := x
  have hb := j4 kk
  have hd := XQ ks
  simp only [y6, vsz] at h1
  simp only [cV, vsz] at hc
  simp only [GValue.L] at hx
  obtain ⟨z, hz⟩ := ih (p ++ [mV k (.mk kd n s kk ks)]) (k + cV (.mk kd n s kk ks)) m (fun v hv => hG v (List.mem_cons_of_mem _ hv)) (by omega) (by simp only [cV]; omega) (by simp; omega) (by omega)
  rw [xz, if_pos (vH p _ l), zb, oB, zF, oB]
  simp only [wD, zF, oB, GValue.Kind, GValue.N, GValue.S, GValue.K, GValue.L]
  rw [zW (x := k + 1) (by omega) (by omega), zW (x := k + 1 + 1) (by omega) (by omega), qE (by omega) (by omega)]
  simp only [oB, wD, zF, GValue.Kind, GValue.N, GValue.S, GValue.K, GValue.L]
  rw [vF (by omega) (by omega)]
  simp only [oB, wD, zF, GValue.Kind, GValue.N, GValue.S, GValue.K, GValue.L]
  rw [hx _ (by omega) (by omega)]
  simp only [oB, wD, zF, GValue.Kind, GValue.N, GValue.S, GValue.K, GValue.L]
  refine ⟨z, ?_⟩
  rw [y4 p (mV k (.mk kd n s kk ks)) (by omega), show GValue.mk k (k + 1) (mB (k + 1 + 1) s) (mBB (k + 1 + 1 + s.length) kk) (mVs (k + 1 + 1 + s.length + cB kk) ks) = mV k (.mk kd n s kk ks) by simp only [mV], Qi p _ l,
   show k + 1 + 1 + (s.length : Int) + (cB kk : Int) + (cVs ks : Int) = k + ((cV (.mk kd n s kk ks) : Nat) : Int) by simp only [cV]; omega, hz]
  simp only [mVs, cVs, List.append_assoc, List.singleton_append]
  rw [show k + ((cV (.mk kd n s kk ks) : Nat) : Int) + (cVs l : Int) = k + ((cV (.mk kd n s kk ks) + cVs l : Nat) : Int) by omega]
theorem Nh : ∀ (N : Nat) (l : List GValue), y6 l < N → ∀ (k : Int) (f : Nat), 0 <= k → k + 2 * y6 l <= 2 ^ 41 → y6 l + 2 <= f → yJ f k l = some (k + cVs l, mVs k l) := by
 intro N
 induction N with
 | zero => intro l hl; omega
 | succ N ih =>
  intro l hl k f h0 h1 hf
  obtain ⟨f, rfl, _⟩ := zg (show 0 < f by omega)
  have hlen := yP l
  rw [yJ]
  unfold ZW
  obtain ⟨z, hz⟩ := Pe (G := yJ f) l [] k f (fun v hv i g0 g1 => by
   have := wm hv
   have := xH v
   exact ih v.L (by omega) i f g0 g1 (by omega)) h0 h1 (by simp; omega) (by omega)
  simp only [List.nil_append, List.length_nil, Int.natCast_zero] at hz
  rw [hz]; rfl
def wS (a0 : Int) (e0 : (List GValue)) : Option (Int × (List GValue)) := if 0 <= a0 ∧ a0 + 2 * y6 e0 <= 2 ^ 41 then some (a0 + cVs e0, mVs a0 e0) else none
theorem K1 {a : Int} {s : List GValue} (h0 : 0 <= a) (h1 : a + 2 * y6 s <= 2 ^ 41) : wS a s = some (a + cVs s, mVs a s) := if_pos ⟨h0, h1⟩
theorem JU (a0 : Int) (e0 : (List GValue)) (r : (Int × (List GValue))) (h : wS a0 e0 = some r) : ∃ n, yJ n a0 e0 = some r := by
 unfold wS at h
 obtain ⟨⟨h0, h1⟩, h⟩ := zB h
 exact ⟨y6 e0 + 2, by rw [Nh _ e0 (Nat.lt_succ_self _) a0 _ h0 h1 (Nat.le_refl _), h]⟩
theorem XO : ja wS := by
 intro a0 e0 r h
 obtain ⟨n, hn⟩ := JU a0 e0 r h
 exact (KU n) a0 e0 r hn
def Wq (F : Int → (List GEntry) → Option (Int × (List GEntry))) : Prop := ∀ (a0 : Int) (e0 : (List GEntry)), Oc (F a0 e0) 83 [.obj 9 (eL zr e0)] [vr 0, vi a0] fun r => (vi r.1, [.obj 9 (eL zr r.2)])
def xA : Nat → Int → Int → (List GEntry) → Option (Int × Int × (List GEntry))
  | 0, _, _, _ => none
  | m + 1, a0, v1, e0 =>
  if v1 < (e0.length : Int) then
   (zv v1).bind fun i2 =>
   (e0[i2]?).bind fun x3 =>
   (yy a0 x3.Addr).bind fun ⟨r4_0, r4_1⟩ =>
   ((e0.set i2 (GEntry.mk r4_1 x3.Val x3.Deps x3.Taint x3.Turned))[i2]?).bind fun x5 =>
   (((e0.set i2 (GEntry.mk r4_1 x3.Val x3.Deps x3.Taint x3.Turned)).set i2 (GEntry.mk x5.Addr (GValue.mk r4_0 x5.Val.N x5.Val.S x5.Val.K x5.Val.L) x5.Deps x5.Taint x5.Turned))[i2]?).bind fun x6 =>
   ((((e0.set i2 (GEntry.mk r4_1 x3.Val x3.Deps x3.Taint x3.Turned)).set i2 (GEntry.mk x5.Addr (GValue.mk r4_0 x5.Val.N x5.Val.S x5.Val.K x5.Val.L) x5.Deps x5.Taint x5.Turned)).set i2 (GEntry.mk x6.Addr (GValue.mk x6.Val.Kind (w64 (r4_0 + 1)) x6.Val.S x6.Val.K x6.Val.L) x6.Deps x6.Taint x6.Turned))[i2]?).bind fun x7 =>
   (yy (w64 ((w64 (r4_0 + 1)) + 1)) x7.Val.S).bind fun ⟨r8_0, r8_1⟩ =>
   (((((e0.set i2 (GEntry.mk r4_1 x3.Val x3.Deps x3.Taint x3.Turned)).set i2 (GEntry.mk x5.Addr (GValue.mk r4_0 x5.Val.N x5.Val.S x5.Val.K x5.Val.L) x5.Deps x5.Taint x5.Turned)).set i2 (GEntry.mk x6.Addr (GValue.mk x6.Val.Kind (w64 (r4_0 + 1)) x6.Val.S x6.Val.K x6.Val.L) x6.Deps x6.Taint x6.Turned)).set i2 (GEntry.mk x7.Addr (GValue.mk x7.Val.Kind x7.Val.N r8_1 x7.Val.K x7.Val.L) x7.Deps x7.Taint x7.Turned))[i2]?).bind fun x9 =>
   (yI r8_0 x9.Val.K).bind fun ⟨r10_0, r10_1⟩ =>
   ((((((e0.set i2 (GEntry.mk r4_1 x3.Val x3.Deps x3.Taint x3.Turned)).set i2 (GEntry.mk x5.Addr (GValue.mk r4_0 x5.Val.N x5.Val.S x5.Val.K x5.Val.L) x5.Deps x5.Taint x5.Turned)).set i2 (GEntry.mk x6.Addr (GValue.mk x6.Val.Kind (w64 (r4_0 + 1)) x6.Val.S x6.Val.K x6.Val.L) x6.Deps x6.Taint x6.Turned)).set i2 (GEntry.mk x7.Addr (GValue.mk x7.Val.Kind x7.Val.N r8_1 x7.Val.K x7.Val.L) x7.Deps x7.Taint x7.Turned)).set i2 (GEntry.mk x9.Addr (GValue.mk x9.Val.Kind x9.Val.N x9.Val.S r10_1 x9.Val.L) x9.Deps x9.Taint x9.Turned))[i2]?).bind fun x11 =>
   (wS r10_0 x11.Val.L).bind fun ⟨r12_0, r12_1⟩ =>
   (((((((e0.set i2 (GEntry.mk r4_1 x3.Val x3.Deps x3.Taint x3.Turned)).set i2 (GEntry.mk x5.Addr (GValue.mk r4_0 x5.Val.N x5.Val.S x5.Val.K x5.Val.L) x5.Deps x5.Taint x5.Turned)).set i2 (GEntry.mk x6.Addr (GValue.mk x6.Val.Kind (w64 (r4_0 + 1)) x6.Val.S x6.Val.K x6.Val.L) x6.Deps x6.Taint x6.Turned)).set i2 (GEntry.mk x7.Addr (GValue.mk x7.Val.Kind x7.Val.N r8_1 x7.Val.K x7.Val.L) x7.Deps x7.Taint x7.Turned)).set i2 (GEntry.mk x9.Addr (GValue.mk x9.Val.Kind x9.Val.N x9.Val.S r10_1 x9.Val.L) x9.Deps x9.Taint x9.Turned)).set i2 (GEntry.mk x11.Addr (GValue.mk x11.Val.Kind x11.Val.N x11.Val.S x11.Val.K r12_1) x11.Deps x11.Taint x11.Turned))[i2]?).bind fun x13 =>
   (yI r12_0 x13.Deps).bind fun ⟨r14_0, r14_1⟩ =>
   ((((((((e0.set i2 (GEntry.mk r4_1 x3.Val x3.Deps x3.Taint x3.Turned)).set i2 (GEntry.mk x5.Addr (GValue.mk r4_0 x5.Val.N x5.Val.S x5.Val.K x5.Val.L) x5.Deps x5.Taint x5.Turned)).set i2 (GEntry.mk x6.Addr (GValue.mk x6.Val.Kind (w64 (r4_0 + 1)) x6.Val.S x6.Val.K x6.Val.L) x6.Deps x6.Taint x6.Turned)).set i2 (GEntry.mk x7.Addr (GValue.mk x7.Val.Kind x7.Val.N r8_1 x7.Val.K x7.Val.L) x7.Deps x7.Taint x7.Turned)).set i2 (GEntry.mk x9.Addr (GValue.mk x9.Val.Kind x9.Val.N x9.Val.S r10_1 x9.Val.L) x9.Deps x9.Taint x9.Turned)).set i2 (GEntry.mk x11.Addr (GValue.mk x11.Val.Kind x11.Val.N x11.Val.S x11.Val.K r12_1) x11.Deps x11.Taint x11.Turned)).set i2 (GEntry.mk x13.Addr x13.Val r14_1 x13.Taint x13.Turned))[i2]?).bind fun x15 =>
   (((((((((e0.set i2 (GEntry.mk r4_1 x3.Val x3.Deps x3.Taint x3.Turned)).set i2 (GEntry.mk x5.Addr (GValue.mk r4_0 x5.Val.N x5.Val.S x5.Val.K x5.Val.L) x5.Deps x5.Taint x5.Turned)).set i2 (GEntry.mk x6.Addr (GValue.mk x6.Val.Kind (w64 (r4_0 + 1)) x6.Val.S x6.Val.K x6.Val.L) x6.Deps x6.Taint x6.Turned)).set i2 (GEntry.mk x7.Addr (GValue.mk x7.Val.Kind x7.Val.N r8_1 x7.Val.K x7.Val.L) x7.Deps x7.Taint x7.Turned)).set i2 (GEntry.mk x9.Addr (GValue.mk x9.Val.Kind x9.Val.N x9.Val.S r10_1 x9.Val.L) x9.Deps x9.Taint x9.Turned)).set i2 (GEntry.mk x11.Addr (GValue.mk x11.Val.Kind x11.Val.N x11.Val.S x11.Val.K r12_1) x11.Deps x11.Taint x11.Turned)).set i2 (GEntry.mk x13.Addr x13.Val r14_1 x13.Taint x13.Turned)).set i2 (GEntry.mk x15.Addr x15.Val x15.Deps (decide ((r14_0.tmod 3) = 0)) x15.Turned))[i2]?).bind fun x16 =>
   xA m (w64 ((w64 (r14_0 + 1)) + 1)) (w64 (v1 + 1)) (((((((((e0.set i2 (GEntry.mk r4_1 x3.Val x3.Deps x3.Taint x3.Turned)).set i2 (GEntry.mk x5.Addr (GValue.mk r4_0 x5.Val.N x5.Val.S x5.Val.K x5.Val.L) x5.Deps x5.Taint x5.Turned)).set i2 (GEntry.mk x6.Addr (GValue.mk x6.Val.Kind (w64 (r4_0 + 1)) x6.Val.S x6.Val.K x6.Val.L) x6.Deps x6.Taint x6.Turned)).set i2 (GEntry.mk x7.Addr (GValue.mk x7.Val.Kind x7.Val.N r8_1 x7.Val.K x7.Val.L) x7.Deps x7.Taint x7.Turned)).set i2 (GEntry.mk x9.Addr (GValue.mk x9.Val.Kind x9.Val.N x9.Val.S r10_1 x9.Val.L) x9.Deps x9.Taint x9.Turned)).set i2 (GEntry.mk x11.Addr (GValue.mk x11.Val.Kind x11.Val.N x11.Val.S x11.Val.K r12_1) x11.Deps x11.Taint x11.Turned)).set i2 (GEntry.mk x13.Addr x13.Val r14_1 x13.Taint x13.Turned)).set i2 (GEntry.mk x15.Addr x15.Val x15.Deps (decide ((r14_0.tmod 3) = 0)) x15.Turned)).set i2 (GEntry.mk x16.Addr x16.Val x16.Deps x16.Taint (w64 (r14_0 + 1))))
  else
  some (a0, v1, e0)
theorem Jr (m : Nat) : ∀ (a0 : Int) (v1 : Int) (e0 : (List GEntry)), Ol (xA m a0 v1 e0) 83 (zJ Tryz.f83 0) ⟨[(0, vr 0), (1, vi a0), (5, vi v1)], [.obj 9 (eL zr e0)], 1⟩ fun o => match o with | ⟨o_0, o_1, o_2⟩ => (.exit 0, ⟨[(0, vr 0), (1, vi o_0), (5, vi o_1), (9, vb false)], [.obj 9 (eL zr o_2)], 1⟩) := by
  induction m with
  | zero => intro a0 v1 e0 o h; cases h
  | succ m ih => exact fun a0 v1 e0 => tlp (
   .le zr e0 <|
   .lI v1 (e0.length : Int) (fun c1 =>
    .na v1 fun i2 =>
    .ix z8 e0 i2 fun x3 =>
    .ag 0 <|
    .cl (xM a0 x3.Addr) fun ⟨r4_0, r4_1⟩ =>
    .ag 1 <|
    .sl (z8 (GEntry.mk r4_1 x3.Val x3.Deps x3.Taint x3.Turned)) e0 i2 <|
    .ag 2 <|
    .ix z8 (e0.set i2 (GEntry.mk r4_1 x3.Val x3.Deps x3.Taint x3.Turned)) i2 fun x5 =>
    .ag 0 <|
    .sl (z8 (GEntry.mk x5.Addr (GValue.mk r4_0 x5.Val.N x5.Val.S x5.Val.K x5.Val.L) x5.Deps x5.Taint x5.Turned)) (e0.set i2 (GEntry.mk r4_1 x3.Val x3.Deps x3.Taint x3.Turned)) i2 <|
    .ag 3 <|
    .ix z8 ((e0.set i2 (GEntry.mk r4_1 x3.Val x3.Deps x3.Taint x3.Turned)).set i2 (GEntry.mk x5.Addr (GValue.mk r4_0 x5.Val.N x5.Val.S x5.Val.K x5.Val.L) x5.Deps x5.Taint x5.Turned)) i2 fun x6 =>
    .ag 0 <|
    .sl (z8 (GEntry.mk x6.Addr (GValue.mk x6.Val.Kind (w64 (r4_0 + 1)) x6.Val.S x6.Val.K x6.Val.L) x6.Deps x6.Taint x6.Turned)) ((e0.set i2 (GEntry.mk r4_1 x3.Val x3.Deps x3.Taint x3.Turned)).set i2 (GEntry.mk x5.Addr (GValue.mk r4_0 x5.Val.N x5.Val.S x5.Val.K x5.Val.L) x5.Deps x5.Taint x5.Turned)) i2 <|
    .ag 4 <|
    .ix z8 (((e0.set i2 (GEntry.mk r4_1 x3.Val x3.Deps x3.Taint x3.Turned)).set i2 (GEntry.mk x5.Addr (GValue.mk r4_0 x5.Val.N x5.Val.S x5.Val.K x5.Val.L) x5.Deps x5.Taint x5.Turned)).set i2 (GEntry.mk x6.Addr (GValue.mk x6.Val.Kind (w64 (r4_0 + 1)) x6.Val.S x6.Val.K x6.Val.L) x6.Deps x6.Taint x6.Turned)) i2 fun x7 =>
    .ag 0 <|
    .cl (xM (w64 ((w64 (r4_0 + 1)) + 1)) x7.Val.S) fun ⟨r8_0, r8_1⟩ =>
    .ag 1 <|
    .sl (z8 (GEntry.mk x7.Addr (GValue.mk x7.Val.Kind x7.Val.N r8_1 x7.Val.K x7.Val.L) x7.Deps x7.Taint x7.Turned)) (((e0.set i2 (GEntry.mk r4_1 x3.Val x3.Deps x3.Taint x3.Turned)).set i2 (GEntry.mk x5.Addr (GValue.mk r4_0 x5.Val.N x5.Val.S x5.Val.K x5.Val.L) x5.Deps x5.Taint x5.Turned)).set i2 (GEntry.mk x6.Addr (GValue.mk x6.Val.Kind (w64 (r4_0 + 1)) x6.Val.S x6.Val.K x6.Val.L) x6.Deps x6.Taint x6.Turned)) i2 <|
    .ag 6 <|
    .ix z8 ((((e0.set i2 (GEntry.mk r4_1 x3.Val x3.Deps x3.Taint x3.Turned)).set i2 (GEntry.mk x5.Addr (GValue.mk r4_0 x5.Val.N x5.Val.S x5.Val.K x5.Val.L) x5.Deps x5.Taint x5.Turned)).set i2 (GEntry.mk x6.Addr (GValue.mk x6.Val.Kind (w64 (r4_0 + 1)) x6.Val.S x6.Val.K x6.Val.L) x6.Deps x6.Taint x6.Turned)).set i2 (GEntry.mk x7.Addr (GValue.mk x7.Val.Kind x7.Val.N r8_1 x7.Val.K x7.Val.L) x7.Deps x7.Taint x7.Turned)) i2 fun x9 =>
    .ag 0 <|
    .cl (qF r8_0 x9.Val.K) fun ⟨r10_0, r10_1⟩ =>
    .ag 1 <|
    .sl (z8 (GEntry.mk x9.Addr (GValue.mk x9.Val.Kind x9.Val.N x9.Val.S r10_1 x9.Val.L) x9.Deps x9.Taint x9.Turned)) ((((e0.set i2 (GEntry.mk r4_1 x3.Val x3.Deps x3.Taint x3.Turned)).set i2 (GEntry.mk x5.Addr (GValue.mk r4_0 x5.Val.N x5.Val.S x5.Val.K x5.Val.L) x5.Deps x5.Taint x5.Turned)).set i2 (GEntry.mk x6.Addr (GValue.mk x6.Val.Kind (w64 (r4_0 + 1)) x6.Val.S x6.Val.K x6.Val.L) x6.Deps x6.Taint x6.Turned)).set i2 (GEntry.mk x7.Addr (GValue.mk x7.Val.Kind x7.Val.N r8_1 x7.Val.K x7.Val.L) x7.Deps x7.Taint x7.Turned)) i2 <|
    .ag 8 <|
    .ix z8 (((((e0.set i2 (GEntry.mk r4_1 x3.Val x3.Deps x3.Taint x3.Turned)).set i2 (GEntry.mk x5.Addr (GValue.mk r4_0 x5.Val.N x5.Val.S x5.Val.K x5.Val.L) x5.Deps x5.Taint x5.Turned)).set i2 (GEntry.mk x6.Addr (GValue.mk x6.Val.Kind (w64 (r4_0 + 1)) x6.Val.S x6.Val.K x6.Val.L) x6.Deps x6.Taint x6.Turned)).set i2 (GEntry.mk x7.Addr (GValue.mk x7.Val.Kind x7.Val.N r8_1 x7.Val.K x7.Val.L) x7.Deps x7.Taint x7.Turned)).set i2 (GEntry.mk x9.Addr (GValue.mk x9.Val.Kind x9.Val.N x9.Val.S r10_1 x9.Val.L) x9.Deps x9.Taint x9.Turned)) i2 fun x11 =>
    .ag 0 <|
    .cl (XO r10_0 x11.Val.L) fun ⟨r12_0, r12_1⟩ =>
    .ag 1 <|
    .sl (z8 (GEntry.mk x11.Addr (GValue.mk x11.Val.Kind x11.Val.N x11.Val.S x11.Val.K r12_1) x11.Deps x11.Taint x11.Turned)) (((((e0.set i2 (GEntry.mk r4_1 x3.Val x3.Deps x3.Taint x3.Turned)).set i2 (GEntry.mk x5.Addr (GValue.mk r4_0 x5.Val.N x5.Val.S x5.Val.K x5.Val.L) x5.Deps x5.Taint x5.Turned)).set i2 (GEntry.mk x6.Addr (GValue.mk x6.Val.Kind (w64 (r4_0 + 1)) x6.Val.S x6.Val.K x6.Val.L) x6.Deps x6.Taint x6.Turned)).set i2 (GEntry.mk x7.Addr (GValue.mk x7.Val.Kind x7.Val.N r8_1 x7.Val.K x7.Val.L) x7.Deps x7.Taint x7.Turned)).set i2 (GEntry.mk x9.Addr (GValue.mk x9.Val.Kind x9.Val.N x9.Val.S r10_1 x9.Val.L) x9.Deps x9.Taint x9.Turned)) i2 <|
    .ag 10 <|
    .ix z8 ((((((e0.set i2 (GEntry.mk r4_1 x3.Val x3.Deps x3.Taint x3.Turned)).set i2 (GEntry.mk x5.Addr (GValue.mk r4_0 x5.Val.N x5.Val.S x5.Val.K x5.Val.L) x5.Deps x5.Taint x5.Turned)).set i2 (GEntry.mk x6.Addr (GValue.mk x6.Val.Kind (w64 (r4_0 + 1)) x6.Val.S x6.Val.K x6.Val.L) x6.Deps x6.Taint x6.Turned)).set i2 (GEntry.mk x7.Addr (GValue.mk x7.Val.Kind x7.Val.N r8_1 x7.Val.K x7.Val.L) x7.Deps x7.Taint x7.Turned)).set i2 (GEntry.mk x9.Addr (GValue.mk x9.Val.Kind x9.Val.N x9.Val.S r10_1 x9.Val.L) x9.Deps x9.Taint x9.Turned)).set i2 (GEntry.mk x11.Addr (GValue.mk x11.Val.Kind x11.Val.N x11.Val.S x11.Val.K r12_1) x11.Deps x11.Taint x11.Turned)) i2 fun x13 =>
    .ag 0 <|
    .cl (qF r12_0 x13.Deps) fun ⟨r14_0, r14_1⟩ =>
    .ag 1 <|
    .sl (z8 (GEntry.mk x13.Addr x13.Val r14_1 x13.Taint x13.Turned)) ((((((e0.set i2 (GEntry.mk r4_1 x3.Val x3.Deps x3.Taint x3.Turned)).set i2 (GEntry.mk x5.Addr (GValue.mk r4_0 x5.Val.N x5.Val.S x5.Val.K x5.Val.L) x5.Deps x5.Taint x5.Turned)).set i2 (GEntry.mk x6.Addr (GValue.mk x6.Val.Kind (w64 (r4_0 + 1)) x6.Val.S x6.Val.K x6.Val.L) x6.Deps x6.Taint x6.Turned)).set i2 (GEntry.mk x7.Addr (GValue.mk x7.Val.Kind x7.Val.N r8_1 x7.Val.K x7.Val.L) x7.Deps x7.Taint x7.Turned)).set i2 (GEntry.mk x9.Addr (GValue.mk x9.Val.Kind x9.Val.N x9.Val.S r10_1 x9.Val.L) x9.Deps x9.Taint x9.Turned)).set i2 (GEntry.mk x11.Addr (GValue.mk x11.Val.Kind x11.Val.N x11.Val.S x11.Val.K r12_1) x11.Deps x11.Taint x11.Turned)) i2 <|
    .q ⟨.nz 3, .b true, rfl⟩ <|
    .eD (r14_0.tmod 3) 0 <|
    .ag 12 <|
    .ix z8 (((((((e0.set i2 (GEntry.mk r4_1 x3.Val x3.Deps x3.Taint x3.Turned)).set i2 (GEntry.mk x5.Addr (GValue.mk r4_0 x5.Val.N x5.Val.S x5.Val.K x5.Val.L) x5.Deps x5.Taint x5.Turned)).set i2 (GEntry.mk x6.Addr (GValue.mk x6.Val.Kind (w64 (r4_0 + 1)) x6.Val.S x6.Val.K x6.Val.L) x6.Deps x6.Taint x6.Turned)).set i2 (GEntry.mk x7.Addr (GValue.mk x7.Val.Kind x7.Val.N r8_1 x7.Val.K x7.Val.L) x7.Deps x7.Taint x7.Turned)).set i2 (GEntry.mk x9.Addr (GValue.mk x9.Val.Kind x9.Val.N x9.Val.S r10_1 x9.Val.L) x9.Deps x9.Taint x9.Turned)).set i2 (GEntry.mk x11.Addr (GValue.mk x11.Val.Kind x11.Val.N x11.Val.S x11.Val.K r12_1) x11.Deps x11.Taint x11.Turned)).set i2 (GEntry.mk x13.Addr x13.Val r14_1 x13.Taint x13.Turned)) i2 fun x15 =>
    .ag 0 <|
    .sl (z8 (GEntry.mk x15.Addr x15.Val x15.Deps (decide ((r14_0.tmod 3) = 0)) x15.Turned)) (((((((e0.set i2 (GEntry.mk r4_1 x3.Val x3.Deps x3.Taint x3.Turned)).set i2 (GEntry.mk x5.Addr (GValue.mk r4_0 x5.Val.N x5.Val.S x5.Val.K x5.Val.L) x5.Deps x5.Taint x5.Turned)).set i2 (GEntry.mk x6.Addr (GValue.mk x6.Val.Kind (w64 (r4_0 + 1)) x6.Val.S x6.Val.K x6.Val.L) x6.Deps x6.Taint x6.Turned)).set i2 (GEntry.mk x7.Addr (GValue.mk x7.Val.Kind x7.Val.N r8_1 x7.Val.K x7.Val.L) x7.Deps x7.Taint x7.Turned)).set i2 (GEntry.mk x9.Addr (GValue.mk x9.Val.Kind x9.Val.N x9.Val.S r10_1 x9.Val.L) x9.Deps x9.Taint x9.Turned)).set i2 (GEntry.mk x11.Addr (GValue.mk x11.Val.Kind x11.Val.N x11.Val.S x11.Val.K r12_1) x11.Deps x11.Taint x11.Turned)).set i2 (GEntry.mk x13.Addr x13.Val r14_1 x13.Taint x13.Turned)) i2 <|
    .ag 13 <|
    .ix z8 ((((((((e0.set i2 (GEntry.mk r4_1 x3.Val x3.Deps x3.Taint x3.Turned)).set i2 (GEntry.mk x5.Addr (GValue.mk r4_0 x5.Val.N x5.Val.S x5.Val.K x5.Val.L) x5.Deps x5.Taint x5.Turned)).set i2 (GEntry.mk x6.Addr (GValue.mk x6.Val.Kind (w64 (r4_0 + 1)) x6.Val.S x6.Val.K x6.Val.L) x6.Deps x6.Taint x6.Turned)).set i2 (GEntry.mk x7.Addr (GValue.mk x7.Val.Kind x7.Val.N r8_1 x7.Val.K x7.Val.L) x7.Deps x7.Taint x7.Turned)).set i2 (GEntry.mk x9.Addr (GValue.mk x9.Val.Kind x9.Val.N x9.Val.S r10_1 x9.Val.L) x9.Deps x9.Taint x9.Turned)).set i2 (GEntry.mk x11.Addr (GValue.mk x11.Val.Kind x11.Val.N x11.Val.S x11.Val.K r12_1) x11.Deps x11.Taint x11.Turned)).set i2 (GEntry.mk x13.Addr x13.Val r14_1 x13.Taint x13.Turned)).set i2 (GEntry.mk x15.Addr x15.Val x15.Deps (decide ((r14_0.tmod 3) = 0)) x15.Turned)) i2 fun x16 =>
    .ag 0 <|
    .sl (z8 (GEntry.mk x16.Addr x16.Val x16.Deps x16.Taint (w64 (r14_0 + 1)))) ((((((((e0.set i2 (GEntry.mk r4_1 x3.Val x3.Deps x3.Taint x3.Turned)).set i2 (GEntry.mk x5.Addr (GValue.mk r4_0 x5.Val.N x5.Val.S x5.Val.K x5.Val.L) x5.Deps x5.Taint x5.Turned)).set i2 (GEntry.mk x6.Addr (GValue.mk x6.Val.Kind (w64 (r4_0 + 1)) x6.Val.S x6.Val.K x6.Val.L) x6.Deps x6.Taint x6.Turned)).set i2 (GEntry.mk x7.Addr (GValue.mk x7.Val.Kind x7.Val.N r8_1 x7.Val.K x7.Val.L) x7.Deps x7.Taint x7.Turned)).set i2 (GEntry.mk x9.Addr (GValue.mk x9.Val.Kind x9.Val.N x9.Val.S r10_1 x9.Val.L) x9.Deps x9.Taint x9.Turned)).set i2 (GEntry.mk x11.Addr (GValue.mk x11.Val.Kind x11.Val.N x11.Val.S x11.Val.K r12_1) x11.Deps x11.Taint x11.Turned)).set i2 (GEntry.mk x13.Addr x13.Val r14_1 x13.Taint x13.Turned)).set i2 (GEntry.mk x15.Addr x15.Val x15.Deps (decide ((r14_0.tmod 3) = 0)) x15.Turned)) i2 <|
    .go (ih (w64 ((w64 (r14_0 + 1)) + 1)) (w64 (v1 + 1)) (((((((((e0.set i2 (GEntry.mk r4_1 x3.Val x3.Deps x3.Taint x3.Turned)).set i2 (GEntry.mk x5.Addr (GValue.mk r4_0 x5.Val.N x5.Val.S x5.Val.K x5.Val.L) x5.Deps x5.Taint x5.Turned)).set i2 (GEntry.mk x6.Addr (GValue.mk x6.Val.Kind (w64 (r4_0 + 1)) x6.Val.S x6.Val.K x6.Val.L) x6.Deps x6.Taint x6.Turned)).set i2 (GEntry.mk x7.Addr (GValue.mk x7.Val.Kind x7.Val.N r8_1 x7.Val.K x7.Val.L) x7.Deps x7.Taint x7.Turned)).set i2 (GEntry.mk x9.Addr (GValue.mk x9.Val.Kind x9.Val.N x9.Val.S r10_1 x9.Val.L) x9.Deps x9.Taint x9.Turned)).set i2 (GEntry.mk x11.Addr (GValue.mk x11.Val.Kind x11.Val.N x11.Val.S x11.Val.K r12_1) x11.Deps x11.Taint x11.Turned)).set i2 (GEntry.mk x13.Addr x13.Val r14_1 x13.Taint x13.Turned)).set i2 (GEntry.mk x15.Addr x15.Val x15.Deps (decide ((r14_0.tmod 3) = 0)) x15.Turned)).set i2 (GEntry.mk x16.Addr x16.Val x16.Deps x16.Taint (w64 (r14_0 + 1)))))) fun c1 =>
   .ret (a0, v1, e0))
def ZX (n : Nat) (a0 : Int) (e0 : (List GEntry)) : Option (Int × (List GEntry)) :=
 (xA n a0 0 e0).bind fun ⟨o1_0, o1_1, o1_2⟩ =>
 some (o1_0, o1_2)
theorem RL (n : Nat) : Wq (ZX n) := fun a0 e0 => tc (
 .lp (Jr n a0 0 e0) fun ⟨o1_0, o1_1, o1_2⟩ =>
 .ret (o1_0, o1_2)) (zf Tryz.func83)
theorem Pf : ∀ (l p : List GEntry) (k : Int) (m : Nat), 0 <= k → k + 4 * yb l <= 2 ^ 40 → p.length + l.length <= 2 ^ 40 → l.length < m → ∃ z, xA m k (p.length : Int) (p ++ l) = some (k + cEs l, z, p ++ mEs k l) := by
 intro l
 induction l with
 | nil =>
  intro p k m _ _ _ hm
  obtain ⟨m, rfl, _⟩ := zg hm
  exact ⟨_, by rw [xA, if_neg (wc p)]; simp [mEs, cEs]; rfl⟩
 | cons x l ih =>
  intro p k m h0 h1 h2 hm
  obtain ⟨m, rfl, hm'⟩ := zg hm
  simp only [List.length_cons] at h2 hm'
  have hc := HC x
  simp only [yb] at h1
  obtain ⟨z, hz⟩ := ih (p ++ [mE k x]) (k + cE x) m (by omega) (by omega) (by simp; omega) (by omega)
  have hcv := W9 x.Val
  have hcd := j4 x.Deps
  have hve := xH x.Val
  have hcq := Pr x.Val
  have hmq := Ps (k + x.Addr.length) x.Val
  have hb := j4 x.Val.K
  have hd := XQ x.Val.L
  have hmE : mE k x = .mk (mB k x.Addr) (mV (k + x.Addr.length) x.Val) (mBB (k + x.Addr.length + cV x.Val) x.Deps) (decide ((k + x.Addr.length + cV x.Val + cB x.Deps).tmod 3 = 0)) (k + x.Addr.length + cV x.Val + cB x.Deps + 1) := rfl
  have hcE : cE x = x.Addr.length + cV x.Val + cB x.Deps + 2 := rfl
  unfold esz at h1 hc
  obtain ⟨ad, v, dp, ta, tu⟩ := x
  obtain ⟨kd, n, s, kk, ks⟩ := v
  simp only [GEntry.Addr, GEntry.Val, GEntry.Deps, GValue.S, GValue.K, GValue.L] at *
  rw [xA, if_pos (vH p _ l), zb, oB, zF, oB]
  simp only [GEntry.Addr, GEntry.Val, GEntry.Deps, GEntry.Taint, GEntry.Turned]
  rw [qE (by omega) (by omega)]
  simp only [oB, wD, zF, GValue.Kind, GValue.N, GValue.S, GValue.K, GValue.L, GEntry.Addr, GEntry.Val, GEntry.Deps, GEntry.Taint, GEntry.Turned]
  rw [zW (x := k + (ad.length : Int) + 1) (by omega) (by omega), zW (x := k + (ad.length : Int) + 1 + 1) (by omega) (by omega), qE (by omega) (by omega)]
  simp only [oB, wD, zF, GValue.Kind, GValue.N, GValue.S, GValue.K, GValue.L, GEntry.Addr, GEntry.Val, GEntry.Deps, GEntry.Taint, GEntry.Turned]
  rw [vF (by omega) (by omega)]
  simp only [oB, wD, zF, GValue.Kind, GValue.N, GValue.S, GValue.K, GValue.L, GEntry.Addr, GEntry.Val, GEntry.Deps, GEntry.Taint, GEntry.Turned]
  rw [K1 (by omega) (by omega)]
  simp only [oB, wD, zF, GValue.Kind, GValue.N, GValue.S, GValue.K, GValue.L, GEntry.Addr, GEntry.Val, GEntry.Deps, GEntry.Taint, GEntry.Turned]
  have e1 : k + (ad.length : Int) + 1 + 1 + (s.length : Int) + (cB kk : Int) + (cVs ks : Int) = k + (ad.length : Int) + (cV (.mk kd n s kk ks) : Int) := by omega
  rw [e1, vF (by omega) (by omega)]
  simp only [oB, wD, zF, GValue.Kind, GValue.N, GValue.S, GValue.K, GValue.L, GEntry.Addr, GEntry.Val, GEntry.Deps, GEntry.Taint, GEntry.Turned]
  rw [zW (x := k + (ad.length : Int) + (cV (.mk kd n s kk ks) : Int) + (cB dp : Int) + 1) (by omega) (by omega), zW (x := k + (ad.length : Int) + (cV (.mk kd n s kk ks) : Int) + (cB dp : Int) + 1 + 1) (by omega) (by omega), <- hmq]
  refine ⟨z, Eq.trans ?_ (Eq.trans hz ?_)⟩
  ·congr 1
   ·omega
   ·exact y4 p (mE k _) (by omega)
   ·rw [List.append_assoc, List.singleton_append, hmE]; congr
  simp only [mEs, cEs, List.append_assoc, List.singleton_append]
  rw [show k + ((cE (.mk ad (.mk kd n s kk ks) dp ta tu) : Nat) : Int) + (cEs l : Int) = k + ((cE (.mk ad (.mk kd n s kk ks) dp ta tu) + cEs l : Nat) : Int) by omega]
def jb (a0 : Int) (e0 : (List GEntry)) : Option (Int × (List GEntry)) := if 0 <= a0 ∧ a0 + 4 * yb e0 <= 2 ^ 40 then some (a0 + cEs e0, mEs a0 e0) else none
theorem K3 {a : Int} {s : List GEntry} (h0 : 0 <= a) (h1 : a + 4 * yb s <= 2 ^ 40) : jb a s = some (a + cEs s, mEs a s) := if_pos ⟨h0, h1⟩
theorem JV (a0 : Int) (e0 : (List GEntry)) (r : (Int × (List GEntry))) (h : jb a0 e0 = some r) : ∃ n, ZX n a0 e0 = some r := by
 unfold jb at h
 obtain ⟨⟨h0, h1⟩, h⟩ := zB h
 have := qy e0
 obtain ⟨z, hz⟩ := Pf e0 [] a0 (e0.length + 1) h0 h1 (by simp; omega) (by omega)
 refine ⟨e0.length + 1, ?_⟩
 unfold ZX
 simp only [List.nil_append, List.length_nil, Int.natCast_zero] at hz
 rw [hz]
 exact h
theorem VV : Wq jb := fun a0 e0 r h => (JV a0 e0 r h).elim fun n hn => RL n a0 e0 r hn
def vm (a0_0 : Int) (a0_1 : Bool) (a0_3 : Int) (a1 : Int) (e0 : (List UInt8)) (e1 : (List GEntry)) : Option (Int × (List UInt8) × (List GEntry)) :=
 (yy a1 e0).bind fun ⟨r1_0, r1_1⟩ =>
 (jb r1_0 e1).bind fun ⟨r2_0, r2_1⟩ =>
 some (r2_0, r1_1, r2_1)
theorem RM (a0_0 : Int) (a0_1 : Bool) (a0_3 : Int) (a1 : Int) (e0 : (List UInt8)) (e1 : (List GEntry)) : Oc (vm a0_0 a0_1 a0_3 a1 e0 e1) 23 [.obj 1 (eL za e0), .obj 9 (eL zr e1)] [.val true [ci a0_0, .bool a0_1, .ref 0, ci a0_3, .ref 1], vi a1] fun r => (vi r.1, [.obj 1 (eL za r.2.1), .obj 9 (eL zr r.2.2)]) := tc (
 .cl (xM a1 e0) fun ⟨r1_0, r1_1⟩ =>
 .cl (VV r1_0 e1) fun ⟨r2_0, r2_1⟩ =>
 .ret (r2_0, r1_1, r2_1)) (zf Tryz.func23)
def Wr (F : Int → (List GEvent) → Option (Int × (List GEvent))) : Prop := ∀ (a0 : Int) (e0 : (List GEvent)), Oc (F a0 e0) 92 [.obj 9 (eL yq e0)] [vr 0, vi a0] fun r => (vi r.1, [.obj 9 (eL yq r.2)])
def xB : Nat → Int → Int → (List GEvent) → Option (Int × Int × (List GEvent))
  | 0, _, _, _ => none
  | m + 1, a0, v1, e0 =>
  if v1 < (e0.length : Int) then
   (zv v1).bind fun i2 =>
   (e0[i2]?).bind fun x3 =>
   ((e0.set i2 (GEvent.mk a0 x3.Addr x3.Act x3.Val x3.Deps))[i2]?).bind fun x4 =>
   (yy (w64 (a0 + 1)) x4.Addr).bind fun ⟨r5_0, r5_1⟩ =>
   (((e0.set i2 (GEvent.mk a0 x3.Addr x3.Act x3.Val x3.Deps)).set i2 (GEvent.mk x4.Kind r5_1 x4.Act x4.Val x4.Deps))[i2]?).bind fun x6 =>
   ((((e0.set i2 (GEvent.mk a0 x3.Addr x3.Act x3.Val x3.Deps)).set i2 (GEvent.mk x4.Kind r5_1 x4.Act x4.Val x4.Deps)).set i2 (GEvent.mk x6.Kind x6.Addr r5_0 x6.Val x6.Deps))[i2]?).bind fun x7 =>
   (((((e0.set i2 (GEvent.mk a0 x3.Addr x3.Act x3.Val x3.Deps)).set i2 (GEvent.mk x4.Kind r5_1 x4.Act x4.Val x4.Deps)).set i2 (GEvent.mk x6.Kind x6.Addr r5_0 x6.Val x6.Deps)).set i2 (GEvent.mk x7.Kind x7.Addr x7.Act (GValue.mk (w64 (r5_0 + 1)) x7.Val.N x7.Val.S x7.Val.K x7.Val.L) x7.Deps))[i2]?).bind fun x8 =>
   ((((((e0.set i2 (GEvent.mk a0 x3.Addr x3.Act x3.Val x3.Deps)).set i2 (GEvent.mk x4.Kind r5_1 x4.Act x4.Val x4.Deps)).set i2 (GEvent.mk x6.Kind x6.Addr r5_0 x6.Val x6.Deps)).set i2 (GEvent.mk x7.Kind x7.Addr x7.Act (GValue.mk (w64 (r5_0 + 1)) x7.Val.N x7.Val.S x7.Val.K x7.Val.L) x7.Deps)).set i2 (GEvent.mk x8.Kind x8.Addr x8.Act (GValue.mk x8.Val.Kind (w64 ((w64 (r5_0 + 1)) + 1)) x8.Val.S x8.Val.K x8.Val.L) x8.Deps))[i2]?).bind fun x9 =>
   (yy (w64 ((w64 ((w64 (r5_0 + 1)) + 1)) + 1)) x9.Val.S).bind fun ⟨r10_0, r10_1⟩ =>
   (((((((e0.set i2 (GEvent.mk a0 x3.Addr x3.Act x3.Val x3.Deps)).set i2 (GEvent.mk x4.Kind r5_1 x4.Act x4.Val x4.Deps)).set i2 (GEvent.mk x6.Kind x6.Addr r5_0 x6.Val x6.Deps)).set i2 (GEvent.mk x7.Kind x7.Addr x7.Act (GValue.mk (w64 (r5_0 + 1)) x7.Val.N x7.Val.S x7.Val.K x7.Val.L) x7.Deps)).set i2 (GEvent.mk x8.Kind x8.Addr x8.Act (GValue.mk x8.Val.Kind (w64 ((w64 (r5_0 + 1)) + 1)) x8.Val.S x8.Val.K x8.Val.L) x8.Deps)).set i2 (GEvent.mk x9.Kind x9.Addr x9.Act (GValue.mk x9.Val.Kind x9.Val.N r10_1 x9.Val.K x9.Val.L) x9.Deps))[i2]?).bind fun x11 =>
   (yI r10_0 x11.Val.K).bind fun ⟨r12_0, r12_1⟩ =>
   ((((((((e0.set i2 (GEvent.mk a0 x3.Addr x3.Act x3.Val x3.Deps)).set i2 (GEvent.mk x4.Kind r5_1 x4.Act x4.Val x4.Deps)).set i2 (GEvent.mk x6.Kind x6.Addr r5_0 x6.Val x6.Deps)).set i2 (GEvent.mk x7.Kind x7.Addr x7.Act (GValue.mk (w64 (r5_0 + 1)) x7.Val.N x7.Val.S x7.Val.K x7.Val.L) x7.Deps)).set i2 (GEvent.mk x8.Kind x8.Addr x8.Act (GValue.mk x8.Val.Kind (w64 ((w64 (r5_0 + 1)) + 1)) x8.Val.S x8.Val.K x8.Val.L) x8.Deps)).set i2 (GEvent.mk x9.Kind x9.Addr x9.Act (GValue.mk x9.Val.Kind x9.Val.N r10_1 x9.Val.K x9.Val.L) x9.Deps)).set i2 (GEvent.mk x11.Kind x11.Addr x11.Act (GValue.mk x11.Val.Kind x11.Val.N x11.Val.S r12_1 x11.Val.L) x11.Deps))[i2]?).bind fun x13 =>
   (wS r12_0 x13.Val.L).bind fun ⟨r14_0, r14_1⟩ =>
   (((((((((e0.set i2 (GEvent.mk a0 x3.Addr x3.Act x3.Val x3.Deps)).set i2 (GEvent.mk x4.Kind r5_1 x4.Act x4.Val x4.Deps)).set i2 (GEvent.mk x6.Kind x6.Addr r5_0 x6.Val x6.Deps)).set i2 (GEvent.mk x7.Kind x7.Addr x7.Act (GValue.mk (w64 (r5_0 + 1)) x7.Val.N x7.Val.S x7.Val.K x7.Val.L) x7.Deps)).set i2 (GEvent.mk x8.Kind x8.Addr x8.Act (GValue.mk x8.Val.Kind (w64 ((w64 (r5_0 + 1)) + 1)) x8.Val.S x8.Val.K x8.Val.L) x8.Deps)).set i2 (GEvent.mk x9.Kind x9.Addr x9.Act (GValue.mk x9.Val.Kind x9.Val.N r10_1 x9.Val.K x9.Val.L) x9.Deps)).set i2 (GEvent.mk x11.Kind x11.Addr x11.Act (GValue.mk x11.Val.Kind x11.Val.N x11.Val.S r12_1 x11.Val.L) x11.Deps)).set i2 (GEvent.mk x13.Kind x13.Addr x13.Act (GValue.mk x13.Val.Kind x13.Val.N x13.Val.S x13.Val.K r14_1) x13.Deps))[i2]?).bind fun x15 =>
   (yI r14_0 x15.Deps).bind fun ⟨r16_0, r16_1⟩ =>
   xB m r16_0 (w64 (v1 + 1)) (((((((((e0.set i2 (GEvent.mk a0 x3.Addr x3.Act x3.Val x3.Deps)).set i2 (GEvent.mk x4.Kind r5_1 x4.Act x4.Val x4.Deps)).set i2 (GEvent.mk x6.Kind x6.Addr r5_0 x6.Val x6.Deps)).set i2 (GEvent.mk x7.Kind x7.Addr x7.Act (GValue.mk (w64 (r5_0 + 1)) x7.Val.N x7.Val.S x7.Val.K x7.Val.L) x7.Deps)).set i2 (GEvent.mk x8.Kind x8.Addr x8.Act (GValue.mk x8.Val.Kind (w64 ((w64 (r5_0 + 1)) + 1)) x8.Val.S x8.Val.K x8.Val.L) x8.Deps)).set i2 (GEvent.mk x9.Kind x9.Addr x9.Act (GValue.mk x9.Val.Kind x9.Val.N r10_1 x9.Val.K x9.Val.L) x9.Deps)).set i2 (GEvent.mk x11.Kind x11.Addr x11.Act (GValue.mk x11.Val.Kind x11.Val.N x11.Val.S r12_1 x11.Val.L) x11.Deps)).set i2 (GEvent.mk x13.Kind x13.Addr x13.Act (GValue.mk x13.Val.Kind x13.Val.N x13.Val.S x13.Val.K r14_1) x13.Deps)).set i2 (GEvent.mk x15.Kind x15.Addr x15.Act x15.Val r16_1))
  else
  some (a0, v1, e0)
theorem Js (m : Nat) : ∀ (a0 : Int) (v1 : Int) (e0 : (List GEvent)), Ol (xB m a0 v1 e0) 92 (zJ Tryz.f92 0) ⟨[(0, vr 0), (1, vi a0), (5, vi v1)], [.obj 9 (eL yq e0)], 1⟩ fun o => match o with | ⟨o_0, o_1, o_2⟩ => (.exit 0, ⟨[(0, vr 0), (1, vi o_0), (5, vi o_1), (9, vb false)], [.obj 9 (eL yq o_2)], 1⟩) := by
  induction m with
  | zero => intro a0 v1 e0 o h; cases h
  | succ m ih => exact fun a0 v1 e0 => tlp (
   .le yq e0 <|
   .lI v1 (e0.length : Int) (fun c1 =>
    .na v1 fun i2 =>
    .ix yi e0 i2 fun x3 =>
    .ag 0 <|
    .sl (yi (GEvent.mk a0 x3.Addr x3.Act x3.Val x3.Deps)) e0 i2 <|
    .ag 1 <|
    .ix yi (e0.set i2 (GEvent.mk a0 x3.Addr x3.Act x3.Val x3.Deps)) i2 fun x4 =>
    .ag 0 <|
    .cl (xM (w64 (a0 + 1)) x4.Addr) fun ⟨r5_0, r5_1⟩ =>
    .ag 1 <|
    .sl (yi (GEvent.mk x4.Kind r5_1 x4.Act x4.Val x4.Deps)) (e0.set i2 (GEvent.mk a0 x3.Addr x3.Act x3.Val x3.Deps)) i2 <|
    .ag 3 <|
    .ix yi ((e0.set i2 (GEvent.mk a0 x3.Addr x3.Act x3.Val x3.Deps)).set i2 (GEvent.mk x4.Kind r5_1 x4.Act x4.Val x4.Deps)) i2 fun x6 =>
    .ag 0 <|
    .sl (yi (GEvent.mk x6.Kind x6.Addr r5_0 x6.Val x6.Deps)) ((e0.set i2 (GEvent.mk a0 x3.Addr x3.Act x3.Val x3.Deps)).set i2 (GEvent.mk x4.Kind r5_1 x4.Act x4.Val x4.Deps)) i2 <|
    .ag 4 <|
    .ix yi (((e0.set i2 (GEvent.mk a0 x3.Addr x3.Act x3.Val x3.Deps)).set i2 (GEvent.mk x4.Kind r5_1 x4.Act x4.Val x4.Deps)).set i2 (GEvent.mk x6.Kind x6.Addr r5_0 x6.Val x6.Deps)) i2 fun x7 =>
    .ag 0 <|
    .sl (yi (GEvent.mk x7.Kind x7.Addr x7.Act (GValue.mk (w64 (r5_0 + 1)) x7.Val.N x7.Val.S x7.Val.K x7.Val.L) x7.Deps)) (((e0.set i2 (GEvent.mk a0 x3.Addr x3.Act x3.Val x3.Deps)).set i2 (GEvent.mk x4.Kind r5_1 x4.Act x4.Val x4.Deps)).set i2 (GEvent.mk x6.Kind x6.Addr r5_0 x6.Val x6.Deps)) i2 <|
    .ag 5 <|
    .ix yi ((((e0.set i2 (GEvent.mk a0 x3.Addr x3.Act x3.Val x3.Deps)).set i2 (GEvent.mk x4.Kind r5_1 x4.Act x4.Val x4.Deps)).set i2 (GEvent.mk x6.Kind x6.Addr r5_0 x6.Val x6.Deps)).set i2 (GEvent.mk x7.Kind x7.Addr x7.Act (GValue.mk (w64 (r5_0 + 1)) x7.Val.N x7.Val.S x7.Val.K x7.Val.L) x7.Deps)) i2 fun x8 =>
    .ag 0 <|
    .sl (yi (GEvent.mk x8.Kind x8.Addr x8.Act (GValue.mk x8.Val.Kind (w64 ((w64 (r5_0 + 1)) + 1)) x8.Val.S x8.Val.K x8.Val.L) x8.Deps)) ((((e0.set i2 (GEvent.mk a0 x3.Addr x3.Act x3.Val x3.Deps)).set i2 (GEvent.mk x4.Kind r5_1 x4.Act x4.Val x4.Deps)).set i2 (GEvent.mk x6.Kind x6.Addr r5_0 x6.Val x6.Deps)).set i2 (GEvent.mk x7.Kind x7.Addr x7.Act (GValue.mk (w64 (r5_0 + 1)) x7.Val.N x7.Val.S x7.Val.K x7.Val.L) x7.Deps)) i2 <|
    .ag 6 <|
    .ix yi (((((e0.set i2 (GEvent.mk a0 x3.Addr x3.Act x3.Val x3.Deps)).set i2 (GEvent.mk x4.Kind r5_1 x4.Act x4.Val x4.Deps)).set i2 (GEvent.mk x6.Kind x6.Addr r5_0 x6.Val x6.Deps)).set i2 (GEvent.mk x7.Kind x7.Addr x7.Act (GValue.mk (w64 (r5_0 + 1)) x7.Val.N x7.Val.S x7.Val.K x7.Val.L) x7.Deps)).set i2 (GEvent.mk x8.Kind x8.Addr x8.Act (GValue.mk x8.Val.Kind (w64 ((w64 (r5_0 + 1)) + 1)) x8.Val.S x8.Val.K x8.Val.L) x8.Deps)) i2 fun x9 =>
    .ag 0 <|
    .cl (xM (w64 ((w64 ((w64 (r5_0 + 1)) + 1)) + 1)) x9.Val.S) fun ⟨r10_0, r10_1⟩ =>
    .ag 1 <|
    .sl (yi (GEvent.mk x9.Kind x9.Addr x9.Act (GValue.mk x9.Val.Kind x9.Val.N r10_1 x9.Val.K x9.Val.L) x9.Deps)) (((((e0.set i2 (GEvent.mk a0 x3.Addr x3.Act x3.Val x3.Deps)).set i2 (GEvent.mk x4.Kind r5_1 x4.Act x4.Val x4.Deps)).set i2 (GEvent.mk x6.Kind x6.Addr r5_0 x6.Val x6.Deps)).set i2 (GEvent.mk x7.Kind x7.Addr x7.Act (GValue.mk (w64 (r5_0 + 1)) x7.Val.N x7.Val.S x7.Val.K x7.Val.L) x7.Deps)).set i2 (GEvent.mk x8.Kind x8.Addr x8.Act (GValue.mk x8.Val.Kind (w64 ((w64 (r5_0 + 1)) + 1)) x8.Val.S x8.Val.K x8.Val.L) x8.Deps)) i2 <|
    .ag 8 <|
    .ix yi ((((((e0.set i2 (GEvent.mk a0 x3.Addr x3.Act x3.Val x3.Deps)).set i2 (GEvent.mk x4.Kind r5_1 x4.Act x4.Val x4.Deps)).set i2 (GEvent.mk x6.Kind x6.Addr r5_0 x6.Val x6.Deps)).set i2 (GEvent.mk x7.Kind x7.Addr x7.Act (GValue.mk (w64 (r5_0 + 1)) x7.Val.N x7.Val.S x7.Val.K x7.Val.L) x7.Deps)).set i2 (GEvent.mk x8.Kind x8.Addr x8.Act (GValue.mk x8.Val.Kind (w64 ((w64 (r5_0 + 1)) + 1)) x8.Val.S x8.Val.K x8.Val.L) x8.Deps)).set i2 (GEvent.mk x9.Kind x9.Addr x9.Act (GValue.mk x9.Val.Kind x9.Val.N r10_1 x9.Val.K x9.Val.L) x9.Deps)) i2 fun x11 =>
    .ag 0 <|
    .cl (qF r10_0 x11.Val.K) fun ⟨r12_0, r12_1⟩ =>
    .ag 1 <|
    .sl (yi (GEvent.mk x11.Kind x11.Addr x11.Act (GValue.mk x11.Val.Kind x11.Val.N x11.Val.S r12_1 x11.Val.L) x11.Deps)) ((((((e0.set i2 (GEvent.mk a0 x3.Addr x3.Act x3.Val x3.Deps)).set i2 (GEvent.mk x4.Kind r5_1 x4.Act x4.Val x4.Deps)).set i2 (GEvent.mk x6.Kind x6.Addr r5_0 x6.Val x6.Deps)).set i2 (GEvent.mk x7.Kind x7.Addr x7.Act (GValue.mk (w64 (r5_0 + 1)) x7.Val.N x7.Val.S x7.Val.K x7.Val.L) x7.Deps)).set i2 (GEvent.mk x8.Kind x8.Addr x8.Act (GValue.mk x8.Val.Kind (w64 ((w64 (r5_0 + 1)) + 1)) x8.Val.S x8.Val.K x8.Val.L) x8.Deps)).set i2 (GEvent.mk x9.Kind x9.Addr x9.Act (GValue.mk x9.Val.Kind x9.Val.N r10_1 x9.Val.K x9.Val.L) x9.Deps)) i2 <|
    .ag 10 <|
    .ix yi (((((((e0.set i2 (GEvent.mk a0 x3.Addr x3.Act x3.Val x3.Deps)).set i2 (GEvent.mk x4.Kind r5_1 x4.Act x4.Val x4.Deps)).set i2 (GEvent.mk x6.Kind x6.Addr r5_0 x6.Val x6.Deps)).set i2 (GEvent.mk x7.Kind x7.Addr x7.Act (GValue.mk (w64 (r5_0 + 1)) x7.Val.N x7.Val.S x7.Val.K x7.Val.L) x7.Deps)).set i2 (GEvent.mk x8.Kind x8.Addr x8.Act (GValue.mk x8.Val.Kind (w64 ((w64 (r5_0 + 1)) + 1)) x8.Val.S x8.Val.K x8.Val.L) x8.Deps)).set i2 (GEvent.mk x9.Kind x9.Addr x9.Act (GValue.mk x9.Val.Kind x9.Val.N r10_1 x9.Val.K x9.Val.L) x9.Deps)).set i2 (GEvent.mk x11.Kind x11.Addr x11.Act (GValue.mk x11.Val.Kind x11.Val.N x11.Val.S r12_1 x11.Val.L) x11.Deps)) i2 fun x13 =>
    .ag 0 <|
    .cl (XO r12_0 x13.Val.L) fun ⟨r14_0, r14_1⟩ =>
    .ag 1 <|
    .sl (yi (GEvent.mk x13.Kind x13.Addr x13.Act (GValue.mk x13.Val.Kind x13.Val.N x13.Val.S x13.Val.K r14_1) x13.Deps)) (((((((e0.set i2 (GEvent.mk a0 x3.Addr x3.Act x3.Val x3.Deps)).set i2 (GEvent.mk x4.Kind r5_1 x4.Act x4.Val x4.Deps)).set i2 (GEvent.mk x6.Kind x6.Addr r5_0 x6.Val x6.Deps)).set i2 (GEvent.mk x7.Kind x7.Addr x7.Act (GValue.mk (w64 (r5_0 + 1)) x7.Val.N x7.Val.S x7.Val.K x7.Val.L) x7.Deps)).set i2 (GEvent.mk x8.Kind x8.Addr x8.Act (GValue.mk x8.Val.Kind (w64 ((w64 (r5_0 + 1)) + 1)) x8.Val.S x8.Val.K x8.Val.L) x8.Deps)).set i2 (GEvent.mk x9.Kind x9.Addr x9.Act (GValue.mk x9.Val.Kind x9.Val.N r10_1 x9.Val.K x9.Val.L) x9.Deps)).set i2 (GEvent.mk x11.Kind x11.Addr x11.Act (GValue.mk x11.Val.Kind x11.Val.N x11.Val.S r12_1 x11.Val.L) x11.Deps)) i2 <|
    .ag 12 <|
    .ix yi ((((((((e0.set i2 (GEvent.mk a0 x3.Addr x3.Act x3.Val x3.Deps)).set i2 (GEvent.mk x4.Kind r5_1 x4.Act x4.Val x4.Deps)).set i2 (GEvent.mk x6.Kind x6.Addr r5_0 x6.Val x6.Deps)).set i2 (GEvent.mk x7.Kind x7.Addr x7.Act (GValue.mk (w64 (r5_0 + 1)) x7.Val.N x7.Val.S x7.Val.K x7.Val.L) x7.Deps)).set i2 (GEvent.mk x8.Kind x8.Addr x8.Act (GValue.mk x8.Val.Kind (w64 ((w64 (r5_0 + 1)) + 1)) x8.Val.S x8.Val.K x8.Val.L) x8.Deps)).set i2 (GEvent.mk x9.Kind x9.Addr x9.Act (GValue.mk x9.Val.Kind x9.Val.N r10_1 x9.Val.K x9.Val.L) x9.Deps)).set i2 (GEvent.mk x11.Kind x11.Addr x11.Act (GValue.mk x11.Val.Kind x11.Val.N x11.Val.S r12_1 x11.Val.L) x11.Deps)).set i2 (GEvent.mk x13.Kind x13.Addr x13.Act (GValue.mk x13.Val.Kind x13.Val.N x13.Val.S x13.Val.K r14_1) x13.Deps)) i2 fun x15 =>
    .ag 0 <|
    .cl (qF r14_0 x15.Deps) fun ⟨r16_0, r16_1⟩ =>
    .ag 1 <|
    .sl (yi (GEvent.mk x15.Kind x15.Addr x15.Act x15.Val r16_1)) ((((((((e0.set i2 (GEvent.mk a0 x3.Addr x3.Act x3.Val x3.Deps)).set i2 (GEvent.mk x4.Kind r5_1 x4.Act x4.Val x4.Deps)).set i2 (GEvent.mk x6.Kind x6.Addr r5_0 x6.Val x6.Deps)).set i2 (GEvent.mk x7.Kind x7.Addr x7.Act (GValue.mk (w64 (r5_0 + 1)) x7.Val.N x7.Val.S x7.Val.K x7.Val.L) x7.Deps)).set i2 (GEvent.mk x8.Kind x8.Addr x8.Act (GValue.mk x8.Val.Kind (w64 ((w64 (r5_0 + 1)) + 1)) x8.Val.S x8.Val.K x8.Val.L) x8.Deps)).set i2 (GEvent.mk x9.Kind x9.Addr x9.Act (GValue.mk x9.Val.Kind x9.Val.N r10_1 x9.Val.K x9.Val.L) x9.Deps)).set i2 (GEvent.mk x11.Kind x11.Addr x11.Act (GValue.mk x11.Val.Kind x11.Val.N x11.Val.S r12_1 x11.Val.L) x11.Deps)).set i2 (GEvent.mk x13.Kind x13.Addr x13.Act (GValue.mk x13.Val.Kind x13.Val.N x13.Val.S x13.Val.K r14_1) x13.Deps)) i2 <|
    .go (ih r16_0 (w64 (v1 + 1)) (((((((((e0.set i2 (GEvent.mk a0 x3.Addr x3.Act x3.Val x3.Deps)).set i2 (GEvent.mk x4.Kind r5_1 x4.Act x4.Val x4.Deps)).set i2 (GEvent.mk x6.Kind x6.Addr r5_0 x6.Val x6.Deps)).set i2 (GEvent.mk x7.Kind x7.Addr x7.Act (GValue.mk (w64 (r5_0 + 1)) x7.Val.N x7.Val.S x7.Val.K x7.Val.L) x7.Deps)).set i2 (GEvent.mk x8.Kind x8.Addr x8.Act (GValue.mk x8.Val.Kind (w64 ((w64 (r5_0 + 1)) + 1)) x8.Val.S x8.Val.K x8.Val.L) x8.Deps)).set i2 (GEvent.mk x9.Kind x9.Addr x9.Act (GValue.mk x9.Val.Kind x9.Val.N r10_1 x9.Val.K x9.Val.L) x9.Deps)).set i2 (GEvent.mk x11.Kind x11.Addr x11.Act (GValue.mk x11.Val.Kind x11.Val.N x11.Val.S r12_1 x11.Val.L) x11.Deps)).set i2 (GEvent.mk x13.Kind x13.Addr x13.Act (GValue.mk x13.Val.Kind x13.Val.N x13.Val.S x13.Val.K r14_1) x13.Deps)).set i2 (GEvent.mk x15.Kind x15.Addr x15.Act x15.Val r16_1)))) fun c1 =>
   .ret (a0, v1, e0))
def ZY (n : Nat) (a0 : Int) (e0 : (List GEvent)) : Option (Int × (List GEvent)) :=
 (xB n a0 0 e0).bind fun ⟨o1_0, o1_1, o1_2⟩ =>
 some (o1_0, o1_2)
theorem RN (n : Nat) : Wr (ZY n) := fun a0 e0 => tc (
 .lp (Js n a0 0 e0) fun ⟨o1_0, o1_1, o1_2⟩ =>
 .ret (o1_0, o1_2)) (zf Tryz.func92)
theorem Pg : ∀ (l p : List GEvent) (k : Int) (m : Nat), 0 <= k → k + 4 * zP l <= 2 ^ 40 → p.length + l.length <= 2 ^ 40 → l.length < m → ∃ z, xB m k (p.length : Int) (p ++ l) = some (k + kg l, z, p ++ vU k l) := by
 intro l
 induction l with
 | nil =>
  intro p k m _ _ _ hm
  obtain ⟨m, rfl, _⟩ := zg hm
  exact ⟨_, by rw [xB, if_neg (wc p)]; simp [vU, kg]; rfl⟩
 | cons x l ih =>
  intro p k m h0 h1 h2 hm
  obtain ⟨m, rfl, hm'⟩ := zg hm
  simp only [List.length_cons] at h2 hm'
  have hc := N5 x
  simp only [zP] at h1
  obtain ⟨z, hz⟩ := ih (p ++ [mEv k x]) (k + cEv x) m (by omega) (by omega) (by simp; omega) (by omega)
  have hcv := W9 x.Val
  have hcd := j4 x.Deps
  have hve := xH x.Val
  have hcq := Pr x.Val
  have hmq := Ps (k + 1 + x.Addr.length + 1) x.Val
  have hb := j4 x.Val.K
  have hd := XQ x.Val.L
  have hmE : mEv k x = .mk k (mB (k + 1) x.Addr) (k + 1 + x.Addr.length) (mV (k + 1 + x.Addr.length + 1) x.Val) (mBB (k + 1 + x.Addr.length + 1 + cV x.Val) x.Deps) := rfl
  have hcE : cEv x = x.Addr.length + cV x.Val + cB x.Deps + 2 := rfl
  unfold xg at h1 hc
  obtain ⟨ek, ad, ac, v, dp⟩ := x
  obtain ⟨kd, n, s, kk, ks⟩ := v
  simp only [GEvent.Addr, GEvent.Val, GEvent.Deps, GValue.S, GValue.K, GValue.L] at *
  rw [xB, if_pos (vH p _ l), zb, oB, zF, oB]
  simp only [wD, zF, oB, GEvent.Kind, GEvent.Addr, GEvent.Act, GEvent.Val, GEvent.Deps]
  rw [zW (x := k + 1) (by omega) (by omega), qE (by omega) (by omega)]
  simp only [oB, wD, zF, GValue.Kind, GValue.N, GValue.S, GValue.K, GValue.L, GEvent.Kind, GEvent.Addr, GEvent.Act, GEvent.Val, GEvent.Deps]
  rw [zW (x := k + 1 + (ad.length : Int) + 1) (by omega) (by omega), zW (x := k + 1 + (ad.length : Int) + 1 + 1) (by omega) (by omega), zW (x := k + 1 + (ad.length : Int) + 1 + 1 + 1) (by omega) (by omega), qE (by omega) (by omega)]
  simp only [oB, wD, zF, GValue.Kind, GValue.N, GValue.S, GValue.K, GValue.L, GEvent.Kind, GEvent.Addr, GEvent.Act, GEvent.Val, GEvent.Deps]
  rw [vF (by omega) (by omega)]
  simp only [oB, wD, zF, GValue.Kind, GValue.N, GValue.S, GValue.K, GValue.L, GEvent.Kind, GEvent.Addr, GEvent.Act, GEvent.Val, GEvent.Deps]
  rw [K1 (by omega) (by omega)]
  simp only [oB, wD, zF, GValue.Kind, GValue.N, GValue.S, GValue.K, GValue.L, GEvent.Kind, GEvent.Addr, GEvent.Act, GEvent.Val, GEvent.Deps]
  have e1 : k + 1 + (ad.length : Int) + 1 + 1 + 1 + (s.length : Int) + (cB kk : Int) + (cVs ks : Int) = k + 1 + (ad.length : Int) + 1 + (cV (.mk kd n s kk ks) : Int) := by omega
  rw [e1, vF (by omega) (by omega)]
  simp only [oB, wD, zF, GValue.Kind, GValue.N, GValue.S, GValue.K, GValue.L, GEvent.Kind, GEvent.Addr, GEvent.Act, GEvent.Val, GEvent.Deps]
  rw [<- hmq]
  refine ⟨z, Eq.trans ?_ (Eq.trans hz ?_)⟩
  ·congr 1
   ·omega
   ·exact y4 p (mEv k _) (by omega)
   ·rw [List.append_assoc, List.singleton_append, hmE]
  simp only [vU, kg, List.append_assoc, List.singleton_append]
  rw [show k + ((cEv (.mk ek ad ac (.mk kd n s kk ks) dp) : Nat) : Int) + (kg l : Int) = k + ((cEv (.mk ek ad ac (.mk kd n s kk ks) dp) + kg l : Nat) : Int) by omega]
def jc (a0 : Int) (e0 : (List GEvent)) : Option (Int × (List GEvent)) := if 0 <= a0 ∧ a0 + 4 * zP e0 <= 2 ^ 40 then some (a0 + kg e0, vU a0 e0) else none
theorem K4 {a : Int} {s : List GEvent} (h0 : 0 <= a) (h1 : a + 4 * zP s <= 2 ^ 40) : jc a s = some (a + kg s, vU a s) := if_pos ⟨h0, h1⟩
theorem JW (a0 : Int) (e0 : (List GEvent)) (r : (Int × (List GEvent))) (h : jc a0 e0 = some r) : ∃ n, ZY n a0 e0 = some r := by
 unfold jc at h
 obtain ⟨⟨h0, h1⟩, h⟩ := zB h
 have := qI e0
 obtain ⟨z, hz⟩ := Pg e0 [] a0 (e0.length + 1) h0 h1 (by simp; omega) (by omega)
 refine ⟨e0.length + 1, ?_⟩
 unfold ZY
 simp only [List.nil_append, List.length_nil, Int.natCast_zero] at hz
 rw [hz]
 exact h
theorem VW : Wr jc := fun a0 e0 r h => (JW a0 e0 r h).elim fun n hn => RN n a0 e0 r hn
def yC (a0_0 : Int) (a0_1 : Bool) (a0_3 : Int) (a0_6 : Int) (a1 : Int) (e0 : (List UInt8)) (e1 : (List GEntry)) (e2 : (List GEvent)) : Option (Int × (List UInt8) × (List GEntry) × (List GEvent)) :=
 (vm a0_0 a0_1 a0_3 a1 e0 e1).bind fun ⟨r1_0, r1_1, r1_2⟩ =>
 (jc r1_0 e2).bind fun ⟨r2_0, r2_1⟩ =>
 some (r2_0, r1_1, r1_2, r2_1)
theorem j8 (a0_0 : Int) (a0_1 : Bool) (a0_3 : Int) (a0_6 : Int) (a1 : Int) (e0 : (List UInt8)) (e1 : (List GEntry)) (e2 : (List GEvent)) : Oc (yC a0_0 a0_1 a0_3 a0_6 a1 e0 e1 e2) 33 [.obj 1 (eL za e0), .obj 9 (eL zr e1), .obj 9 (eL yq e2)] [.val true [ci a0_0, .bool a0_1, .ref 0, ci a0_3, .ref 1, .ref 2, ci a0_6], vi a1] fun r => (vi r.1, [.obj 1 (eL za r.2.1), .obj 9 (eL zr r.2.2.1), .obj 9 (eL yq r.2.2.2)]) := tc (
 .cl (RM a0_0 a0_1 a0_3 a1 e0 e1) fun ⟨r1_0, r1_1, r1_2⟩ =>
 .cl (VW r1_0 e2) fun ⟨r2_0, r2_1⟩ =>
 .ret (r2_0, r1_1, r1_2, r2_1)) (zf Tryz.func33)
def Qf (F : (List UInt8) → Int → Option Int) : Prop := ∀ (a0 : (List UInt8)) (a1 : Int), Oc (F a0 a1) 40 [] [vq za a0, vi a1] fun r => (vi r, [])
def wb (a0 : (List UInt8)) : Nat → Int → Int → Option (Int ⊕ (Int × Int))
  | 0, _, _ => none
  | m + 1, a1, v2 =>
  if v2 < (a0.length : Int) then
   (zv v2).bind fun i2 =>
   (a0[i2]?).bind fun x3 =>
   if ((x3.toNat : Nat) : Int) = (((b8 a1).toNat : Nat) : Int) then
    wb a0 m (w64 (a1 + 1)) (w64 (v2 + 1))
   else
   some (.inl (-1))
  else
  some (.inr (a1, v2))
theorem JX (a0 : (List UInt8)) (m : Nat) : ∀ (a1 : Int) (v2 : Int), Ol (wb a0 m a1 v2) 40 (zJ Tryz.f40 0) ⟨[(0, vq za a0), (1, vi a1), (5, vi v2)], [], 0⟩ fun o => match o with | .inl o_0 => (.ret, ⟨[(4, vi o_0)], [], 0⟩) | .inr (⟨o_1_0, o_1_1⟩) => (.exit 0, ⟨[(0, vq za a0), (1, vi o_1_0), (5, vi o_1_1), (9, vb false)], [], 0⟩) := by
  induction m with
  | zero => intro a1 v2 o h; cases h
  | succ m ih => exact fun a1 v2 => tlp (
   .le za a0 <|
   .lI v2 (a0.length : Int) (fun c1 =>
    .na v2 fun i2 =>
    .ix0 za a0 i2 fun x3 =>
    .eI ((x3.toNat : Nat) : Int) (((b8 a1).toNat : Nat) : Int) (fun c4 =>
     .go (ih (w64 (a1 + 1)) (w64 (v2 + 1)))) fun c4 =>
    .ret (.inl (-1))) fun c1 =>
   .ret (.inr (a1, v2)))
def Yy (n : Nat) (a0 : (List UInt8)) (a1 : Int) : Option Int :=
 (wb a0 n a1 0).bind fun o1 =>
 match o1 with
 | .inl o1_0 =>
  some o1_0
 | .inr (⟨o1_1_0, o1_1_1⟩) =>
  some o1_1_0
theorem TN (n : Nat) : Qf (Yy n) := fun a0 a1 => tc (
 .l2 (JX a0 n a1 0) (fun o1_0 =>
  .ret o1_0) fun ⟨o1_1_0, o1_1_1⟩ =>
 .ret o1_1_0) (zf Tryz.func40)
theorem Oy {a : List UInt8} : ∀ (l p : List UInt8) (k : Int) (m : Nat), a = p ++ l → mB k l = l → 0 <= k → k + 2 * l.length <= 2 ^ 41 → p.length + l.length <= 2 ^ 41 → l.length < m → ∃ z, wb a m k (p.length : Int) = some (.inr (k + l.length, z)) := by
 intro l
 induction l with
 | nil =>
  intro p k m ha _ _ _ _ hm
  subst ha
  obtain ⟨m, rfl, _⟩ := zg hm
  exact ⟨_, by rw [wb, if_neg (wc p)]; simp; rfl⟩
 | cons x l ih =>
  intro p k m ha hm0 h0 h1 h2 hm
  obtain ⟨m, rfl, hm'⟩ := zg hm
  simp only [List.length_cons] at h1 h2 hm'
  rw [mB] at hm0
  obtain ⟨e1, e2⟩ := List.cons.inj hm0
  obtain ⟨z, hz⟩ := ih (p ++ [x]) (k + 1) m (by rw [ha]; simp) e2 (by omega) (by omega) (by simp; omega) (by omega)
  refine ⟨z, ?_⟩
  rw [wb, if_pos (by rw [ha]; exact vH p x l), zb, oB, show a[p.length]? = some x by rw [ha]; exact zF p x l, oB, if_pos (by rw [e1]), y4 p x (by omega), zW (x := k + 1) (by omega) (by omega), hz]
  simp only [List.length_cons]
  rw [show k + 1 + (l.length : Int) = k + ((l.length + 1 : Nat) : Int) by omega]
def yz (a0 : (List UInt8)) (a1 : Int) : Option Int := if mB a1 a0 = a0 ∧ 0 <= a1 ∧ a1 + 2 * a0.length <= 2 ^ 41 then some (a1 + a0.length) else none
theorem jz {a : Int} {s : List UInt8} (h : mB a s = s) (h0 : 0 <= a) (h1 : a + 2 * s.length <= 2 ^ 41) : yz s a = some (a + s.length) := if_pos ⟨h, h0, h1⟩
theorem KV (a0 : (List UInt8)) (a1 : Int) (r : Int) (h : yz a0 a1 = some r) : ∃ n, Yy n a0 a1 = some r := by
 unfold yz at h
 obtain ⟨⟨he, h0, h1⟩, h⟩ := zB h
 obtain ⟨z, hz⟩ := Oy (a := a0) a0 [] a1 (a0.length + 1) rfl he h0 h1 (by simp; omega) (by omega)
 refine ⟨a0.length + 1, ?_⟩
 unfold Yy
 simp only [List.length_nil, Int.natCast_zero] at hz
 rw [hz]
 exact h
theorem xN : Qf yz := fun a0 a1 r h => (KV a0 a1 r h).elim fun n hn => TN n a0 a1 r hn
def Ws (F : (List (List UInt8)) → Int → Option Int) : Prop := ∀ (a0 : (List (List UInt8))) (a1 : Int), Oc (F a0 a1) 65 [] [vq (zt za) a0, vi a1] fun r => (vi r, [])
def xC (a0 : (List (List UInt8))) : Nat → Int → Int → Option (Int ⊕ (Int × Int))
  | 0, _, _ => none
  | m + 1, a1, v2 =>
  if v2 < (a0.length : Int) then
   (zv v2).bind fun i2 =>
   (a0[i2]?).bind fun x3 =>
   (yz x3 a1).bind fun r4 =>
   if r4 < 0 then
    some (.inl (-1))
   else
   xC a0 m r4 (w64 (v2 + 1))
  else
  some (.inr (a1, v2))
theorem Jt (a0 : (List (List UInt8))) (m : Nat) : ∀ (a1 : Int) (v2 : Int), Ol (xC a0 m a1 v2) 65 (zJ Tryz.f65 0) ⟨[(0, vq (zt za) a0), (1, vi a1), (5, vi v2)], [], 0⟩ fun o => match o with | .inl o_0 => (.ret, ⟨[(4, vi o_0)], [], 0⟩) | .inr (⟨o_1_0, o_1_1⟩) => (.exit 0, ⟨[(0, vq (zt za) a0), (1, vi o_1_0), (5, vi o_1_1), (9, vb false)], [], 0⟩) := by
  induction m with
  | zero => intro a1 v2 o h; cases h
  | succ m ih => exact fun a1 v2 => tlp (
   .le (zt za) a0 <|
   .lI v2 (a0.length : Int) (fun c1 =>
    .na v2 fun i2 =>
    .ix0 (zt za) a0 i2 fun x3 =>
    .cl (xN x3 a1) fun r4 =>
    .lI r4 0 (fun c5 =>
     .ret (.inl (-1))) fun c5 =>
    .go (ih r4 (w64 (v2 + 1)))) fun c1 =>
   .ret (.inr (a1, v2)))
def ZZ (n : Nat) (a0 : (List (List UInt8))) (a1 : Int) : Option Int :=
 (xC a0 n a1 0).bind fun o1 =>
 match o1 with
 | .inl o1_0 =>
  some o1_0
 | .inr (⟨o1_1_0, o1_1_1⟩) =>
  some o1_1_0
theorem RO (n : Nat) : Ws (ZZ n) := fun a0 a1 => tc (
 .l2 (Jt a0 n a1 0) (fun o1_0 =>
  .ret o1_0) fun ⟨o1_1_0, o1_1_1⟩ =>
 .ret o1_1_0) (zf Tryz.func65)
theorem Ph {a : List (List UInt8)} : ∀ (l p : List (List UInt8)) (k : Int) (m : Nat), a = p ++ l → mBB k l = l → 0 <= k → k + 2 * bsz l <= 2 ^ 41 → p.length + l.length <= 2 ^ 41 → l.length < m → ∃ z, xC a m k (p.length : Int) = some (.inr (k + cB l, z)) := by
 intro l
 induction l with
 | nil =>
  intro p k m ha _ _ _ _ hm
  subst ha
  obtain ⟨m, rfl, _⟩ := zg hm
  exact ⟨_, by rw [xC, if_neg (wc p)]; simp [cB]; rfl⟩
 | cons x l ih =>
  intro p k m ha hm0 h0 h1 h2 hm
  obtain ⟨m, rfl, hm'⟩ := zg hm
  rw [Ny] at h1
  simp only [List.length_cons] at h2 hm'
  rw [mBB] at hm0
  obtain ⟨e1, e2⟩ := List.cons.inj hm0
  obtain ⟨z, hz⟩ := ih (p ++ [x]) (k + x.length) m (by rw [ha]; simp) e2 (by omega) (by omega) (by simp; omega) (by omega)
  refine ⟨z, ?_⟩
  rw [xC, if_pos (by rw [ha]; exact vH p x l), zb, oB, show a[p.length]? = some x by rw [ha]; exact zF p x l, oB, jz e1 (by omega) (by omega), oB, if_neg (by omega), y4 p x (by omega), hz, G3]
  rw [show k + (x.length : Int) + (cB l : Int) = k + ((x.length + cB l : Nat) : Int) by omega]
def yK (a0 : (List (List UInt8))) (a1 : Int) : Option Int := if mBB a1 a0 = a0 ∧ 0 <= a1 ∧ a1 + 2 * bsz a0 <= 2 ^ 41 then some (a1 + cB a0) else none
theorem vG {a : Int} {s : List (List UInt8)} (h : mBB a s = s) (h0 : 0 <= a) (h1 : a + 2 * bsz s <= 2 ^ 41) : yK s a = some (a + cB s) := if_pos ⟨h, h0, h1⟩
theorem JY (a0 : (List (List UInt8))) (a1 : Int) (r : Int) (h : yK a0 a1 = some r) : ∃ n, ZZ n a0 a1 = some r := by
 unfold yK at h
 obtain ⟨⟨he, h0, h1⟩, h⟩ := zB h
 have := qx a0
 obtain ⟨z, hz⟩ := Ph (a := a0) a0 [] a1 (a0.length + 1) rfl he h0 h1 (by simp; omega) (by omega)
 refine ⟨a0.length + 1, ?_⟩
 unfold ZZ
 simp only [List.length_nil, Int.natCast_zero] at hz
 rw [hz]
 exact h
theorem qG : Ws yK := fun a0 a1 r h => (JY a0 a1 r h).elim fun n hn => RO n a0 a1 r hn
end
end Go.Am.Try
