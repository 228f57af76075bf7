/- The functions of the program in plain Lean, and that the machine answers as they do; conditions at each theorem. -/
import Derived.Test.YtjmhaigcaidloaaGreatDoorFG3
set_option linter.unusedVariables false
set_option linter.unusedSimpArgs false
namespace Go.Am.Try
open Go.Am Go.Proofs
set_option linter.unusedVariables false
set_option maxRecDepth 20000
set_option maxHeartbeats 2000000
noncomputable section
def Xg (F : (List UInt8) → Int → Option Int) : Prop := ∀ (a0 : (List UInt8)) (a1 : Int), Oc (F a0 a1) 40 [] [vq za a0, vi a1] fun r => (vi r, [])
def xq (a0 : (List UInt8)) : Nat → Int → Int → Option (Int ⊕ (Int × Int))
  | 0, _, _ => none
  | m + 1, a1, v2 =>
  if v2 < (a0.length : Int) then
   (zy v2).bind fun i2 =>
   (a0[i2]?).bind fun x3 =>
   if ((x3.toNat : Nat) : Int) = (((b8 a1).toNat : Nat) : Int) then
    xq a0 m (w64 (a1 + 1)) (w64 (v2 + 1))
   else
   some (.inl (-1))
  else
  some (.inr (a1, v2))
theorem WQ (a0 : (List UInt8)) (m : Nat) : ∀ (a1 : Int) (v2 : Int), Ol (xq a0 m a1 v2) 40 (zL Tryz.f40 0) ⟨[(0, vq za a0), (1, vi a1), (5, vi v2)], [], 0⟩ fun o => match o with | .inl o_0 => (.ret, ⟨[(4, vi o_0)], [], 0⟩) | .inr (⟨o_1_0, o_1_1⟩) => (.exit 0, ⟨[(0, vq za a0), (1, vi o_1_0), (5, vi o_1_1), (9, vb false)], [], 0⟩) := by
  induction m with
  | zero => intro a1 v2 o h; cases h
  | succ m ih => exact fun a1 v2 => tlp (
   .le za a0 <|
   .lI v2 (a0.length : Int) (fun c1 =>
    .na v2 fun i2 =>
    .ix0 za a0 i2 fun x3 =>
    .eI ((x3.toNat : Nat) : Int) (((b8 a1).toNat : Nat) : Int) (fun c4 =>
     .go (ih (w64 (a1 + 1)) (w64 (v2 + 1)))) fun c4 =>
    .ret (.inl (-1))) fun c1 =>
   .ret (.inr (a1, v2)))
def vC (n : Nat) (a0 : (List UInt8)) (a1 : Int) : Option Int :=
 (xq a0 n a1 0).bind fun o1 =>
 match o1 with
 | .inl o1_0 =>
  some o1_0
 | .inr (⟨o1_1_0, o1_1_1⟩) =>
  some o1_1_0
theorem KP (n : Nat) : Xg (vC n) := fun a0 a1 => tc (
 .l2 (WQ a0 n a1 0) (fun o1_0 =>
  .ret o1_0) fun ⟨o1_1_0, o1_1_1⟩ =>
 .ret o1_1_0) (zj Tryz.func40)
theorem Ti {a : List UInt8} : ∀ (l p : List UInt8) (k : Int) (m : Nat), a = p ++ l → mB k l = l → 0 <= k → k + 2 * l.length <= 2 ^ 41 → p.length + l.length <= 2 ^ 41 → l.length < m → ∃ z, xq a m k (p.length : Int) = some (.inr (k + l.length, z)) := by
 intro l
 induction l with
 | nil =>
  intro p k m ha _ _ _ _ hm
  subst ha
  obtain ⟨m, rfl, _⟩ := zf hm
  exact ⟨_, by rw [xq, if_neg (jz p)]; simp; rfl⟩
 | cons x l ih =>
  intro p k m ha hm0 h0 h1 h2 hm
  obtain ⟨m, rfl, hm'⟩ := zf hm
  simp only [List.length_cons] at h1 h2 hm'
  rw [mB] at hm0
  obtain ⟨e1, e2⟩ := List.cons.inj hm0
  obtain ⟨z, hz⟩ := ih (p ++ [x]) (k + 1) m (by rw [ha]; simp) e2 (by omega) (by omega) (by simp; omega) (by omega)
  refine ⟨z, ?_⟩
  rw [xq, if_pos (by rw [ha]; exact ZZ p x l), zc, Option.bind_some, show a[p.length]? = some x by rw [ha]; exact yh p x l, Option.bind_some, if_pos (by rw [e1]), xK p x (by omega), xt (x := k + 1) (by omega) (by omega), hz]
  simp only [List.length_cons]
  rw [show k + 1 + (l.length : Int) = k + ((l.length + 1 : Nat) : Int) by omega]
def qw (a0 : (List UInt8)) (a1 : Int) : Option Int := if mB a1 a0 = a0 ∧ 0 <= a1 ∧ a1 + 2 * a0.length <= 2 ^ 41 then some (a1 + a0.length) else none
theorem PF {a : Int} {s : List UInt8} (h : mB a s = s) (h0 : 0 <= a) (h1 : a + 2 * s.length <= 2 ^ 41) : qw s a = some (a + s.length) := if_pos ⟨h, h0, h1⟩
theorem Q4 (a0 : (List UInt8)) (a1 : Int) (r : Int) (h : qw a0 a1 = some r) : ∃ n, vC n a0 a1 = some r := by
 unfold qw at h
 obtain ⟨⟨he, h0, h1⟩, h⟩ := zM h
 obtain ⟨z, hz⟩ := Ti (a := a0) a0 [] a1 (a0.length + 1) rfl he h0 h1 (by simp; omega) (by omega)
 refine ⟨a0.length + 1, ?_⟩
 unfold vC
 simp only [List.length_nil, Int.natCast_zero] at hz
 rw [hz]
 exact h
theorem Kj : Xg qw := fun a0 a1 r h => (Q4 a0 a1 r h).elim fun n hn => KP n a0 a1 r hn
def Y1 (F : (List (List UInt8)) → Int → Option Int) : Prop := ∀ (a0 : (List (List UInt8))) (a1 : Int), Oc (F a0 a1) 65 [] [vq (zq za) a0, vi a1] fun r => (vi r, [])
def xa (a0 : (List (List UInt8))) : Nat → Int → Int → Option (Int ⊕ (Int × Int))
  | 0, _, _ => none
  | m + 1, a1, v2 =>
  if v2 < (a0.length : Int) then
   (zy v2).bind fun i2 =>
   (a0[i2]?).bind fun x3 =>
   (qw x3 a1).bind fun r4 =>
   if r4 < 0 then
    some (.inl (-1))
   else
   xa a0 m r4 (w64 (v2 + 1))
  else
  some (.inr (a1, v2))
theorem Wo (a0 : (List (List UInt8))) (m : Nat) : ∀ (a1 : Int) (v2 : Int), Ol (xa a0 m a1 v2) 65 (zL Tryz.f65 0) ⟨[(0, vq (zq za) a0), (1, vi a1), (5, vi v2)], [], 0⟩ fun o => match o with | .inl o_0 => (.ret, ⟨[(4, vi o_0)], [], 0⟩) | .inr (⟨o_1_0, o_1_1⟩) => (.exit 0, ⟨[(0, vq (zq za) a0), (1, vi o_1_0), (5, vi o_1_1), (9, vb false)], [], 0⟩) := by
  induction m with
  | zero => intro a1 v2 o h; cases h
  | succ m ih => exact fun a1 v2 => tlp (
   .le (zq za) a0 <|
   .lI v2 (a0.length : Int) (fun c1 =>
    .na v2 fun i2 =>
    .ix0 (zq za) a0 i2 fun x3 =>
    .cl (Kj x3 a1) fun r4 =>
    .lI r4 0 (fun c5 =>
     .ret (.inl (-1))) fun c5 =>
    .go (ih r4 (w64 (v2 + 1)))) fun c1 =>
   .ret (.inr (a1, v2)))
def vl (n : Nat) (a0 : (List (List UInt8))) (a1 : Int) : Option Int :=
 (xa a0 n a1 0).bind fun o1 =>
 match o1 with
 | .inl o1_0 =>
  some o1_0
 | .inr (⟨o1_1_0, o1_1_1⟩) =>
  some o1_1_0
theorem Kk (n : Nat) : Y1 (vl n) := fun a0 a1 => tc (
 .l2 (Wo a0 n a1 0) (fun o1_0 =>
  .ret o1_0) fun ⟨o1_1_0, o1_1_1⟩ =>
 .ret o1_1_0) (zj Tryz.func65)
theorem VY {a : List (List UInt8)} : ∀ (l p : List (List UInt8)) (k : Int) (m : Nat), a = p ++ l → mBB k l = l → 0 <= k → k + 2 * bsz l <= 2 ^ 41 → p.length + l.length <= 2 ^ 41 → l.length < m → ∃ z, xa a m k (p.length : Int) = some (.inr (k + cB l, z)) := by
 intro l
 induction l with
 | nil =>
  intro p k m ha _ _ _ _ hm
  subst ha
  obtain ⟨m, rfl, _⟩ := zf hm
  exact ⟨_, by rw [xa, if_neg (jz p)]; simp [cB]; rfl⟩
 | cons x l ih =>
  intro p k m ha hm0 h0 h1 h2 hm
  obtain ⟨m, rfl, hm'⟩ := zf hm
  rw [jH] at h1
  simp only [List.length_cons] at h2 hm'
  rw [mBB] at hm0
  obtain ⟨e1, e2⟩ := List.cons.inj hm0
  obtain ⟨z, hz⟩ := ih (p ++ [x]) (k + x.length) m (by rw [ha]; simp) e2 (by omega) (by omega) (by simp; omega) (by omega)
  refine ⟨z, ?_⟩
  rw [xa, if_pos (by rw [ha]; exact ZZ p x l), zc, Option.bind_some, show a[p.length]? = some x by rw [ha]; exact yh p x l, Option.bind_some, PF e1 (by omega) (by omega), Option.bind_some, if_neg (by omega), xK p x (by omega), hz, OT]
  rw [show k + (x.length : Int) + (cB l : Int) = k + ((x.length + cB l : Nat) : Int) by omega]
def wb (a0 : (List (List UInt8))) (a1 : Int) : Option Int := if mBB a1 a0 = a0 ∧ 0 <= a1 ∧ a1 + 2 * bsz a0 <= 2 ^ 41 then some (a1 + cB a0) else none
theorem Ut {a : Int} {s : List (List UInt8)} (h : mBB a s = s) (h0 : 0 <= a) (h1 : a + 2 * bsz s <= 2 ^ 41) : wb s a = some (a + cB s) := if_pos ⟨h, h0, h1⟩
theorem WR (a0 : (List (List UInt8))) (a1 : Int) (r : Int) (h : wb a0 a1 = some r) : ∃ n, vl n a0 a1 = some r := by
 unfold wb at h
 obtain ⟨⟨he, h0, h1⟩, h⟩ := zM h
 have := wQ a0
 obtain ⟨z, hz⟩ := VY (a := a0) a0 [] a1 (a0.length + 1) rfl he h0 h1 (by simp; omega) (by omega)
 refine ⟨a0.length + 1, ?_⟩
 unfold vl
 simp only [List.length_nil, Int.natCast_zero] at hz
 rw [hz]
 exact h
theorem Jx : Y1 wb := fun a0 a1 r h => (WR a0 a1 r h).elim fun n hn => Kk n a0 a1 r hn
def jG (a0 : GState) (a1 : GState) : Option Bool :=
 (jf a0 1048576).bind fun r1 =>
 if r1 < 0 then
  some true
 else
 (jf a1 r1).bind fun r3 =>
 if r3 < 0 then
  some true
 else
 (jj a0).bind fun r5 =>
 (jj a1).bind fun r6 =>
 (jL r5 r6).bind fun r7 =>
 (jP r5 r6).bind fun r8 =>
 (yI r8 r7).bind fun r9 =>
 match r9 with
 | true =>
  (jx r5 r5).bind fun r10 =>
  match r10 with
  | true =>
   (jx r6 r6).bind fun r11 =>
   match r11 with
   | true =>
    (qv r5.Serial r5.Open r5.Act 1 r5.Pending r5.Entries).bind fun ⟨r12_0, r12_1, r12_2⟩ =>
    (qv r6.Serial r6.Open r6.Act r12_0 r6.Pending r6.Entries).bind fun ⟨r13_0, r13_1, r13_2⟩ =>
    if r13_0 < 0 then
     none
    else
    (yw 1 r8).bind fun ⟨r15_0, r15_1⟩ =>
    (wb r15_1 1).bind fun r16 =>
    if r16 < 0 then
     none
    else
    if r16 = r15_0 then
     some true
    else
    none
   | false =>
    none
  | false =>
   none
 | false =>
  none
theorem ok_laws_FnExactDiffer (a0 : GState) (a1 : GState) : Oc (jG a0 a1) 14 [] [.val true (zw a0), .val true (zw a1)] fun r => (vb r, []) := tc (
 .cl (X6 a0 1048576) fun r1 =>
 .lI r1 0 (fun c2 =>
  .ret true) fun c2 =>
 .cl (X6 a1 r1) fun r3 =>
 .lI r3 0 (fun c4 =>
  .ret true) fun c4 =>
 .cl (X9 a0) fun r5 =>
 .cl (X9 a1) fun r6 =>
 .vw yd r5.Pending <|
 .vo wS r5.Entries <|
 .vw yd r6.Pending <|
 .vo wS r6.Entries <|
 .cl (RZ r5 r6) fun r7 =>
 .cn (jb 1 wG) r7 <|
 .ag 2 <|
 .ag 1 <|
 .vw yd r5.Pending <|
 .vo wS r5.Entries <|
 .vw yd r6.Pending <|
 .vo wS r6.Entries <|
 .cl (Te r5 r6) fun r8 =>
 .cn (jb 1 wG) r8 <|
 .vo (jb 1 wG) r8 <|
 .vo (jb 1 wG) r7 <|
 .cl (vA r8 r7) fun r9 =>
 .vN 0 r9 (
  .ag 5 <|
  .vw yd r5.Pending <|
  .vo wS r5.Entries <|
  .vw yd r5.Pending <|
  .vo wS r5.Entries <|
  .cl (XI r5 r5) fun r10 =>
  .vN 0 r10 (
   .ag 6 <|
   .vw yd r6.Pending <|
   .vo wS r6.Entries <|
   .vw yd r6.Pending <|
   .vo wS r6.Entries <|
   .cl (XI r6 r6) fun r11 =>
   .vN 0 r11 (
    .cl (Y0 r5.Serial r5.Open r5.Act 1 r5.Pending r5.Entries) fun ⟨r12_0, r12_1, r12_2⟩ =>
    .cl (Y0 r6.Serial r6.Open r6.Act r12_0 r6.Pending r6.Entries) fun ⟨r13_0, r13_1, r13_2⟩ =>
    .lI r13_0 0 (fun c14 =>
     .no) fun c14 =>
    .vo (jb 1 wG) r8 <|
    .vo (jb 1 wG) r7 <|
    .ag 7 <|
    .an 2 6 <|
    .cl (qO 1 r8) fun ⟨r15_0, r15_1⟩ =>
    .vo (jb 1 wG) r15_1 <|
    .cl (Jx r15_1 1) fun r16 =>
    .lI r16 0 (fun c17 =>
     .no) fun c17 =>
    .eI r16 r15_0 (fun c18 =>
     .ag 13 <|
     .ag 12 <|
     .vw yd r5.Pending <|
     .vo wS r5.Entries <|
     .vw yd r6.Pending <|
     .vo wS r6.Entries <|
     .ag 10 <|
     .cn (jb 1 wG) r8 <|
     .vo (jb 1 wG) r8 <|
     .vo (jb 1 wG) r7 <|
     .ag 9 <|
     .an 0 8 <|
     .vo (jb 1 wG) r15_1 <|
     .ag 0 <|
     .q (.lF c17) <|
     .q (.eT c18) <|
     .ret true) fun c18 =>
    .no) <|
   .no) <|
  .no) <|
 .no) (zj Tryz.func14)
end
end Go.Am.Try
