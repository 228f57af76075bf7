
/- The functions of the program in plain Lean, and that the machine answers as they do; conditions at each theorem. -/
import Derived.Test.YtjmhaigcaidloaaGreatDoorWG4
set_option linter.unusedVariables false
set_option linter.unusedSimpArgs false
namespace Go.Am.Try
open Go.Am Go.Proofs
set_option linter.unusedVariables false
set_option maxRecDepth 20000
set_option maxHeartbeats 2000000
noncomputable section
def WS (F : (List UInt8) → Int → Option Int) : Prop := ∀ (a0 : (List UInt8)) (a1 : Int), Oc (F a0 a1) 40 [] [vq za a0, vi a1] fun r => (vi r, [])
def xW (a0 : (List UInt8)) : Nat → Int → Int → Option (Int ⊕ (Int × Int))
  | 0, _, _ => none
  | m + 1, a1, v2 =>
  if v2 < (a0.length : Int) then
   (zw v2).bind fun i2 =>
   (a0[i2]?).bind fun x3 =>
   if ((x3.toNat : Nat) : Int) = (((b8 a1).toNat : Nat) : Int) then
    xW a0 m (w64 (a1 + 1)) (w64 (v2 + 1))
   else
   some (.inl (-1))
  else
  some (.inr (a1, v2))
theorem JK (a0 : (List UInt8)) (m : Nat) : ∀ (a1 : Int) (v2 : Int), Ol (xW a0 m a1 v2) 40 (zG Tryz.f40 0) ⟨[(0, vq za a0), (1, vi a1), (5, vi v2)], [], 0⟩ fun o => match o with | .inl o_0 => (.ret, ⟨[(4, vi o_0)], [], 0⟩) | .inr (⟨o_1_0, o_1_1⟩) => (.exit 0, ⟨[(0, vq za a0), (1, vi o_1_0), (5, vi o_1_1), (9, vb false)], [], 0⟩) := by
  induction m with
  | zero => intro a1 v2 o h; cases h
  | succ m ih => exact fun a1 v2 => tlp (
   .le za a0 <|
   .lI v2 (a0.length : Int) (fun c1 =>
    .na v2 fun i2 =>
    .ix0 za a0 i2 fun x3 =>
    .eI ((x3.toNat : Nat) : Int) (((b8 a1).toNat : Nat) : Int) (fun c4 =>
     .go (ih (w64 (a1 + 1)) (w64 (v2 + 1)))) fun c4 =>
    .ret (.inl (-1))) fun c1 =>
   .ret (.inr (a1, v2)))
def Yp (n : Nat) (a0 : (List UInt8)) (a1 : Int) : Option Int :=
 (xW a0 n a1 0).bind fun o1 =>
 match o1 with
 | .inl o1_0 =>
  some o1_0
 | .inr (⟨o1_1_0, o1_1_1⟩) =>
  some o1_1_0
theorem T2 (n : Nat) : WS (Yp n) := fun a0 a1 => tc (
 .l2 (JK a0 n a1 0) (fun o1_0 =>
  .ret o1_0) fun ⟨o1_1_0, o1_1_1⟩ =>
 .ret o1_1_0) (ze Tryz.func40)
theorem PX {a : List UInt8} : ∀ (l p : List UInt8) (k : Int) (m : Nat), a = p ++ l → mB k l = l → 0 <= k → k + 2 * l.length <= 2 ^ 41 → p.length + l.length <= 2 ^ 41 → l.length < m → ∃ z, xW a m k (p.length : Int) = some (.inr (k + l.length, z)) := by
 intro l
 induction l with
 | nil =>
  intro p k m ha _ _ _ _ hm
  subst ha
  obtain ⟨m, rfl, _⟩ := zh hm
  exact ⟨_, by rw [xW, if_neg (kG p)]; simp; rfl⟩
 | cons x l ih =>
  intro p k m ha hm0 h0 h1 h2 hm
  obtain ⟨m, rfl, hm'⟩ := zh hm
  simp only [List.length_cons] at h1 h2 hm'
  rw [mB] at hm0
  obtain ⟨e1, e2⟩ := List.cons.inj hm0
  obtain ⟨z, hz⟩ := ih (p ++ [x]) (k + 1) m (by rw [ha]; simp) e2 (by omega) (by omega) (by simp; omega) (by omega)
  refine ⟨z, ?_⟩
  rw [xW, if_pos (by rw [ha]; exact Ji p x l), zf, Option.bind_some, show a[p.length]? = some x by rw [ha]; exact zW p x l, Option.bind_some, if_pos (by rw [e1]), xX p x (by omega), yC (x := k + 1) (by omega) (by omega), hz]
  simp only [List.length_cons]
  rw [show k + 1 + (l.length : Int) = k + ((l.length + 1 : Nat) : Int) by omega]
def qu (a0 : (List UInt8)) (a1 : Int) : Option Int := if mB a1 a0 = a0 ∧ 0 <= a1 ∧ a1 + 2 * a0.length <= 2 ^ 41 then some (a1 + a0.length) else none
theorem MG {a : Int} {s : List UInt8} (h : mB a s = s) (h0 : 0 <= a) (h1 : a + 2 * s.length <= 2 ^ 41) : qu s a = some (a + s.length) := if_pos ⟨h, h0, h1⟩
theorem K9 (a0 : (List UInt8)) (a1 : Int) (r : Int) (h : qu a0 a1 = some r) : ∃ n, Yp n a0 a1 = some r := by
 unfold qu at h
 obtain ⟨⟨he, h0, h1⟩, h⟩ := zR h
 obtain ⟨z, hz⟩ := PX (a := a0) a0 [] a1 (a0.length + 1) rfl he h0 h1 (by simp; omega) (by omega)
 refine ⟨a0.length + 1, ?_⟩
 unfold Yp
 simp only [List.length_nil, Int.natCast_zero] at hz
 rw [hz]
 exact h
theorem Wk : WS qu := fun a0 a1 r h => (K9 a0 a1 r h).elim fun n hn => T2 n a0 a1 r hn
def j0 (a0 : GHistory) : Option Bool :=
 (kR a0 1048576).bind fun r1 =>
 if r1 < 0 then
  some true
 else
 (kS a0).bind fun r3 =>
 (jm r3).bind fun ⟨r4_0, r4_1⟩ =>
 (jq r3).bind fun ⟨r5_0, r5_1⟩ =>
 (zV r5_0 r4_0).bind fun r6 =>
 match r6 with
 | true =>
  if r5_1 = true then
   if r4_1 = true then
    (jr r3 r3).bind fun r9 =>
    match r9 with
    | true =>
     (qH r3.Base.Serial r3.Base.Open r3.Base.Act r3.Safe 1 r3.Base.Pending r3.Base.Entries r3.Events).bind fun ⟨r10_0, r10_1, r10_2, r10_3⟩ =>
     if r10_0 < 0 then
      none
     else
     (yh 1 r5_0).bind fun ⟨r12_0, r12_1⟩ =>
     (qu r12_1 1).bind fun r13 =>
     if r13 < 0 then
      none
     else
     if r13 = r12_0 then
      some true
     else
     none
    | false =>
     none
   else
   none
  else
  if r4_1 = true then
   none
  else
  (jr r3 r3).bind fun r9 =>
  match r9 with
  | true =>
   (qH r3.Base.Serial r3.Base.Open r3.Base.Act r3.Safe 1 r3.Base.Pending r3.Base.Entries r3.Events).bind fun ⟨r10_0, r10_1, r10_2, r10_3⟩ =>
   if r10_0 < 0 then
    none
   else
   (yh 1 r5_0).bind fun ⟨r12_0, r12_1⟩ =>
   (qu r12_1 1).bind fun r13 =>
   if r13 < 0 then
    none
   else
   if r13 = r12_0 then
    some true
   else
   none
  | false =>
   none
 | false =>
  none
theorem ok_laws_FnExactHistBytes (a0 : GHistory) : Oc (j0 a0) 7 [] [.val true (yy a0)] fun r => (vb r, []) := tc (
 .cl (Rb a0 1048576) fun r1 =>
 .lI r1 0 (fun c2 =>
  .ret true) fun c2 =>
 .cl (Rf a0) fun r3 =>
 .vw zn r3.Base.Pending <|
 .vo qv r3.Base.Entries <|
 .vo Zm r3.Events <|
 .cl (Rs r3) fun ⟨r4_0, r4_1⟩ =>
 .cn yY r4_0 <|
 .ag 1 <|
 .vw zn r3.Base.Pending <|
 .vo qv r3.Base.Entries <|
 .vo Zm r3.Events <|
 .cl (R2 r3) fun ⟨r5_0, r5_1⟩ =>
 .cn yY r5_0 <|
 .vw zn r5_0 <|
 .vw zn r4_0 <|
 .cl (wI r5_0 r4_0) fun r6 =>
 .vN 0 r6 (
  .an 0 0 <|
  .an 0 0 <|
  .sp (r5_1 = true) (fun c7 =>
   .sp (r4_1 = true) (fun c8 =>
    .eb c7 c8 <|
    .an 0 0 <|
    .ag 4 <|
    .vw zn r3.Base.Pending <|
    .vo qv r3.Base.Entries <|
    .vo Zm r3.Events <|
    .vw zn r3.Base.Pending <|
    .vo qv r3.Base.Entries <|
    .vo Zm r3.Events <|
    .cl (We r3 r3) fun r9 =>
    .vN 0 r9 (
     .cl (Xd r3.Base.Serial r3.Base.Open r3.Base.Act r3.Safe 1 r3.Base.Pending r3.Base.Entries r3.Events) fun ⟨r10_0, r10_1, r10_2, r10_3⟩ =>
     .lI r10_0 0 (fun c11 =>
      .no) fun c11 =>
     .vw zn r5_0 <|
     .vw zn r4_0 <|
     .ag 4 <|
     .an 2 3 <|
     .an 0 3 <|
     .an 0 3 <|
     .eb c7 c8 <|
     .an 0 3 <|
     .cl (yE 1 r5_0) fun ⟨r12_0, r12_1⟩ =>
     .vw zn r12_1 <|
     .cl (Wk r12_1 1) fun r13 =>
     .lI r13 0 (fun c14 =>
      .no) fun c14 =>
     .eI r13 r12_0 (fun c15 =>
      .ag 9 <|
      .vw zn r3.Base.Pending <|
      .vo qv r3.Base.Entries <|
      .vo Zm r3.Events <|
      .ag 7 <|
      .cn yY r5_0 <|
      .vw zn r5_0 <|
      .vw zn r4_0 <|
      .ag 6 <|
      .an 0 5 <|
      .an 0 5 <|
      .an 0 5 <|
      .eb c7 c8 <|
      .an 0 5 <|
      .vw zn r12_1 <|
      .ag 0 <|
      .q (.lF c14) <|
      .q (.eT c15) <|
      .ret true) fun c15 =>
     .no) <|
    .no) fun c8 =>
   .no) fun c7 =>
  .sp (r4_1 = true) (fun c8 =>
   .no) fun c8 =>
  .eb (bF c7) (bF c8) <|
  .an 0 0 <|
  .ag 4 <|
  .vw zn r3.Base.Pending <|
  .vo qv r3.Base.Entries <|
  .vo Zm r3.Events <|
  .vw zn r3.Base.Pending <|
  .vo qv r3.Base.Entries <|
  .vo Zm r3.Events <|
  .cl (We r3 r3) fun r9 =>
  .vN 0 r9 (
   .cl (Xd r3.Base.Serial r3.Base.Open r3.Base.Act r3.Safe 1 r3.Base.Pending r3.Base.Entries r3.Events) fun ⟨r10_0, r10_1, r10_2, r10_3⟩ =>
   .lI r10_0 0 (fun c11 =>
    .no) fun c11 =>
   .vw zn r5_0 <|
   .vw zn r4_0 <|
   .ag 4 <|
   .an 2 3 <|
   .an 0 3 <|
   .an 0 3 <|
   .eb (bF c7) (bF c8) <|
   .an 0 3 <|
   .cl (yE 1 r5_0) fun ⟨r12_0, r12_1⟩ =>
   .vw zn r12_1 <|
   .cl (Wk r12_1 1) fun r13 =>
   .lI r13 0 (fun c14 =>
    .no) fun c14 =>
   .eI r13 r12_0 (fun c15 =>
    .ag 9 <|
    .vw zn r3.Base.Pending <|
    .vo qv r3.Base.Entries <|
    .vo Zm r3.Events <|
    .ag 7 <|
    .cn yY r5_0 <|
    .vw zn r5_0 <|
    .vw zn r4_0 <|
    .ag 6 <|
    .an 0 5 <|
    .an 0 5 <|
    .an 0 5 <|
    .eb (bF c7) (bF c8) <|
    .an 0 5 <|
    .vw zn r12_1 <|
    .ag 0 <|
    .q (.lF c14) <|
    .q (.eT c15) <|
    .ret true) fun c15 =>
   .no) <|
  .no) <|
 .no) (ze Tryz.func7)
end
end Go.Am.Try
