
/- The functions of the program in plain Lean, and that the machine answers as they do; conditions at each theorem. -/
import Derived.Test.YtjmhaigcaidloaaGreatDoorWG1
set_option linter.unusedVariables false
set_option linter.unusedSimpArgs false
namespace Go.Am.Try
open Go.Am Go.Proofs
set_option linter.unusedVariables false
set_option maxRecDepth 20000
set_option maxHeartbeats 2000000
noncomputable section
def QT (F : (List (List UInt8)) → Option Bool) : Prop := ∀ (a0 : (List (List UInt8))), Oc (F a0) 126 [] [vq (zt za) a0] fun r => (vb r, [])
def xB (a0 : (List (List UInt8))) : Nat → Int → Option (Bool ⊕ Int)
  | 0, _ => none
  | m + 1, v1 =>
  if v1 < (a0.length : Int) then
   (zw v1).bind fun i2 =>
   (a0[i2]?).bind fun x3 =>
   (wb x3).bind fun r4 =>
   match r4 with
   | true =>
    if 0 < v1 then
     (zw (w64 (v1 - 1))).bind fun i6 =>
     (a0[i6]?).bind fun x7 =>
     if Op.bytesLess x7 x3 = true then
      xB a0 m (w64 (v1 + 1))
     else
     some (.inl false)
    else
    xB a0 m (w64 (v1 + 1))
   | false =>
    some (.inl false)
  else
  some (.inr v1)
theorem Vh (a0 : (List (List UInt8))) (m : Nat) : ∀ (v1 : Int), Ol (xB a0 m v1) 126 (zG Tryz.f126 0) ⟨[(0, vq (zt za) a0), (3, vi v1)], [], 0⟩ fun o => match o with | .inl o_0 => (.ret, ⟨[(2, vb o_0)], [], 0⟩) | .inr (o_1) => (.exit 0, ⟨[(0, vq (zt za) a0), (3, vi o_1), (10, vb false)], [], 0⟩) := by
  induction m with
  | zero => intro v1 o h; cases h
  | succ m ih => exact fun v1 => tlp (
   .le (zt za) a0 <|
   .lI v1 (a0.length : Int) (fun c1 =>
    .na v1 fun i2 =>
    .ix0 (zt za) a0 i2 fun x3 =>
    .cl (qe x3) fun r4 =>
    .vN 0 r4 (
     .an 0 0 <|
     .lI 0 v1 (fun c5 =>
      .an 0 0 <|
      .na (w64 (v1 - 1)) fun i6 =>
      .ix0 (zt za) a0 i6 fun x7 =>
      .bt x7 <|
      .ag 5 <|
      .ag 4 <|
      .bt x3 <|
      .bI x7 x3 (fun c8 =>
       .an 0 2 <|
       .an 1 2 <|
       .go (ih (w64 (v1 + 1)))) fun c8 =>
      .an 0 2 <|
      .an 1 2 <|
      .ret (.inl false)) fun c5 =>
     .an 0 0 <|
     .an 12 0 <|
     .an 1 0 <|
     .go (ih (w64 (v1 + 1)))) <|
    .an 0 0 <|
    .an 0 0 <|
    .an 0 0 <|
    .an 0 0 <|
    .ret (.inl false)) fun c1 =>
   .ret (.inr v1))
def Xp (n : Nat) (a0 : (List (List UInt8))) : Option Bool :=
 if 8 < (a0.length : Int) then
  some false
 else
 (xB a0 n 0).bind fun o2 =>
 match o2 with
 | .inl o2_0 =>
  some o2_0
 | .inr (o2_1) =>
  some true
theorem PG (n : Nat) : QT (Xp n) := fun a0 => tc (
 .le (zt za) a0 <|
 .lI 8 (a0.length : Int) (fun c1 =>
  .ret false) fun c1 =>
 .l2 (Vh a0 n 0) (fun o2_0 =>
  .ret o2_0) fun o2_1 =>
 .ret true) (ze Tryz.func126)
theorem Q1 {a : List UInt8} (h : a.length <= 2 ^ 20) : wb a = some (yd a) := DB h
theorem M5 {a : List (List UInt8)} (hs : ∀ x ∈ a, x.length <= 2 ^ 20) (ha : a.length <= 2 ^ 40) : ∀ (d i m : Nat), i + d = a.length → d < m → ∃ z, xB a m (i : Int) = some (if kH yd id a i d = true then .inr z else .inl false) := by
 intro d
 induction d with
 | zero =>
  intro i m hi hm
  obtain ⟨m, rfl, _⟩ := zh hm
  exact ⟨_, by rw [xB, if_neg (by omega)]; rfl⟩
 | succ d ih =>
  intro i m hi hm
  obtain ⟨m, rfl, hm'⟩ := zh hm
  have hil : i < a.length := by omega
  rw [xB, if_pos (by omega), zf, Option.bind_some, zk hil, Option.bind_some, Q1 (hs _ (List.getElem_mem hil)), Option.bind_some, QB]
  obtain ⟨z, hz⟩ := ih (i + 1) m (by omega) (by omega)
  cases hx : yd a[i] with
  | false =>
   refine ⟨0, ?_⟩
   have : gOk yd id a i = false := by
    unfold gOk; rw [zk hil]; simp [hx]
   rw [this]; rfl
  | true =>
   dsimp only
   by_cases h0 : 0 < i
   ·rw [if_pos (by omega), jR (by omega) h0, zf, Option.bind_some, zk (show i - 1 < a.length by omega), Option.bind_some, VH hil h0, hx, Bool.true_and, zC (by omega), hz]
    by_cases hl : Op.bytesLess a[i - 1] a[i] = true
    ·rw [if_pos hl, show Op.bytesLess (id a[i - 1]) (id a[i]) = true from hl, Bool.true_and]; exact ⟨z, rfl⟩
    ·rw [if_neg hl, show Op.bytesLess (id a[i - 1]) (id a[i]) = false from Bool.eq_false_iff.2 hl]; exact ⟨z, rfl⟩
   ·obtain rfl : i = 0 := by omega
    rw [if_neg (by omega), JS hil, hx, Bool.true_and, zC (by omega), hz]
    exact ⟨z, rfl⟩
def qh (a0 : (List (List UInt8))) : Option Bool := if bsz a0 <= 2 ^ 20 then some (js a0) else none
theorem Rm (a0 : (List (List UInt8))) (r : Bool) (h : qh a0 = some r) : ∃ n, Xp n a0 = some r := by
 unfold qh at h
 obtain ⟨ha, h⟩ := zR h
 have hl := kD a0
 obtain ⟨z, hz⟩ := M5 (a := a0) (fun x hx => by have := Xw hx; omega) (by omega) a0.length 0 (a0.length + 1) (by omega) (by omega)
 refine ⟨a0.length + 1, ?_⟩
 unfold Xp
 rw [show ((0 : Nat) : Int) = 0 from rfl] at hz
 rw [<- h]
 unfold js
 by_cases h8 : (8 : Int) < (a0.length : Int)
 ·rw [if_pos h8, decide_eq_false (by omega)]; rfl
 ·rw [if_neg h8, hz, Option.bind_some, decide_eq_true (by omega), Bool.true_and]
  cases kH yd id a0 0 a0.length <;> rfl
theorem Q2 : QT qh := fun a0 r h => (Rm a0 r h).elim fun n hn => PG n a0 r hn
def QU (F : GState → Option Bool) : Prop := ∀ (a0 : GState), Oc (F a0) 70 [] [.val true (ym a0)] fun r => (vb r, [])
def y0 (a0 : GState) : Nat → Int → Option (Bool ⊕ Int)
  | 0, _ => none
  | m + 1, v0 =>
  if v0 < (a0.Entries.length : Int) then
   (zw v0).bind fun i2 =>
   (a0.Entries[i2]?).bind fun x3 =>
   (wb x3.Addr).bind fun r4 =>
   match r4 with
   | true =>
    (jj x3.Val).bind fun r5 =>
    match r5 with
    | true =>
     (qh x3.Deps).bind fun r6 =>
     match r6 with
     | true =>
      if x3.Turned < 1 then
       some (.inl false)
      else
      if a0.Serial < x3.Turned then
       some (.inl false)
      else
      if 0 < v0 then
       (zw (w64 (v0 - 1))).bind fun i10 =>
       (a0.Entries[i10]?).bind fun x11 =>
       if Op.bytesLess x11.Addr x3.Addr = true then
        y0 a0 m (w64 (v0 + 1))
       else
       some (.inl false)
      else
      y0 a0 m (w64 (v0 + 1))
     | false =>
      some (.inl false)
    | false =>
     some (.inl false)
   | false =>
    some (.inl false)
  else
  some (.inr v0)
theorem Zf (a0 : GState) (m : Nat) : ∀ (v0 : Int), Ol (y0 a0 m v0) 70 (zG Tryz.f70 0) ⟨[(1, vp 0 0), (4, vi v0)], [.var (ym a0)], 0⟩ fun o => match o with | .inl o_0 => (.ret, ⟨[(2, vb o_0)], [], 0⟩) | .inr (o_1) => (.exit 0, ⟨[(1, vp 0 0), (4, vi o_1), (71, vb false)], [.var (ym a0)], 0⟩) := by
  induction m with
  | zero => intro v0 o h; cases h
  | succ m ih => exact fun v0 => tlp (
   .le zl a0.Entries <|
   .lI v0 (a0.Entries.length : Int) (fun c1 =>
    .na v0 fun i2 =>
    .ix zZ a0.Entries i2 fun x3 =>
    .cl (qe x3.Addr) fun r4 =>
    .vN 0 r4 (
     .an 0 0 <|
     .an 0 0 <|
     .cl (JZ x3.Val) fun r5 =>
     .an 0 1 <|
     .an 0 1 <|
     .vN 0 r5 (
      .an 0 0 <|
      .an 0 0 <|
      .cl (Q2 x3.Deps) fun r6 =>
      .an 0 1 <|
      .an 0 1 <|
      .vN 0 r6 (
       .an 0 0 <|
       .an 0 0 <|
       .lI x3.Turned 1 (fun c7 =>
        .an 0 0 <|
        .ret (.inl false)) fun c7 =>
       .an 0 0 <|
       .lI a0.Serial x3.Turned (fun c8 =>
        .ret (.inl false)) fun c8 =>
       .lI 0 v0 (fun c9 =>
        .na (w64 (v0 - 1)) fun i10 =>
        .ix zZ a0.Entries i10 fun x11 =>
        .bt x11.Addr <|
        .bt x3.Addr <|
        .bI x11.Addr x3.Addr (fun c12 =>
         .go (ih (w64 (v0 + 1)))) fun c12 =>
        .ret (.inl false)) fun c9 =>
       .go (ih (w64 (v0 + 1)))) <|
      .an 0 0 <|
      .an 0 0 <|
      .an 0 0 <|
      .ret (.inl false)) <|
     .an 0 0 <|
     .an 0 0 <|
     .an 0 0 <|
     .an 0 0 <|
     .ret (.inl false)) <|
    .an 0 0 <|
    .an 0 0 <|
    .an 0 0 <|
    .an 0 0 <|
    .ret (.inl false)) fun c1 =>
   .ret (.inr v0))
def Z2 (n : Nat) (a0 : GState) : Option Bool :=
 if a0.Serial < 0 then
  some false
 else
 if 1000000 < a0.Serial then
  some false
 else
 if 16 < (a0.Entries.length : Int) then
  some false
 else
 if 0 < (a0.Pending.length : Int) then
  match a0.Open with
  | true =>
   (wb a0.Pending).bind fun r5 =>
   match r5 with
   | true =>
    if a0.Act < 1 then
     some false
    else
    if 4 < a0.Act then
     some false
    else
    (wc a0 a0.Pending).bind fun r8 =>
    if a0.Act = 1 then
     if 0 <= r8 then
      some false
     else
     (y0 a0 n 0).bind fun o11 =>
     match o11 with
     | .inl o11_0 =>
      some o11_0
     | .inr (o11_1) =>
      some true
    else
    if 0 <= r8 then
     (y0 a0 n 0).bind fun o11 =>
     match o11 with
     | .inl o11_0 =>
      some o11_0
     | .inr (o11_1) =>
      some true
    else
    some false
   | false =>
    some false
  | false =>
   some false
 else
 if a0.Act = 0 then
  (y0 a0 n 0).bind fun o6 =>
  match o6 with
  | .inl o6_0 =>
   some o6_0
  | .inr (o6_1) =>
   some true
 else
 some false
theorem PH (n : Nat) : QU (Z2 n) := fun a0 => tc (
 .lI a0.Serial 0 (fun c1 =>
  .ret false) fun c1 =>
 .lI 1000000 a0.Serial (fun c2 =>
  .ret false) fun c2 =>
 .le zl a0.Entries <|
 .lI 16 (a0.Entries.length : Int) (fun c3 =>
  .ret false) fun c3 =>
 .le za a0.Pending <|
 .lI 0 (a0.Pending.length : Int) (fun c4 =>
  .vN 4 a0.Open (
   .an 0 0 <|
   .an 0 0 <|
   .cl (qe a0.Pending) fun r5 =>
   .an 0 1 <|
   .an 1 1 <|
   .vN 1 r5 (
    .an 0 0 <|
    .an 0 0 <|
    .lI a0.Act 1 (fun c6 =>
     .an 1 0 <|
     .ret false) fun c6 =>
    .an 1 0 <|
    .lI 4 a0.Act (fun c7 =>
     .ret false) fun c7 =>
    .eD a0.Act 1 <|
    .cl (Xn a0 a0.Pending) fun r8 =>
    .gD 0 r8 <|
    .sp (a0.Act = 1) (fun c9 =>
     .sp (0 <= r8) (fun c10 =>
      .eb (dT c9) (dT c10) <|
      .ret false) fun c10 =>
     .eb (dT c9) (dF c10) <|
     .l2 (Zf a0 n 0) (fun o11_0 =>
      .ret o11_0) fun o11_1 =>
     .ret true) fun c9 =>
    .sp (0 <= r8) (fun c10 =>
     .eb (dF c9) (dT c10) <|
     .l2 (Zf a0 n 0) (fun o11_0 =>
      .ret o11_0) fun o11_1 =>
     .ret true) fun c10 =>
    .eb (dF c9) (dF c10) <|
    .ret false) <|
   .an 0 0 <|
   .an 0 0 <|
   .an 1 0 <|
   .ret false) <|
  .an 0 0 <|
  .an 0 0 <|
  .an 0 0 <|
  .an 1 0 <|
  .ret false) fun c4 =>
 .eI a0.Act 0 (fun c5 =>
  .l2 (Zf a0 n 0) (fun o6_0 =>
   .ret o6_0) fun o6_1 =>
  .ret true) fun c5 =>
 .ret false) (ze Tryz.func70)
theorem zdr {v : GValue} (h : vsz v <= 2 ^ 20) : xg v = some (ZN v) := by
 unfold xg vu
 rw [if_pos ⟨h, by decide, by decide, by decide⟩, Option.bind_some]
 congr 1
 unfold okV ZN
 rw [show (6 - (1 : Int)).toNat = 5 from rfl]
 by_cases hc : shV 5 v = true ∧ (ptV v : Int) <= 40
 ·rw [if_pos hc, decide_eq_true hc]; exact decide_eq_true (by omega)
 ·rw [if_neg hc, decide_eq_false hc]; rfl
theorem Ec {v : GValue} (h : vsz v <= 2 ^ 20) : jj v = some (jL v) := by
 unfold jj jL
 by_cases h5 : v.Kind = 5
 ·rw [if_pos h5, zdr h, Option.bind_some, decide_eq_true h5, Bool.true_and]
  cases hv : ZN v with
  | false => rfl
  | true =>
   simp only [Bool.true_and]
   unfold ja
   rw [if_pos (by omega)]; rfl
 ·rw [if_neg h5, decide_eq_false h5]; rfl
theorem GN {l : List (List UInt8)} (h : bsz l <= 2 ^ 20) : qh l = some (js l) := if_pos h
theorem M6 {s : GState} (hs : yu s.Entries <= 2 ^ 20) : ∀ (d i m : Nat), i + d = s.Entries.length → d < m → ∃ z, y0 s m (i : Int) = some (if kH (Qa s.Serial) GEntry.Addr s.Entries i d = true then .inr z else .inl false) := by
 have hlen := jt s.Entries
 intro d
 induction d with
 | zero =>
  intro i m hi hm
  obtain ⟨m, rfl, _⟩ := zh hm
  exact ⟨_, by rw [y0, if_neg (by omega)]; rfl⟩
 | succ d ih =>
  intro i m hi hm
  obtain ⟨m, rfl, hm'⟩ := zh hm
  have hil : i < s.Entries.length := by omega
  have hz0 := WZ (List.getElem_mem hil)
  obtain ⟨z, hz⟩ := ih (i + 1) m (by omega) (by omega)
  rw [y0, if_pos (by omega), zf, Option.bind_some, zk hil, Option.bind_some, QB]
  unfold esz at hz0
  rw [Q1 (by omega), Option.bind_some, Ec (by omega), Option.bind_some, GN (by omega), Option.bind_some, zC (by omega), hz]
  generalize kH _ GEntry.Addr s.Entries (i + 1) d = g
  have hT : decide (1 <= s.Entries[i].Turned ∧ s.Entries[i].Turned <= s.Serial) = (!(decide (s.Entries[i].Turned < 1)) && !(decide (s.Serial < s.Entries[i].Turned))) := by
   by_cases a : s.Entries[i].Turned < 1 <;> by_cases b : s.Serial < s.Entries[i].Turned <;> simp [a, b] <;> omega
  refine ⟨z, ?_⟩
  by_cases h0 : 0 < i
  ·rw [VH hil h0]
   unfold Qa
   rw [hT]
   rw [if_pos (show (0 : Int) < ((i : Nat) : Int) by omega), jR (by omega) h0, zf, Option.bind_some, zk (show i - 1 < s.Entries.length by omega), Option.bind_some]
   generalize Op.bytesLess s.Entries[i - 1].Addr s.Entries[i].Addr = b
   by_cases a1 : s.Entries[i].Turned < 1 <;> by_cases a2 : s.Serial < s.Entries[i].Turned <;> cases b <;> cases yd s.Entries[i].Addr <;> cases jL s.Entries[i].Val <;> cases js s.Entries[i].Deps <;> simp [a1, a2]
  ·obtain rfl : i = 0 := by omega
   rw [JS hil]
   unfold Qa
   rw [hT]
   rw [if_neg (show ¬ (0 : Int) < ((0 : Nat) : Int) by omega)]
   by_cases a1 : s.Entries[0].Turned < 1 <;> by_cases a2 : s.Serial < s.Entries[0].Turned <;> cases yd s.Entries[0].Addr <;> cases jL s.Entries[0].Val <;> cases js s.Entries[0].Deps <;> simp [a1, a2]
def ko (a0 : GState) : Option Bool := if ssz a0 <= 2 ^ 20 then some (stB a0) else none
theorem Ed {s : GState} (h : ssz s <= 2 ^ 20) : ko s = some (stB s) := if_pos h
theorem Ny {s : GState} (h : ssz s <= 2 ^ 20) : Z2 (s.Entries.length + 1) s = some (stB s) := by
 have hlen := jt s.Entries
 unfold ssz at h
 obtain ⟨z, hz⟩ := M6 (s := s) (by omega) s.Entries.length 0 (s.Entries.length + 1) (by omega) (by omega)
 rw [show ((0 : Nat) : Int) = 0 from rfl] at hz
 have hf : ((y0 s (s.Entries.length + 1) 0).bind fun o4 => match o4 with | .inl o => some o | .inr _ => some true) = some (L6 s) := by
  rw [hz, show L6 s = kH (Qa s.Serial) GEntry.Addr s.Entries 0 s.Entries.length from rfl]
  cases kH (Qa s.Serial) GEntry.Addr s.Entries 0 s.Entries.length <;> rfl
 unfold Z2
 unfold stB
 by_cases h1 : s.Serial < 0
 ·rw [if_pos h1, decide_eq_false (p := 0 <= s.Serial ∧ s.Serial <= 1000000 ∧ s.Entries.length <= 16) (by omega)]; rfl
 rw [if_neg h1]
 by_cases h2 : 1000000 < s.Serial
 ·rw [if_pos h2, decide_eq_false (p := 0 <= s.Serial ∧ s.Serial <= 1000000 ∧ s.Entries.length <= 16) (by omega)]; rfl
 rw [if_neg h2]
 by_cases h3 : (16 : Int) < (s.Entries.length : Int)
 ·rw [if_pos h3, decide_eq_false (p := 0 <= s.Serial ∧ s.Serial <= 1000000 ∧ s.Entries.length <= 16) (by omega)]; rfl
 rw [if_neg h3, decide_eq_true (p := 0 <= s.Serial ∧ s.Serial <= 1000000 ∧ s.Entries.length <= 16) (by omega), Bool.true_and]
 unfold L5
 by_cases hp : s.Pending = []
 ·rw [if_neg (by rw [hp]; simp), if_pos hp]
  by_cases ha : s.Act = 0
  ·rw [if_pos ha, decide_eq_true ha, Bool.and_true]
   exact hf
  ·rw [if_neg ha, decide_eq_false ha, Bool.and_false]
 ·have hp0 : (0 : Int) < (s.Pending.length : Int) := by
   have : s.Pending.length ≠ 0 := fun e => hp (List.eq_nil_of_length_eq_zero e)
   omega
  rw [if_pos hp0, if_neg hp]
  cases ho : s.Open with
  | false => simp
  | true =>
   dsimp only
   rw [Q1 (by omega), Option.bind_some]
   cases yd s.Pending with
   | false => simp
   | true =>
    dsimp only
    by_cases a1 : s.Act < 1
    ·rw [if_pos a1, decide_eq_false (p := 1 <= s.Act ∧ s.Act <= 4) (by omega)]; simp
    rw [if_neg a1]
    by_cases a2 : 4 < s.Act
    ·rw [if_pos a2, decide_eq_false (p := 1 <= s.Act ∧ s.Act <= 4) (by omega)]; simp
    rw [if_neg a2, decide_eq_true (p := 1 <= s.Act ∧ s.Act <= 4) (by omega)]
    unfold wc
    rw [if_pos (by omega), Option.bind_some]
    have hh := Vf s.Entries s.Pending 0
    by_cases hA : s.Act = 1
    ·rw [if_pos hA, decide_eq_false (p := s.Act ≠ 1) (by omega)]
     cases hb : yK s.Entries s.Pending with
     | true => rw [if_pos (hh.2 hb)]; simp
     | false => rw [if_neg (fun h => by rw [hh.1 h] at hb; cases hb)]; refine Eq.trans hf ?_; simp
    ·rw [if_neg hA, decide_eq_true (p := s.Act ≠ 1) hA]
     cases hb : yK s.Entries s.Pending with
     | true => rw [if_pos (hh.2 hb)]; refine Eq.trans hf ?_; simp
     | false => rw [if_neg (fun h => by rw [hh.1 h] at hb; cases hb)]; simp
theorem Rn (a0 : GState) (r : Bool) (h : ko a0 = some r) : ∃ n, Z2 n a0 = some r := by
 unfold ko at h
 obtain ⟨ha, h⟩ := zR h
 exact ⟨_, by rw [<- h]; exact Ny ha⟩
theorem U2 : QU ko := fun a0 r h => (Rn a0 r h).elim fun n hn => PH n a0 r hn
def kq (a0 : (List UInt8)) (a1 : (List UInt8)) : Option Int :=
 if Op.bytesLess a0 a1 = true then
  some (-1)
 else
 if Op.bytesLess a1 a0 = true then
  some 1
 else
 some 0
theorem YI (a0 : (List UInt8)) (a1 : (List UInt8)) : Oc (kq a0 a1) 155 [] [vq za a0, vq za a1] fun r => (vi r, []) := tc (
 .bt a0 <|
 .bt a1 <|
 .bI a0 a1 (fun c1 =>
  .ret (-1)) fun c1 =>
 .bt a0 <|
 .bt a1 <|
 .bI a1 a0 (fun c2 =>
  .ret 1) fun c2 =>
 .ret 0) (ze Tryz.func155)
def kr (a0 : Int) (a1 : Int) : Option Int :=
 if a0 < a1 then
  some (-1)
 else
 if a1 < a0 then
  some 1
 else
 some 0
theorem XT (a0 : Int) (a1 : Int) : Oc (kr a0 a1) 154 [] [vi a0, vi a1] fun r => (vi r, []) := tc (
 .lI a0 a1 (fun c1 =>
  .ret (-1)) fun c1 =>
 .lI a1 a0 (fun c2 =>
  .ret 1) fun c2 =>
 .ret 0) (ze Tryz.func154)
def Zg (F : GValue → GValue → Option Int) : Prop := ∀ (a0 : GValue) (a1 : GValue), Oc (F a0 a1) 109 [] [.val true (z6 a0), .val true (z6 a1)] fun r => (vi r, [])
def jF (G_spec_l2cmp : GValue → GValue → Option Int) (a0 : GValue) (a1 : GValue) : Nat → Int → Option (Int ⊕ Int)
  | 0, _ => none
  | m + 1, v0 =>
  if v0 < (a0.L.length : Int) then
   if v0 < (a1.L.length : Int) then
    if a0.Kind = 5 then
     (zw v0).bind fun i4 =>
     (a0.K[i4]?).bind fun x5 =>
     (a1.K[i4]?).bind fun x6 =>
     (kq x5 x6).bind fun r7 =>
     if r7 = 0 then
      (a0.L[i4]?).bind fun x9 =>
      (a1.L[i4]?).bind fun x10 =>
      (G_spec_l2cmp x9 x10).bind fun r11 =>
      if r11 = 0 then
       jF G_spec_l2cmp a0 a1 m (w64 (v0 + 1))
      else
      some (.inl r11)
     else
     some (.inl r7)
    else
    (zw v0).bind fun i4 =>
    (a0.L[i4]?).bind fun x5 =>
    (a1.L[i4]?).bind fun x6 =>
    (G_spec_l2cmp x5 x6).bind fun r7 =>
    if r7 = 0 then
     jF G_spec_l2cmp a0 a1 m (w64 (v0 + 1))
    else
    some (.inl r7)
   else
   some (.inr v0)
  else
  some (.inr v0)
theorem Tf (G_spec_l2cmp : GValue → GValue → Option Int) (H_spec_l2cmp : Zg G_spec_l2cmp) (a0 : GValue) (a1 : GValue) (m : Nat) : ∀ (v0 : Int), Ol (jF G_spec_l2cmp a0 a1 m v0) 109 (zG Tryz.f109 0) ⟨[(2, vp 0 0), (3, vp 1 0), (5, vi v0)], [.var (z6 a0), .var (z6 a1)], 0⟩ fun o => match o with | .inl o_0 => (.ret, ⟨[(4, vi o_0)], [], 0⟩) | .inr (o_1) => (.exit 0, ⟨[(2, vp 0 0), (3, vp 1 0), (5, vi o_1), (47, vb false)], [.var (z6 a0), .var (z6 a1)], 0⟩) := by
  induction m with
  | zero => intro v0 o h; cases h
  | succ m ih => exact fun v0 => tlp (
   .le zg a0.L <|
   .lI v0 (a0.L.length : Int) (fun c1 =>
    .le zg a1.L <|
    .lI v0 (a1.L.length : Int) (fun c2 =>
     .eI a0.Kind 5 (fun c3 =>
      .na v0 fun i4 =>
      .ix0 (zt za) a0.K i4 fun x5 =>
      .ag 1 <|
      .ix0 (zt za) a1.K i4 fun x6 =>
      .cl (YI x5 x6) fun r7 =>
      .eI r7 0 (fun c8 =>
       .ag 3 <|
       .ix yn a0.L i4 fun x9 =>
       .ag 4 <|
       .ix yn a1.L i4 fun x10 =>
       .cl (H_spec_l2cmp x9 x10) fun r11 =>
       .eI r11 0 (fun c12 =>
        .go (ih (w64 (v0 + 1)))) fun c12 =>
       .ret (.inl r11)) fun c8 =>
      .ret (.inl r7)) fun c3 =>
     .na v0 fun i4 =>
     .ix yn a0.L i4 fun x5 =>
     .ag 1 <|
     .ix yn a1.L i4 fun x6 =>
     .cl (H_spec_l2cmp x5 x6) fun r7 =>
     .eI r7 0 (fun c8 =>
      .go (ih (w64 (v0 + 1)))) fun c8 =>
     .ret (.inl r7)) fun c2 =>
    .ret (.inr v0)) fun c1 =>
   .ret (.inr v0))
def YJ (G_spec_l2cmp : GValue → GValue → Option Int) (n : Nat) (a0 : GValue) (a1 : GValue) : Option Int :=
 if a0.Kind = a1.Kind then
  if a0.Kind = 3 then
   (kq a0.S a1.S).bind fun r3 =>
   some r3
  else
  if a0.N = a1.N then
   (jF G_spec_l2cmp a0 a1 n 0).bind fun o4 =>
   match o4 with
   | .inl o4_0 =>
    some o4_0
   | .inr (o4_1) =>
    (kr (a0.L.length : Int) (a1.L.length : Int)).bind fun r5 =>
    some r5
  else
  (kr a0.N a1.N).bind fun r4 =>
  some r4
 else
 (kr a0.Kind a1.Kind).bind fun r2 =>
 some r2
theorem M7 (G_spec_l2cmp : GValue → GValue → Option Int) (H_spec_l2cmp : Zg G_spec_l2cmp) (n : Nat) : Zg (YJ G_spec_l2cmp n) := fun a0 a1 => tc (
 .eI a0.Kind a1.Kind (fun c1 =>
  .eI a0.Kind 3 (fun c2 =>
   .cl (YI a0.S a1.S) fun r3 =>
   .ret r3) fun c2 =>
  .eI a0.N a1.N (fun c3 =>
   .l2 (Tf G_spec_l2cmp H_spec_l2cmp a0 a1 n 0) (fun o4_0 =>
    .ret o4_0) fun o4_1 =>
   .le zg a0.L <|
   .le zg a1.L <|
   .cl (XT (a0.L.length : Int) (a1.L.length : Int)) fun r5 =>
   .ret r5) fun c3 =>
  .cl (XT a0.N a1.N) fun r4 =>
  .ret r4) fun c1 =>
 .cl (XT a0.Kind a1.Kind) fun r2 =>
 .ret r2) (ze Tryz.func109)
def wF : Nat → GValue → GValue → Option Int
 | 0, _, _ => none
 | n + 1, a0, a1 => YJ (wF n) n a0 a1
theorem PI (n : Nat) : Zg (wF n) := by
 induction n with
 | zero => exact fun _ _ _ h => (by rw [wF] at h; cases h)
 | succ n ih =>
  have ih_spec_l2cmp := ih
  exact fun a0 a1 r h => M7 (wF n) ih_spec_l2cmp n a0 a1 r (by rw [wF] at h; exact h)
def YK (a0 : GValue) (a1 : GValue) : Option Int := wF (vsz a0 + 3) a0 a1
theorem U3 (a0 : GValue) (a1 : GValue) (r : Int) (h : YK a0 a1 = some r) : ∃ n, wF n a0 a1 = some r := ⟨_, h⟩
theorem OY : Zg YK := by
 intro a0 a1 r h
 obtain ⟨n, hn⟩ := U3 a0 a1 r h
 exact (PI n) a0 a1 r hn
def wS (a0 : GValue) : Option Bool :=
 (YK a0 (GValue.mk 0 0 [] [] [])).bind fun r1 =>
 if r1 = 0 then
  some (decide (a0.N = 0))
 else
 some false
theorem Z3 (a0 : GValue) : Oc (wS a0) 128 [] [.val true (z6 a0)] fun r => (vb r, []) := tc (
 .cl (OY a0 (GValue.mk 0 0 [] [] [])) fun r1 =>
 .eI r1 0 (fun c2 =>
  .eD a0.N 0 <|
  .ret (decide (a0.N = 0))) fun c2 =>
 .ret false) (ze Tryz.func128)
def Z4 (a0 : GEvent) : Option Bool :=
 if a0.Kind < 0 then
  some false
 else
 if 6 < a0.Kind then
  some false
 else
 if a0.Kind = 1 then
  if 0 < (a0.Addr.length : Int) then
   (wb a0.Addr).bind fun r5 =>
   match r5 with
   | true =>
    if a0.Act < 1 then
     some false
    else
    if 4 < a0.Act then
     some false
    else
    (xg a0.Val).bind fun r8 =>
    match r8 with
    | true =>
     (wS a0.Val).bind fun r9 =>
     match r9 with
     | true =>
      some (decide ((a0.Deps.length : Int) = 0))
     | false =>
      some false
    | false =>
     some false
   | false =>
    some false
  else
  some false
 else
 if a0.Kind = 2 then
  if 0 < (a0.Addr.length : Int) then
   (wb a0.Addr).bind fun r6 =>
   match r6 with
   | true =>
    if a0.Act = 0 then
     (jj a0.Val).bind fun r8 =>
     match r8 with
     | true =>
      (qh a0.Deps).bind fun r9 =>
      some r9
     | false =>
      some false
    else
    some false
   | false =>
    some false
  else
  some false
 else
 if a0.Kind = 3 then
  if 0 < (a0.Addr.length : Int) then
   (wb a0.Addr).bind fun r7 =>
   match r7 with
   | true =>
    if a0.Act = 0 then
     (xg a0.Val).bind fun r9 =>
     match r9 with
     | true =>
      (wS a0.Val).bind fun r10 =>
      match r10 with
      | true =>
       some (decide ((a0.Deps.length : Int) = 0))
      | false =>
       some false
     | false =>
      some false
    else
    some false
   | false =>
    some false
  else
  some false
 else
 if a0.Kind = 4 then
  if 0 < (a0.Addr.length : Int) then
   (wb a0.Addr).bind fun r8 =>
   match r8 with
   | true =>
    if a0.Act = 0 then
     (xg a0.Val).bind fun r10 =>
     match r10 with
     | true =>
      (wS a0.Val).bind fun r11 =>
      match r11 with
      | true =>
       some (decide ((a0.Deps.length : Int) = 0))
      | false =>
       some false
     | false =>
      some false
    else
    some false
   | false =>
    some false
  else
  some false
 else
 if 0 < (a0.Addr.length : Int) then
  some false
 else
 if a0.Act = 0 then
  (xg a0.Val).bind fun r9 =>
  match r9 with
  | true =>
   (wS a0.Val).bind fun r10 =>
   match r10 with
   | true =>
    some (decide ((a0.Deps.length : Int) = 0))
   | false =>
    some false
  | false =>
   some false
 else
 some false
theorem U4 (a0 : GEvent) : Oc (Z4 a0) 71 [] [.val true (xl a0)] fun r => (vb r, []) := tc (
 .lI a0.Kind 0 (fun c1 =>
  .ret false) fun c1 =>
 .lI 6 a0.Kind (fun c2 =>
  .ret false) fun c2 =>
 .eI a0.Kind 1 (fun c3 =>
  .le za a0.Addr <|
  .lD 0 (a0.Addr.length : Int) <|
  .sp (0 < (a0.Addr.length : Int)) (fun c4 =>
   .eb (a := true) (b := (decide (0 < (a0.Addr.length : Int)))) rfl (dT c4) <|
   .cl (qe a0.Addr) fun r5 =>
   .vN 4 r5 (
    .q (.eT c3) <|
    .lI a0.Act 1 (fun c6 =>
     .ret false) fun c6 =>
    .lI 4 a0.Act (fun c7 =>
     .ret false) fun c7 =>
    .q (.eFo a0.Kind 2 (by omega)) <|
    .cl (vg a0.Val) fun r8 =>
    .vM 0 r8 (
     .az 0 0 <|
     .az 0 0 <|
     .cl (Z3 a0.Val) fun r9 =>
     .az 0 1 <|
     .vM 0 r9 (
      .az 0 0 <|
      .az 0 0 <|
      .le (zt za) a0.Deps <|
      .az 0 0 <|
      .eD (a0.Deps.length : Int) 0 <|
      .az 0 0 <|
      .ret (decide ((a0.Deps.length : Int) = 0))) <|
     .az 0 0 <|
     .az 0 0 <|
     .az 0 0 <|
     .az 0 0 <|
     .ret false) <|
    .az 0 0 <|
    .az 0 0 <|
    .az 0 0 <|
    .ret false) <|
   .ret false) fun c4 =>
  .eb (a := true) (b := (decide (0 < (a0.Addr.length : Int)))) rfl (dF c4) <|
  .ret false) fun c3 =>
 .eI a0.Kind 2 (fun c4 =>
  .le za a0.Addr <|
  .lD 0 (a0.Addr.length : Int) <|
  .sp (0 < (a0.Addr.length : Int)) (fun c5 =>
   .eb (a := true) (b := (decide (0 < (a0.Addr.length : Int)))) rfl (dT c5) <|
   .cl (qe a0.Addr) fun r6 =>
   .vN 4 r6 (
    .q (.eF c3) <|
    .eI a0.Act 0 (fun c7 =>
     .q (.eT c4) <|
     .cl (JZ a0.Val) fun r8 =>
     .vM 0 r8 (
      .az 0 0 <|
      .az 0 0 <|
      .cl (Q2 a0.Deps) fun r9 =>
      .az 0 1 <|
      .ret r9) <|
     .az 0 0 <|
     .az 0 0 <|
     .az 0 0 <|
     .ret false) fun c7 =>
    .ret false) <|
   .ret false) fun c5 =>
  .eb (a := true) (b := (decide (0 < (a0.Addr.length : Int)))) rfl (dF c5) <|
  .ret false) fun c4 =>
 .eI a0.Kind 3 (fun c5 =>
  .le za a0.Addr <|
  .lD 0 (a0.Addr.length : Int) <|
  .sp (0 < (a0.Addr.length : Int)) (fun c6 =>
   .eb (a := true) (b := (decide (0 < (a0.Addr.length : Int)))) rfl (dT c6) <|
   .cl (qe a0.Addr) fun r7 =>
   .vN 4 r7 (
    .q (.eF c3) <|
    .eI a0.Act 0 (fun c8 =>
     .q (.eF c4) <|
     .cl (vg a0.Val) fun r9 =>
     .vM 0 r9 (
      .az 0 0 <|
      .az 0 0 <|
      .cl (Z3 a0.Val) fun r10 =>
      .az 0 1 <|
      .vM 0 r10 (
       .az 0 0 <|
       .az 0 0 <|
       .le (zt za) a0.Deps <|
       .az 0 0 <|
       .eD (a0.Deps.length : Int) 0 <|
       .az 0 0 <|
       .ret (decide ((a0.Deps.length : Int) = 0))) <|
      .az 0 0 <|
      .az 0 0 <|
      .az 0 0 <|
      .az 0 0 <|
      .ret false) <|
     .az 0 0 <|
     .az 0 0 <|
     .az 0 0 <|
     .ret false) fun c8 =>
    .ret false) <|
   .ret false) fun c6 =>
  .eb (a := true) (b := (decide (0 < (a0.Addr.length : Int)))) rfl (dF c6) <|
  .ret false) fun c5 =>
 .eI a0.Kind 4 (fun c6 =>
  .le za a0.Addr <|
  .lD 0 (a0.Addr.length : Int) <|
  .sp (0 < (a0.Addr.length : Int)) (fun c7 =>
   .eb (a := true) (b := (decide (0 < (a0.Addr.length : Int)))) rfl (dT c7) <|
   .cl (qe a0.Addr) fun r8 =>
   .vN 4 r8 (
    .q (.eF c3) <|
    .eI a0.Act 0 (fun c9 =>
     .q (.eF c4) <|
     .cl (vg a0.Val) fun r10 =>
     .vM 0 r10 (
      .az 0 0 <|
      .az 0 0 <|
      .cl (Z3 a0.Val) fun r11 =>
      .az 0 1 <|
      .vM 0 r11 (
       .az 0 0 <|
       .az 0 0 <|
       .le (zt za) a0.Deps <|
       .az 0 0 <|
       .eD (a0.Deps.length : Int) 0 <|
       .az 0 0 <|
       .ret (decide ((a0.Deps.length : Int) = 0))) <|
      .az 0 0 <|
      .az 0 0 <|
      .az 0 0 <|
      .az 0 0 <|
      .ret false) <|
     .az 0 0 <|
     .az 0 0 <|
     .az 0 0 <|
     .ret false) fun c9 =>
    .ret false) <|
   .ret false) fun c7 =>
  .eb (a := true) (b := (decide (0 < (a0.Addr.length : Int)))) rfl (dF c7) <|
  .ret false) fun c6 =>
 .le za a0.Addr <|
 .lD 0 (a0.Addr.length : Int) <|
 .sp (0 < (a0.Addr.length : Int)) (fun c7 =>
  .eb (a := false) (b := (decide (0 < (a0.Addr.length : Int)))) rfl (dT c7) <|
  .ret false) fun c7 =>
 .eb (a := false) (b := (decide (0 < (a0.Addr.length : Int)))) rfl (dF c7) <|
 .q (.eF c3) <|
 .eI a0.Act 0 (fun c8 =>
  .q (.eF c4) <|
  .cl (vg a0.Val) fun r9 =>
  .vM 0 r9 (
   .az 0 0 <|
   .az 0 0 <|
   .cl (Z3 a0.Val) fun r10 =>
   .az 0 1 <|
   .vM 0 r10 (
    .az 0 0 <|
    .az 0 0 <|
    .le (zt za) a0.Deps <|
    .az 0 0 <|
    .eD (a0.Deps.length : Int) 0 <|
    .az 0 0 <|
    .ret (decide ((a0.Deps.length : Int) = 0))) <|
   .az 0 0 <|
   .az 0 0 <|
   .az 0 0 <|
   .az 0 0 <|
   .ret false) <|
  .az 0 0 <|
  .az 0 0 <|
  .az 0 0 <|
  .ret false) fun c8 =>
 .ret false) (ze Tryz.func71)
def YL (a0 : GState) (a1 : GEvent) : Option Bool :=
 if 1000000 <= a0.Serial then
  some false
 else
 if a1.Kind = 0 then
  some (!a0.Open)
 else
 if a1.Kind = 1 then
  (wc a0 a1.Addr).bind fun r4 =>
  match a0.Open with
  | true =>
   if 0 < (a0.Pending.length : Int) then
    some false
   else
   if a1.Act = 1 then
    if 0 <= r4 then
     some false
    else
    some (decide ((a0.Entries.length : Int) < 16))
   else
   if 0 <= r4 then
    some true
   else
   some false
  | false =>
   some false
 else
 if a1.Kind = 2 then
  if 0 < (a0.Pending.length : Int) then
   if a0.Pending = a1.Addr then
    some (!(decide (a0.Act = 4)))
   else
   some false
  else
  some false
 else
 if a1.Kind = 3 then
  if 0 < (a0.Pending.length : Int) then
   if a0.Pending = a1.Addr then
    some (decide (a0.Act = 4))
   else
   some false
  else
  some false
 else
 if a1.Kind = 4 then
  if 0 < (a0.Pending.length : Int) then
   some (decide (a0.Pending = a1.Addr))
  else
  some false
 else
 if a1.Kind = 5 then
  match a0.Open with
  | true =>
   some (!(decide (0 < (a0.Pending.length : Int))))
  | false =>
   some false
 else
 some a0.Open
theorem OZ (a0 : GState) (a1 : GEvent) : Oc (YL a0 a1) 72 [] [.val true (ym a0), .val true (xl a1)] fun r => (vb r, []) := tc (
 .le za a0.Pending <|
 .lD 0 (a0.Pending.length : Int) <|
 .gI 1000000 a0.Serial (fun c1 =>
  .ret false) fun c1 =>
 .eI a1.Kind 0 (fun c2 =>
  .ret (!a0.Open)) fun c2 =>
 .eI a1.Kind 1 (fun c3 =>
  .cl (Xn a0 a1.Addr) fun r4 =>
  .gD 0 r4 <|
  .vM 0 a0.Open (
   .az 0 0 <|
   .az 0 0 <|
   .cN 0 (0 < (a0.Pending.length : Int)) (fun c5 =>
    .kF 0 (nT (dT c5)) <|
    .kF 0 (nT (dT c5)) <|
    .kF 0 (nT (dT c5)) <|
    .kF 0 (nT (dT c5)) <|
    .kF 0 (nT (dT c5)) <|
    .ret false) fun c5 =>
   .kT 0 (nF (dF c5)) <|
   .kT 0 (nF (dF c5)) <|
   .eI a1.Act 1 (fun c6 =>
    .kT 0 (nF (dF c5)) <|
    .kT 0 (nF (dF c5)) <|
    .sp (0 <= r4) (fun c7 =>
     .eb (a := true) (b := (decide (0 <= r4))) rfl (dT c7) <|
     .kT 0 (nF (dF c5)) <|
     .ret false) fun c7 =>
    .eb (a := true) (b := (decide (0 <= r4))) rfl (dF c7) <|
    .kT 0 (nF (dF c5)) <|
    .kF 2 (dF c7) <|
    .kF 0 (dF c7) <|
    .kF 0 (dF c7) <|
    .le zl a0.Entries <|
    .kF 0 (dF c7) <|
    .lD (a0.Entries.length : Int) 16 <|
    .kF 1 (dF c7) <|
    .ret (decide ((a0.Entries.length : Int) < 16))) fun c6 =>
   .kT 0 (nF (dF c5)) <|
   .kT 0 (nF (dF c5)) <|
   .sp (0 <= r4) (fun c7 =>
    .eb (a := false) (b := (decide (0 <= r4))) rfl (dT c7) <|
    .kT 0 (nF (dF c5)) <|
    .kT 2 (dT c7) <|
    .kT 0 (dT c7) <|
    .kT 0 (dT c7) <|
    .kT 0 (dT c7) <|
    .kT 1 (dT c7) <|
    .ret true) fun c7 =>
   .eb (a := false) (b := (decide (0 <= r4))) rfl (dF c7) <|
   .kT 0 (nF (dF c5)) <|
   .ret false) <|
  .az 0 0 <|
  .az 0 0 <|
  .ret false) fun c3 =>
 .eI a1.Kind 2 (fun c4 =>
  .cI 1 (0 < (a0.Pending.length : Int)) (fun c5 =>
   .kT 0 (dT c5) <|
   .kT 0 (dT c5) <|
   .bt a0.Pending <|
   .kT 0 (dT c5) <|
   .kT 0 (dT c5) <|
   .kT 0 (dT c5) <|
   .bt a1.Addr <|
   .kT 0 (dT c5) <|
   .sD a0.Pending a1.Addr <|
   .kT 0 (dT c5) <|
   .cI 0 (a0.Pending = a1.Addr) (fun c6 =>
    .kT 0 (dT c6) <|
    .kT 0 (dT c6) <|
    .eD a0.Act 4 <|
    .kT 0 (dT c6) <|
    .ret (!(decide (a0.Act = 4)))) fun c6 =>
   .kF 0 (dF c6) <|
   .kF 0 (dF c6) <|
   .kF 0 (dF c6) <|
   .ret false) fun c5 =>
  .kF 0 (dF c5) <|
  .kF 0 (dF c5) <|
  .kF 0 (dF c5) <|
  .kF 0 (dF c5) <|
  .kF 0 (dF c5) <|
  .kF 0 (dF c5) <|
  .kF 0 (dF c5) <|
  .ret false) fun c4 =>
 .eI a1.Kind 3 (fun c5 =>
  .cI 1 (0 < (a0.Pending.length : Int)) (fun c6 =>
   .kT 0 (dT c6) <|
   .kT 0 (dT c6) <|
   .bt a0.Pending <|
   .kT 0 (dT c6) <|
   .kT 0 (dT c6) <|
   .kT 0 (dT c6) <|
   .bt a1.Addr <|
   .kT 0 (dT c6) <|
   .sD a0.Pending a1.Addr <|
   .kT 0 (dT c6) <|
   .cI 0 (a0.Pending = a1.Addr) (fun c7 =>
    .kT 0 (dT c7) <|
    .kT 0 (dT c7) <|
    .eD a0.Act 4 <|
    .kT 0 (dT c7) <|
    .ret (decide (a0.Act = 4))) fun c7 =>
   .kF 0 (dF c7) <|
   .kF 0 (dF c7) <|
   .kF 0 (dF c7) <|
   .ret false) fun c6 =>
  .kF 0 (dF c6) <|
  .kF 0 (dF c6) <|
  .kF 0 (dF c6) <|
  .kF 0 (dF c6) <|
  .kF 0 (dF c6) <|
  .kF 0 (dF c6) <|
  .kF 0 (dF c6) <|
  .ret false) fun c5 =>
 .eI a1.Kind 4 (fun c6 =>
  .cI 1 (0 < (a0.Pending.length : Int)) (fun c7 =>
   .kT 0 (dT c7) <|
   .kT 0 (dT c7) <|
   .bt a0.Pending <|
   .kT 0 (dT c7) <|
   .kT 0 (dT c7) <|
   .kT 0 (dT c7) <|
   .bt a1.Addr <|
   .kT 0 (dT c7) <|
   .sD a0.Pending a1.Addr <|
   .kT 0 (dT c7) <|
   .ret (decide (a0.Pending = a1.Addr))) fun c7 =>
  .kF 0 (dF c7) <|
  .kF 0 (dF c7) <|
  .kF 0 (dF c7) <|
  .kF 0 (dF c7) <|
  .kF 0 (dF c7) <|
  .kF 0 (dF c7) <|
  .kF 0 (dF c7) <|
  .ret false) fun c6 =>
 .eI a1.Kind 5 (fun c7 =>
  .vM 1 a0.Open (
   .az 0 0 <|
   .az 0 0 <|
   .ret (!(decide (0 < (a0.Pending.length : Int))))) <|
  .az 0 0 <|
  .az 0 0 <|
  .ret false) fun c7 =>
 .ret a0.Open) (ze Tryz.func72)
def Vi (F : (List GEntry) → GEntry → Option (List GEntry)) : Prop := ∀ (a0 : (List GEntry)) (a1 : GEntry), Oc (F a0 a1) 130 [] [vq zl a0, .val true (jU a1)] fun r => (vq zl r, [])
def yv (a0 : (List GEntry)) (a1 : GEntry) : Nat → Bool → Int → (List GEntry) → Option (Bool × Int × (List GEntry))
  | 0, _, _, _ => none
  | m + 1, v1, v2, v4 =>
  if v2 < (a0.length : Int) then
   (zw v2).bind fun i2 =>
   (a0[i2]?).bind fun x3 =>
   (kq a1.Addr x3.Addr).bind fun r4 =>
   match v1 with
   | true =>
    if r4 = 0 then
     yv a0 a1 m v1 (w64 (v2 + 1)) v4
    else
    if zY 152 (v4.length + [x3].length) then
    yv a0 a1 m v1 (w64 (v2 + 1)) (v4 ++ [x3])
    else none
   | false =>
    if r4 <= 0 then
     if zY 152 (v4.length + [a1].length) then
     if r4 = 0 then
      yv a0 a1 m true (w64 (v2 + 1)) (v4 ++ [a1])
     else
     if zY 152 ((v4 ++ [a1]).length + [x3].length) then
     yv a0 a1 m true (w64 (v2 + 1)) ((v4 ++ [a1]) ++ [x3])
     else none
     else none
    else
    if r4 = 0 then
     yv a0 a1 m v1 (w64 (v2 + 1)) v4
    else
    if zY 152 (v4.length + [x3].length) then
    yv a0 a1 m v1 (w64 (v2 + 1)) (v4 ++ [x3])
    else none
  else
  some (v1, v2, v4)
theorem Tg (a0 : (List GEntry)) (a1 : GEntry) (m : Nat) : ∀ (v1 : Bool) (v2 : Int) (v4 : (List GEntry)), Ol (yv a0 a1 m v1 v2 v4) 130 (zG Tryz.f130 0) ⟨[(0, vq zl a0), (3, vp 0 0), (5, vr 1), (6, vb v1), (7, vi v2)], [.var (jU a1), .obj 9 (eL zl v4)], 0⟩ fun o => match o with | ⟨o_0, o_1, o_2⟩ => (.exit 0, ⟨[(0, vq zl a0), (3, vp 0 0), (5, vr 1), (6, vb o_0), (7, vi o_1), (12, vb false)], [.var (jU a1), .obj 9 (eL zl o_2)], 0⟩) := by
  induction m with
  | zero => intro v1 v2 v4 o h; cases h
  | succ m ih => exact fun v1 v2 v4 => tlp (
   .le zl a0 <|
   .lI v2 (a0.length : Int) (fun c1 =>
    .na v2 fun i2 =>
    .ix zZ a0 i2 fun x3 =>
    .cl (YI a1.Addr x3.Addr) fun r4 =>
    .vN 0 v1 (
     .an 0 0 <|
     .an 0 0 <|
     .eI r4 0 (fun c5 =>
      .go (ih v1 (w64 (v2 + 1)) v4)) fun c5 =>
     .ag 3 <|
     .ag 2 <|
     .pl y8 [x3] <|
     .ap 152 y8 v4 [x3] fun n6 =>
     .go (ih v1 (w64 (v2 + 1)) (v4 ++ [x3]))) <|
    .an 0 0 <|
    .gI r4 0 (fun c5 =>
     .an 0 0 <|
     .pl y8 [a1] <|
     .ap 152 y8 v4 [a1] fun n6 =>
     .eI r4 0 (fun c7 =>
      .go (ih true (w64 (v2 + 1)) (v4 ++ [a1]))) fun c7 =>
     .ag 3 <|
     .ag 2 <|
     .pl y8 [x3] <|
     .ap 152 y8 (v4 ++ [a1]) [x3] fun n8 =>
     .go (ih true (w64 (v2 + 1)) ((v4 ++ [a1]) ++ [x3]))) fun c5 =>
    .an 0 0 <|
    .eI r4 0 (fun c6 =>
     .go (ih v1 (w64 (v2 + 1)) v4)) fun c6 =>
    .ag 3 <|
    .ag 2 <|
    .pl y8 [x3] <|
    .ap 152 y8 v4 [x3] fun n7 =>
    .go (ih v1 (w64 (v2 + 1)) (v4 ++ [x3]))) fun c1 =>
   .ret (v1, v2, v4))
def WH (n : Nat) (a0 : (List GEntry)) (a1 : GEntry) : Option (List GEntry) :=
 (yv a0 a1 n false 0 []).bind fun ⟨o1_0, o1_1, o1_2⟩ =>
 match o1_0 with
 | true =>
  some o1_2
 | false =>
  if zY 152 (o1_2.length + [a1].length) then
  some (o1_2 ++ [a1])
  else none
theorem M8 (n : Nat) : Vi (WH n) := fun a0 a1 => tc (
 .lp (Tg a0 a1 n false 0 []) fun ⟨o1_0, o1_1, o1_2⟩ =>
 .vN 0 o1_0 (
  .vw y8 o1_2 <|
  .ret o1_2) <|
 .pl y8 [a1] <|
 .ap 152 y8 o1_2 [a1] fun n2 =>
 .vw y8 (o1_2 ++ [a1]) <|
 .ret (o1_2 ++ [a1])) (ze Tryz.func130)
theorem Z5 {m : Nat} (hm : m <= 2 ^ 39) : zY 152 m := by
 unfold zY
 constructor <;> simp [Am.maxBytes] <;> omega
def vy (e : GEntry) : Bool → List GEntry → List GEntry
 | put, [] => bif put then [] else [e]
 | put, x :: l =>
  bif Op.bytesLess e.Addr x.Addr then (bif put then x :: vy e put l else e :: x :: vy e true l)
  else bif Op.bytesLess x.Addr e.Addr then x :: vy e put l
  else bif put then vy e put l else e :: vy e true l
theorem GO {a : List GEntry} {e : GEntry} (ha : a.length <= 2 ^ 37) : ∀ (l p q : List GEntry) (b : Bool) (m : Nat), a = p ++ l → q.length <= 2 * p.length + 1 → l.length < m →
  ∃ (b' : Bool) (z : Int) (o : List GEntry), yv a e m b (p.length : Int) q = some (b', z, o) ∧ o.length <= 2 * a.length + 1 ∧ (bif b' then o else o ++ [e]) = q ++ vy e b l := by
 intro l
 induction l with
 | nil =>
  intro p q b m he hq hm
  obtain ⟨m, rfl, _⟩ := zh hm
  refine ⟨b, _, q, by rw [yv, he, List.append_nil, if_neg (by omega)], by rw [he]; simp; omega, ?_⟩
  cases b <;> simp [vy]
 | cons x l ih =>
  intro p q b m he hq hm
  obtain ⟨m, rfl, hm'⟩ := zh hm
  have hlen : a.length = p.length + (l.length + 1) := by rw [he]; simp
  have hlm : l.length < m := by simp only [List.length_cons] at hm'; omega
  have hnext : ∀ (b1 : Bool) (q1 : List GEntry), q1.length <= 2 * p.length + 3 → ∃ (b' : Bool) (z : Int) (o : List GEntry), yv a e m b1 ((p ++ [x]).length : Int) q1 = some (b', z, o) ∧ o.length <= 2 * a.length + 1 ∧ (bif b' then o else o ++ [e]) = q1 ++ vy e b1 l := fun b1 q1 h1 =>
   ih (p ++ [x]) q1 b1 m (by rw [he]; simp) (by simp; omega) hlm
  rw [yv, if_pos (by omega), zf, Option.bind_some, show a[p.length]? = some x by rw [he]; exact zW p x l, Option.bind_some, xX p x (by omega)]
  unfold kq
  unfold vy
  by_cases c1 : Op.bytesLess e.Addr x.Addr = true
  ·rw [if_pos c1, Option.bind_some, c1]
   simp only [cond_true]
   cases b with
   | true =>
    simp only [cond_true]
    rw [if_neg (by decide), if_pos (Z5 (by simp; omega))]
    obtain ⟨b', z, o, h1, h2, h3⟩ := hnext true (q ++ [x]) (by simp; omega)
    exact ⟨b', z, o, h1, h2, by rw [h3]; simp⟩
   | false =>
    simp only [cond_false]
    rw [if_pos (by decide), if_pos (Z5 (by simp; omega)), if_neg (by decide), if_pos (Z5 (by simp; omega))]
    obtain ⟨b', z, o, h1, h2, h3⟩ := hnext true (q ++ [e] ++ [x]) (by simp; omega)
    exact ⟨b', z, o, h1, h2, by rw [h3]; simp⟩
  ·rw [if_neg c1]
   rw [show Op.bytesLess e.Addr x.Addr = false by simpa using c1]
   simp only [cond_false]
   by_cases c2 : Op.bytesLess x.Addr e.Addr = true
   ·rw [if_pos c2, Option.bind_some, c2]
    simp only [cond_true]
    obtain ⟨b', z, o, h1, h2, h3⟩ := hnext b (q ++ [x]) (by simp; omega)
    cases b with
    | true =>
     simp only
     rw [if_neg (by decide), if_pos (Z5 (by simp; omega))]
     exact ⟨b', z, o, h1, h2, by rw [h3]; simp⟩
    | false =>
     simp only
     rw [if_neg (by decide), if_neg (by decide), if_pos (Z5 (by simp; omega))]
     exact ⟨b', z, o, h1, h2, by rw [h3]; simp⟩
   ·rw [if_neg c2, Option.bind_some, show Op.bytesLess x.Addr e.Addr = false by simpa using c2]
    simp only [cond_false]
    cases b with
    | true =>
     simp only [cond_true]
     rw [if_pos trivial]
     obtain ⟨b', z, o, h1, h2, h3⟩ := hnext true q (by omega)
     exact ⟨b', z, o, h1, h2, by rw [h3]⟩
    | false =>
     simp only [cond_false]
     rw [if_pos (by decide), if_pos (Z5 (by simp; omega)), if_pos trivial]
     obtain ⟨b', z, o, h1, h2, h3⟩ := hnext true (q ++ [e]) (by simp; omega)
     exact ⟨b', z, o, h1, h2, by rw [h3]; simp⟩
def jk (a0 : (List GEntry)) (a1 : GEntry) : Option (List GEntry) := if a0.length <= 2 ^ 37 then some (vy a1 false a0) else none
theorem U5 (a0 : (List GEntry)) (a1 : GEntry) (r : (List GEntry)) (h : jk a0 a1 = some r) : ∃ n, WH n a0 a1 = some r := by
 unfold jk at h
 obtain ⟨ha, h⟩ := zR h
 obtain ⟨b', z, o, h1, h2, h3⟩ := GO (a := a0) (e := a1) (by omega) a0 [] [] false (a0.length + 1) rfl (by simp) (by omega)
 refine ⟨a0.length + 1, ?_⟩
 unfold WH
 simp only [List.length_nil, Int.natCast_zero] at h1
 rw [h1, <- h]
 rw [List.nil_append] at h3
 rw [<- h3]
 cases b' with
 | true => rfl
 | false =>
  simp only [Option.bind_some, cond_false]
  rw [if_pos (Z5 (by simp; omega))]
theorem Ka : Vi jk := fun a0 a1 r h => (U5 a0 a1 r h).elim fun n hn => M8 n a0 a1 r hn
def vv (a0 : GEvent) (e0 : GState) : Option GState :=
 (wc (GState.mk (w64 (e0.Serial + 1)) e0.Open e0.Pending e0.Act e0.Entries) e0.Pending).bind fun r1 =>
 if a0.Kind = 0 then
  some (GState.mk (w64 (e0.Serial + 1)) true e0.Pending e0.Act e0.Entries)
 else
 if a0.Kind = 1 then
  some (GState.mk (w64 (e0.Serial + 1)) e0.Open a0.Addr a0.Act e0.Entries)
 else
 if a0.Kind = 2 then
  (jk e0.Entries (GEntry.mk a0.Addr a0.Val a0.Deps false (w64 (e0.Serial + 1)))).bind fun r5 =>
  some (GState.mk (w64 (e0.Serial + 1)) e0.Open [] 0 r5)
 else
 if a0.Kind = 3 then
  (zw r1).bind fun i6 =>
  (wY e0.Entries none (some i6)).bind fun s7 =>
  if zY 152 (0 + s7.length) then
  (zw (w64 (r1 + 1))).bind fun i9 =>
  (wY e0.Entries (some i9) none).bind fun s10 =>
  if zY 152 (s7.length + s10.length) then
  some (GState.mk (w64 (e0.Serial + 1)) e0.Open [] 0 (s7 ++ s10))
  else none
  else none
 else
 if a0.Kind = 4 then
  if (e0.Pending.length : Int) = 0 then
   some (GState.mk (w64 (e0.Serial + 1)) e0.Open [] 0 e0.Entries)
  else
  if 0 <= r1 then
   if zY 152 (0 + e0.Entries.length) then
   (zw r1).bind fun i10 =>
   (e0.Entries[i10]?).bind fun x11 =>
   ((e0.Entries.set i10 (GEntry.mk x11.Addr x11.Val x11.Deps true x11.Turned))[i10]?).bind fun x12 =>
   some (GState.mk (w64 (e0.Serial + 1)) e0.Open [] 0 ((e0.Entries.set i10 (GEntry.mk x11.Addr x11.Val x11.Deps true x11.Turned)).set i10 (GEntry.mk x12.Addr x12.Val x12.Deps x12.Taint (w64 (e0.Serial + 1)))))
   else none
  else
  some (GState.mk (w64 (e0.Serial + 1)) e0.Open [] 0 e0.Entries)
 else
 if a0.Kind = 6 then
  if (e0.Pending.length : Int) = 0 then
   some (GState.mk (w64 (e0.Serial + 1)) false [] 0 e0.Entries)
  else
  if 0 <= r1 then
   if zY 152 (0 + e0.Entries.length) then
   (zw r1).bind fun i11 =>
   (e0.Entries[i11]?).bind fun x12 =>
   ((e0.Entries.set i11 (GEntry.mk x12.Addr x12.Val x12.Deps true x12.Turned))[i11]?).bind fun x13 =>
   some (GState.mk (w64 (e0.Serial + 1)) false [] 0 ((e0.Entries.set i11 (GEntry.mk x12.Addr x12.Val x12.Deps true x12.Turned)).set i11 (GEntry.mk x13.Addr x13.Val x13.Deps x13.Taint (w64 (e0.Serial + 1)))))
   else none
  else
  (jk e0.Entries (GEntry.mk e0.Pending (GValue.mk 5 0 [] [] []) [] true (w64 (e0.Serial + 1)))).bind fun r10 =>
  some (GState.mk (w64 (e0.Serial + 1)) false [] 0 r10)
 else
 if a0.Kind = 5 then
  some (GState.mk (w64 (e0.Serial + 1)) false [] 0 e0.Entries)
 else
 some (GState.mk (w64 (e0.Serial + 1)) e0.Open [] 0 e0.Entries)
theorem M9 (a0 : GEvent) (e0 : GState) : Oc (vv a0 e0) 74 [.var (ym e0)] [vp 0 0, .val true (xl a0)] fun r => (.tup [], [.var (ym r)]) := tc (
 .cl (Xn (GState.mk (w64 (e0.Serial + 1)) e0.Open e0.Pending e0.Act e0.Entries) e0.Pending) fun r1 =>
 .eI a0.Kind 0 (fun c2 =>
  .ret (GState.mk (w64 (e0.Serial + 1)) true e0.Pending e0.Act e0.Entries)) fun c2 =>
 .eI a0.Kind 1 (fun c3 =>
  .ret (GState.mk (w64 (e0.Serial + 1)) e0.Open a0.Addr a0.Act e0.Entries)) fun c3 =>
 .eI a0.Kind 2 (fun c4 =>
  .cl (Ka e0.Entries (GEntry.mk a0.Addr a0.Val a0.Deps false (w64 (e0.Serial + 1)))) fun r5 =>
  .ret (GState.mk (w64 (e0.Serial + 1)) e0.Open [] 0 r5)) fun c4 =>
 .eI a0.Kind 3 (fun c5 =>
  .na r1 fun i6 =>
  .ct zl e0.Entries none (some i6) fun s7 =>
  .un y8 e0.Entries <|
  .ap 152 y8 [] s7 fun n8 =>
  .na (w64 (r1 + 1)) fun i9 =>
  .ct zl e0.Entries (some i9) none fun s10 =>
  .un y8 e0.Entries <|
  .ap 152 y8 s7 s10 fun n11 =>
  .vw y8 (s7 ++ s10) <|
  .ret (GState.mk (w64 (e0.Serial + 1)) e0.Open [] 0 (s7 ++ s10))) fun c5 =>
 .eI a0.Kind 4 (fun c6 =>
  .le za e0.Pending <|
  .eI (e0.Pending.length : Int) 0 (fun c7 =>
   .q (.eFo a0.Kind 6 (by omega)) <|
   .ret (GState.mk (w64 (e0.Serial + 1)) e0.Open [] 0 e0.Entries)) fun c7 =>
  .gI 0 r1 (fun c8 =>
   .ap 152 y8 [] e0.Entries fun n9 =>
   .na r1 fun i10 =>
   .ix zZ e0.Entries i10 fun x11 =>
   .ag 0 <|
   .sl (zZ (GEntry.mk x11.Addr x11.Val x11.Deps true x11.Turned)) e0.Entries i10 <|
   .ag 1 <|
   .ix zZ (e0.Entries.set i10 (GEntry.mk x11.Addr x11.Val x11.Deps true x11.Turned)) i10 fun x12 =>
   .ag 0 <|
   .sl (zZ (GEntry.mk x12.Addr x12.Val x12.Deps x12.Taint (w64 (e0.Serial + 1)))) (e0.Entries.set i10 (GEntry.mk x11.Addr x11.Val x11.Deps true x11.Turned)) i10 <|
   .q (.eFo a0.Kind 6 (by omega)) <|
   .vw y8 ((e0.Entries.set i10 (GEntry.mk x11.Addr x11.Val x11.Deps true x11.Turned)).set i10 (GEntry.mk x12.Addr x12.Val x12.Deps x12.Taint (w64 (e0.Serial + 1)))) <|
   .ret (GState.mk (w64 (e0.Serial + 1)) e0.Open [] 0 ((e0.Entries.set i10 (GEntry.mk x11.Addr x11.Val x11.Deps true x11.Turned)).set i10 (GEntry.mk x12.Addr x12.Val x12.Deps x12.Taint (w64 (e0.Serial + 1)))))) fun c8 =>
  .q (.eFo a0.Kind 6 (by omega)) <|
  .q (.eFo a0.Kind 6 (by omega)) <|
  .ret (GState.mk (w64 (e0.Serial + 1)) e0.Open [] 0 e0.Entries)) fun c6 =>
 .eI a0.Kind 6 (fun c7 =>
  .le za e0.Pending <|
  .eI (e0.Pending.length : Int) 0 (fun c8 =>
   .q (.eT c7) <|
   .ret (GState.mk (w64 (e0.Serial + 1)) false [] 0 e0.Entries)) fun c8 =>
  .gI 0 r1 (fun c9 =>
   .ap 152 y8 [] e0.Entries fun n10 =>
   .na r1 fun i11 =>
   .ix zZ e0.Entries i11 fun x12 =>
   .ag 0 <|
   .sl (zZ (GEntry.mk x12.Addr x12.Val x12.Deps true x12.Turned)) e0.Entries i11 <|
   .ag 1 <|
   .ix zZ (e0.Entries.set i11 (GEntry.mk x12.Addr x12.Val x12.Deps true x12.Turned)) i11 fun x13 =>
   .ag 0 <|
   .sl (zZ (GEntry.mk x13.Addr x13.Val x13.Deps x13.Taint (w64 (e0.Serial + 1)))) (e0.Entries.set i11 (GEntry.mk x12.Addr x12.Val x12.Deps true x12.Turned)) i11 <|
   .q (.eT c7) <|
   .vw y8 ((e0.Entries.set i11 (GEntry.mk x12.Addr x12.Val x12.Deps true x12.Turned)).set i11 (GEntry.mk x13.Addr x13.Val x13.Deps x13.Taint (w64 (e0.Serial + 1)))) <|
   .ret (GState.mk (w64 (e0.Serial + 1)) false [] 0 ((e0.Entries.set i11 (GEntry.mk x12.Addr x12.Val x12.Deps true x12.Turned)).set i11 (GEntry.mk x13.Addr x13.Val x13.Deps x13.Taint (w64 (e0.Serial + 1)))))) fun c9 =>
  .q (.eT c7) <|
  .cl (Ka e0.Entries (GEntry.mk e0.Pending (GValue.mk 5 0 [] [] []) [] true (w64 (e0.Serial + 1)))) fun r10 =>
  .q (.eT c7) <|
  .ret (GState.mk (w64 (e0.Serial + 1)) false [] 0 r10)) fun c7 =>
 .eI a0.Kind 5 (fun c8 =>
  .ret (GState.mk (w64 (e0.Serial + 1)) false [] 0 e0.Entries)) fun c8 =>
 .ret (GState.mk (w64 (e0.Serial + 1)) e0.Open [] 0 e0.Entries)) (ze Tryz.func74)
def Kb (F : GHistory → Int → Option (GState × Bool)) : Prop := ∀ (a0 : GHistory) (a1 : Int), Oc (F a0 a1) 87 [] [.val true (yy a0), vi a1] fun r => (.tup [(true, (ym r.1)), (false, [.bool r.2])], [])
def qi (a1 : Int) (a0 : GHistory) (v3 : Int) (v4 : Bool) (v5 : Int) (v7 : (List UInt8)) (v8 : (List GEntry)) : Nat → Int → GState → Option ((Bool × GState) ⊕ (Int × GState))
  | 0, _, _ => none
  | m + 1, v1, v6 =>
  if v1 < a1 then
   (zw v1).bind fun i2 =>
   (a0.Events[i2]?).bind fun x3 =>
   (YL v6 x3).bind fun r4 =>
   match r4 with
   | true =>
    (vv x3 v6).bind fun r5 =>
    qi a1 a0 v3 v4 v5 v7 v8 m (w64 (v1 + 1)) r5
   | false =>
    some (.inl (false, v6))
  else
  some (.inr (v1, v6))
theorem Ro (a1 : Int) (a0 : GHistory) (v3 : Int) (v4 : Bool) (v5 : Int) (v7 : (List UInt8)) (v8 : (List GEntry)) (m : Nat) : ∀ (v1 : Int) (v6 : GState), Ol (qi a1 a0 v3 v4 v5 v7 v8 m v1 v6) 87 (zG Tryz.f87 0) ⟨[(1, vi a1), (2, vp 0 0), (4, vp 1 0), (6, vp 2 0), (7, vi v1)], [.var (yy a0), .var [ci v3, .bool v4, .ref 3, ci v5, .ref 4], .var (ym v6), .obj 1 (eL za v7), .obj 9 (eL zl v8)], 0⟩ fun o => match o with | .inl ⟨o_0_0, o_0_1⟩ => (.ret, ⟨[(4, vp 0 0), (5, vb o_0_0)], [.var (ym o_0_1)], 0⟩) | .inr (⟨o_1_0, o_1_1⟩) => (.exit 0, ⟨[(1, vi a1), (2, vp 0 0), (4, vp 1 0), (6, vp 2 0), (7, vi o_1_0), (12, vb false)], [.var (yy a0), .var [ci v3, .bool v4, .ref 3, ci v5, .ref 4], .var (ym o_1_1), .obj 1 (eL za v7), .obj 9 (eL zl v8)], 0⟩) := by
  induction m with
  | zero => intro v1 v6 o h; cases h
  | succ m ih => exact fun v1 v6 => tlp (
   .lI v1 a1 (fun c1 =>
    .na v1 fun i2 =>
    .ix qX a0.Events i2 fun x3 =>
    .cl (OZ v6 x3) fun r4 =>
    .vN 0 r4 (
     .ag 3 <|
     .ag 2 <|
     .cl (M9 x3 v6) fun r5 =>
     .go (ih (w64 (v1 + 1)) r5)) <|
    .ret (.inl (false, v6))) fun c1 =>
   .ret (.inr (v1, v6)))
def ZX (n : Nat) (a0 : GHistory) (a1 : Int) : Option (GState × Bool) :=
 (qi a1 a0 0 false 0 [] [] n 0 a0.Base).bind fun o1 =>
 match o1 with
 | .inl ⟨o1_0_0, o1_0_1⟩ =>
  some (o1_0_1, o1_0_0)
 | .inr (⟨o1_1_0, o1_1_1⟩) =>
  some (o1_1_1, true)
theorem La (n : Nat) : Kb (ZX n) := fun a0 a1 => tc (
 .l2 (Ro a1 a0 0 false 0 [] [] n 0 a0.Base) (fun ⟨o1_0_0, o1_0_1⟩ =>
  .ret (o1_0_1, o1_0_0)) fun ⟨o1_1_0, o1_1_1⟩ =>
 .ret (o1_1_1, true)) (ze Tryz.func87)
def ZY (a0 : GHistory) (a1 : Int) : Option (GState × Bool) := ZX (a0.Events.length + 5) a0 a1
theorem Th (a0 : GHistory) (a1 : Int) (r : (GState × Bool)) (h : ZY a0 a1 = some r) : ∃ n, ZX n a0 a1 = some r := ⟨_, h⟩
theorem PJ : Kb ZY := fun a0 a1 r h => (Th a0 a1 r h).elim fun n hn => La n a0 a1 r hn
def Kc (F : GHistory → Option Bool) : Prop := ∀ (a0 : GHistory), Oc (F a0) 27 [] [.val true (yy a0)] fun r => (vb r, [])
def qj (a0 : GHistory) : Nat → Int → Option (Bool ⊕ Int)
  | 0, _ => none
  | m + 1, v0 =>
  if v0 < (a0.Events.length : Int) then
   (zw v0).bind fun i2 =>
   (a0.Events[i2]?).bind fun x3 =>
   (Z4 x3).bind fun r4 =>
   match r4 with
   | true =>
    qj a0 m (w64 (v0 + 1))
   | false =>
    some (.inl false)
  else
  some (.inr v0)
theorem Rp (a0 : GHistory) (m : Nat) : ∀ (v0 : Int), Ol (qj a0 m v0) 27 (zG Tryz.f27 0) ⟨[(1, vp 0 0), (3, vi v0)], [.var (yy a0)], 0⟩ fun o => match o with | .inl o_0 => (.ret, ⟨[(2, vb o_0)], [], 0⟩) | .inr (o_1) => (.exit 0, ⟨[(1, vp 0 0), (3, vi o_1), (33, vb false)], [.var (yy a0)], 0⟩) := by
  induction m with
  | zero => intro v0 o h; cases h
  | succ m ih => exact fun v0 => tlp (
   .le z8 a0.Events <|
   .lI v0 (a0.Events.length : Int) (fun c1 =>
    .na v0 fun i2 =>
    .ix qX a0.Events i2 fun x3 =>
    .cl (U4 x3) fun r4 =>
    .vN 0 r4 (
     .go (ih (w64 (v0 + 1)))) <|
    .ret (.inl false)) fun c1 =>
   .ret (.inr v0))
def ZZ (n : Nat) (a0 : GHistory) : Option Bool :=
 (ko a0.Base).bind fun r1 =>
 match r1 with
 | true =>
  if 300 < (a0.Events.length : Int) then
   some false
  else
  if a0.Safe < 0 then
   some false
  else
  if (a0.Events.length : Int) < a0.Safe then
   some false
  else
  (qj a0 n 0).bind fun o5 =>
  match o5 with
  | .inl o5_0 =>
   some o5_0
  | .inr (o5_1) =>
   (ZY a0 (a0.Events.length : Int)).bind fun ⟨r6_0, r6_1⟩ =>
   some r6_1
 | false =>
  some false
theorem Lb (n : Nat) : Kc (ZZ n) := fun a0 => tc (
 .cl (U2 a0.Base) fun r1 =>
 .vN 0 r1 (
  .an 0 0 <|
  .an 0 0 <|
  .le z8 a0.Events <|
  .an 0 0 <|
  .lI 300 (a0.Events.length : Int) (fun c2 =>
   .an 0 0 <|
   .ret false) fun c2 =>
  .an 0 0 <|
  .lI a0.Safe 0 (fun c3 =>
   .ret false) fun c3 =>
  .le z8 a0.Events <|
  .lI (a0.Events.length : Int) a0.Safe (fun c4 =>
   .ret false) fun c4 =>
  .l2 (Rp a0 n 0) (fun o5_0 =>
   .ret o5_0) fun o5_1 =>
  .le z8 a0.Events <|
  .cl (PJ a0 (a0.Events.length : Int)) fun ⟨r6_0, r6_1⟩ =>
  .ret r6_1) <|
 .an 0 0 <|
 .an 0 0 <|
 .an 0 0 <|
 .an 0 0 <|
 .ret false) (ze Tryz.func27)
def vh (a0 : GHistory) : Option Bool := ZZ (a0.Events.length + 5) a0
theorem Ti (a0 : GHistory) (r : Bool) (h : vh a0 = some r) : ∃ n, ZZ n a0 = some r := ⟨_, h⟩
theorem PK : Kc vh := fun a0 r h => (Ti a0 r h).elim fun n hn => Lb n a0 r hn
def Kd (F : (List UInt8) → Int → Option (List UInt8)) : Prop := ∀ (a0 : (List UInt8)) (a1 : Int), Oc (F a0 a1) 96 [] [vq za a0, vi a1] fun r => (.val false [.own 1 (eL za r)], [])
def xC : Nat → Int → (List UInt8) → Option (Int × (List UInt8))
  | 0, _, _ => none
  | m + 1, v0, v1 =>
  if 127 < v0 then
   if zY 1 (v1.length + [(b8 (w64 ((v0.tmod 128) + 128)))].length) then
   xC m (w64 (v0.tdiv 128)) (v1 ++ [(b8 (w64 ((v0.tmod 128) + 128)))])
   else none
  else
  some (v0, v1)
theorem Vj (m : Nat) : ∀ (v0 : Int) (v1 : (List UInt8)), Ol (xC m v0 v1) 96 (zG Tryz.f96 0) ⟨[(1, vi v0), (5, vr 0)], [.obj 1 (eL za v1)], 0⟩ fun o => match o with | ⟨o_0, o_1⟩ => (.exit 0, ⟨[(1, vi o_0), (5, vr 0)], [.obj 1 (eL za o_1)], 0⟩) := by
  induction m with
  | zero => intro v0 v1 o h; cases h
  | succ m ih => exact fun v0 v1 => tlp (
   .lI 127 v0 (fun c1 =>
    .q ⟨.nz 128, .b true, rfl⟩ <|
    .pl zn [(b8 (w64 ((v0.tmod 128) + 128)))] <|
    .ap 1 zn v1 [(b8 (w64 ((v0.tmod 128) + 128)))] fun n2 =>
    .q ⟨.nz 128, .b true, rfl⟩ <|
    .go (ih (w64 (v0.tdiv 128)) (v1 ++ [(b8 (w64 ((v0.tmod 128) + 128)))]))) fun c1 =>
   .ret (v0, v1))
def jl (n : Nat) (a1 : Int) (v1 : Bool) (a0 : (List UInt8)) : Nat → Option (Int × (List UInt8))
  | 0 => none
  | m + 1 =>
  if 127 < a1 then
   if zY 1 (a0.length + [(b8 (w64 ((a1.tmod 128) + 128)))].length) then
   (xC n (w64 (a1.tdiv 128)) (a0 ++ [(b8 (w64 ((a1.tmod 128) + 128)))])).bind fun ⟨o3_0, o3_1⟩ =>
   some (o3_0, o3_1)
   else none
  else
  some (a1, a0)
theorem Rq (n : Nat) (a1 : Int) (v1 : Bool) (a0 : (List UInt8)) (m : Nat) : Ol (jl n a1 v1 a0 m) 96 (zG Tryz.f96 0) ⟨[(1, vi a1), (5, vr 0), (14, vb v1)], [.obj 1 (eL za a0)], 0⟩ fun o => match o with | ⟨o_0, o_1⟩ => (.exit 0, ⟨[(1, vi o_0), (5, vr 0)], [.obj 1 (eL za o_1)], 0⟩) := by
  induction m with
  | zero => intro o h; cases h
  | succ m ih => exact tlp (
   .lI 127 a1 (fun c1 =>
    .q ⟨.nz 128, .b true, rfl⟩ <|
    .pl zn [(b8 (w64 ((a1.tmod 128) + 128)))] <|
    .ap 1 zn a0 [(b8 (w64 ((a1.tmod 128) + 128)))] fun n2 =>
    .q ⟨.nz 128, .b true, rfl⟩ <|
    .gb (Vj n (w64 (a1.tdiv 128)) (a0 ++ [(b8 (w64 ((a1.tmod 128) + 128)))])) (fun ⟨o3_0, o3_1⟩ =>
     some (o3_0, o3_1)) (by intro x a h; first | (cases h; rfl) | (rcases x with x | x <;> cases h <;> rfl) | (rcases x with x | x | x <;> cases h <;> rfl))) fun c1 =>
   .ret (a1, a0))
def Ya (n : Nat) (a0 : (List UInt8)) (a1 : Int) : Option (List UInt8) :=
 if zY 1 (0 + a0.length) then
 if a1 < 0 then
  some a0
 else
 if 2147483647 < a1 then
  some a0
 else
 (jl n a1 false a0 n).bind fun ⟨o4_0, o4_1⟩ =>
 if zY 1 (o4_1.length + [(b8 o4_0)].length) then
 some (o4_1 ++ [(b8 o4_0)])
 else none
 else none
theorem Lc (n : Nat) : Kd (Ya n) := fun a0 a1 => tc (
 .ap 1 zn [] a0 fun n1 =>
 .lI a1 0 (fun c2 =>
  .ret a0) fun c2 =>
 .lI 2147483647 a1 (fun c3 =>
  .ret a0) fun c3 =>
 .lp (Rq n a1 false a0 n) fun ⟨o4_0, o4_1⟩ =>
 .pl zn [(b8 o4_0)] <|
 .ap 1 zn o4_1 [(b8 o4_0)] fun n5 =>
 .ret (o4_1 ++ [(b8 o4_0)])) (ze Tryz.func96)
def zQ (a0 : (List UInt8)) (a1 : Int) : Option (List UInt8) := Ya 10 a0 a1
theorem Tj (a0 : (List UInt8)) (a1 : Int) (r : (List UInt8)) (h : zQ a0 a1 = some r) : ∃ n, Ya n a0 a1 = some r := ⟨_, h⟩
theorem yg : Kd zQ := fun a0 a1 r h => (Tj a0 a1 r h).elim fun n hn => Lc n a0 a1 r hn
def qk (a0 : (List UInt8)) (a1 : (List UInt8)) : Option (List UInt8) :=
 if 20 < (a1.length : Int) then
  if zY 1 (0 + a0.length) then
  some a0
  else none
 else
 (zQ a0 (a1.length : Int)).bind fun r2 =>
 if zY 1 (r2.length + a1.length) then
 some (r2 ++ a1)
 else none
theorem vP (a0 : (List UInt8)) (a1 : (List UInt8)) : Oc (qk a0 a1) 147 [] [vq za a0, vq za a1] fun r => (.val false [.own 1 (eL za r)], []) := tc (
 .le za a1 <|
 .lI 20 (a1.length : Int) (fun c1 =>
  .ap 1 zn [] a0 fun n2 =>
  .ret a0) fun c1 =>
 .le za a1 <|
 .cl (yg a0 (a1.length : Int)) fun r2 =>
 .ap 1 zn r2 a1 fun n3 =>
 .ret (r2 ++ a1)) (ze Tryz.func147)
def Zh (F : (List UInt8) → GValue → Option (List UInt8)) : Prop := ∀ (a0 : (List UInt8)) (a1 : GValue), Oc (F a0 a1) 148 [] [vq za a0, .val true (z6 a1)] fun r => (.val false [.own 1 (eL za r)], [])
def xL (G_spec_l2put : (List UInt8) → GValue → Option (List UInt8)) (a1 : GValue) : Nat → Int → (List UInt8) → Option (Int × (List UInt8))
  | 0, _, _ => none
  | m + 1, v0, v1 =>
  if v0 < (a1.L.length : Int) then
   if a1.Kind = 5 then
    (zw v0).bind fun i3 =>
    (a1.K[i3]?).bind fun x4 =>
    (qk v1 x4).bind fun r5 =>
    (a1.L[i3]?).bind fun x6 =>
    (G_spec_l2put r5 x6).bind fun r7 =>
    xL G_spec_l2put a1 m (w64 (v0 + 1)) r7
   else
   (zw v0).bind fun i3 =>
   (a1.L[i3]?).bind fun x4 =>
   (G_spec_l2put v1 x4).bind fun r5 =>
   xL G_spec_l2put a1 m (w64 (v0 + 1)) r5
  else
  some (v0, v1)
theorem WI (G_spec_l2put : (List UInt8) → GValue → Option (List UInt8)) (H_spec_l2put : Zh G_spec_l2put) (a1 : GValue) (m : Nat) : ∀ (v0 : Int) (v1 : (List UInt8)), Ol (xL G_spec_l2put a1 m v0 v1) 148 (zG Tryz.f148 0) ⟨[(0, vr 0), (3, vp 1 0), (7, vi v0)], [.obj 1 (eL za v1), .var (z6 a1)], 0⟩ fun o => match o with | ⟨o_0, o_1⟩ => (.exit 1, ⟨[(0, vr 0), (3, vp 1 0), (7, vi o_0), (55, vb false)], [.obj 1 (eL za o_1), .var (z6 a1)], 0⟩) := by
  induction m with
  | zero => intro v0 v1 o h; cases h
  | succ m ih => exact fun v0 v1 => tlp (
   .le zg a1.L <|
   .lI v0 (a1.L.length : Int) (fun c1 =>
    .eI a1.Kind 5 (fun c2 =>
     .na v0 fun i3 =>
     .ix0 (zt za) a1.K i3 fun x4 =>
     .vw zn v1 <|
     .cl (vP v1 x4) fun r5 =>
     .cn yY r5 <|
     .ag 2 <|
     .ix yn a1.L i3 fun x6 =>
     .vw zn r5 <|
     .cl (H_spec_l2put r5 x6) fun r7 =>
     .cn yY r7 <|
     .go (ih (w64 (v0 + 1)) r7)) fun c2 =>
    .na v0 fun i3 =>
    .ix yn a1.L i3 fun x4 =>
    .vw zn v1 <|
    .cl (H_spec_l2put v1 x4) fun r5 =>
    .cn yY r5 <|
    .go (ih (w64 (v0 + 1)) r5)) fun c1 =>
   .ret (v0, v1))
def WJ (G_spec_l2put : (List UInt8) → GValue → Option (List UInt8)) (n : Nat) (a0 : (List UInt8)) (a1 : GValue) : Option (List UInt8) :=
 (zQ a0 a1.Kind).bind fun r1 =>
 if a1.Kind = 1 then
  (zQ r1 a1.N).bind fun r3 =>
  some r3
 else
 if a1.Kind = 2 then
  if a1.N < 0 then
   (zQ r1 1).bind fun r5 =>
   (zQ r5 (w64 ((w64 (0 - a1.N)).tdiv 1000000))).bind fun r6 =>
   (zQ r6 ((w64 (0 - a1.N)).tmod 1000000)).bind fun r7 =>
   some r7
  else
  (zQ r1 0).bind fun r5 =>
  (zQ r5 (w64 (a1.N.tdiv 1000000))).bind fun r6 =>
  (zQ r6 (a1.N.tmod 1000000)).bind fun r7 =>
  some r7
 else
 if a1.Kind = 3 then
  (qk r1 a1.S).bind fun r5 =>
  some r5
 else
 if a1.Kind = 4 then
  (zQ r1 (a1.L.length : Int)).bind fun r6 =>
  (xL G_spec_l2put a1 n 0 r6).bind fun ⟨o7_0, o7_1⟩ =>
  some o7_1
 else
 if a1.Kind = 5 then
  (zQ r1 (a1.L.length : Int)).bind fun r7 =>
  (xL G_spec_l2put a1 n 0 r7).bind fun ⟨o8_0, o8_1⟩ =>
  some o8_1
 else
 some r1
theorem MA (G_spec_l2put : (List UInt8) → GValue → Option (List UInt8)) (H_spec_l2put : Zh G_spec_l2put) (n : Nat) : Zh (WJ G_spec_l2put n) := fun a0 a1 => tc (
 .cl (yg a0 a1.Kind) fun r1 =>
 .eI a1.Kind 1 (fun c2 =>
  .vw zn r1 <|
  .cl (yg r1 a1.N) fun r3 =>
  .cn yY r3 <|
  .ret r3) fun c2 =>
 .eI a1.Kind 2 (fun c3 =>
  .lI a1.N 0 (fun c4 =>
   .vw zn r1 <|
   .cl (yg r1 1) fun r5 =>
   .cn yY r5 <|
   .q ⟨.nz 1000000, .b true, rfl⟩ <|
   .vw zn r5 <|
   .cl (yg r5 (w64 ((w64 (0 - a1.N)).tdiv 1000000))) fun r6 =>
   .cn yY r6 <|
   .q ⟨.nz 1000000, .b true, rfl⟩ <|
   .vw zn r6 <|
   .cl (yg r6 ((w64 (0 - a1.N)).tmod 1000000)) fun r7 =>
   .cn yY r7 <|
   .ret r7) fun c4 =>
  .vw zn r1 <|
  .cl (yg r1 0) fun r5 =>
  .cn yY r5 <|
  .q ⟨.nz 1000000, .b true, rfl⟩ <|
  .vw zn r5 <|
  .cl (yg r5 (w64 (a1.N.tdiv 1000000))) fun r6 =>
  .cn yY r6 <|
  .q ⟨.nz 1000000, .b true, rfl⟩ <|
  .vw zn r6 <|
  .cl (yg r6 (a1.N.tmod 1000000)) fun r7 =>
  .cn yY r7 <|
  .ret r7) fun c3 =>
 .eI a1.Kind 3 (fun c4 =>
  .vw zn r1 <|
  .cl (vP r1 a1.S) fun r5 =>
  .cn yY r5 <|
  .ret r5) fun c4 =>
 .eI a1.Kind 4 (fun c5 =>
  .le zg a1.L <|
  .vw zn r1 <|
  .cl (yg r1 (a1.L.length : Int)) fun r6 =>
  .cn yY r6 <|
  .lp (WI G_spec_l2put H_spec_l2put a1 n 0 r6) fun ⟨o7_0, o7_1⟩ =>
  .ret o7_1) fun c5 =>
 .eI a1.Kind 5 (fun c6 =>
  .le zg a1.L <|
  .vw zn r1 <|
  .cl (yg r1 (a1.L.length : Int)) fun r7 =>
  .cn yY r7 <|
  .lp (WI G_spec_l2put H_spec_l2put a1 n 0 r7) fun ⟨o8_0, o8_1⟩ =>
  .ret o8_1) fun c6 =>
 .ret r1) (ze Tryz.func148)
def xZ : Nat → (List UInt8) → GValue → Option (List UInt8)
 | 0, _, _ => none
 | n + 1, a0, a1 => WJ (xZ n) n a0 a1
theorem PL (n : Nat) : Zh (xZ n) := by
 induction n with
 | zero => exact fun _ _ _ h => (by rw [xZ] at h; cases h)
 | succ n ih =>
  have ih_spec_l2put := ih
  exact fun a0 a1 r h => MA (xZ n) ih_spec_l2put n a0 a1 r (by rw [xZ] at h; exact h)
def YM (a0 : (List UInt8)) (a1 : GValue) : Option (List UInt8) := xZ 100 a0 a1
theorem U6 (a0 : (List UInt8)) (a1 : GValue) (r : (List UInt8)) (h : YM a0 a1 = some r) : ∃ n, xZ n a0 a1 = some r := ⟨_, h⟩
theorem Ld : Zh YM := by
 intro a0 a1 r h
 obtain ⟨n, hn⟩ := U6 a0 a1 r h
 exact (PL n) a0 a1 r hn
def QV (F : GEvent → Option (List UInt8)) : Prop := ∀ (a0 : GEvent), Oc (F a0) 95 [] [.val true (xl a0)] fun r => (.val false [.own 1 (eL za r)], [])
def wN (a0 : GEvent) : Nat → Int → (List UInt8) → Option (Int × (List UInt8))
  | 0, _, _ => none
  | m + 1, v0, v2 =>
  if v0 < (a0.Deps.length : Int) then
   (zw v0).bind fun i2 =>
   (a0.Deps[i2]?).bind fun x3 =>
   (qk v2 x3).bind fun r4 =>
   wN a0 m (w64 (v0 + 1)) r4
  else
  some (v0, v2)
theorem Vk (a0 : GEvent) (m : Nat) : ∀ (v0 : Int) (v2 : (List UInt8)), Ol (wN a0 m v0 v2) 95 (zG Tryz.f95 0) ⟨[(1, vp 0 0), (3, vr 1), (4, vi v0)], [.var (xl a0), .obj 1 (eL za v2)], 0⟩ fun o => match o with | ⟨o_0, o_1⟩ => (.exit 2, ⟨[(1, vp 0 0), (3, vr 1), (4, vi o_0), (38, vb false)], [.var (xl a0), .obj 1 (eL za o_1)], 0⟩) := by
  induction m with
  | zero => intro v0 v2 o h; cases h
  | succ m ih => exact fun v0 v2 => tlp (
   .le (zt za) a0.Deps <|
   .lI v0 (a0.Deps.length : Int) (fun c1 =>
    .na v0 fun i2 =>
    .ix0 (zt za) a0.Deps i2 fun x3 =>
    .vw zn v2 <|
    .cl (vP v2 x3) fun r4 =>
    .cn yY r4 <|
    .go (ih (w64 (v0 + 1)) r4)) fun c1 =>
   .ret (v0, v2))
def Z6 (n : Nat) (a0 : GEvent) : Option (List UInt8) :=
 (zQ [] a0.Kind).bind fun r1 =>
 if a0.Kind = 0 then
  some r1
 else
 if a0.Kind = 5 then
  some r1
 else
 if a0.Kind = 6 then
  some r1
 else
 (qk r1 a0.Addr).bind fun r5 =>
 if a0.Kind = 1 then
  (zQ r5 a0.Act).bind fun r7 =>
  some r7
 else
 if a0.Kind = 2 then
  (zQ r5 (a0.Deps.length : Int)).bind fun r8 =>
  (wN a0 n 0 r8).bind fun ⟨o9_0, o9_1⟩ =>
  (YM o9_1 a0.Val).bind fun r10 =>
  some r10
 else
 some r5
theorem PM (n : Nat) : QV (Z6 n) := fun a0 => tc (
 .cl (yg [] a0.Kind) fun r1 =>
 .eI a0.Kind 0 (fun c2 =>
  .ret r1) fun c2 =>
 .eI a0.Kind 5 (fun c3 =>
  .ret r1) fun c3 =>
 .eI a0.Kind 6 (fun c4 =>
  .ret r1) fun c4 =>
 .vw zn r1 <|
 .cl (vP r1 a0.Addr) fun r5 =>
 .cn yY r5 <|
 .eI a0.Kind 1 (fun c6 =>
  .vw zn r5 <|
  .cl (yg r5 a0.Act) fun r7 =>
  .cn yY r7 <|
  .ret r7) fun c6 =>
 .eI a0.Kind 2 (fun c7 =>
  .le (zt za) a0.Deps <|
  .vw zn r5 <|
  .cl (yg r5 (a0.Deps.length : Int)) fun r8 =>
  .cn yY r8 <|
  .lp (Vk a0 n 0 r8) fun ⟨o9_0, o9_1⟩ =>
  .vw zn o9_1 <|
  .cl (Ld o9_1 a0.Val) fun r10 =>
  .cn yY r10 <|
  .ret r10) fun c7 =>
 .ret r5) (ze Tryz.func95)
def ku (a0 : GEvent) : Option (List UInt8) := Z6 100 a0
theorem Rr (a0 : GEvent) (r : (List UInt8)) (h : ku a0 = some r) : ∃ n, Z6 n a0 = some r := ⟨_, h⟩
theorem U7 : QV ku := fun a0 r h => (Rr a0 r h).elim fun n hn => PM n a0 r hn
def WK (F : GHistory → Option ((List UInt8) × Bool)) : Prop := ∀ (a0 : GHistory), Oc (F a0) 36 [] [.val true (yy a0)] fun r => (.tup [(false, [.own 1 (eL za r.1)]), (false, [.bool r.2])], [])
def xQ (a0 : GHistory) : Nat → Int → (List UInt8) → Option (Int × (List UInt8))
  | 0, _, _ => none
  | m + 1, v0, v2 =>
  if v0 < (a0.Events.length : Int) then
   (zw v0).bind fun i2 =>
   (a0.Events[i2]?).bind fun x3 =>
   (ku x3).bind fun r4 =>
   (zQ v2 (r4.length : Int)).bind fun r5 =>
   if zY 1 (r5.length + r4.length) then
   xQ a0 m (w64 (v0 + 1)) (r5 ++ r4)
   else none
  else
  some (v0, v2)
theorem J4 (a0 : GHistory) (m : Nat) : ∀ (v0 : Int) (v2 : (List UInt8)), Ol (xQ a0 m v0 v2) 36 (zG Tryz.f36 0) ⟨[(1, vp 0 0), (4, vr 1), (5, vi v0)], [.var (yy a0), .obj 1 (eL za v2)], 0⟩ fun o => match o with | ⟨o_0, o_1⟩ => (.exit 0, ⟨[(1, vp 0 0), (4, vr 1), (5, vi o_0), (14, vb false)], [.var (yy a0), .obj 1 (eL za o_1)], 0⟩) := by
  induction m with
  | zero => intro v0 v2 o h; cases h
  | succ m ih => exact fun v0 v2 => tlp (
   .le z8 a0.Events <|
   .lI v0 (a0.Events.length : Int) (fun c1 =>
    .na v0 fun i2 =>
    .ix qX a0.Events i2 fun x3 =>
    .cl (U7 x3) fun r4 =>
    .le za r4 <|
    .vw zn v2 <|
    .cl (yg v2 (r4.length : Int)) fun r5 =>
    .cn yY r5 <|
    .pl zn r4 <|
    .ap 1 zn r5 r4 fun n6 =>
    .go (ih (w64 (v0 + 1)) (r5 ++ r4))) fun c1 =>
   .ret (v0, v2))
def kU (n : Nat) (a0 : GHistory) : Option ((List UInt8) × Bool) :=
 (vh a0).bind fun r1 =>
 match r1 with
 | true =>
  (xQ a0 n 0 []).bind fun ⟨o2_0, o2_1⟩ =>
  some (o2_1, true)
 | false =>
  some ([], false)
theorem Tk (n : Nat) : WK (kU n) := fun a0 => tc (
 .cl (PK a0) fun r1 =>
 .vN 0 r1 (
  .lp (J4 a0 n 0 []) fun ⟨o2_0, o2_1⟩ =>
  .ret (o2_1, true)) <|
 .ret ([], false)) (ze Tryz.func36)
def jm (a0 : GHistory) : Option ((List UInt8) × Bool) := kU (a0.Events.length + 5) a0
theorem Ks (a0 : GHistory) (r : ((List UInt8) × Bool)) (h : jm a0 = some r) : ∃ n, kU n a0 = some r := ⟨_, h⟩
theorem Rs : WK jm := fun a0 r h => (Ks a0 r h).elim fun n hn => Tk n a0 r hn
def yD (a0 : Int) (a1 : Int) (a2 : Int) : Option Bool :=
 if a1 <= a0 then
  some (decide (a0 <= a2))
 else
 some false
theorem wd (a0 : Int) (a1 : Int) (a2 : Int) : Oc (yD a0 a1 a2) 94 [] [vi a0, vi a1, vi a2] fun r => (vb r, []) := tc (
 .gI a1 a0 (fun c1 =>
  .gD a0 a2 <|
  .ret (decide (a0 <= a2))) fun c1 =>
 .ret false) (ze Tryz.func94)
def ZF (a0 : (List UInt8)) (a1 : UInt8) : Option Int :=
 (qy a0 a1).bind fun r1 =>
 some r1
theorem Vl (a0 : (List UInt8)) (a1 : UInt8) : Oc (ZF a0 a1) 212 [] [vq za a0, .val false [.int .u8 ((a1.toNat : Nat) : Int)]] fun r => (vi r, []) := tc (
 .cl (Xa a0 a1) fun r1 =>
 .ret r1) (ze Tryz.func212)
def xo (a0 : (List UInt8)) (a1 : (List UInt8)) : Option Bool :=
 some (decide (a0 = a1))
theorem jb (a0 : (List UInt8)) (a1 : (List UInt8)) : Oc (xo a0 a1) 105 [] [vq za a0, vq za a1] fun r => (vb r, []) := tc (
 .bt a0 <|
 .bt a1 <|
 .sD a0 a1 <|
 .ret (decide (a0 = a1))) (ze Tryz.func105)
def vj (a0 : (List UInt8)) (a1 : (List UInt8)) : Option Int :=
 if (a1.length : Int) = 0 then
  some 0
 else
 if (a1.length : Int) = 1 then
  (a1[0]?).bind fun x3 =>
  (ZF a0 x3).bind fun r4 =>
  some r4
 else
 if (a1.length : Int) = (a0.length : Int) then
  (xo a1 a0).bind fun r4 =>
  match r4 with
  | true =>
   some 0
  | false =>
   some (-1)
 else
 if (a0.length : Int) < (a1.length : Int) then
  some (-1)
 else
 none
theorem PN (a0 : (List UInt8)) (a1 : (List UInt8)) : Oc (vj a0 a1) 196 [] [vq za a0, vq za a1] fun r => (vi r, []) := tc (
 .le za a1 <|
 .eI (a1.length : Int) 0 (fun c1 =>
  .ret 0) fun c1 =>
 .eI (a1.length : Int) 1 (fun c2 =>
  .nl 0 <|
  .ix0 za a1 0 fun x3 =>
  .cl (Vl a0 x3) fun r4 =>
  .ret r4) fun c2 =>
 .le za a0 <|
 .eI (a1.length : Int) (a0.length : Int) (fun c3 =>
  .cl (jb a1 a0) fun r4 =>
  .vM 0 r4 (
   .ret 0) <|
  .ret (-1)) fun c3 =>
 .le za a0 <|
 .lI (a0.length : Int) (a1.length : Int) (fun c4 =>
  .ret (-1)) fun c4 =>
 .no) (ze Tryz.func196)
def X6 (a0 : (List UInt8)) (a1 : (List UInt8)) : Option ((List UInt8) × (List UInt8) × Bool) :=
 (vj a0 a1).bind fun r1 =>
 if 0 <= r1 then
  (zw r1).bind fun i3 =>
  (wY a0 none (some i3)).bind fun s4 =>
  (zw (w64 (r1 + (a1.length : Int)))).bind fun i5 =>
  (wY a0 (some i5) none).bind fun s6 =>
  some (s4, s6, true)
 else
 some (a0, [], false)
theorem MB (a0 : (List UInt8)) (a1 : (List UInt8)) : Oc (X6 a0 a1) 170 [] [vq za a0, vq za a1] fun r => (.tup [(false, [cq za r.1]), (false, [cq za r.2.1]), (false, [.bool r.2.2])], []) := tc (
 .cl (PN a0 a1) fun r1 =>
 .gI 0 r1 (fun c2 =>
  .na r1 fun i3 =>
  .ct za a0 none (some i3) fun s4 =>
  .un zn a0 <|
  .le za a1 <|
  .na (w64 (r1 + (a1.length : Int))) fun i5 =>
  .ct za a0 (some i5) none fun s6 =>
  .un zn a0 <|
  .ret (s4, s6, true)) fun c2 =>
 .vw zn [] <|
 .ret (a0, [], false)) (ze Tryz.func170)
def Ke (F : (List UInt8) → Option Bool) : Prop := ∀ (a0 : (List UInt8)), Oc (F a0) 158 [] [vq za a0] fun r => (vb r, [])
def ql (a0 : (List UInt8)) (v1 : Int) : Nat → Int → Option (Bool ⊕ Int)
  | 0, _ => none
  | m + 1, v2 =>
  if v2 < v1 then
   (zw v2).bind fun i2 =>
   (a0[i2]?).bind fun x3 =>
   if ((x3.toNat : Nat) : Int) < 97 then
    some (.inl false)
   else
   if 122 < ((x3.toNat : Nat) : Int) then
    some (.inl false)
   else
   ql a0 v1 m (w64 (v2 + 1))
  else
  some (.inr v2)
theorem Rt (a0 : (List UInt8)) (v1 : Int) (m : Nat) : ∀ (v2 : Int), Ol (ql a0 v1 m v2) 158 (zG Tryz.f158 0) ⟨[(0, vq za a0), (5, vq za a0), (6, vi v1), (7, vi v2)], [], 0⟩ fun o => match o with | .inl o_0 => (.ret, ⟨[(2, vb o_0)], [], 0⟩) | .inr (o_1) => (.exit 0, ⟨[(0, vq za a0), (5, vq za a0), (6, vi v1), (7, vi o_1), (8, vb false)], [], 0⟩) := by
  induction m with
  | zero => intro v2 o h; cases h
  | succ m ih => exact fun v2 => tlp (
   .lI v2 v1 (fun c1 =>
    .na v2 fun i2 =>
    .ix0 za a0 i2 fun x3 =>
    .lI ((x3.toNat : Nat) : Int) 97 (fun c4 =>
     .ret (.inl false)) fun c4 =>
    .lI 122 ((x3.toNat : Nat) : Int) (fun c5 =>
     .ret (.inl false)) fun c5 =>
    .go (ih (w64 (v2 + 1)))) fun c1 =>
   .ret (.inr v2))
def XU (n : Nat) (a0 : (List UInt8)) : Option Bool :=
 (ql a0 (a0.length : Int) n 0).bind fun o1 =>
 match o1 with
 | .inl o1_0 =>
  some o1_0
 | .inr (o1_1) =>
  (yD (a0.length : Int) 1 8).bind fun r2 =>
  some r2
theorem Lf (n : Nat) : Ke (XU n) := fun a0 => tc (
 .le za a0 <|
 .l2 (Rt a0 (a0.length : Int) n 0) (fun o1_0 =>
  .ret o1_0) fun o1_1 =>
 .le za a0 <|
 .cl (wd (a0.length : Int) 1 8) fun r2 =>
 .ret r2) (ze Tryz.func158)
theorem Tn {a : List UInt8} (ha : a.length <= 2 ^ 20) : ∀ (d i m : Nat), i + d = a.length → d < m → ∃ z, ql a (a.length : Int) m (i : Int) = some (if (a.drop i).all (inB 97 122) = true then .inr z else .inl false) := by
 intro d
 induction d with
 | zero =>
  intro i m hi hm
  obtain ⟨m, rfl, _⟩ := zh hm
  exact ⟨_, by rw [ql, if_neg (by omega), List.drop_eq_nil_of_le (by omega)]; rfl⟩
 | succ d ih =>
  intro i m hi hm
  obtain ⟨m, rfl, hm'⟩ := zh hm
  have hil : i < a.length := by omega
  rw [ql, if_pos (by omega), zf, Option.bind_some, zk hil, Option.bind_some, zC (by omega), xI hil, List.all_cons]
  by_cases h1 : ((a[i].toNat : Nat) : Int) < 97
  ·exact ⟨0, by rw [if_pos h1, if_neg]; simp [inB]; omega⟩
  ·rw [if_neg h1]
   by_cases h2 : (122 : Int) < ((a[i].toNat : Nat) : Int)
   ·exact ⟨0, by rw [if_pos h2, if_neg]; simp [inB]; omega⟩
   ·rw [if_neg h2, show inB 97 122 a[i] = true by simp [inB]; omega, Bool.true_and]
    exact ih (i + 1) m (by omega) (by omega)
theorem X7 (a b c : Int) : yD a b c = some (decide (b <= a ∧ a <= c)) := by
 unfold yD
 by_cases h : b <= a
 ·rw [if_pos h]; simp [h]
 ·rw [if_neg h]; simp [h]
def wT (a0 : (List UInt8)) : Option Bool := if a0.length <= 2 ^ 20 then some (jK a0) else none
theorem To (a0 : (List UInt8)) (r : Bool) (h : wT a0 = some r) : ∃ n, XU n a0 = some r := by
 unfold wT at h
 obtain ⟨ha, h⟩ := zR h
 refine ⟨a0.length + 1, ?_⟩
 obtain ⟨z, hz⟩ := Tn ha a0.length 0 (a0.length + 1) (by omega) (by omega)
 rw [show ((0 : Nat) : Int) = 0 from rfl, List.drop_zero] at hz
 unfold XU
 rw [<- h, hz]
 unfold jK
 have hd : decide (1 <= a0.length ∧ a0.length <= 8) = decide ((1 : Int) <= (a0.length : Int) ∧ (a0.length : Int) <= 8) := decide_eq_decide.2 (by omega)
 rw [hd]
 cases a0.all (inB 97 122)
 ·rw [Bool.and_false]; rfl
 ·rw [Bool.and_true]
  simp only [if_true, Option.bind_some, X7]
theorem Xq : Ke wT := fun a0 r h => (To a0 r h).elim fun n hn => Lf n a0 r hn
def jZ (a0 : (List UInt8)) (a1 : (List UInt8)) : Option Bool :=
 if (a1.length : Int) <= (a0.length : Int) then
  (zw (w64 ((a0.length : Int) - (a1.length : Int)))).bind fun i2 =>
  (wY a0 (some i2) none).bind fun s3 =>
  (xo s3 a1).bind fun r4 =>
  some r4
 else
 some false
theorem Vm (a0 : (List UInt8)) (a1 : (List UInt8)) : Oc (jZ a0 a1) 197 [] [vq za a0, vq za a1] fun r => (vb r, []) := tc (
 .le za a0 <|
 .le za a1 <|
 .gI (a1.length : Int) (a0.length : Int) (fun c1 =>
  .le za a0 <|
  .le za a1 <|
  .na (w64 ((a0.length : Int) - (a1.length : Int))) fun i2 =>
  .ct za a0 (some i2) none fun s3 =>
  .un zn a0 <|
  .cl (jb s3 a1) fun r4 =>
  .ret r4) fun c1 =>
 .ret false) (ze Tryz.func197)
def qQ (a0 : (List UInt8)) (a1 : (List UInt8)) : Option ((List UInt8) × Bool) :=
 (jZ a0 a1).bind fun r1 =>
 match r1 with
 | true =>
  (zw (w64 ((a0.length : Int) - (a1.length : Int)))).bind fun i2 =>
  (wY a0 none (some i2)).bind fun s3 =>
  some (s3, true)
 | false =>
  some (a0, false)
theorem XF (a0 : (List UInt8)) (a1 : (List UInt8)) : Oc (qQ a0 a1) 171 [] [vq za a0, vq za a1] fun r => (.tup [(false, [cq za r.1]), (false, [.bool r.2])], []) := tc (
 .cl (Vm a0 a1) fun r1 =>
 .vN 0 r1 (
  .le za a0 <|
  .le za a1 <|
  .na (w64 ((a0.length : Int) - (a1.length : Int))) fun i2 =>
  .ct za a0 none (some i2) fun s3 =>
  .un zn a0 <|
  .ret (s3, true)) <|
 .ret (a0, false)) (ze Tryz.func171)
def ZG (a0 : (List UInt8)) (a1 : (List UInt8)) : Option Bool :=
 if (a1.length : Int) <= (a0.length : Int) then
  (zw (a1.length : Int)).bind fun i2 =>
  (wY a0 none (some i2)).bind fun s3 =>
  (xo s3 a1).bind fun r4 =>
  some r4
 else
 some false
theorem Vn (a0 : (List UInt8)) (a1 : (List UInt8)) : Oc (ZG a0 a1) 198 [] [vq za a0, vq za a1] fun r => (vb r, []) := tc (
 .le za a0 <|
 .le za a1 <|
 .gI (a1.length : Int) (a0.length : Int) (fun c1 =>
  .le za a1 <|
  .na (a1.length : Int) fun i2 =>
  .ct za a0 none (some i2) fun s3 =>
  .un zn a0 <|
  .cl (jb s3 a1) fun r4 =>
  .ret r4) fun c1 =>
 .ret false) (ze Tryz.func198)
def ka (a0 : (List UInt8)) (a1 : (List UInt8)) : Option ((List UInt8) × Bool) :=
 (ZG a0 a1).bind fun r1 =>
 match r1 with
 | true =>
  (zw (a1.length : Int)).bind fun i2 =>
  (wY a0 (some i2) none).bind fun s3 =>
  some (s3, true)
 | false =>
  some (a0, false)
theorem Vo (a0 : (List UInt8)) (a1 : (List UInt8)) : Oc (ka a0 a1) 172 [] [vq za a0, vq za a1] fun r => (.tup [(false, [cq za r.1]), (false, [.bool r.2])], []) := tc (
 .cl (Vn a0 a1) fun r1 =>
 .vN 0 r1 (
  .le za a1 <|
  .na (a1.length : Int) fun i2 =>
  .ct za a0 (some i2) none fun s3 =>
  .un zn a0 <|
  .ret (s3, true)) <|
 .ret (a0, false)) (ze Tryz.func172)
def jn (a0 : Int) : Option (List UInt8) :=
 if a0 < 10 then
  (zw a0).bind fun i2 =>
  (zw (w64 (a0 + 1))).bind fun i3 =>
  (wY [48, 49, 50, 51, 52, 53, 54, 55, 56, 57, 97, 98, 99, 100, 101, 102, 103, 104, 105, 106, 107, 108, 109, 110, 111, 112, 113, 114, 115, 116, 117, 118, 119, 120, 121, 122] (some i2) (some i3)).bind fun s4 =>
  some s4
 else
 (zw (w64 (a0 * 2))).bind fun i2 =>
 (zw (w64 ((w64 (a0 * 2)) + 2))).bind fun i3 =>
 (wY [48, 48, 48, 49, 48, 50, 48, 51, 48, 52, 48, 53, 48, 54, 48, 55, 48, 56, 48, 57, 49, 48, 49, 49, 49, 50, 49, 51, 49, 52, 49, 53, 49, 54, 49, 55, 49, 56, 49, 57, 50, 48, 50, 49, 50, 50, 50, 51, 50, 52, 50, 53, 50, 54, 50, 55, 50, 56, 50, 57, 51, 48, 51, 49, 51, 50, 51, 51, 51, 52, 51, 53, 51, 54, 51, 55, 51, 56, 51, 57, 52, 48, 52, 49, 52, 50, 52, 51, 52, 52, 52, 53, 52, 54, 52, 55, 52, 56, 52, 57, 53, 48, 53, 49, 53, 50, 53, 51, 53, 52, 53, 53, 53, 54, 53, 55, 53, 56, 53, 57, 54, 48, 54, 49, 54, 50, 54, 51, 54, 52, 54, 53, 54, 54, 54, 55, 54, 56, 54, 57, 55, 48, 55, 49, 55, 50, 55, 51, 55, 52, 55, 53, 55, 54, 55, 55, 55, 56, 55, 57, 56, 48, 56, 49, 56, 50, 56, 51, 56, 52, 56, 53, 56, 54, 56, 55, 56, 56, 56, 57, 57, 48, 57, 49, 57, 50, 57, 51, 57, 52, 57, 53, 57, 54, 57, 55, 57, 56, 57, 57] (some i2) (some i3)).bind fun s4 =>
 some s4
theorem Wt (a0 : Int) : Oc (jn a0) 232 [] [vi a0] fun r => (vs r, []) := tc (
 .lI a0 10 (fun c1 =>
  .na a0 fun i2 =>
  .na (w64 (a0 + 1)) fun i3 =>
  .cs [48, 49, 50, 51, 52, 53, 54, 55, 56, 57, 97, 98, 99, 100, 101, 102, 103, 104, 105, 106, 107, 108, 109, 110, 111, 112, 113, 114, 115, 116, 117, 118, 119, 120, 121, 122] (some i2) (some i3) fun s4 =>
  .ret s4) fun c1 =>
 .na (w64 (a0 * 2)) fun i2 =>
 .na (w64 ((w64 (a0 * 2)) + 2)) fun i3 =>
 .cs [48, 48, 48, 49, 48, 50, 48, 51, 48, 52, 48, 53, 48, 54, 48, 55, 48, 56, 48, 57, 49, 48, 49, 49, 49, 50, 49, 51, 49, 52, 49, 53, 49, 54, 49, 55, 49, 56, 49, 57, 50, 48, 50, 49, 50, 50, 50, 51, 50, 52, 50, 53, 50, 54, 50, 55, 50, 56, 50, 57, 51, 48, 51, 49, 51, 50, 51, 51, 51, 52, 51, 53, 51, 54, 51, 55, 51, 56, 51, 57, 52, 48, 52, 49, 52, 50, 52, 51, 52, 52, 52, 53, 52, 54, 52, 55, 52, 56, 52, 57, 53, 48, 53, 49, 53, 50, 53, 51, 53, 52, 53, 53, 53, 54, 53, 55, 53, 56, 53, 57, 54, 48, 54, 49, 54, 50, 54, 51, 54, 52, 54, 53, 54, 54, 54, 55, 54, 56, 54, 57, 55, 48, 55, 49, 55, 50, 55, 51, 55, 52, 55, 53, 55, 54, 55, 55, 55, 56, 55, 57, 56, 48, 56, 49, 56, 50, 56, 51, 56, 52, 56, 53, 56, 54, 56, 55, 56, 56, 56, 57, 57, 48, 57, 49, 57, 50, 57, 51, 57, 52, 57, 53, 57, 54, 57, 55, 57, 56, 57, 57] (some i2) (some i3) fun s4 =>
 .ret s4) (ze Tryz.func232)
def jW (a0 : (List UInt8)) (a1 : Int) (a2 : Int) (a3 : Bool) (a4 : Bool) : Option ((List UInt8) × (List UInt8)) :=
 none
theorem YN (a0 : (List UInt8)) (a1 : Int) (a2 : Int) (a3 : Bool) (a4 : Bool) : Oc (jW a0 a1 a2 a3 a4) 235 [] [vq za a0, .val false [.int .u64 a1], vi a2, vb a3, vb a4] fun r => (.tup [(false, [.own 1 (eL za r.1)]), (false, [.str r.2])], []) := tc (
 .no) (ze Tryz.func235)
def qm (a0 : Int) (a1 : Int) : Option (List UInt8) :=
 if a1 = 10 then
  if 0 <= a0 then
   if a0 < 100 then
    (jn a0).bind fun r4 =>
    some r4
   else
   none
  else
  none
 else
 (jW [] (IntKind.u64.wrap a0) a1 (decide (a0 < 0)) false).bind fun ⟨r2_0, r2_1⟩ =>
 some r2_1
theorem YZ (a0 : Int) (a1 : Int) : Oc (qm a0 a1) 221 [] [vi a0, vi a1] fun r => (vs r, []) := tc (
 .eI a1 10 (fun c1 =>
  .gI 0 a0 (fun c2 =>
   .lI a0 100 (fun c3 =>
    .cl (Wt a0) fun r4 =>
    .ret r4) fun c3 =>
   .no) fun c2 =>
  .no) fun c1 =>
 .lD a0 0 <|
 .cl (YN [] (IntKind.u64.wrap a0) a1 (decide (a0 < 0)) false) fun ⟨r2_0, r2_1⟩ =>
 .ret r2_1) (ze Tryz.func221)
def jy (a0 : Int) : Option (List UInt8) :=
 (qm a0 10).bind fun r1 =>
 some r1
theorem WL (a0 : Int) : Oc (jy a0) 201 [] [vi a0] fun r => (vs r, []) := tc (
 .cl (YZ a0 10) fun r1 =>
 .ret r1) (ze Tryz.func201)
def kw (a0 : Int) : Option (List UInt8) :=
 (jy a0).bind fun r1 =>
 some r1
theorem U8 (a0 : Int) : Oc (kw a0) 174 [] [vi a0] fun r => (vs r, []) := tc (
 .cl (WL a0) fun r1 =>
 .ret r1) (ze Tryz.func174)
def xp (a0 : (List UInt8)) : Option Bool :=
 (X6 a0 [(91 : UInt8)]).bind fun ⟨r1_0, r1_1, r1_2⟩ =>
 (wT r1_0).bind fun r2 =>
 match r2 with
 | true =>
  match r1_2 with
  | true =>
   (qQ r1_1 [(93 : UInt8)]).bind fun ⟨r3_0, r3_1⟩ =>
   (ka r3_0 [(34 : UInt8)]).bind fun ⟨r4_0, r4_1⟩ =>
   (qQ r4_0 [(34 : UInt8)]).bind fun ⟨r5_0, r5_1⟩ =>
   match r4_1 with
   | true =>
    match r3_1 with
    | true =>
     match r5_1 with
     | true =>
      (wT r5_0).bind fun r6 =>
      some r6
     | false =>
      some false
    | false =>
     some false
   | false =>
    match r5_1 with
    | true =>
     match r3_1 with
     | true =>
      some false
     | false =>
      some false
    | false =>
     (je r3_0).bind fun ⟨r6_0, r6_1⟩ =>
     match r6_1 with
     | true =>
      match r3_1 with
      | true =>
       some false
      | false =>
       some false
     | false =>
      match r3_1 with
      | true =>
       (yD r6_0 0 99).bind fun r7 =>
       match r7 with
       | true =>
        (kw r6_0).bind fun r8 =>
        some (decide (r8 = r3_0))
       | false =>
        some false
      | false =>
       some false
  | false =>
   some true
 | false =>
  some false
theorem qn (a0 : (List UInt8)) : Oc (xp a0) 133 [] [vq za a0] fun r => (vb r, []) := tc (
 .le za [(91 : UInt8)] <|
 .q (.lTo 0 (([(91 : UInt8)].length : Nat) : Int) (by decide)) <|
 .vw zn [(91 : UInt8)] <|
 .cl (MB a0 [(91 : UInt8)]) fun ⟨r1_0, r1_1, r1_2⟩ =>
 .cl (Xq r1_0) fun r2 =>
 .vN 0 r2 (
  .vN 0 r1_2 (
   .le za [(93 : UInt8)] <|
   .q (.lTo 0 (([(93 : UInt8)].length : Nat) : Int) (by decide)) <|
   .vw zn [(93 : UInt8)] <|
   .cl (XF r1_1 [(93 : UInt8)]) fun ⟨r3_0, r3_1⟩ =>
   .le za [(34 : UInt8)] <|
   .q (.lTo 0 (([(34 : UInt8)].length : Nat) : Int) (by decide)) <|
   .vw zn [(34 : UInt8)] <|
   .cl (Vo r3_0 [(34 : UInt8)]) fun ⟨r4_0, r4_1⟩ =>
   .le za [(34 : UInt8)] <|
   .q (.lTo 0 (([(34 : UInt8)].length : Nat) : Int) (by decide)) <|
   .vw zn [(34 : UInt8)] <|
   .cl (XF r4_0 [(34 : UInt8)]) fun ⟨r5_0, r5_1⟩ =>
   .vM 0 r4_1 (
    .az 0 0 <|
    .vM 1 r3_1 (
     .az 0 0 <|
     .az 0 1 <|
     .az 0 1 <|
     .vM 0 r5_1 (
      .az 0 0 <|
      .cl (Xq r5_0) fun r6 =>
      .az 0 1 <|
      .ret r6) <|
     .az 0 0 <|
     .az 0 0 <|
     .ret false) <|
    .az 0 0 <|
    .ret false) <|
   .az 0 0 <|
   .vM 0 r5_1 (
    .vM 0 r3_1 (
     .az 0 0 <|
     .az 0 2 <|
     .az 0 2 <|
     .ret false) <|
    .az 0 0 <|
    .ret false) <|
   .bt r3_0 <|
   .ae (UY r3_0) (fun r6_0 =>
    .vM 0 r3_1 (
     .az 0 0 <|
     .az 0 0 <|
     .ret false) <|
    .az 0 0 <|
    .az 0 0 <|
    .ret false) fun r6_0 =>
   .vM 0 r3_1 (
    .az 0 0 <|
    .az 0 0 <|
    .cl (wd r6_0 0 99) fun r7 =>
    .vM 1 r7 (
     .az 0 0 <|
     .cl (U8 r6_0) fun r8 =>
     .az 0 1 <|
     .az 0 1 <|
     .bt r3_0 <|
     .az 0 1 <|
     .sD r8 r3_0 <|
     .az 0 1 <|
     .ret (decide (r8 = r3_0))) <|
    .az 0 0 <|
    .az 0 0 <|
    .az 0 0 <|
    .az 0 0 <|
    .az 0 0 <|
    .ret false) <|
   .az 0 0 <|
   .az 0 0 <|
   .ret false) <|
  .ret true) <|
 .ret false) (ze Tryz.func133)
def xM (a0 : (List UInt8)) (a1 : (List UInt8)) : Option Int :=
 (wg a0 a1).bind fun r1 =>
 some r1
theorem kV (a0 : (List UInt8)) (a1 : (List UInt8)) : Oc (xM a0 a1) 121 [] [vq za a0, vq za a1] fun r => (vi r, []) := tc (
 .cl (XH a0 a1) fun r1 =>
 .ret r1) (ze Tryz.func121)
def Kf (F : (List UInt8) → Option Bool) : Prop := ∀ (a0 : (List UInt8)), Oc (F a0) 236 [] [vq za a0] fun r => (vb r, [])
def qp (a0 : (List UInt8)) (v1 : Int) : Nat → Int → Option (Bool ⊕ Int)
  | 0, _ => none
  | m + 1, v2 =>
  if v2 < v1 then
   (zw v2).bind fun i2 =>
   (a0[i2]?).bind fun x3 =>
   if ((x3.toNat : Nat) : Int) < 32 then
    some (.inl false)
   else
   if 126 < ((x3.toNat : Nat) : Int) then
    some (.inl false)
   else
   qp a0 v1 m (w64 (v2 + 1))
  else
  some (.inr v2)
theorem Ru (a0 : (List UInt8)) (v1 : Int) (m : Nat) : ∀ (v2 : Int), Ol (qp a0 v1 m v2) 236 (zG Tryz.f236 0) ⟨[(0, vq za a0), (5, vq za a0), (6, vi v1), (7, vi v2)], [], 0⟩ fun o => match o with | .inl o_0 => (.ret, ⟨[(2, vb o_0)], [], 0⟩) | .inr (o_1) => (.exit 0, ⟨[(0, vq za a0), (5, vq za a0), (6, vi v1), (7, vi o_1), (8, vb false)], [], 0⟩) := by
  induction m with
  | zero => intro v2 o h; cases h
  | succ m ih => exact fun v2 => tlp (
   .lI v2 v1 (fun c1 =>
    .na v2 fun i2 =>
    .ix0 za a0 i2 fun x3 =>
    .lI ((x3.toNat : Nat) : Int) 32 (fun c4 =>
     .ret (.inl false)) fun c4 =>
    .lI 126 ((x3.toNat : Nat) : Int) (fun c5 =>
     .ret (.inl false)) fun c5 =>
    .go (ih (w64 (v2 + 1)))) fun c1 =>
   .ret (.inr v2))
def XV (n : Nat) (a0 : (List UInt8)) : Option Bool :=
 (qp a0 (a0.length : Int) n 0).bind fun o1 =>
 match o1 with
 | .inl o1_0 =>
  some o1_0
 | .inr (o1_1) =>
  some (decide ((a0.length : Int) <= 20))
theorem Lg (n : Nat) : Kf (XV n) := fun a0 => tc (
 .le za a0 <|
 .l2 (Ru a0 (a0.length : Int) n 0) (fun o1_0 =>
  .ret o1_0) fun o1_1 =>
 .le za a0 <|
 .gD (a0.length : Int) 20 <|
 .ret (decide ((a0.length : Int) <= 20))) (ze Tryz.func236)
theorem Tp {a : List UInt8} (ha : a.length <= 2 ^ 20) : ∀ (d i m : Nat), i + d = a.length → d < m → ∃ z, qp a (a.length : Int) m (i : Int) = some (if (a.drop i).all (inB 32 126) = true then .inr z else .inl false) := by
 intro d
 induction d with
 | zero =>
  intro i m hi hm
  obtain ⟨m, rfl, _⟩ := zh hm
  exact ⟨_, by rw [qp, if_neg (by omega), List.drop_eq_nil_of_le (by omega)]; rfl⟩
 | succ d ih =>
  intro i m hi hm
  obtain ⟨m, rfl, hm'⟩ := zh hm
  have hil : i < a.length := by omega
  rw [qp, if_pos (by omega), zf, Option.bind_some, zk hil, Option.bind_some, zC (by omega), xI hil, List.all_cons]
  by_cases h1 : ((a[i].toNat : Nat) : Int) < 32
  ·exact ⟨0, by rw [if_pos h1, if_neg]; simp [inB]; omega⟩
  ·rw [if_neg h1]
   by_cases h2 : (126 : Int) < ((a[i].toNat : Nat) : Int)
   ·exact ⟨0, by rw [if_pos h2, if_neg]; simp [inB]; omega⟩
   ·rw [if_neg h2, show inB 32 126 a[i] = true by simp [inB]; omega, Bool.true_and]
    exact ih (i + 1) m (by omega) (by omega)
def vk (a0 : (List UInt8)) : Option Bool := if a0.length <= 2 ^ 20 then some (YY a0) else none
theorem Tq (a0 : (List UInt8)) (r : Bool) (h : vk a0 = some r) : ∃ n, XV n a0 = some r := by
 unfold vk at h
 obtain ⟨ha, h⟩ := zR h
 refine ⟨a0.length + 1, ?_⟩
 obtain ⟨z, hz⟩ := Tp ha a0.length 0 (a0.length + 1) (by omega) (by omega)
 rw [show ((0 : Nat) : Int) = 0 from rfl, List.drop_zero] at hz
 unfold XV
 rw [<- h, hz]
 unfold YY
 by_cases hl : a0.length <= 20
 ·rw [decide_eq_true hl]
  cases a0.all (inB 32 126)
  ·rfl
  ·show some (decide _) = _; rw [decide_eq_true (by omega)]; rfl
 ·rw [decide_eq_false hl]
  cases a0.all (inB 32 126)
  ·rfl
  ·show some (decide _) = _; rw [decide_eq_false (by omega)]; rfl
theorem PO : Kf vk := fun a0 r h => (Tq a0 r h).elim fun n hn => Lg n a0 r hn
end
end Go.Am.Try
