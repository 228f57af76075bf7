/- The functions of the program in plain Lean, and that the machine answers as they do; conditions at each theorem. -/
import Derived.Test.YtjmhaigcaidloaaGreatDoorFG1
set_option linter.unusedVariables false
set_option linter.unusedSimpArgs false
namespace Go.Am.Try
open Go.Am Go.Proofs
set_option linter.unusedVariables false
set_option maxRecDepth 20000
set_option maxHeartbeats 2000000
noncomputable section
def Wb (F : GState → Option Bool) : Prop := ∀ (a0 : GState), Oc (F a0) 70 [] [.val true (zw a0)] fun r => (vb r, [])
def yi (a0 : GState) : Nat → Int → Option (Bool ⊕ Int)
  | 0, _ => none
  | m + 1, v0 =>
  if v0 < (a0.Entries.length : Int) then
   (zy v0).bind fun i2 =>
   (a0.Entries[i2]?).bind fun x3 =>
   (jJ x3.Addr).bind fun r4 =>
   match r4 with
   | true =>
    (Ze x3.Val).bind fun r5 =>
    match r5 with
    | true =>
     (jo x3.Deps).bind fun r6 =>
     match r6 with
     | true =>
      if x3.Turned < 1 then
       some (.inl false)
      else
      if a0.Serial < x3.Turned then
       some (.inl false)
      else
      if 0 < v0 then
       (zy (w64 (v0 - 1))).bind fun i10 =>
       (a0.Entries[i10]?).bind fun x11 =>
       if Op.bytesLess x11.Addr x3.Addr = true then
        yi a0 m (w64 (v0 + 1))
       else
       some (.inl false)
      else
      yi a0 m (w64 (v0 + 1))
     | false =>
      some (.inl false)
    | false =>
     some (.inl false)
   | false =>
    some (.inl false)
  else
  some (.inr v0)
theorem k7 (a0 : GState) (m : Nat) : ∀ (v0 : Int), Ol (yi a0 m v0) 70 (zL Tryz.f70 0) ⟨[(1, vp 0 0), (4, vi v0)], [.var (zw a0)], 0⟩ fun o => match o with | .inl o_0 => (.ret, ⟨[(2, vb o_0)], [], 0⟩) | .inr (o_1) => (.exit 0, ⟨[(1, vp 0 0), (4, vi o_1), (71, vb false)], [.var (zw a0)], 0⟩) := by
  induction m with
  | zero => intro v0 o h; cases h
  | succ m ih => exact fun v0 => tlp (
   .le zr a0.Entries <|
   .lI v0 (a0.Entries.length : Int) (fun c1 =>
    .na v0 fun i2 =>
    .ix zS a0.Entries i2 fun x3 =>
    .cl (Z2 x3.Addr) fun r4 =>
    .vN 0 r4 (
     .an 0 0 <|
     .an 0 0 <|
     .cl (Ug x3.Val) fun r5 =>
     .an 0 1 <|
     .an 0 1 <|
     .vN 0 r5 (
      .an 0 0 <|
      .an 0 0 <|
      .cl (VH x3.Deps) fun r6 =>
      .an 0 1 <|
      .an 0 1 <|
      .vN 0 r6 (
       .an 0 0 <|
       .an 0 0 <|
       .lI x3.Turned 1 (fun c7 =>
        .an 0 0 <|
        .ret (.inl false)) fun c7 =>
       .an 0 0 <|
       .lI a0.Serial x3.Turned (fun c8 =>
        .ret (.inl false)) fun c8 =>
       .lI 0 v0 (fun c9 =>
        .na (w64 (v0 - 1)) fun i10 =>
        .ix zS a0.Entries i10 fun x11 =>
        .bt x11.Addr <|
        .bt x3.Addr <|
        .bI x11.Addr x3.Addr (fun c12 =>
         .go (ih (w64 (v0 + 1)))) fun c12 =>
        .ret (.inl false)) fun c9 =>
       .go (ih (w64 (v0 + 1)))) <|
      .an 0 0 <|
      .an 0 0 <|
      .an 0 0 <|
      .ret (.inl false)) <|
     .an 0 0 <|
     .an 0 0 <|
     .an 0 0 <|
     .an 0 0 <|
     .ret (.inl false)) <|
    .an 0 0 <|
    .an 0 0 <|
    .an 0 0 <|
    .an 0 0 <|
    .ret (.inl false)) fun c1 =>
   .ret (.inr v0))
def kS (n : Nat) (a0 : GState) : Option Bool :=
 if a0.Serial < 0 then
  some false
 else
 if 1000000 < a0.Serial then
  some false
 else
 if 16 < (a0.Entries.length : Int) then
  some false
 else
 if 0 < (a0.Pending.length : Int) then
  match a0.Open with
  | true =>
   (jJ a0.Pending).bind fun r5 =>
   match r5 with
   | true =>
    if a0.Act < 1 then
     some false
    else
    if 4 < a0.Act then
     some false
    else
    (yy a0 a0.Pending).bind fun r8 =>
    if a0.Act = 1 then
     if 0 <= r8 then
      some false
     else
     (yi a0 n 0).bind fun o11 =>
     match o11 with
     | .inl o11_0 =>
      some o11_0
     | .inr (o11_1) =>
      some true
    else
    if 0 <= r8 then
     (yi a0 n 0).bind fun o11 =>
     match o11 with
     | .inl o11_0 =>
      some o11_0
     | .inr (o11_1) =>
      some true
    else
    some false
   | false =>
    some false
  | false =>
   some false
 else
 if a0.Act = 0 then
  (yi a0 n 0).bind fun o6 =>
  match o6 with
  | .inl o6_0 =>
   some o6_0
  | .inr (o6_1) =>
   some true
 else
 some false
theorem RX (n : Nat) : Wb (kS n) := fun a0 => tc (
 .lI a0.Serial 0 (fun c1 =>
  .ret false) fun c1 =>
 .lI 1000000 a0.Serial (fun c2 =>
  .ret false) fun c2 =>
 .le zr a0.Entries <|
 .lI 16 (a0.Entries.length : Int) (fun c3 =>
  .ret false) fun c3 =>
 .le za a0.Pending <|
 .lI 0 (a0.Pending.length : Int) (fun c4 =>
  .vN 4 a0.Open (
   .an 0 0 <|
   .an 0 0 <|
   .cl (Z2 a0.Pending) fun r5 =>
   .an 0 1 <|
   .an 1 1 <|
   .vN 1 r5 (
    .an 0 0 <|
    .an 0 0 <|
    .lI a0.Act 1 (fun c6 =>
     .an 1 0 <|
     .ret false) fun c6 =>
    .an 1 0 <|
    .lI 4 a0.Act (fun c7 =>
     .ret false) fun c7 =>
    .eD a0.Act 1 <|
    .cl (jk a0 a0.Pending) fun r8 =>
    .gD 0 r8 <|
    .sp (a0.Act = 1) (fun c9 =>
     .sp (0 <= r8) (fun c10 =>
      .eb (dT c9) (dT c10) <|
      .ret false) fun c10 =>
     .eb (dT c9) (dF c10) <|
     .l2 (k7 a0 n 0) (fun o11_0 =>
      .ret o11_0) fun o11_1 =>
     .ret true) fun c9 =>
    .sp (0 <= r8) (fun c10 =>
     .eb (dF c9) (dT c10) <|
     .l2 (k7 a0 n 0) (fun o11_0 =>
      .ret o11_0) fun o11_1 =>
     .ret true) fun c10 =>
    .eb (dF c9) (dF c10) <|
    .ret false) <|
   .an 0 0 <|
   .an 0 0 <|
   .an 1 0 <|
   .ret false) <|
  .an 0 0 <|
  .an 0 0 <|
  .an 0 0 <|
  .an 1 0 <|
  .ret false) fun c4 =>
 .eI a0.Act 0 (fun c5 =>
  .l2 (k7 a0 n 0) (fun o6_0 =>
   .ret o6_0) fun o6_1 =>
  .ret true) fun c5 =>
 .ret false) (zj Tryz.func70)
theorem DZ {v : GValue} (h : vsz v <= 2 ^ 20) : jl v = some (Zp v) := by
 unfold jl jR
 rw [if_pos ⟨h, by decide, by decide, by decide⟩, Option.bind_some]
 congr 1
 unfold okV Zp
 rw [show (6 - (1 : Int)).toNat = 5 from rfl]
 by_cases hc : shV 5 v = true ∧ (ptV v : Int) <= 40
 ·rw [if_pos hc, decide_eq_true hc]; exact decide_eq_true (by omega)
 ·rw [if_neg hc, decide_eq_false hc]; rfl
theorem MZ {v : GValue} (h : vsz v <= 2 ^ 20) : Ze v = some (ZO v) := by
 unfold Ze ZO
 by_cases h5 : v.Kind = 5
 ·rw [if_pos h5, DZ h, Option.bind_some, decide_eq_true h5, Bool.true_and]
  cases hv : Zp v with
  | false => rfl
  | true =>
   simp only [Bool.true_and]
   unfold jn
   rw [if_pos (by omega)]; rfl
 ·rw [if_neg h5, decide_eq_false h5]; rfl
theorem LK {l : List (List UInt8)} (h : bsz l <= 2 ^ 20) : jo l = some (kD l) := if_pos h
theorem P8 {s : GState} (hs : xT s.Entries <= 2 ^ 20) : ∀ (d i m : Nat), i + d = s.Entries.length → d < m → ∃ z, yi s m (i : Int) = some (if q8 (Yr s.Serial) GEntry.Addr s.Entries i d = true then .inr z else .inl false) := by
 have hlen := qx s.Entries
 intro d
 induction d with
 | zero =>
  intro i m hi hm
  obtain ⟨m, rfl, _⟩ := zf hm
  exact ⟨_, by rw [yi, if_neg (by omega)]; rfl⟩
 | succ d ih =>
  intro i m hi hm
  obtain ⟨m, rfl, hm'⟩ := zf hm
  have hil : i < s.Entries.length := by omega
  have hz0 := ZE (List.getElem_mem hil)
  obtain ⟨z, hz⟩ := ih (i + 1) m (by omega) (by omega)
  rw [yi, if_pos (by omega), zc, Option.bind_some, zg hil, Option.bind_some, XL]
  unfold esz at hz0
  rw [QZ (by omega), Option.bind_some, MZ (by omega), Option.bind_some, LK (by omega), Option.bind_some, zC (by omega), hz]
  generalize q8 _ GEntry.Addr s.Entries (i + 1) d = g
  have hT : decide (1 <= s.Entries[i].Turned ∧ s.Entries[i].Turned <= s.Serial) = (!(decide (s.Entries[i].Turned < 1)) && !(decide (s.Serial < s.Entries[i].Turned))) := by
   by_cases a : s.Entries[i].Turned < 1 <;> by_cases b : s.Serial < s.Entries[i].Turned <;> simp [a, b] <;> omega
  refine ⟨z, ?_⟩
  by_cases h0 : 0 < i
  ·rw [J1 hil h0]
   unfold Yr
   rw [hT]
   rw [if_pos (show (0 : Int) < ((i : Nat) : Int) by omega), qS (by omega) h0, zc, Option.bind_some, zg (show i - 1 < s.Entries.length by omega), Option.bind_some]
   generalize Op.bytesLess s.Entries[i - 1].Addr s.Entries[i].Addr = b
   by_cases a1 : s.Entries[i].Turned < 1 <;> by_cases a2 : s.Serial < s.Entries[i].Turned <;> cases b <;> cases yA s.Entries[i].Addr <;> cases ZO s.Entries[i].Val <;> cases kD s.Entries[i].Deps <;> simp [a1, a2]
  ·obtain rfl : i = 0 := by omega
   rw [WZ hil]
   unfold Yr
   rw [hT]
   rw [if_neg (show ¬ (0 : Int) < ((0 : Nat) : Int) by omega)]
   by_cases a1 : s.Entries[0].Turned < 1 <;> by_cases a2 : s.Serial < s.Entries[0].Turned <;> cases yA s.Entries[0].Addr <;> cases ZO s.Entries[0].Val <;> cases kD s.Entries[0].Deps <;> simp [a1, a2]
def qh (a0 : GState) : Option Bool := if ssz a0 <= 2 ^ 20 then some (stB a0) else none
theorem TE {s : GState} (h : ssz s <= 2 ^ 20) : qh s = some (stB s) := if_pos h
theorem O2 {s : GState} (h : ssz s <= 2 ^ 20) : kS (s.Entries.length + 1) s = some (stB s) := by
 have hlen := qx s.Entries
 unfold ssz at h
 obtain ⟨z, hz⟩ := P8 (s := s) (by omega) s.Entries.length 0 (s.Entries.length + 1) (by omega) (by omega)
 rw [show ((0 : Nat) : Int) = 0 from rfl] at hz
 have hf : ((yi s (s.Entries.length + 1) 0).bind fun o4 => match o4 with | .inl o => some o | .inr _ => some true) = some (Ri s) := by
  rw [hz, show Ri s = q8 (Yr s.Serial) GEntry.Addr s.Entries 0 s.Entries.length from rfl]
  cases q8 (Yr s.Serial) GEntry.Addr s.Entries 0 s.Entries.length <;> rfl
 unfold kS
 unfold stB
 by_cases h1 : s.Serial < 0
 ·rw [if_pos h1, decide_eq_false (p := 0 <= s.Serial ∧ s.Serial <= 1000000 ∧ s.Entries.length <= 16) (by omega)]; rfl
 rw [if_neg h1]
 by_cases h2 : 1000000 < s.Serial
 ·rw [if_pos h2, decide_eq_false (p := 0 <= s.Serial ∧ s.Serial <= 1000000 ∧ s.Entries.length <= 16) (by omega)]; rfl
 rw [if_neg h2]
 by_cases h3 : (16 : Int) < (s.Entries.length : Int)
 ·rw [if_pos h3, decide_eq_false (p := 0 <= s.Serial ∧ s.Serial <= 1000000 ∧ s.Entries.length <= 16) (by omega)]; rfl
 rw [if_neg h3, decide_eq_true (p := 0 <= s.Serial ∧ s.Serial <= 1000000 ∧ s.Entries.length <= 16) (by omega), Bool.true_and]
 unfold LW
 by_cases hp : s.Pending = []
 ·rw [if_neg (by rw [hp]; simp), if_pos hp]
  by_cases ha : s.Act = 0
  ·rw [if_pos ha, decide_eq_true ha, Bool.and_true]
   exact hf
  ·rw [if_neg ha, decide_eq_false ha, Bool.and_false]
 ·have hp0 : (0 : Int) < (s.Pending.length : Int) := by
   have : s.Pending.length ≠ 0 := fun e => hp (List.eq_nil_of_length_eq_zero e)
   omega
  rw [if_pos hp0, if_neg hp]
  cases ho : s.Open with
  | false => simp
  | true =>
   dsimp only
   rw [QZ (by omega), Option.bind_some]
   cases yA s.Pending with
   | false => simp
   | true =>
    dsimp only
    by_cases a1 : s.Act < 1
    ·rw [if_pos a1, decide_eq_false (p := 1 <= s.Act ∧ s.Act <= 4) (by omega)]; simp
    rw [if_neg a1]
    by_cases a2 : 4 < s.Act
    ·rw [if_pos a2, decide_eq_false (p := 1 <= s.Act ∧ s.Act <= 4) (by omega)]; simp
    rw [if_neg a2, decide_eq_true (p := 1 <= s.Act ∧ s.Act <= 4) (by omega)]
    unfold yy
    rw [if_pos (by omega), Option.bind_some]
    have hh := TC s.Entries s.Pending 0
    by_cases hA : s.Act = 1
    ·rw [if_pos hA, decide_eq_false (p := s.Act ≠ 1) (by omega)]
     cases hb : y5 s.Entries s.Pending with
     | true => rw [if_pos (hh.2 hb)]; simp
     | false => rw [if_neg (fun h => by rw [hh.1 h] at hb; cases hb)]; refine Eq.trans hf ?_; simp
    ·rw [if_neg hA, decide_eq_true (p := s.Act ≠ 1) hA]
     cases hb : y5 s.Entries s.Pending with
     | true => rw [if_pos (hh.2 hb)]; refine Eq.trans hf ?_; simp
     | false => rw [if_neg (fun h => by rw [hh.1 h] at hb; cases hb)]; simp
theorem JV (a0 : GState) (r : Bool) (h : qh a0 = some r) : ∃ n, kS n a0 = some r := by
 unfold qh at h
 obtain ⟨ha, h⟩ := zM h
 exact ⟨_, by rw [<- h]; exact O2 ha⟩
theorem XB : Wb qh := fun a0 r h => (JV a0 r h).elim fun n hn => RX n a0 r hn
def yk (a0 : (List UInt8)) (a1 : (List UInt8)) : Option Int :=
 if Op.bytesLess a0 a1 = true then
  some (-1)
 else
 if Op.bytesLess a1 a0 = true then
  some 1
 else
 some 0
theorem Zf (a0 : (List UInt8)) (a1 : (List UInt8)) : Oc (yk a0 a1) 155 [] [vq za a0, vq za a1] fun r => (vi r, []) := tc (
 .bt a0 <|
 .bt a1 <|
 .bI a0 a1 (fun c1 =>
  .ret (-1)) fun c1 =>
 .bt a0 <|
 .bt a1 <|
 .bI a1 a0 (fun c2 =>
  .ret 1) fun c2 =>
 .ret 0) (zj Tryz.func155)
def XC (F : (List (List UInt8)) → (List UInt8) → Option (List (List UInt8))) : Prop := ∀ (a0 : (List (List UInt8))) (a1 : (List UInt8)), Oc (F a0 a1) 116 [] [vq (zq za) a0, vq za a1] fun r => (vq (zq za) r, [])
def zY (a0 : (List (List UInt8))) (a1 : (List UInt8)) : Nat → Bool → Int → (List (List UInt8)) → Option (Bool × Int × (List (List UInt8)))
  | 0, _, _, _ => none
  | m + 1, v2, v3, v4 =>
  if v3 < (a0.length : Int) then
   (zy v3).bind fun i2 =>
   (a0[i2]?).bind fun x3 =>
   (yk a1 x3).bind fun r4 =>
   match v2 with
   | true =>
    if r4 = 0 then
     zY a0 a1 m v2 (w64 (v3 + 1)) v4
    else
    if wj 24 (v4.length + [x3].length) then
    zY a0 a1 m v2 (w64 (v3 + 1)) (v4 ++ [x3])
    else none
   | false =>
    if r4 <= 0 then
     if wj 24 (v4.length + [a1].length) then
     if r4 = 0 then
      zY a0 a1 m true (w64 (v3 + 1)) (v4 ++ [a1])
     else
     if wj 24 ((v4 ++ [a1]).length + [x3].length) then
     zY a0 a1 m true (w64 (v3 + 1)) ((v4 ++ [a1]) ++ [x3])
     else none
     else none
    else
    if r4 = 0 then
     zY a0 a1 m v2 (w64 (v3 + 1)) v4
    else
    if wj 24 (v4.length + [x3].length) then
    zY a0 a1 m v2 (w64 (v3 + 1)) (v4 ++ [x3])
    else none
  else
  some (v2, v3, v4)
theorem Qu (a0 : (List (List UInt8))) (a1 : (List UInt8)) (m : Nat) : ∀ (v2 : Bool) (v3 : Int) (v4 : (List (List UInt8))), Ol (zY a0 a1 m v2 v3 v4) 116 (zL Tryz.f116 0) ⟨[(0, vq (zq za) a0), (1, vq za a1), (5, vr 0), (6, vb v2), (7, vi v3)], [.obj 1 (eL (zq za) v4)], 0⟩ fun o => match o with | ⟨o_0, o_1, o_2⟩ => (.exit 0, ⟨[(0, vq (zq za) a0), (1, vq za a1), (5, vr 0), (6, vb o_0), (7, vi o_1), (12, vb false)], [.obj 1 (eL (zq za) o_2)], 0⟩) := by
  induction m with
  | zero => intro v2 v3 v4 o h; cases h
  | succ m ih => exact fun v2 v3 v4 => tlp (
   .le (zq za) a0 <|
   .lI v3 (a0.length : Int) (fun c1 =>
    .na v3 fun i2 =>
    .ix0 (zq za) a0 i2 fun x3 =>
    .cl (Zf a1 x3) fun r4 =>
    .vN 0 v2 (
     .an 0 0 <|
     .an 0 0 <|
     .eI r4 0 (fun c5 =>
      .go (ih v2 (w64 (v3 + 1)) v4)) fun c5 =>
     .ag 3 <|
     .ag 2 <|
     .pl (va za) [x3] <|
     .ap 24 (va za) v4 [x3] fun n6 =>
     .go (ih v2 (w64 (v3 + 1)) (v4 ++ [x3]))) <|
    .an 0 0 <|
    .gI r4 0 (fun c5 =>
     .an 0 0 <|
     .pl (va za) [a1] <|
     .ap 24 (va za) v4 [a1] fun n6 =>
     .eI r4 0 (fun c7 =>
      .go (ih true (w64 (v3 + 1)) (v4 ++ [a1]))) fun c7 =>
     .ag 3 <|
     .ag 2 <|
     .pl (va za) [x3] <|
     .ap 24 (va za) (v4 ++ [a1]) [x3] fun n8 =>
     .go (ih true (w64 (v3 + 1)) ((v4 ++ [a1]) ++ [x3]))) fun c5 =>
    .an 0 0 <|
    .eI r4 0 (fun c6 =>
     .go (ih v2 (w64 (v3 + 1)) v4)) fun c6 =>
    .ag 3 <|
    .ag 2 <|
    .pl (va za) [x3] <|
    .ap 24 (va za) v4 [x3] fun n7 =>
    .go (ih v2 (w64 (v3 + 1)) (v4 ++ [x3]))) fun c1 =>
   .ret (v2, v3, v4))
def Zg (n : Nat) (a0 : (List (List UInt8))) (a1 : (List UInt8)) : Option (List (List UInt8)) :=
 (zY a0 a1 n false 0 []).bind fun ⟨o1_0, o1_1, o1_2⟩ =>
 match o1_0 with
 | true =>
  some o1_2
 | false =>
  if wj 24 (o1_2.length + [a1].length) then
  some (o1_2 ++ [a1])
  else none
theorem VI (n : Nat) : XC (Zg n) := fun a0 a1 => tc (
 .lp (Qu a0 a1 n false 0 []) fun ⟨o1_0, o1_1, o1_2⟩ =>
 .vN 0 o1_0 (
  .vw (va za) o1_2 <|
  .ret o1_2) <|
 .pl (va za) [a1] <|
 .ap 24 (va za) o1_2 [a1] fun n2 =>
 .vw (va za) (o1_2 ++ [a1]) <|
 .ret (o1_2 ++ [a1])) (zj Tryz.func116)
theorem DJ : ∀ (a b : List UInt8), yk a b = some (Lib.compareBytes a b) := by
 intro a
 induction a with
 | nil => intro b; cases b <;> simp [yk, Op.bytesLess, Lib.compareBytes]
 | cons x a ih =>
  intro b
  cases b with
  | nil => simp [yk, Op.bytesLess, Lib.compareBytes]
  | cons y b =>
   have := ih b
   unfold yk at this ⊢
   simp only [Op.bytesLess, Lib.compareBytes]
   by_cases h1 : x < y
   ·simp [h1]
   ·by_cases h2 : y < x
    ·have h3 : ¬ x = y := fun e => by subst e; exact h1 h2
     have h4 : ¬ y = x := fun e => h3 e.symm
     simp [h1, h2, h3, h4]
    ·have h3 : x = y := UInt8.le_antisymm (UInt8.not_lt.1 h2) (UInt8.not_lt.1 h1)
     subst h3
     simpa [h1] using this
def qq (x : List UInt8) : Bool → List (List UInt8) → List (List UInt8)
 | true, [] => []
 | false, [] => [x]
 | true, y :: r => if Lib.compareBytes x y = 0 then qq x true r else y :: qq x true r
 | false, y :: r => if Lib.compareBytes x y <= 0 then x :: (if Lib.compareBytes x y = 0 then qq x true r else y :: qq x true r) else y :: qq x false r
def flU : Bool → Nat
 | true => 0
 | false => 1
theorem E7 {a : List (List UInt8)} {x : List UInt8} (ha : a.length <= 2 ^ 38) : ∀ (l p acc : List (List UInt8)) (b : Bool) (m : Nat), a = p ++ l → l.length < m → acc.length + l.length + flU b <= 2 ^ 39 →
  ∃ b' z q, zY a x m b (p.length : Int) acc = some (b', z, q) ∧ q.length <= acc.length + l.length + flU b ∧ (match b' with | true => q | false => q ++ [x]) = acc ++ qq x b l := by
 intro l
 induction l with
 | nil =>
  intro p acc b m he hm _
  subst he
  obtain ⟨m, rfl, _⟩ := zf hm
  exact ⟨b, _, acc, by rw [zY, if_neg (jz p)], by simp only [List.length_nil]; omega, by cases b <;> simp [qq]⟩
 | cons y l ih =>
  intro p acc b m he hm hb
  obtain ⟨m, rfl, hm'⟩ := zf hm
  simp only [List.length_cons] at hb hm'
  have hlen : a.length = p.length + (l.length + 1) := by rw [he]; simp
  have next := fun (acc : List (List UInt8)) (b : Bool) (h : acc.length + l.length + flU b <= 2 ^ 39) => ih (p ++ [y]) acc b m (by rw [he]; simp) hm' h
  rw [zY, if_pos (by rw [he]; exact ZZ p y l), zc, Option.bind_some, show a[p.length]? = some y by rw [he]; exact yh p y l, Option.bind_some, DJ, Option.bind_some, xK p y (by omega)]
  cases b with
  | true =>
   simp only [flU] at hb ⊢
   by_cases c : Lib.compareBytes x y = 0
   ·obtain ⟨b', z, q, h1, h2, h3⟩ := next acc true (by simp only [flU]; omega)
    rw [if_pos c]
    exact ⟨b', z, q, h1, by simp only [flU, List.length_cons] at h2 ⊢; omega, by rw [h3, qq, if_pos c]⟩
   ·obtain ⟨b', z, q, h1, h2, h3⟩ := next (acc ++ [y]) true (by simp only [flU, List.length_append, List.length_cons, List.length_nil]; omega)
    rw [if_neg c, if_pos (j0 (by decide) (by simp only [List.length_cons, List.length_nil]; omega))]
    exact ⟨b', z, q, h1, by simp only [flU, List.length_append, List.length_cons, List.length_nil] at h2 ⊢; omega, by rw [h3, qq, if_neg c]; simp⟩
  | false =>
   simp only [flU] at hb ⊢
   by_cases c1 : Lib.compareBytes x y <= 0
   ·rw [if_pos c1, if_pos (j0 (by decide) (by simp only [List.length_cons, List.length_nil]; omega))]
    by_cases c : Lib.compareBytes x y = 0
    ·obtain ⟨b', z, q, h1, h2, h3⟩ := next (acc ++ [x]) true (by simp only [flU, List.length_append, List.length_cons, List.length_nil]; omega)
     rw [if_pos c]
     exact ⟨b', z, q, h1, by simp only [flU, List.length_append, List.length_cons, List.length_nil] at h2 ⊢; omega, by rw [h3, qq, if_pos c1, if_pos c]; simp⟩
    ·obtain ⟨b', z, q, h1, h2, h3⟩ := next ((acc ++ [x]) ++ [y]) true (by simp only [flU, List.length_append, List.length_cons, List.length_nil]; omega)
     rw [if_neg c, if_pos (j0 (by decide) (by simp only [List.length_append, List.length_cons, List.length_nil]; omega))]
     exact ⟨b', z, q, h1, by simp only [flU, List.length_append, List.length_cons, List.length_nil] at h2 ⊢; omega, by rw [h3, qq, if_pos c1, if_neg c]; simp⟩
   ·obtain ⟨b', z, q, h1, h2, h3⟩ := next (acc ++ [y]) false (by simp only [flU, List.length_append, List.length_cons, List.length_nil]; omega)
    rw [if_neg c1, if_neg (by omega), if_pos (j0 (by decide) (by simp only [List.length_cons, List.length_nil]; omega))]
    exact ⟨b', z, q, h1, by simp only [flU, List.length_append, List.length_cons, List.length_nil] at h2 ⊢; omega, by rw [h3, qq, if_neg c1]; simp⟩
def y3 (a0 : (List (List UInt8))) (a1 : (List UInt8)) : Option (List (List UInt8)) := if a0.length <= 2 ^ 38 then some (qq a1 false a0) else none
theorem Ja (a0 : (List (List UInt8))) (a1 : (List UInt8)) (r : (List (List UInt8))) (h : y3 a0 a1 = some r) : ∃ n, Zg n a0 a1 = some r := by
 unfold y3 at h
 obtain ⟨ha, h⟩ := zM h
 obtain ⟨b, z, q, h1, h2, h3⟩ := E7 (x := a1) ha a0 [] [] false (a0.length + 1) rfl (by omega) (by simp only [List.length_nil, flU]; omega)
 refine ⟨a0.length + 1, ?_⟩
 unfold Zg
 simp only [List.length_nil, Int.natCast_zero, flU] at h1 h2
 rw [h1, Option.bind_some, <- h]
 cases b with
 | true => exact congrArg some h3
 | false =>
  dsimp only at h3 ⊢
  rw [if_pos (j0 (by decide) (by simp only [List.length_cons, List.length_nil]; omega)), h3]; rfl
theorem wv : XC y3 := fun a0 a1 r h => (Ja a0 a1 r h).elim fun n hn => VI n a0 a1 r hn
def jp (a0 : Int) (a1 : Int) : Option Int :=
 if a0 < a1 then
  some (-1)
 else
 if a1 < a0 then
  some 1
 else
 some 0
theorem Yn (a0 : Int) (a1 : Int) : Oc (jp a0 a1) 154 [] [vi a0, vi a1] fun r => (vi r, []) := tc (
 .lI a0 a1 (fun c1 =>
  .ret (-1)) fun c1 =>
 .lI a1 a0 (fun c2 =>
  .ret 1) fun c2 =>
 .ret 0) (zj Tryz.func154)
def k8 (F : GValue → GValue → Option Int) : Prop := ∀ (a0 : GValue) (a1 : GValue), Oc (F a0 a1) 109 [] [.val true (z8 a0), .val true (z8 a1)] fun r => (vi r, [])
def xm (G_spec_l2cmp : GValue → GValue → Option Int) (a0 : GValue) (a1 : GValue) : Nat → Int → Option (Int ⊕ Int)
  | 0, _ => none
  | m + 1, v0 =>
  if v0 < (a0.L.length : Int) then
   if v0 < (a1.L.length : Int) then
    if a0.Kind = 5 then
     (zy v0).bind fun i4 =>
     (a0.K[i4]?).bind fun x5 =>
     (a1.K[i4]?).bind fun x6 =>
     (yk x5 x6).bind fun r7 =>
     if r7 = 0 then
      (a0.L[i4]?).bind fun x9 =>
      (a1.L[i4]?).bind fun x10 =>
      (G_spec_l2cmp x9 x10).bind fun r11 =>
      if r11 = 0 then
       xm G_spec_l2cmp a0 a1 m (w64 (v0 + 1))
      else
      some (.inl r11)
     else
     some (.inl r7)
    else
    (zy v0).bind fun i4 =>
    (a0.L[i4]?).bind fun x5 =>
    (a1.L[i4]?).bind fun x6 =>
    (G_spec_l2cmp x5 x6).bind fun r7 =>
    if r7 = 0 then
     xm G_spec_l2cmp a0 a1 m (w64 (v0 + 1))
    else
    some (.inl r7)
   else
   some (.inr v0)
  else
  some (.inr v0)
theorem KE (G_spec_l2cmp : GValue → GValue → Option Int) (H_spec_l2cmp : k8 G_spec_l2cmp) (a0 : GValue) (a1 : GValue) (m : Nat) : ∀ (v0 : Int), Ol (xm G_spec_l2cmp a0 a1 m v0) 109 (zL Tryz.f109 0) ⟨[(2, vp 0 0), (3, vp 1 0), (5, vi v0)], [.var (z8 a0), .var (z8 a1)], 0⟩ fun o => match o with | .inl o_0 => (.ret, ⟨[(4, vi o_0)], [], 0⟩) | .inr (o_1) => (.exit 0, ⟨[(2, vp 0 0), (3, vp 1 0), (5, vi o_1), (47, vb false)], [.var (z8 a0), .var (z8 a1)], 0⟩) := by
  induction m with
  | zero => intro v0 o h; cases h
  | succ m ih => exact fun v0 => tlp (
   .le zd a0.L <|
   .lI v0 (a0.L.length : Int) (fun c1 =>
    .le zd a1.L <|
    .lI v0 (a1.L.length : Int) (fun c2 =>
     .eI a0.Kind 5 (fun c3 =>
      .na v0 fun i4 =>
      .ix0 (zq za) a0.K i4 fun x5 =>
      .ag 1 <|
      .ix0 (zq za) a1.K i4 fun x6 =>
      .cl (Zf x5 x6) fun r7 =>
      .eI r7 0 (fun c8 =>
       .ag 3 <|
       .ix zR a0.L i4 fun x9 =>
       .ag 4 <|
       .ix zR a1.L i4 fun x10 =>
       .cl (H_spec_l2cmp x9 x10) fun r11 =>
       .eI r11 0 (fun c12 =>
        .go (ih (w64 (v0 + 1)))) fun c12 =>
       .ret (.inl r11)) fun c8 =>
      .ret (.inl r7)) fun c3 =>
     .na v0 fun i4 =>
     .ix zR a0.L i4 fun x5 =>
     .ag 1 <|
     .ix zR a1.L i4 fun x6 =>
     .cl (H_spec_l2cmp x5 x6) fun r7 =>
     .eI r7 0 (fun c8 =>
      .go (ih (w64 (v0 + 1)))) fun c8 =>
     .ret (.inl r7)) fun c2 =>
    .ret (.inr v0)) fun c1 =>
   .ret (.inr v0))
def Zh (G_spec_l2cmp : GValue → GValue → Option Int) (n : Nat) (a0 : GValue) (a1 : GValue) : Option Int :=
 if a0.Kind = a1.Kind then
  if a0.Kind = 3 then
   (yk a0.S a1.S).bind fun r3 =>
   some r3
  else
  if a0.N = a1.N then
   (xm G_spec_l2cmp a0 a1 n 0).bind fun o4 =>
   match o4 with
   | .inl o4_0 =>
    some o4_0
   | .inr (o4_1) =>
    (jp (a0.L.length : Int) (a1.L.length : Int)).bind fun r5 =>
    some r5
  else
  (jp a0.N a1.N).bind fun r4 =>
  some r4
 else
 (jp a0.Kind a1.Kind).bind fun r2 =>
 some r2
theorem P9 (G_spec_l2cmp : GValue → GValue → Option Int) (H_spec_l2cmp : k8 G_spec_l2cmp) (n : Nat) : k8 (Zh G_spec_l2cmp n) := fun a0 a1 => tc (
 .eI a0.Kind a1.Kind (fun c1 =>
  .eI a0.Kind 3 (fun c2 =>
   .cl (Zf a0.S a1.S) fun r3 =>
   .ret r3) fun c2 =>
  .eI a0.N a1.N (fun c3 =>
   .l2 (KE G_spec_l2cmp H_spec_l2cmp a0 a1 n 0) (fun o4_0 =>
    .ret o4_0) fun o4_1 =>
   .le zd a0.L <|
   .le zd a1.L <|
   .cl (Yn (a0.L.length : Int) (a1.L.length : Int)) fun r5 =>
   .ret r5) fun c3 =>
  .cl (Yn a0.N a1.N) fun r4 =>
  .ret r4) fun c1 =>
 .cl (Yn a0.Kind a1.Kind) fun r2 =>
 .ret r2) (zj Tryz.func109)
def yE : Nat → GValue → GValue → Option Int
 | 0, _, _ => none
 | n + 1, a0, a1 => Zh (yE n) n a0 a1
theorem RY (n : Nat) : k8 (yE n) := by
 induction n with
 | zero => exact fun _ _ _ h => (by rw [yE] at h; cases h)
 | succ n ih =>
  have ih_spec_l2cmp := ih
  exact fun a0 a1 r h => P9 (yE n) ih_spec_l2cmp n a0 a1 r (by rw [yE] at h; exact h)
def qr (a0 : GValue) (a1 : GValue) : Option Int := yE (vsz a0 + 3) a0 a1
theorem VJ (a0 : GValue) (a1 : GValue) (r : Int) (h : qr a0 a1 = some r) : ∃ n, yE n a0 a1 = some r := ⟨_, h⟩
theorem Qh : k8 qr := by
 intro a0 a1 r h
 obtain ⟨n, hn⟩ := VJ a0 a1 r h
 exact (RY n) a0 a1 r hn
def Yu (F : (List (List UInt8)) → Option (List (List UInt8))) : Prop := ∀ (a0 : (List (List UInt8))), Oc (F a0) 117 [] [vq (zq za) a0] fun r => (.val false [.own 1 (eL (yD 1 za) r)], [])
def yW (a0 : (List (List UInt8))) : Nat → Int → (List (List UInt8)) → Option (Int × (List (List UInt8)))
  | 0, _, _ => none
  | m + 1, v1, v2 =>
  if v1 < (a0.length : Int) then
   (zy v1).bind fun i2 =>
   (a0[i2]?).bind fun x3 =>
   if wj 1 (0 + x3.length) then
   if wj 24 (v2.length + [x3].length) then
   yW a0 m (w64 (v1 + 1)) (v2 ++ [x3])
   else none
   else none
  else
  some (v1, v2)
theorem Wc (a0 : (List (List UInt8))) (m : Nat) : ∀ (v1 : Int) (v2 : (List (List UInt8))), Ol (yW a0 m v1 v2) 117 (zL Tryz.f117 0) ⟨[(0, vq (zq za) a0), (3, vr 0), (4, vi v1)], [.obj 1 (eL (yD 1 za) v2)], 0⟩ fun o => match o with | ⟨o_0, o_1⟩ => (.exit 0, ⟨[(0, vq (zq za) a0), (3, vr 0), (4, vi o_0), (8, vb false)], [.obj 1 (eL (yD 1 za) o_1)], 0⟩) := by
  induction m with
  | zero => intro v1 v2 o h; cases h
  | succ m ih => exact fun v1 v2 => tlp (
   .le (zq za) a0 <|
   .lI v1 (a0.length : Int) (fun c1 =>
    .na v1 fun i2 =>
    .ix0 (zq za) a0 i2 fun x3 =>
    .ap 1 yd [] x3 fun n4 =>
    .ao 24 (jb 1 wG) v2 [x3] fun n5 =>
    .go (ih (w64 (v1 + 1)) (v2 ++ [x3]))) fun c1 =>
   .ret (v1, v2))
def vc (n : Nat) (a0 : (List (List UInt8))) : Option (List (List UInt8)) :=
 (yW a0 n 0 []).bind fun ⟨o1_0, o1_1⟩ =>
 some o1_1
theorem JW (n : Nat) : Yu (vc n) := fun a0 => tc (
 .lp (Wc a0 n 0 []) fun ⟨o1_0, o1_1⟩ =>
 .ret o1_1) (zj Tryz.func117)
theorem LL {a : List (List UInt8)} (ha : bsz a <= 2 ^ 39) : ∀ (l p : List (List UInt8)) (m : Nat), a = p ++ l → l.length < m → ∃ z, yW a m (p.length : Int) p = some (z, a) := by
 have hl := wQ a
 intro l
 induction l with
 | nil =>
  intro p m he hm
  subst he
  obtain ⟨m, rfl, _⟩ := zf hm
  exact ⟨_, by rw [yW, if_neg (jz p)]; simp; rfl⟩
 | cons x l ih =>
  intro p m he hm
  obtain ⟨m, rfl, hm'⟩ := zf hm
  have hx : 1 + x.length <= bsz a := ZB (by rw [he]; simp)
  have hlen : a.length = p.length + (l.length + 1) := by rw [he]; simp
  obtain ⟨z, hz⟩ := ih (p ++ [x]) m (by rw [he]; simp) (by simp only [List.length_cons] at hm'; omega)
  refine ⟨z, ?_⟩
  rw [yW, if_pos (by rw [he]; exact ZZ p x l), zc, Option.bind_some, show a[p.length]? = some x by rw [he]; exact yh p x l, Option.bind_some, if_pos (j0 (by decide) (by omega)), if_pos (j0 (by decide) (by simp only [List.length_cons, List.length_nil]; omega)), xK p x (by omega), hz]
def xf (a0 : (List (List UInt8))) : Option (List (List UInt8)) := if bsz a0 <= 2 ^ 39 then some a0 else none
theorem WH (a0 : (List (List UInt8))) (r : (List (List UInt8))) (h : xf a0 = some r) : ∃ n, vc n a0 = some r := by
 unfold xf at h
 obtain ⟨ha, h⟩ := zM h
 obtain ⟨z, hz⟩ := LL ha a0 [] (a0.length + 1) rfl (by omega)
 refine ⟨a0.length + 1, ?_⟩
 unfold vc
 simp only [List.length_nil, Int.natCast_zero] at hz
 rw [hz]; exact h
theorem k9 : Yu xf := fun a0 r h => (WH a0 r h).elim fun n hn => JW n a0 r hn
def Qi (F : GState → GState → Option (List (List UInt8))) : Prop := ∀ (a0 : GState) (a1 : GState), Oc (F a0 a1) 61 [] [.val true (zw a0), .val true (zw a1)] fun r => (.val false [.own 1 (eL (yD 1 za) r)], [])
def yv (a0 : GState) (a1 : GState) : Nat → (List (List UInt8)) → Int → Option (List (List UInt8))
  | 0, _, _ => none
  | m + 1, v0, v1 =>
  if v1 < (a0.Entries.length : Int) then
   (zy v1).bind fun i2 =>
   (a0.Entries[i2]?).bind fun x3 =>
   (yy a1 x3.Addr).bind fun r4 =>
   if r4 < 0 then
    (y3 v0 x3.Addr).bind fun r6 =>
    yv a0 a1 m r6 (w64 (v1 + 1))
   else
   (zy r4).bind fun i6 =>
   (a1.Entries[i6]?).bind fun x7 =>
   (qr x3.Val x7.Val).bind fun r8 =>
   if r8 = 0 then
    yv a0 a1 m v0 (w64 (v1 + 1))
   else
   (y3 v0 x3.Addr).bind fun r10 =>
   yv a0 a1 m r10 (w64 (v1 + 1))
  else
  some v0
theorem ZW (a0 : GState) (a1 : GState) (m : Nat) : ∀ (v0 : (List (List UInt8))) (v1 : Int), Ol (yv a0 a1 m v0 v1) 61 (zL Tryz.f61 0) ⟨[(2, vp 0 0), (3, vp 1 0), (5, vq (zq za) v0), (6, vi v1)], [.var (zw a0), .var (zw a1)], 0⟩ fun o => (.exit 0, ⟨[(2, vp 0 0), (3, vp 1 0), (5, vq (zq za) o)], [.var (zw a0), .var (zw a1)], 0⟩) := by
  induction m with
  | zero => intro v0 v1 o h; cases h
  | succ m ih => exact fun v0 v1 => tlp (
   .le zr a0.Entries <|
   .lI v1 (a0.Entries.length : Int) (fun c1 =>
    .na v1 fun i2 =>
    .ix zS a0.Entries i2 fun x3 =>
    .cl (jk a1 x3.Addr) fun r4 =>
    .lI r4 0 (fun c5 =>
     .ag 2 <|
     .ag 1 <|
     .cl (wv v0 x3.Addr) fun r6 =>
     .go (ih r6 (w64 (v1 + 1)))) fun c5 =>
    .ag 2 <|
    .ag 1 <|
    .na r4 fun i6 =>
    .ix zS a1.Entries i6 fun x7 =>
    .cl (Qh x3.Val x7.Val) fun r8 =>
    .eI r8 0 (fun c9 =>
     .go (ih v0 (w64 (v1 + 1)))) fun c9 =>
    .ag 5 <|
    .ag 4 <|
    .cl (wv v0 x3.Addr) fun r10 =>
    .go (ih r10 (w64 (v1 + 1)))) fun c1 =>
   .ret v0)
def ww (n : Nat) (a0 : GState) (a1 : GState) (v3 : (List (List UInt8))) : Nat → Int → Option ((List (List UInt8)) ⊕ Unit)
  | 0, _ => none
  | m + 1, v0 =>
  if v0 < (a0.Entries.length : Int) then
   (zy v0).bind fun i2 =>
   (a0.Entries[i2]?).bind fun x3 =>
   (yy a1 x3.Addr).bind fun r4 =>
   if r4 < 0 then
    (y3 v3 x3.Addr).bind fun r6 =>
    (yv a0 a1 n r6 (w64 (v0 + 1))).bind fun o7 =>
    some (.inl o7)
   else
   (zy r4).bind fun i6 =>
   (a1.Entries[i6]?).bind fun x7 =>
   (qr x3.Val x7.Val).bind fun r8 =>
   if r8 = 0 then
    ww n a0 a1 v3 m (w64 (v0 + 1))
   else
   (y3 v3 x3.Addr).bind fun r10 =>
   (yv a0 a1 n r10 (w64 (v0 + 1))).bind fun o11 =>
   some (.inl o11)
  else
  some (.inr ())
theorem JX (n : Nat) (a0 : GState) (a1 : GState) (v3 : (List (List UInt8))) (m : Nat) : ∀ (v0 : Int), Ol (ww n a0 a1 v3 m v0) 61 (zL Tryz.f61 0) ⟨[(2, vp 0 0), (3, vp 1 0), (5, vr 2), (6, vi v0)], [.var (zw a0), .var (zw a1), .obj 1 (eL (zq za) v3)], 0⟩ fun o => match o with | .inl o_0 => (.exit 0, ⟨[(2, vp 0 0), (3, vp 1 0), (5, vq (zq za) o_0)], [.var (zw a0), .var (zw a1)], 0⟩) | .inr (()) => (.exit 0, ⟨[(2, vp 0 0), (3, vp 1 0), (5, vr 2)], [.var (zw a0), .var (zw a1), .obj 1 (eL (zq za) v3)], 0⟩) := by
  induction m with
  | zero => intro v0 o h; cases h
  | succ m ih => exact fun v0 => tlp (
   .le zr a0.Entries <|
   .lI v0 (a0.Entries.length : Int) (fun c1 =>
    .na v0 fun i2 =>
    .ix zS a0.Entries i2 fun x3 =>
    .cl (jk a1 x3.Addr) fun r4 =>
    .lI r4 0 (fun c5 =>
     .ag 2 <|
     .ag 1 <|
     .vw (va za) v3 <|
     .cl (wv v3 x3.Addr) fun r6 =>
     .gb (ZW a0 a1 n r6 (w64 (v0 + 1))) (fun o7 =>
      some (.inl o7)) (by intro x a h; first | (cases h; rfl) | (rcases x with x | x <;> cases h <;> rfl) | (rcases x with x | x | x <;> cases h <;> rfl))) fun c5 =>
    .ag 2 <|
    .ag 1 <|
    .na r4 fun i6 =>
    .ix zS a1.Entries i6 fun x7 =>
    .cl (Qh x3.Val x7.Val) fun r8 =>
    .eI r8 0 (fun c9 =>
     .go (ih (w64 (v0 + 1)))) fun c9 =>
    .ag 5 <|
    .ag 4 <|
    .vw (va za) v3 <|
    .cl (wv v3 x3.Addr) fun r10 =>
    .gb (ZW a0 a1 n r10 (w64 (v0 + 1))) (fun o11 =>
     some (.inl o11)) (by intro x a h; first | (cases h; rfl) | (rcases x with x | x <;> cases h <;> rfl) | (rcases x with x | x | x <;> cases h <;> rfl))) fun c1 =>
   .ret (.inr ()))
def yM (a0 : GState) (a1 : GState) : Nat → (List (List UInt8)) → Int → Option (List (List UInt8))
  | 0, _, _ => none
  | m + 1, v0, v1 =>
  if v1 < (a1.Entries.length : Int) then
   (zy v1).bind fun i2 =>
   (a1.Entries[i2]?).bind fun x3 =>
   (yy a0 x3.Addr).bind fun r4 =>
   if r4 < 0 then
    (y3 v0 x3.Addr).bind fun r6 =>
    yM a0 a1 m r6 (w64 (v1 + 1))
   else
   yM a0 a1 m v0 (w64 (v1 + 1))
  else
  some v0
theorem Yv (a0 : GState) (a1 : GState) (m : Nat) : ∀ (v0 : (List (List UInt8))) (v1 : Int), Ol (yM a0 a1 m v0 v1) 61 (zL Tryz.f61 1) ⟨[(2, vp 0 0), (3, vp 1 0), (5, vq (zq za) v0), (8, vi v1)], [.var (zw a0), .var (zw a1)], 0⟩ fun o => (.exit 2, ⟨[(5, vq (zq za) o)], [], 0⟩) := by
  induction m with
  | zero => intro v0 v1 o h; cases h
  | succ m ih => exact fun v0 v1 => tlp (
   .le zr a1.Entries <|
   .lI v1 (a1.Entries.length : Int) (fun c1 =>
    .na v1 fun i2 =>
    .ix zS a1.Entries i2 fun x3 =>
    .cl (jk a0 x3.Addr) fun r4 =>
    .lI r4 0 (fun c5 =>
     .ag 2 <|
     .ag 1 <|
     .cl (wv v0 x3.Addr) fun r6 =>
     .go (ih r6 (w64 (v1 + 1)))) fun c5 =>
    .go (ih v0 (w64 (v1 + 1)))) fun c1 =>
   .ret v0)
def xY (n : Nat) (a0 : GState) (a1 : GState) (v3 : (List (List UInt8))) : Nat → Int → Option ((List (List UInt8)) ⊕ Unit)
  | 0, _ => none
  | m + 1, v0 =>
  if v0 < (a1.Entries.length : Int) then
   (zy v0).bind fun i2 =>
   (a1.Entries[i2]?).bind fun x3 =>
   (yy a0 x3.Addr).bind fun r4 =>
   if r4 < 0 then
    (y3 v3 x3.Addr).bind fun r6 =>
    (yM a0 a1 n r6 (w64 (v0 + 1))).bind fun o7 =>
    some (.inl o7)
   else
   xY n a0 a1 v3 m (w64 (v0 + 1))
  else
  some (.inr ())
theorem Jb (n : Nat) (a0 : GState) (a1 : GState) (v3 : (List (List UInt8))) (m : Nat) : ∀ (v0 : Int), Ol (xY n a0 a1 v3 m v0) 61 (zL Tryz.f61 1) ⟨[(2, vp 0 0), (3, vp 1 0), (5, vr 2), (8, vi v0)], [.var (zw a0), .var (zw a1), .obj 1 (eL (zq za) v3)], 0⟩ fun o => match o with | .inl o_0 => (.exit 2, ⟨[(5, vq (zq za) o_0)], [], 0⟩) | .inr (()) => (.exit 2, ⟨[(5, vr 0)], [.obj 1 (eL (zq za) v3)], 0⟩) := by
  induction m with
  | zero => intro v0 o h; cases h
  | succ m ih => exact fun v0 => tlp (
   .le zr a1.Entries <|
   .lI v0 (a1.Entries.length : Int) (fun c1 =>
    .na v0 fun i2 =>
    .ix zS a1.Entries i2 fun x3 =>
    .cl (jk a0 x3.Addr) fun r4 =>
    .lI r4 0 (fun c5 =>
     .ag 2 <|
     .ag 1 <|
     .vw (va za) v3 <|
     .cl (wv v3 x3.Addr) fun r6 =>
     .gb (Yv a0 a1 n r6 (w64 (v0 + 1))) (fun o7 =>
      some (.inl o7)) (by intro x a h; first | (cases h; rfl) | (rcases x with x | x <;> cases h <;> rfl) | (rcases x with x | x | x <;> cases h <;> rfl))) fun c5 =>
    .go (ih (w64 (v0 + 1)))) fun c1 =>
   .ret (.inr ()))
def vy (n : Nat) (a0 : GState) (a1 : GState) : Option (List (List UInt8)) :=
 (qh a0).bind fun r1 =>
 match r1 with
 | true =>
  (qh a1).bind fun r2 =>
  match r2 with
  | true =>
   (ww n a0 a1 [] n 0).bind fun o3 =>
   match o3 with
   | .inl o3_0 =>
    (yM a0 a1 n o3_0 0).bind fun o4 =>
    (xf o4).bind fun r5 =>
    some r5
   | .inr (()) =>
    (xY n a0 a1 [] n 0).bind fun o4 =>
    match o4 with
    | .inl o4_0 =>
     (xf o4_0).bind fun r5 =>
     some r5
    | .inr (()) =>
     (xf []).bind fun r5 =>
     some r5
  | false =>
   some []
 | false =>
  some []
theorem Uh (n : Nat) : Qi (vy n) := fun a0 a1 => tc (
 .cl (XB a0) fun r1 =>
 .vN 0 r1 (
  .an 0 0 <|
  .cl (XB a1) fun r2 =>
  .an 0 1 <|
  .an 0 1 <|
  .vN 0 r2 (
   .l2 (JX n a0 a1 [] n 0) (fun o3_0 =>
    .lp (Yv a0 a1 n o3_0 0) fun o4 =>
    .cl (k9 o4) fun r5 =>
    .ret r5) fun ⟨⟩ =>
   .l2 (Jb n a0 a1 [] n 0) (fun o4_0 =>
    .cl (k9 o4_0) fun r5 =>
    .ret r5) fun ⟨⟩ =>
   .vw (va za) [] <|
   .cl (k9 []) fun r5 =>
   .cn (jb 1 wG) r5 <|
   .ret r5) <|
  .ret []) <|
 .an 0 0 <|
 .an 0 0 <|
 .an 0 0 <|
 .ret []) (zj Tryz.func61)
def jL (a0 : GState) (a1 : GState) : Option (List (List UInt8)) := vy (a0.Entries.length + a1.Entries.length + 5) a0 a1
theorem KF (a0 : GState) (a1 : GState) (r : (List (List UInt8))) (h : jL a0 a1 = some r) : ∃ n, vy n a0 a1 = some r := ⟨_, h⟩
theorem RZ : Qi jL := fun a0 a1 r h => (KF a0 a1 r h).elim fun n hn => Uh n a0 a1 r hn
def we (a0 : Int) (a1 : Int) (a2 : Int) : Option Bool :=
 if a1 <= a0 then
  some (decide (a0 <= a2))
 else
 some false
theorem qJ (a0 : Int) (a1 : Int) (a2 : Int) : Oc (we a0 a1 a2) 94 [] [vi a0, vi a1, vi a2] fun r => (vb r, []) := tc (
 .gI a1 a0 (fun c1 =>
  .gD a0 a2 <|
  .ret (decide (a0 <= a2))) fun c1 =>
 .ret false) (zj Tryz.func94)
def vd (a0 : (List UInt8)) (a1 : UInt8) : Option Int :=
 (w7 a0 a1).bind fun r1 =>
 some r1
theorem Jc (a0 : (List UInt8)) (a1 : UInt8) : Oc (vd a0 a1) 212 [] [vq za a0, .val false [.int .u8 ((a1.toNat : Nat) : Int)]] fun r => (vi r, []) := tc (
 .cl (Zs a0 a1) fun r1 =>
 .ret r1) (zj Tryz.func212)
def qA (a0 : (List UInt8)) (a1 : (List UInt8)) : Option Bool :=
 some (decide (a0 = a1))
theorem Z5 (a0 : (List UInt8)) (a1 : (List UInt8)) : Oc (qA a0 a1) 105 [] [vq za a0, vq za a1] fun r => (vb r, []) := tc (
 .bt a0 <|
 .bt a1 <|
 .sD a0 a1 <|
 .ret (decide (a0 = a1))) (zj Tryz.func105)
def jM (a0 : (List UInt8)) (a1 : (List UInt8)) : Option Int :=
 if (a1.length : Int) = 0 then
  some 0
 else
 if (a1.length : Int) = 1 then
  (a1[0]?).bind fun x3 =>
  (vd a0 x3).bind fun r4 =>
  some r4
 else
 if (a1.length : Int) = (a0.length : Int) then
  (qA a1 a0).bind fun r4 =>
  match r4 with
  | true =>
   some 0
  | false =>
   some (-1)
 else
 if (a0.length : Int) < (a1.length : Int) then
  some (-1)
 else
 none
theorem Ta (a0 : (List UInt8)) (a1 : (List UInt8)) : Oc (jM a0 a1) 196 [] [vq za a0, vq za a1] fun r => (vi r, []) := tc (
 .le za a1 <|
 .eI (a1.length : Int) 0 (fun c1 =>
  .ret 0) fun c1 =>
 .eI (a1.length : Int) 1 (fun c2 =>
  .nl 0 <|
  .ix0 za a1 0 fun x3 =>
  .cl (Jc a0 x3) fun r4 =>
  .ret r4) fun c2 =>
 .le za a0 <|
 .eI (a1.length : Int) (a0.length : Int) (fun c3 =>
  .cl (Z5 a1 a0) fun r4 =>
  .vM 0 r4 (
   .ret 0) <|
  .ret (-1)) fun c3 =>
 .le za a0 <|
 .lI (a0.length : Int) (a1.length : Int) (fun c4 =>
  .ret (-1)) fun c4 =>
 .no) (zj Tryz.func196)
def ZN (a0 : (List UInt8)) (a1 : (List UInt8)) : Option ((List UInt8) × (List UInt8) × Bool) :=
 (jM a0 a1).bind fun r1 =>
 if 0 <= r1 then
  (zy r1).bind fun i3 =>
  (qc a0 none (some i3)).bind fun s4 =>
  (zy (w64 (r1 + (a1.length : Int)))).bind fun i5 =>
  (qc a0 (some i5) none).bind fun s6 =>
  some (s4, s6, true)
 else
 some (a0, [], false)
theorem PA (a0 : (List UInt8)) (a1 : (List UInt8)) : Oc (ZN a0 a1) 170 [] [vq za a0, vq za a1] fun r => (.tup [(false, [cq za r.1]), (false, [cq za r.2.1]), (false, [.bool r.2.2])], []) := tc (
 .cl (Ta a0 a1) fun r1 =>
 .gI 0 r1 (fun c2 =>
  .na r1 fun i3 =>
  .ct za a0 none (some i3) fun s4 =>
  .un yd a0 <|
  .le za a1 <|
  .na (w64 (r1 + (a1.length : Int))) fun i5 =>
  .ct za a0 (some i5) none fun s6 =>
  .un yd a0 <|
  .ret (s4, s6, true)) fun c2 =>
 .vw yd [] <|
 .ret (a0, [], false)) (zj Tryz.func170)
def Qj (F : (List UInt8) → Option Bool) : Prop := ∀ (a0 : (List UInt8)), Oc (F a0) 158 [] [vq za a0] fun r => (vb r, [])
def wx (a0 : (List UInt8)) (v1 : Int) : Nat → Int → Option (Bool ⊕ Int)
  | 0, _ => none
  | m + 1, v2 =>
  if v2 < v1 then
   (zy v2).bind fun i2 =>
   (a0[i2]?).bind fun x3 =>
   if ((x3.toNat : Nat) : Int) < 97 then
    some (.inl false)
   else
   if 122 < ((x3.toNat : Nat) : Int) then
    some (.inl false)
   else
   wx a0 v1 m (w64 (v2 + 1))
  else
  some (.inr v2)
theorem JY (a0 : (List UInt8)) (v1 : Int) (m : Nat) : ∀ (v2 : Int), Ol (wx a0 v1 m v2) 158 (zL Tryz.f158 0) ⟨[(0, vq za a0), (5, vq za a0), (6, vi v1), (7, vi v2)], [], 0⟩ fun o => match o with | .inl o_0 => (.ret, ⟨[(2, vb o_0)], [], 0⟩) | .inr (o_1) => (.exit 0, ⟨[(0, vq za a0), (5, vq za a0), (6, vi v1), (7, vi o_1), (8, vb false)], [], 0⟩) := by
  induction m with
  | zero => intro v2 o h; cases h
  | succ m ih => exact fun v2 => tlp (
   .lI v2 v1 (fun c1 =>
    .na v2 fun i2 =>
    .ix0 za a0 i2 fun x3 =>
    .lI ((x3.toNat : Nat) : Int) 97 (fun c4 =>
     .ret (.inl false)) fun c4 =>
    .lI 122 ((x3.toNat : Nat) : Int) (fun c5 =>
     .ret (.inl false)) fun c5 =>
    .go (ih (w64 (v2 + 1)))) fun c1 =>
   .ret (.inr v2))
def Yo (n : Nat) (a0 : (List UInt8)) : Option Bool :=
 (wx a0 (a0.length : Int) n 0).bind fun o1 =>
 match o1 with
 | .inl o1_0 =>
  some o1_0
 | .inr (o1_1) =>
  (we (a0.length : Int) 1 8).bind fun r2 =>
  some r2
theorem Ui (n : Nat) : Qj (Yo n) := fun a0 => tc (
 .le za a0 <|
 .l2 (JY a0 (a0.length : Int) n 0) (fun o1_0 =>
  .ret o1_0) fun o1_1 =>
 .le za a0 <|
 .cl (qJ (a0.length : Int) 1 8) fun r2 =>
 .ret r2) (zj Tryz.func158)
theorem KG {a : List UInt8} (ha : a.length <= 2 ^ 20) : ∀ (d i m : Nat), i + d = a.length → d < m → ∃ z, wx a (a.length : Int) m (i : Int) = some (if (a.drop i).all (inB 97 122) = true then .inr z else .inl false) := by
 intro d
 induction d with
 | zero =>
  intro i m hi hm
  obtain ⟨m, rfl, _⟩ := zf hm
  exact ⟨_, by rw [wx, if_neg (by omega), List.drop_eq_nil_of_le (by omega)]; rfl⟩
 | succ d ih =>
  intro i m hi hm
  obtain ⟨m, rfl, hm'⟩ := zf hm
  have hil : i < a.length := by omega
  rw [wx, if_pos (by omega), zc, Option.bind_some, zg hil, Option.bind_some, zC (by omega), xi hil, List.all_cons]
  by_cases h1 : ((a[i].toNat : Nat) : Int) < 97
  ·exact ⟨0, by rw [if_pos h1, if_neg]; simp [inB]; omega⟩
  ·rw [if_neg h1]
   by_cases h2 : (122 : Int) < ((a[i].toNat : Nat) : Int)
   ·exact ⟨0, by rw [if_pos h2, if_neg]; simp [inB]; omega⟩
   ·rw [if_neg h2, show inB 97 122 a[i] = true by simp [inB]; omega, Bool.true_and]
    exact ih (i + 1) m (by omega) (by omega)
theorem XD (a b c : Int) : we a b c = some (decide (b <= a ∧ a <= c)) := by
 unfold we
 by_cases h : b <= a
 ·rw [if_pos h]; simp [h]
 ·rw [if_neg h]; simp [h]
def wg (a0 : (List UInt8)) : Option Bool := if a0.length <= 2 ^ 20 then some (qf a0) else none
theorem KH (a0 : (List UInt8)) (r : Bool) (h : wg a0 = some r) : ∃ n, Yo n a0 = some r := by
 unfold wg at h
 obtain ⟨ha, h⟩ := zM h
 refine ⟨a0.length + 1, ?_⟩
 obtain ⟨z, hz⟩ := KG ha a0.length 0 (a0.length + 1) (by omega) (by omega)
 rw [show ((0 : Nat) : Int) = 0 from rfl, List.drop_zero] at hz
 unfold Yo
 rw [<- h, hz]
 unfold qf
 have hd : decide (1 <= a0.length ∧ a0.length <= 8) = decide ((1 : Int) <= (a0.length : Int) ∧ (a0.length : Int) <= 8) := decide_eq_decide.2 (by omega)
 rw [hd]
 cases a0.all (inB 97 122)
 ·rw [Bool.and_false]; rfl
 ·rw [Bool.and_true]
  simp only [if_true, Option.bind_some, XD]
theorem Z6 : Qj wg := fun a0 r h => (KH a0 r h).elim fun n hn => Ui n a0 r hn
def qY (a0 : (List UInt8)) (a1 : (List UInt8)) : Option Bool :=
 if (a1.length : Int) <= (a0.length : Int) then
  (zy (w64 ((a0.length : Int) - (a1.length : Int)))).bind fun i2 =>
  (qc a0 (some i2) none).bind fun s3 =>
  (qA s3 a1).bind fun r4 =>
  some r4
 else
 some false
theorem Jd (a0 : (List UInt8)) (a1 : (List UInt8)) : Oc (qY a0 a1) 197 [] [vq za a0, vq za a1] fun r => (vb r, []) := tc (
 .le za a0 <|
 .le za a1 <|
 .gI (a1.length : Int) (a0.length : Int) (fun c1 =>
  .le za a0 <|
  .le za a1 <|
  .na (w64 ((a0.length : Int) - (a1.length : Int))) fun i2 =>
  .ct za a0 (some i2) none fun s3 =>
  .un yd a0 <|
  .cl (Z5 s3 a1) fun r4 =>
  .ret r4) fun c1 =>
 .ret false) (zj Tryz.func197)
def wT (a0 : (List UInt8)) (a1 : (List UInt8)) : Option ((List UInt8) × Bool) :=
 (qY a0 a1).bind fun r1 =>
 match r1 with
 | true =>
  (zy (w64 ((a0.length : Int) - (a1.length : Int)))).bind fun i2 =>
  (qc a0 none (some i2)).bind fun s3 =>
  some (s3, true)
 | false =>
  some (a0, false)
theorem ZX (a0 : (List UInt8)) (a1 : (List UInt8)) : Oc (wT a0 a1) 171 [] [vq za a0, vq za a1] fun r => (.tup [(false, [cq za r.1]), (false, [.bool r.2])], []) := tc (
 .cl (Jd a0 a1) fun r1 =>
 .vN 0 r1 (
  .le za a0 <|
  .le za a1 <|
  .na (w64 ((a0.length : Int) - (a1.length : Int))) fun i2 =>
  .ct za a0 none (some i2) fun s3 =>
  .un yd a0 <|
  .ret (s3, true)) <|
 .ret (a0, false)) (zj Tryz.func171)
def ve (a0 : (List UInt8)) (a1 : (List UInt8)) : Option Bool :=
 if (a1.length : Int) <= (a0.length : Int) then
  (zy (a1.length : Int)).bind fun i2 =>
  (qc a0 none (some i2)).bind fun s3 =>
  (qA s3 a1).bind fun r4 =>
  some r4
 else
 some false
theorem Je (a0 : (List UInt8)) (a1 : (List UInt8)) : Oc (ve a0 a1) 198 [] [vq za a0, vq za a1] fun r => (vb r, []) := tc (
 .le za a0 <|
 .le za a1 <|
 .gI (a1.length : Int) (a0.length : Int) (fun c1 =>
  .le za a1 <|
  .na (a1.length : Int) fun i2 =>
  .ct za a0 none (some i2) fun s3 =>
  .un yd a0 <|
  .cl (Z5 s3 a1) fun r4 =>
  .ret r4) fun c1 =>
 .ret false) (zj Tryz.func198)
def qZ (a0 : (List UInt8)) (a1 : (List UInt8)) : Option ((List UInt8) × Bool) :=
 (ve a0 a1).bind fun r1 =>
 match r1 with
 | true =>
  (zy (a1.length : Int)).bind fun i2 =>
  (qc a0 (some i2) none).bind fun s3 =>
  some (s3, true)
 | false =>
  some (a0, false)
theorem Jf (a0 : (List UInt8)) (a1 : (List UInt8)) : Oc (qZ a0 a1) 172 [] [vq za a0, vq za a1] fun r => (.tup [(false, [cq za r.1]), (false, [.bool r.2])], []) := tc (
 .cl (Je a0 a1) fun r1 =>
 .vN 0 r1 (
  .le za a1 <|
  .na (a1.length : Int) fun i2 =>
  .ct za a0 (some i2) none fun s3 =>
  .un yd a0 <|
  .ret (s3, true)) <|
 .ret (a0, false)) (zj Tryz.func172)
def qu (a0 : Int) : Option (List UInt8) :=
 if a0 < 10 then
  (zy a0).bind fun i2 =>
  (zy (w64 (a0 + 1))).bind fun i3 =>
  (qc [48, 49, 50, 51, 52, 53, 54, 55, 56, 57, 97, 98, 99, 100, 101, 102, 103, 104, 105, 106, 107, 108, 109, 110, 111, 112, 113, 114, 115, 116, 117, 118, 119, 120, 121, 122] (some i2) (some i3)).bind fun s4 =>
  some s4
 else
 (zy (w64 (a0 * 2))).bind fun i2 =>
 (zy (w64 ((w64 (a0 * 2)) + 2))).bind fun i3 =>
 (qc [48, 48, 48, 49, 48, 50, 48, 51, 48, 52, 48, 53, 48, 54, 48, 55, 48, 56, 48, 57, 49, 48, 49, 49, 49, 50, 49, 51, 49, 52, 49, 53, 49, 54, 49, 55, 49, 56, 49, 57, 50, 48, 50, 49, 50, 50, 50, 51, 50, 52, 50, 53, 50, 54, 50, 55, 50, 56, 50, 57, 51, 48, 51, 49, 51, 50, 51, 51, 51, 52, 51, 53, 51, 54, 51, 55, 51, 56, 51, 57, 52, 48, 52, 49, 52, 50, 52, 51, 52, 52, 52, 53, 52, 54, 52, 55, 52, 56, 52, 57, 53, 48, 53, 49, 53, 50, 53, 51, 53, 52, 53, 53, 53, 54, 53, 55, 53, 56, 53, 57, 54, 48, 54, 49, 54, 50, 54, 51, 54, 52, 54, 53, 54, 54, 54, 55, 54, 56, 54, 57, 55, 48, 55, 49, 55, 50, 55, 51, 55, 52, 55, 53, 55, 54, 55, 55, 55, 56, 55, 57, 56, 48, 56, 49, 56, 50, 56, 51, 56, 52, 56, 53, 56, 54, 56, 55, 56, 56, 56, 57, 57, 48, 57, 49, 57, 50, 57, 51, 57, 52, 57, 53, 57, 54, 57, 55, 57, 56, 57, 57] (some i2) (some i3)).bind fun s4 =>
 some s4
theorem YB (a0 : Int) : Oc (qu a0) 232 [] [vi a0] fun r => (vs r, []) := tc (
 .lI a0 10 (fun c1 =>
  .na a0 fun i2 =>
  .na (w64 (a0 + 1)) fun i3 =>
  .cs [48, 49, 50, 51, 52, 53, 54, 55, 56, 57, 97, 98, 99, 100, 101, 102, 103, 104, 105, 106, 107, 108, 109, 110, 111, 112, 113, 114, 115, 116, 117, 118, 119, 120, 121, 122] (some i2) (some i3) fun s4 =>
  .ret s4) fun c1 =>
 .na (w64 (a0 * 2)) fun i2 =>
 .na (w64 ((w64 (a0 * 2)) + 2)) fun i3 =>
 .cs [48, 48, 48, 49, 48, 50, 48, 51, 48, 52, 48, 53, 48, 54, 48, 55, 48, 56, 48, 57, 49, 48, 49, 49, 49, 50, 49, 51, 49, 52, 49, 53, 49, 54, 49, 55, 49, 56, 49, 57, 50, 48, 50, 49, 50, 50, 50, 51, 50, 52, 50, 53, 50, 54, 50, 55, 50, 56, 50, 57, 51, 48, 51, 49, 51, 50, 51, 51, 51, 52, 51, 53, 51, 54, 51, 55, 51, 56, 51, 57, 52, 48, 52, 49, 52, 50, 52, 51, 52, 52, 52, 53, 52, 54, 52, 55, 52, 56, 52, 57, 53, 48, 53, 49, 53, 50, 53, 51, 53, 52, 53, 53, 53, 54, 53, 55, 53, 56, 53, 57, 54, 48, 54, 49, 54, 50, 54, 51, 54, 52, 54, 53, 54, 54, 54, 55, 54, 56, 54, 57, 55, 48, 55, 49, 55, 50, 55, 51, 55, 52, 55, 53, 55, 54, 55, 55, 55, 56, 55, 57, 56, 48, 56, 49, 56, 50, 56, 51, 56, 52, 56, 53, 56, 54, 56, 55, 56, 56, 56, 57, 57, 48, 57, 49, 57, 50, 57, 51, 57, 52, 57, 53, 57, 54, 57, 55, 57, 56, 57, 57] (some i2) (some i3) fun s4 =>
 .ret s4) (zj Tryz.func232)
def qV (a0 : (List UInt8)) (a1 : Int) (a2 : Int) (a3 : Bool) (a4 : Bool) : Option ((List UInt8) × (List UInt8)) :=
 none
theorem Zi (a0 : (List UInt8)) (a1 : Int) (a2 : Int) (a3 : Bool) (a4 : Bool) : Oc (qV a0 a1 a2 a3 a4) 235 [] [vq za a0, .val false [.int .u64 a1], vi a2, vb a3, vb a4] fun r => (.tup [(false, [.own 1 (eL za r.1)]), (false, [.str r.2])], []) := tc (
 .no) (zj Tryz.func235)
def wy (a0 : Int) (a1 : Int) : Option (List UInt8) :=
 if a1 = 10 then
  if 0 <= a0 then
   if a0 < 100 then
    (qu a0).bind fun r4 =>
    some r4
   else
   none
  else
  none
 else
 (qV [] (IntKind.u64.wrap a0) a1 (decide (a0 < 0)) false).bind fun ⟨r2_0, r2_1⟩ =>
 some r2_1
theorem Zr (a0 : Int) (a1 : Int) : Oc (wy a0 a1) 221 [] [vi a0, vi a1] fun r => (vs r, []) := tc (
 .eI a1 10 (fun c1 =>
  .gI 0 a0 (fun c2 =>
   .lI a0 100 (fun c3 =>
    .cl (YB a0) fun r4 =>
    .ret r4) fun c3 =>
   .no) fun c2 =>
  .no) fun c1 =>
 .lD a0 0 <|
 .cl (Zi [] (IntKind.u64.wrap a0) a1 (decide (a0 < 0)) false) fun ⟨r2_0, r2_1⟩ =>
 .ret r2_1) (zj Tryz.func221)
def q5 (a0 : Int) : Option (List UInt8) :=
 (wy a0 10).bind fun r1 =>
 some r1
theorem YX (a0 : Int) : Oc (q5 a0) 201 [] [vi a0] fun r => (vs r, []) := tc (
 .cl (Zr a0 10) fun r1 =>
 .ret r1) (zj Tryz.func201)
def jq (a0 : Int) : Option (List UInt8) :=
 (q5 a0).bind fun r1 =>
 some r1
theorem VK (a0 : Int) : Oc (jq a0) 174 [] [vi a0] fun r => (vs r, []) := tc (
 .cl (YX a0) fun r1 =>
 .ret r1) (zj Tryz.func174)
def qB (a0 : (List UInt8)) : Option Bool :=
 (ZN a0 [(91 : UInt8)]).bind fun ⟨r1_0, r1_1, r1_2⟩ =>
 (wg r1_0).bind fun r2 =>
 match r2 with
 | true =>
  match r1_2 with
  | true =>
   (wT r1_1 [(93 : UInt8)]).bind fun ⟨r3_0, r3_1⟩ =>
   (qZ r3_0 [(34 : UInt8)]).bind fun ⟨r4_0, r4_1⟩ =>
   (wT r4_0 [(34 : UInt8)]).bind fun ⟨r5_0, r5_1⟩ =>
   match r4_1 with
   | true =>
    match r3_1 with
    | true =>
     match r5_1 with
     | true =>
      (wg r5_0).bind fun r6 =>
      some r6
     | false =>
      some false
    | false =>
     some false
   | false =>
    match r5_1 with
    | true =>
     match r3_1 with
     | true =>
      some false
     | false =>
      some false
    | false =>
     (ql r3_0).bind fun ⟨r6_0, r6_1⟩ =>
     match r6_1 with
     | true =>
      match r3_1 with
      | true =>
       some false
      | false =>
       some false
     | false =>
      match r3_1 with
      | true =>
       (we r6_0 0 99).bind fun r7 =>
       match r7 with
       | true =>
        (jq r6_0).bind fun r8 =>
        some (decide (r8 = r3_0))
       | false =>
        some false
      | false =>
       some false
  | false =>
   some true
 | false =>
  some false
theorem Z7 (a0 : (List UInt8)) : Oc (qB a0) 133 [] [vq za a0] fun r => (vb r, []) := tc (
 .le za [(91 : UInt8)] <|
 .q (.lTo 0 (([(91 : UInt8)].length : Nat) : Int) (by decide)) <|
 .vw yd [(91 : UInt8)] <|
 .cl (PA a0 [(91 : UInt8)]) fun ⟨r1_0, r1_1, r1_2⟩ =>
 .cl (Z6 r1_0) fun r2 =>
 .vN 0 r2 (
  .vN 0 r1_2 (
   .le za [(93 : UInt8)] <|
   .q (.lTo 0 (([(93 : UInt8)].length : Nat) : Int) (by decide)) <|
   .vw yd [(93 : UInt8)] <|
   .cl (ZX r1_1 [(93 : UInt8)]) fun ⟨r3_0, r3_1⟩ =>
   .le za [(34 : UInt8)] <|
   .q (.lTo 0 (([(34 : UInt8)].length : Nat) : Int) (by decide)) <|
   .vw yd [(34 : UInt8)] <|
   .cl (Jf r3_0 [(34 : UInt8)]) fun ⟨r4_0, r4_1⟩ =>
   .le za [(34 : UInt8)] <|
   .q (.lTo 0 (([(34 : UInt8)].length : Nat) : Int) (by decide)) <|
   .vw yd [(34 : UInt8)] <|
   .cl (ZX r4_0 [(34 : UInt8)]) fun ⟨r5_0, r5_1⟩ =>
   .vM 0 r4_1 (
    .az 0 0 <|
    .vM 1 r3_1 (
     .az 0 0 <|
     .az 0 1 <|
     .az 0 1 <|
     .vM 0 r5_1 (
      .az 0 0 <|
      .cl (Z6 r5_0) fun r6 =>
      .az 0 1 <|
      .ret r6) <|
     .az 0 0 <|
     .az 0 0 <|
     .ret false) <|
    .az 0 0 <|
    .ret false) <|
   .az 0 0 <|
   .vM 0 r5_1 (
    .vM 0 r3_1 (
     .az 0 0 <|
     .az 0 2 <|
     .az 0 2 <|
     .ret false) <|
    .az 0 0 <|
    .ret false) <|
   .bt r3_0 <|
   .ae (Rj r3_0) (fun r6_0 =>
    .vM 0 r3_1 (
     .az 0 0 <|
     .az 0 0 <|
     .ret false) <|
    .az 0 0 <|
    .az 0 0 <|
    .ret false) fun r6_0 =>
   .vM 0 r3_1 (
    .az 0 0 <|
    .az 0 0 <|
    .cl (qJ r6_0 0 99) fun r7 =>
    .vM 1 r7 (
     .az 0 0 <|
     .cl (VK r6_0) fun r8 =>
     .az 0 1 <|
     .az 0 1 <|
     .bt r3_0 <|
     .az 0 1 <|
     .sD r8 r3_0 <|
     .az 0 1 <|
     .ret (decide (r8 = r3_0))) <|
    .az 0 0 <|
    .az 0 0 <|
    .az 0 0 <|
    .az 0 0 <|
    .az 0 0 <|
    .ret false) <|
   .az 0 0 <|
   .az 0 0 <|
   .ret false) <|
  .ret true) <|
 .ret false) (zj Tryz.func133)
def yn (a0 : (List UInt8)) (a1 : (List UInt8)) : Option Int :=
 (xu a0 a1).bind fun r1 =>
 some r1
theorem wz (a0 : (List UInt8)) (a1 : (List UInt8)) : Oc (yn a0 a1) 121 [] [vq za a0, vq za a1] fun r => (vi r, []) := tc (
 .cl (Yb a0 a1) fun r1 =>
 .ret r1) (zj Tryz.func121)
def Qk (F : (List UInt8) → Option Bool) : Prop := ∀ (a0 : (List UInt8)), Oc (F a0) 236 [] [vq za a0] fun r => (vb r, [])
def w4 (a0 : (List UInt8)) (v1 : Int) : Nat → Int → Option (Bool ⊕ Int)
  | 0, _ => none
  | m + 1, v2 =>
  if v2 < v1 then
   (zy v2).bind fun i2 =>
   (a0[i2]?).bind fun x3 =>
   if ((x3.toNat : Nat) : Int) < 32 then
    some (.inl false)
   else
   if 126 < ((x3.toNat : Nat) : Int) then
    some (.inl false)
   else
   w4 a0 v1 m (w64 (v2 + 1))
  else
  some (.inr v2)
theorem JZ (a0 : (List UInt8)) (v1 : Int) (m : Nat) : ∀ (v2 : Int), Ol (w4 a0 v1 m v2) 236 (zL Tryz.f236 0) ⟨[(0, vq za a0), (5, vq za a0), (6, vi v1), (7, vi v2)], [], 0⟩ fun o => match o with | .inl o_0 => (.ret, ⟨[(2, vb o_0)], [], 0⟩) | .inr (o_1) => (.exit 0, ⟨[(0, vq za a0), (5, vq za a0), (6, vi v1), (7, vi o_1), (8, vb false)], [], 0⟩) := by
  induction m with
  | zero => intro v2 o h; cases h
  | succ m ih => exact fun v2 => tlp (
   .lI v2 v1 (fun c1 =>
    .na v2 fun i2 =>
    .ix0 za a0 i2 fun x3 =>
    .lI ((x3.toNat : Nat) : Int) 32 (fun c4 =>
     .ret (.inl false)) fun c4 =>
    .lI 126 ((x3.toNat : Nat) : Int) (fun c5 =>
     .ret (.inl false)) fun c5 =>
    .go (ih (w64 (v2 + 1)))) fun c1 =>
   .ret (.inr v2))
def Yp (n : Nat) (a0 : (List UInt8)) : Option Bool :=
 (w4 a0 (a0.length : Int) n 0).bind fun o1 =>
 match o1 with
 | .inl o1_0 =>
  some o1_0
 | .inr (o1_1) =>
  some (decide ((a0.length : Int) <= 20))
theorem Uj (n : Nat) : Qk (Yp n) := fun a0 => tc (
 .le za a0 <|
 .l2 (JZ a0 (a0.length : Int) n 0) (fun o1_0 =>
  .ret o1_0) fun o1_1 =>
 .le za a0 <|
 .gD (a0.length : Int) 20 <|
 .ret (decide ((a0.length : Int) <= 20))) (zj Tryz.func236)
theorem KI {a : List UInt8} (ha : a.length <= 2 ^ 20) : ∀ (d i m : Nat), i + d = a.length → d < m → ∃ z, w4 a (a.length : Int) m (i : Int) = some (if (a.drop i).all (inB 32 126) = true then .inr z else .inl false) := by
 intro d
 induction d with
 | zero =>
  intro i m hi hm
  obtain ⟨m, rfl, _⟩ := zf hm
  exact ⟨_, by rw [w4, if_neg (by omega), List.drop_eq_nil_of_le (by omega)]; rfl⟩
 | succ d ih =>
  intro i m hi hm
  obtain ⟨m, rfl, hm'⟩ := zf hm
  have hil : i < a.length := by omega
  rw [w4, if_pos (by omega), zc, Option.bind_some, zg hil, Option.bind_some, zC (by omega), xi hil, List.all_cons]
  by_cases h1 : ((a[i].toNat : Nat) : Int) < 32
  ·exact ⟨0, by rw [if_pos h1, if_neg]; simp [inB]; omega⟩
  ·rw [if_neg h1]
   by_cases h2 : (126 : Int) < ((a[i].toNat : Nat) : Int)
   ·exact ⟨0, by rw [if_pos h2, if_neg]; simp [inB]; omega⟩
   ·rw [if_neg h2, show inB 32 126 a[i] = true by simp [inB]; omega, Bool.true_and]
    exact ih (i + 1) m (by omega) (by omega)
def jN (a0 : (List UInt8)) : Option Bool := if a0.length <= 2 ^ 20 then some (Zo a0) else none
theorem KJ (a0 : (List UInt8)) (r : Bool) (h : jN a0 = some r) : ∃ n, Yp n a0 = some r := by
 unfold jN at h
 obtain ⟨ha, h⟩ := zM h
 refine ⟨a0.length + 1, ?_⟩
 obtain ⟨z, hz⟩ := KI ha a0.length 0 (a0.length + 1) (by omega) (by omega)
 rw [show ((0 : Nat) : Int) = 0 from rfl, List.drop_zero] at hz
 unfold Yp
 rw [<- h, hz]
 unfold Zo
 by_cases hl : a0.length <= 20
 ·rw [decide_eq_true hl]
  cases a0.all (inB 32 126)
  ·rfl
  ·show some (decide _) = _; rw [decide_eq_true (by omega)]; rfl
 ·rw [decide_eq_false hl]
  cases a0.all (inB 32 126)
  ·rfl
  ·show some (decide _) = _; rw [decide_eq_false (by omega)]; rfl
theorem Tb : Qk jN := fun a0 r h => (KJ a0 r h).elim fun n hn => Uj n a0 r hn
def wU (F : GValue → Int → Option Bool) : Prop := ∀ (a0 : GValue) (e0 : Int), Oc (F a0 e0) 237 [.var [ci e0]] [.val true (z8 a0), vp 0 0] fun r => (vb r, [.var [ci e0]])
def yt (F : (List GValue) → Int → Option Int) : Prop := ∀ (a0 : (List GValue)) (e0 : Int), Oc (F a0 e0) 224 [.var [ci e0]] [vq zd a0, .val false [.fn 237 [.ptr 0 0]]] fun r => (vi r, [.var [ci e0]])
def zQ (F : (List GValue) → Int → Option Bool) : Prop := ∀ (a0 : (List GValue)) (e0 : Int), Oc (F a0 e0) 203 [.var [ci e0]] [vq zd a0, .val false [.fn 237 [.ptr 0 0]]] fun r => (vb r, [.var [ci e0]])
def ki (F : GValue → Int → Option Bool) : Prop := ∀ (a0 : GValue) (a1 : Int), Oc (F a0 a1) 222 [] [.val true (z8 a0), vi a1] fun r => (vb r, [])
def vf (G_impl_isShaped : GValue → Int → Option Bool) (a0 : GValue) (e0 : Int) : Option Bool :=
 (G_impl_isShaped a0 (w64 (e0 - 1))).bind fun r1 =>
 some (!r1)
theorem Ka (G_impl_isShaped : GValue → Int → Option Bool) (H_impl_isShaped : ki G_impl_isShaped) : wU (vf G_impl_isShaped) := fun a0 e0 => tc (
 .cl (H_impl_isShaped a0 (w64 (e0 - 1))) fun r1 =>
 .ret (!r1)) (zj Tryz.func237)
def zF (G_impl_isShaped_1 : GValue → Int → Option Bool) (a0 : (List GValue)) (v1 : Int) (e0 : Int) : Nat → Int → Option (Int ⊕ Int)
  | 0, _ => none
  | m + 1, v2 =>
  if v2 < v1 then
   (zy v2).bind fun i2 =>
   (a0[i2]?).bind fun x3 =>
   (G_impl_isShaped_1 x3 e0).bind fun r4 =>
   match r4 with
   | true =>
    some (.inl v2)
   | false =>
    zF G_impl_isShaped_1 a0 v1 e0 m (w64 (v2 + 1))
  else
  some (.inr v2)
theorem jO (G_impl_isShaped_1 : GValue → Int → Option Bool) (H_impl_isShaped_1 : wU G_impl_isShaped_1) (a0 : (List GValue)) (v1 : Int) (e0 : Int) (m : Nat) : ∀ (v2 : Int), Ol (zF G_impl_isShaped_1 a0 v1 e0 m v2) 224 (zL Tryz.f224 0) ⟨[(0, vq zd a0), (1, .val false [.fn 237 [.ptr 0 0]]), (7, vi v1), (8, vi v2)], [.var [ci e0]], 1⟩ fun o => match o with | .inl o_0 => (.ret, ⟨[(4, vi o_0)], [.var [ci e0]], 1⟩) | .inr (o_1) => (.exit 0, ⟨[(0, vq zd a0), (1, .val false [.fn 237 [.ptr 0 0]]), (7, vi v1), (8, vi o_1), (9, vb false)], [.var [ci e0]], 1⟩) := by
  induction m with
  | zero => intro v2 o h; cases h
  | succ m ih => exact fun v2 => tlp (
   .lI v2 v1 (fun c1 =>
    .na v2 fun i2 =>
    .ix zR a0 i2 fun x3 =>
    .cl (H_impl_isShaped_1 x3 e0) fun r4 =>
    .vM 0 r4 (
     .ret (.inl v2)) <|
    .go (ih (w64 (v2 + 1)))) fun c1 =>
   .ret (.inr v2))
def yu (G_impl_isShaped_1 : GValue → Int → Option Bool) (n : Nat) (a0 : (List GValue)) (e0 : Int) : Option Int :=
 (zF G_impl_isShaped_1 a0 (a0.length : Int) e0 n 0).bind fun o1 =>
 match o1 with
 | .inl o1_0 =>
  some o1_0
 | .inr (o1_1) =>
  some (-1)
theorem kU (G_impl_isShaped_1 : GValue → Int → Option Bool) (H_impl_isShaped_1 : wU G_impl_isShaped_1) (n : Nat) : yt (yu G_impl_isShaped_1 n) := fun a0 e0 => tc (
 .le zd a0 <|
 .l2 (jO G_impl_isShaped_1 H_impl_isShaped_1 a0 (a0.length : Int) e0 n 0) (fun o1_0 =>
  .ret o1_0) fun o1_1 =>
 .ret (-1)) (zj Tryz.func224)
def yH (G_slices_IndexFunc_Value_isShaped_1 : (List GValue) → Int → Option Int) (a0 : (List GValue)) (e0 : Int) : Option Bool :=
 (G_slices_IndexFunc_Value_isShaped_1 a0 e0).bind fun r1 =>
 some (decide (0 <= r1))
theorem jS (G_slices_IndexFunc_Value_isShaped_1 : (List GValue) → Int → Option Int) (H_slices_IndexFunc_Value_isShaped_1 : yt G_slices_IndexFunc_Value_isShaped_1) : zQ (yH G_slices_IndexFunc_Value_isShaped_1) := fun a0 e0 => tc (
 .cl (H_slices_IndexFunc_Value_isShaped_1 a0 e0) fun r1 =>
 .gD 0 r1 <|
 .ret (decide (0 <= r1))) (zj Tryz.func203)
def yN (G_slices_ContainsFunc_Value_isShaped_1 : (List GValue) → Int → Option Bool) (v0 : Bool) (v1 : Bool) (v2 : (List (List UInt8))) (v3 : Int) (a0 : GValue) (a1 : Int) : Nat → Int → Option (Bool ⊕ Int)
  | 0, _ => none
  | m + 1, v4 =>
  if v4 < v3 then
   (zy v4).bind fun i2 =>
   (v2[i2]?).bind fun x3 =>
   (wg x3).bind fun r4 =>
   match r4 with
   | true =>
    if 0 < v4 then
     (zy (w64 (v4 - 1))).bind fun i6 =>
     (a0.K[i6]?).bind fun x7 =>
     (yn x7 x3).bind fun r8 =>
     if 0 <= r8 then
      some (.inl false)
     else
     yN G_slices_ContainsFunc_Value_isShaped_1 v0 v1 v2 v3 a0 a1 m (w64 (v4 + 1))
    else
    yN G_slices_ContainsFunc_Value_isShaped_1 v0 v1 v2 v3 a0 a1 m (w64 (v4 + 1))
   | false =>
    some (.inl false)
  else
  some (.inr v4)
theorem Qv (G_slices_ContainsFunc_Value_isShaped_1 : (List GValue) → Int → Option Bool) (H_slices_ContainsFunc_Value_isShaped_1 : zQ G_slices_ContainsFunc_Value_isShaped_1) (v0 : Bool) (v1 : Bool) (v2 : (List (List UInt8))) (v3 : Int) (a0 : GValue) (a1 : Int) (m : Nat) : ∀ (v4 : Int), Ol (yN G_slices_ContainsFunc_Value_isShaped_1 v0 v1 v2 v3 a0 a1 m v4) 222 (zL Tryz.f222 0) ⟨[(2, vp 0 0), (3, vp 1 0), (5, vb v0), (6, vb v1), (99, vq (zq za) v2), (100, vi v3), (101, vi v4)], [.var (z8 a0), .var [ci a1]], 0⟩ fun o => match o with | .inl o_0 => (.ret, ⟨[(4, vb o_0)], [], 0⟩) | .inr (o_1) => (.exit 1, ⟨[(2, vp 0 0), (3, vp 1 0), (5, vb v0), (6, vb v1), (99, vq (zq za) v2), (100, vi v3), (101, vi o_1), (102, vb false)], [.var (z8 a0), .var [ci a1]], 0⟩) := by
  induction m with
  | zero => intro v4 o h; cases h
  | succ m ih => exact fun v4 => tlp (
   .lI v4 v3 (fun c1 =>
    .na v4 fun i2 =>
    .ix0 (zq za) v2 i2 fun x3 =>
    .cl (Z6 x3) fun r4 =>
    .vN 0 r4 (
     .an 0 0 <|
     .lI 0 v4 (fun c5 =>
      .an 0 0 <|
      .na (w64 (v4 - 1)) fun i6 =>
      .ix0 (zq za) a0.K i6 fun x7 =>
      .cl (wz x7 x3) fun r8 =>
      .gI 0 r8 (fun c9 =>
       .an 0 3 <|
       .an 1 3 <|
       .ret (.inl false)) fun c9 =>
      .an 0 3 <|
      .an 1 3 <|
      .go (ih (w64 (v4 + 1)))) fun c5 =>
     .an 0 0 <|
     .an 9 0 <|
     .an 1 0 <|
     .go (ih (w64 (v4 + 1)))) <|
    .an 0 0 <|
    .an 0 0 <|
    .an 0 0 <|
    .an 0 0 <|
    .ret (.inl false)) fun c1 =>
   .ret (.inr v4))
def qK (G_slices_ContainsFunc_Value_isShaped_1 : (List GValue) → Int → Option Bool) (n : Nat) (a0 : GValue) (a1 : Int) : Option Bool :=
 if a1 = 0 then
  some false
 else
 if a0.Kind = 0 then
  if a0.N = 0 then
   if (a0.S.length : Int) = 0 then
    if (a0.K.length : Int) = 0 then
     some (decide ((a0.L.length : Int) = 0))
    else
    some false
   else
   some false
  else
  some false
 else
 if a0.Kind = 6 then
  if a0.N = 0 then
   if (a0.S.length : Int) = 0 then
    if (a0.K.length : Int) = 0 then
     some (decide ((a0.L.length : Int) = 0))
    else
    some false
   else
   some false
  else
  some false
 else
 if a0.Kind = 1 then
  (we a0.N 0 1).bind fun r5 =>
  match r5 with
  | true =>
   if (a0.S.length : Int) = 0 then
    if (a0.K.length : Int) = 0 then
     some (decide ((a0.L.length : Int) = 0))
    else
    some false
   else
   some false
  | false =>
   some false
 else
 if a0.Kind = 2 then
  (we a0.N (-1000000000000) 1000000000000).bind fun r6 =>
  match r6 with
  | true =>
   if (a0.S.length : Int) = 0 then
    if (a0.K.length : Int) = 0 then
     some (decide ((a0.L.length : Int) = 0))
    else
    some false
   else
   some false
  | false =>
   some false
 else
 if a0.Kind = 3 then
  (jN a0.S).bind fun r7 =>
  match r7 with
  | true =>
   if a0.N = 0 then
    if (a0.K.length : Int) = 0 then
     some (decide ((a0.L.length : Int) = 0))
    else
    some false
   else
   some false
  | false =>
   some false
 else
 if a0.Kind = 4 then
  if (a0.K.length : Int) = 0 then
   if a0.N = 0 then
    if (a0.S.length : Int) = 0 then
     if (a0.L.length : Int) <= 40 then
      (G_slices_ContainsFunc_Value_isShaped_1 a0.L a1).bind fun r12 =>
      some (!r12)
     else
     some false
    else
    some false
   else
   some false
  else
  some false
 else
 if a0.Kind = 5 then
  if (a0.K.length : Int) = (a0.L.length : Int) then
   (yN G_slices_ContainsFunc_Value_isShaped_1 (decide (a0.N = 0)) (decide ((a0.S.length : Int) = 0)) a0.K (a0.K.length : Int) a0 a1 n 0).bind fun o10 =>
   match o10 with
   | .inl o10_0 =>
    some o10_0
   | .inr (o10_1) =>
    if a0.N = 0 then
     if (a0.S.length : Int) = 0 then
      if (a0.L.length : Int) <= 40 then
       (G_slices_ContainsFunc_Value_isShaped_1 a0.L a1).bind fun r14 =>
       some (!r14)
      else
      some false
     else
     some false
    else
    some false
  else
  some false
 else
 some false
theorem VL (G_slices_ContainsFunc_Value_isShaped_1 : (List GValue) → Int → Option Bool) (H_slices_ContainsFunc_Value_isShaped_1 : zQ G_slices_ContainsFunc_Value_isShaped_1) (n : Nat) : ki (qK G_slices_ContainsFunc_Value_isShaped_1 n) := fun a0 a1 => tc (
 .eI a1 0 (fun c1 =>
  .ret false) fun c1 =>
 .eD a0.N 0 <|
 .le za a0.S <|
 .eD (a0.S.length : Int) 0 <|
 .le (zq za) a0.K <|
 .eD (a0.K.length : Int) 0 <|
 .le zd a0.L <|
 .eD (a0.L.length : Int) 0 <|
 .eI a0.Kind 0 (fun c2 =>
  .cI 2 (a0.N = 0) (fun c3 =>
   .kT 0 (dT c3) <|
   .cI 0 ((a0.S.length : Int) = 0) (fun c4 =>
    .kT 0 (dT c4) <|
    .cI 0 ((a0.K.length : Int) = 0) (fun c5 =>
     .kT 0 (dT c5) <|
     .ret (decide ((a0.L.length : Int) = 0))) fun c5 =>
    .kF 0 (dF c5) <|
    .ret false) fun c4 =>
   .kF 0 (dF c4) <|
   .ret false) fun c3 =>
  .kF 0 (dF c3) <|
  .ret false) fun c2 =>
 .eI a0.Kind 6 (fun c3 =>
  .cI 1 (a0.N = 0) (fun c4 =>
   .kT 0 (dT c4) <|
   .cI 0 ((a0.S.length : Int) = 0) (fun c5 =>
    .kT 0 (dT c5) <|
    .cI 0 ((a0.K.length : Int) = 0) (fun c6 =>
     .kT 0 (dT c6) <|
     .ret (decide ((a0.L.length : Int) = 0))) fun c6 =>
    .kF 0 (dF c6) <|
    .ret false) fun c5 =>
   .kF 0 (dF c5) <|
   .ret false) fun c4 =>
  .kF 0 (dF c4) <|
  .ret false) fun c3 =>
 .eI a0.Kind 1 (fun c4 =>
  .cl (qJ a0.N 0 1) fun r5 =>
  .vM 0 r5 (
   .az 0 0 <|
   .cI 0 ((a0.S.length : Int) = 0) (fun c6 =>
    .kT 0 (dT c6) <|
    .cI 0 ((a0.K.length : Int) = 0) (fun c7 =>
     .kT 0 (dT c7) <|
     .ret (decide ((a0.L.length : Int) = 0))) fun c7 =>
    .kF 0 (dF c7) <|
    .ret false) fun c6 =>
   .kF 0 (dF c6) <|
   .ret false) <|
  .az 0 0 <|
  .ret false) fun c4 =>
 .eI a0.Kind 2 (fun c5 =>
  .cl (qJ a0.N (-1000000000000) 1000000000000) fun r6 =>
  .vM 0 r6 (
   .az 0 0 <|
   .cI 0 ((a0.S.length : Int) = 0) (fun c7 =>
    .kT 0 (dT c7) <|
    .cI 0 ((a0.K.length : Int) = 0) (fun c8 =>
     .kT 0 (dT c8) <|
     .ret (decide ((a0.L.length : Int) = 0))) fun c8 =>
    .kF 0 (dF c8) <|
    .ret false) fun c7 =>
   .kF 0 (dF c7) <|
   .ret false) <|
  .az 0 0 <|
  .ret false) fun c5 =>
 .eI a0.Kind 3 (fun c6 =>
  .cl (Tb a0.S) fun r7 =>
  .vM 0 r7 (
   .az 0 0 <|
   .cI 0 (a0.N = 0) (fun c8 =>
    .kT 0 (dT c8) <|
    .cI 0 ((a0.K.length : Int) = 0) (fun c9 =>
     .kT 0 (dT c9) <|
     .ret (decide ((a0.L.length : Int) = 0))) fun c9 =>
    .kF 0 (dF c9) <|
    .ret false) fun c8 =>
   .kF 0 (dF c8) <|
   .ret false) <|
  .az 0 0 <|
  .ret false) fun c6 =>
 .eI a0.Kind 4 (fun c7 =>
  .cN 1 ((a0.K.length : Int) = 0) (fun c8 =>
   .cI 0 (a0.N = 0) (fun c9 =>
    .kT 0 (dT c9) <|
    .cI 0 ((a0.S.length : Int) = 0) (fun c10 =>
     .kT 0 (dT c10) <|
     .kT 0 (dT c10) <|
     .le zd a0.L <|
     .kT 0 (dT c10) <|
     .gI (a0.L.length : Int) 40 (fun c11 =>
      .kT 0 (dT c10) <|
      .cl (H_slices_ContainsFunc_Value_isShaped_1 a0.L a1) fun r12 =>
      .ret (!r12)) fun c11 =>
     .kT 0 (dT c10) <|
     .ret false) fun c10 =>
    .kF 0 (dF c10) <|
    .kF 0 (dF c10) <|
    .kF 0 (dF c10) <|
    .kF 0 (dF c10) <|
    .ret false) fun c9 =>
   .kF 0 (dF c9) <|
   .ret false) fun c8 =>
  .ret false) fun c7 =>
 .eI a0.Kind 5 (fun c8 =>
  .le (zq za) a0.K <|
  .le zd a0.L <|
  .eI (a0.K.length : Int) (a0.L.length : Int) (fun c9 =>
   .le (zq za) a0.K <|
   .l2 (Qv G_slices_ContainsFunc_Value_isShaped_1 H_slices_ContainsFunc_Value_isShaped_1 (decide (a0.N = 0)) (decide ((a0.S.length : Int) = 0)) a0.K (a0.K.length : Int) a0 a1 n 0) (fun o10_0 =>
    .ret o10_0) fun o10_1 =>
   .cI 0 (a0.N = 0) (fun c11 =>
    .kT 0 (dT c11) <|
    .cI 0 ((a0.S.length : Int) = 0) (fun c12 =>
     .kT 0 (dT c12) <|
     .kT 0 (dT c12) <|
     .le zd a0.L <|
     .kT 0 (dT c12) <|
     .gI (a0.L.length : Int) 40 (fun c13 =>
      .kT 0 (dT c12) <|
      .cl (H_slices_ContainsFunc_Value_isShaped_1 a0.L a1) fun r14 =>
      .ret (!r14)) fun c13 =>
     .kT 0 (dT c12) <|
     .ret false) fun c12 =>
    .kF 0 (dF c12) <|
    .kF 0 (dF c12) <|
    .kF 0 (dF c12) <|
    .kF 0 (dF c12) <|
    .ret false) fun c11 =>
   .kF 0 (dF c11) <|
   .ret false) fun c9 =>
  .ret false) fun c8 =>
 .ret false) (zj Tryz.func222)
mutual
def yG : Nat → GValue → Int → Option Bool
 | 0, _, _ => none
 | n + 1, a0, e0 => vf (xn n) a0 e0
def zD : Nat → (List GValue) → Int → Option Int
 | 0, _, _ => none
 | n + 1, a0, e0 => yu (yG n) n a0 e0
def z6 : Nat → (List GValue) → Int → Option Bool
 | 0, _, _ => none
 | n + 1, a0, e0 => yH (zD n) a0 e0
def xn : Nat → GValue → Int → Option Bool
 | 0, _, _ => none
 | n + 1, a0, a1 => qK (z6 n) n a0 a1
end
theorem qz (n : Nat) : wU (yG n) ∧ yt (zD n) ∧ zQ (z6 n) ∧ ki (xn n) := by
 induction n with
 | zero => exact ⟨fun _ _ _ h => (by rw [yG] at h; cases h), fun _ _ _ h => (by rw [zD] at h; cases h), fun _ _ _ h => (by rw [z6] at h; cases h), fun _ _ _ h => (by rw [xn] at h; cases h)⟩
 | succ n ih =>
  obtain ⟨ih_impl_isShaped_1, ih_slices_IndexFunc_Value_isShaped_1, ih_slices_ContainsFunc_Value_isShaped_1, ih_impl_isShaped⟩ := ih
  exact ⟨fun a0 e0 r h => Ka (xn n) ih_impl_isShaped a0 e0 r (by rw [yG] at h; exact h),
   fun a0 e0 r h => kU (yG n) ih_impl_isShaped_1 n a0 e0 r (by rw [zD] at h; exact h),
   fun a0 e0 r h => jS (zD n) ih_slices_IndexFunc_Value_isShaped_1 a0 e0 r (by rw [z6] at h; exact h),
   fun a0 a1 r h => VL (z6 n) ih_slices_ContainsFunc_Value_isShaped_1 n a0 a1 r (by rw [xn] at h; exact h)⟩
theorem E8 (a b : List UInt8) : yn a b = some (Lib.compareBytes a b) := rfl
theorem Na {a : List UInt8} (h : a.length <= 2 ^ 20) : wg a = some (qf a) := if_pos h
theorem Nb {a : List UInt8} (h : a.length <= 2 ^ 20) : jN a = some (Zo a) := if_pos h
theorem jT {G : GValue → Int → Option Bool} {a : List GValue} {f : Nat} {e : Int} {p : GValue → Bool} (ha : a.length <= 2 ^ 20) (hf : a.length < f) (hG : ∀ x ∈ a, G x e = some (!p x)) : ∃ r : Int, yu G f a e = some r ∧ decide (0 <= r) = !(a.all p) := by
 have loop : ∀ (d i m : Nat), i + d = a.length → d < m → ∃ (q : Nat) (z : Int), zF G a (a.length : Int) e m (i : Int) = some (if (a.drop i).all p = true then .inr z else .inl (q : Int)) := by
  intro d
  induction d with
  | zero =>
   intro i m hi hm
   obtain ⟨m, rfl, _⟩ := zf hm
   exact ⟨0, _, by rw [zF, if_neg (by omega), List.drop_eq_nil_of_le (by omega)]; rfl⟩
  | succ d ih =>
   intro i m hi hm
   obtain ⟨m, rfl, hm'⟩ := zf hm
   have hil : i < a.length := by omega
   rw [zF, if_pos (by omega), zc, Option.bind_some, zg hil, Option.bind_some, hG _ (List.getElem_mem hil), Option.bind_some, zC (by omega), xi hil, List.all_cons]
   cases hp : p a[i] with
   | false => exact ⟨i, 0, rfl⟩
   | true =>
    obtain ⟨q, z, hz⟩ := ih (i + 1) m (by omega) (by omega)
    exact ⟨q, z, by rw [Bool.true_and]; exact hz⟩
 obtain ⟨q, z, hz⟩ := loop a.length 0 f (by omega) (by omega)
 rw [show ((0 : Nat) : Int) = 0 from rfl, List.drop_zero] at hz
 unfold yu
 rw [hz, Option.bind_some]
 cases hp : a.all p with
 | true => exact ⟨-1, rfl, rfl⟩
 | false => exact ⟨(q : Int), rfl, by simp⟩
theorem Uk {G : List GValue → Int → Option Bool} {v : GValue} {v0 v1 : Bool} {a1 : Int} (hs : vsz v <= 2 ^ 20) : ∀ (d i m : Nat), i + d = v.K.length → d < m → ∃ z, yN G v0 v1 v.K (v.K.length : Int) v a1 m (i : Int) = some (if q7 v.K i d = true then .inr z else .inl false) := by
 have he := qa v
 have hl := wQ v.K
 intro d
 induction d with
 | zero =>
  intro i m hi hm
  obtain ⟨m, rfl, _⟩ := zf hm
  exact ⟨_, by rw [yN, if_neg (by omega)]; rfl⟩
 | succ d ih =>
  intro i m hi hm
  obtain ⟨m, rfl, hm'⟩ := zf hm
  have hil : i < v.K.length := by omega
  have hx := ZB (List.getElem_mem hil)
  rw [yN, if_pos (by omega), zc, Option.bind_some, zg hil, Option.bind_some, Na (by omega), Option.bind_some, zC (by omega), XJ]
  obtain ⟨z, hz⟩ := ih (i + 1) m (by omega) (by omega)
  cases hnm : qf v.K[i] with
  | false =>
   refine ⟨0, ?_⟩
   have : kOk v.K i = false := by
    by_cases h0 : i = 0
    ·subst h0; rw [WU hil, hnm]
    ·rw [Xi hil (by omega), hnm]; rfl
   rw [this]; rfl
  | true =>
   dsimp only
   by_cases h0 : 0 < i
   ·rw [if_pos (by omega), qS (by omega) h0, zc, Option.bind_some, zg (show i - 1 < v.K.length by omega), Option.bind_some, E8, Option.bind_some]
    by_cases hb : Op.bytesLess (v.K[i - 1]'(by omega)) v.K[i] = true
    ·rw [if_neg (by rw [ZC]; exact fun h => h hb), Xi hil h0, hnm, hb]
     exact ⟨z, hz⟩
    ·rw [if_pos (by rw [ZC]; exact hb), Xi hil h0, hnm, show Op.bytesLess (v.K[i - 1]'(by omega)) v.K[i] = false by simpa using hb]
     exact ⟨0, rfl⟩
   ·have : i = 0 := by omega
    subst this
    rw [if_neg (by omega), WU hil, hnm]
    exact ⟨z, hz⟩
theorem LM {G : List GValue → Int → Option Bool} {v : GValue} {f d : Nat} (hs : vsz v <= 2 ^ 20) (hf : v.K.length < f) (hd : 0 < d) (hG : G v.L (d : Int) = some (!(v.L.all (shV (d - 1))))) : qK G f v (d : Int) = some (shV d v) := by
 obtain ⟨e, rfl⟩ : ∃ e, d = e + 1 := ⟨d - 1, by omega⟩
 have he := qa v
 have hl := yR v.L
 have hb := wQ v.K
 rw [show e + 1 - 1 = e by omega] at hG
 unfold qK
 rw [if_neg (by omega)]
 simp only [shV]
 have nil : v.L.length = 0 → v.L.all (shV e) = true := fun h => by rw [List.eq_nil_of_length_eq_zero h]; rfl
 have c0 : ∀ n : Nat, (((n : Nat) : Int) = 0) = (n = 0) := fun n => by simp
 simp only [c0]
 have leaf : ∀ {b : Bool}, yq v = (b && decide (v.L.length = 0)) → b = true → some (decide (v.L.length = 0)) = some (yq v && v.L.all (shV e)) := fun h hb' => by
  rw [h, hb', Bool.true_and]
  by_cases hz : v.L.length = 0
  ·rw [decide_eq_true hz, nil hz]; rfl
  ·rw [decide_eq_false hz]; rfl
 have no : yq v = false → some false = some (yq v && v.L.all (shV e)) := fun h => by rw [h]; rfl
 have four : ∀ {p : Prop} [Decidable p], yq v = decide (p ∧ v.S.length = 0 ∧ v.K.length = 0 ∧ v.L.length = 0) → p → (if v.S.length = 0 then if v.K.length = 0 then some (decide (v.L.length = 0)) else some false else some false) = some (yq v && v.L.all (shV e)) := fun h hp => by
  by_cases h1 : v.S.length = 0
  ·rw [if_pos h1]
   by_cases h2 : v.K.length = 0
   ·rw [if_pos h2]
    exact leaf (b := true) (by rw [h]; simp [hp, h1, h2]) rfl
   ·rw [if_neg h2]; exact no (by rw [h, decide_eq_false (fun h => h2 h.2.2.1)])
  ·rw [if_neg h1]; exact no (by rw [h, decide_eq_false (fun h => h1 h.2.1)])
 by_cases k0 : v.Kind = 0
 ·rw [if_pos k0]
  have hv : yq v = decide (v.N = 0 ∧ v.S.length = 0 ∧ v.K.length = 0 ∧ v.L.length = 0) := by unfold yq; rw [if_pos (.inl k0)]
  by_cases a1 : v.N = 0
  ·rw [if_pos a1]; exact four hv a1
  ·rw [if_neg a1]; exact no (by rw [hv, decide_eq_false (fun h => a1 h.1)])
 rw [if_neg k0]
 by_cases k6 : v.Kind = 6
 ·rw [if_pos k6]
  have hv : yq v = decide (v.N = 0 ∧ v.S.length = 0 ∧ v.K.length = 0 ∧ v.L.length = 0) := by unfold yq; rw [if_pos (.inr k6)]
  by_cases a1 : v.N = 0
  ·rw [if_pos a1]; exact four hv a1
  ·rw [if_neg a1]; exact no (by rw [hv, decide_eq_false (fun h => a1 h.1)])
 rw [if_neg k6]
 have n06 : ¬ (v.Kind = 0 ∨ v.Kind = 6) := by omega
 by_cases k1 : v.Kind = 1
 ·rw [if_pos k1, XD, Option.bind_some]
  have hv : yq v = decide ((0 <= v.N ∧ v.N <= 1) ∧ v.S.length = 0 ∧ v.K.length = 0 ∧ v.L.length = 0) := by unfold yq; rw [if_neg n06, if_pos k1]
  by_cases a1 : 0 <= v.N ∧ v.N <= 1
  ·rw [decide_eq_true a1]; exact four hv a1
  ·rw [decide_eq_false a1]; exact no (by rw [hv, decide_eq_false (fun h => a1 h.1)])
 rw [if_neg k1]
 by_cases k2 : v.Kind = 2
 ·rw [if_pos k2, XD, Option.bind_some]
  have hv : yq v = decide ((-1000000000000 <= v.N ∧ v.N <= 1000000000000) ∧ v.S.length = 0 ∧ v.K.length = 0 ∧ v.L.length = 0) := by unfold yq; rw [if_neg n06, if_neg k1, if_pos k2]
  by_cases a1 : -1000000000000 <= v.N ∧ v.N <= 1000000000000
  ·rw [decide_eq_true a1]; exact four hv a1
  ·rw [decide_eq_false a1]; exact no (by rw [hv, decide_eq_false (fun h => a1 h.1)])
 rw [if_neg k2]
 by_cases k3 : v.Kind = 3
 ·rw [if_pos k3, Nb (by omega), Option.bind_some]
  have hv : yq v = (Zo v.S && decide (v.N = 0 ∧ v.K.length = 0 ∧ v.L.length = 0)) := by unfold yq; rw [if_neg n06, if_neg k1, if_neg k2, if_pos k3]
  cases ht : Zo v.S with
  | false => exact no (by rw [hv, ht]; rfl)
  | true =>
   rw [ht, Bool.true_and] at hv
   dsimp only
   by_cases a1 : v.N = 0
   ·rw [if_pos a1]
    by_cases a2 : v.K.length = 0
    ·rw [if_pos a2]; exact leaf (b := true) (by rw [hv]; simp [a1, a2]) rfl
    ·rw [if_neg a2]; exact no (by rw [hv, decide_eq_false (fun h => a2 h.2.1)])
   ·rw [if_neg a1]; exact no (by rw [hv, decide_eq_false (fun h => a1 h.1)])
 rw [if_neg k3]
 have ends : ∀ {b : Bool}, yq v = (b && decide (v.L.length <= 40)) → b = true → (if (v.L.length : Int) <= 40 then (G v.L ((e + 1 : Nat) : Int)).bind fun r12 => some (!r12) else some false) = some (yq v && v.L.all (shV e)) := fun h hb' => by
  by_cases h4 : v.L.length <= 40
  ·rw [if_pos (by omega), hG, Option.bind_some, h, hb', decide_eq_true h4, Bool.not_not]; rfl
  ·rw [if_neg (by omega)]; exact no (by rw [h, decide_eq_false h4, Bool.and_false])
 by_cases k4 : v.Kind = 4
 ·rw [if_pos k4]
  have hv : yq v = decide (v.N = 0 ∧ v.S.length = 0 ∧ v.K.length = 0 ∧ v.L.length <= 40) := by unfold yq; rw [if_neg n06, if_neg k1, if_neg k2, if_neg k3, if_pos k4]
  by_cases a1 : v.K.length = 0
  ·rw [if_pos a1]
   by_cases a2 : v.N = 0
   ·rw [if_pos a2]
    by_cases a3 : v.S.length = 0
    ·rw [if_pos a3]; exact ends (b := true) (by rw [hv]; simp [a1, a2, a3]) rfl
    ·rw [if_neg a3]; exact no (by rw [hv, decide_eq_false (fun h => a3 h.2.1)])
   ·rw [if_neg a2]; exact no (by rw [hv, decide_eq_false (fun h => a2 h.1)])
  ·rw [if_neg a1]; exact no (by rw [hv, decide_eq_false (fun h => a1 h.2.2.1)])
 rw [if_neg k4]
 by_cases k5 : v.Kind = 5
 ·rw [if_pos k5]
  have hv : yq v = (decide (v.K.length = v.L.length ∧ v.N = 0 ∧ v.S.length = 0 ∧ v.L.length <= 40) && q7 v.K 0 v.K.length) := by unfold yq; rw [if_neg n06, if_neg k1, if_neg k2, if_neg k3, if_neg k4, if_pos k5]
  by_cases a1 : (v.K.length : Int) = (v.L.length : Int)
  ·rw [if_pos a1]
   have keys := fun (v0 v1 : Bool) => Uk (G := G) (v0 := v0) (v1 := v1) (a1 := ((e + 1 : Nat) : Int)) hs v.K.length 0 f (by omega) (by omega)
   simp only [show ((0 : Nat) : Int) = 0 from rfl] at keys
   obtain ⟨z, hz⟩ := keys (decide (v.N = 0)) (decide (v.S.length = 0))
   rw [hz, Option.bind_some]
   cases hk : q7 v.K 0 v.K.length with
   | false => exact no (by rw [hv, hk, Bool.and_false])
   | true =>
    rw [if_pos rfl]
    dsimp only
    by_cases a2 : v.N = 0
    ·rw [if_pos a2]
     by_cases a3 : v.S.length = 0
     ·rw [if_pos a3]
      exact ends (b := true) (by rw [hv, hk]; simp [a2, a3, show v.K.length = v.L.length by omega]) rfl
     ·rw [if_neg a3]
      exact no (by rw [hv, decide_eq_false (fun h => a3 h.2.2.1)]; rfl)
    ·rw [if_neg a2]
     exact no (by rw [hv, decide_eq_false (fun h => a2 h.2.1)]; rfl)
  ·rw [if_neg a1]; exact no (by rw [hv, decide_eq_false (fun h => a1 (by omega))]; rfl)
 rw [if_neg k5]
 exact no (by unfold yq; simp only [k0, k1, k2, k3, k4, k5, k6, or_self, if_false])
theorem LN : ∀ (N : Nat) (v : GValue), vsz v < N → vsz v <= 2 ^ 20 → ∀ (f d : Nat), 4 * vsz v + 6 <= f → d <= 2 ^ 20 → xn f v (d : Int) = some (shV d v) := by
 intro N
 induction N with
 | zero => intro v hv; omega
 | succ N ih =>
  intro v hv hs f d hf hd
  have he := qa v
  have hl := yR v.L
  have hb := wQ v.K
  obtain ⟨f, rfl, _⟩ := zf (show 0 < f by omega)
  rw [xn]
  by_cases h0 : d = 0
  ·subst h0; unfold qK; rw [if_pos (show ((0 : Nat) : Int) = 0 from rfl)]; rfl
  refine LM hs (by omega) (by omega) ?_
  obtain ⟨f, rfl, _⟩ := zf (show 0 < f by omega)
  obtain ⟨f, rfl, _⟩ := zf (show 0 < f by omega)
  obtain ⟨f, rfl, _⟩ := zf (show 0 < f by omega)
  rw [z6]
  unfold yH
  rw [zD]
  obtain ⟨r, hr, hr2⟩ := jT (G := yG (f + 1)) (a := v.L) (f := f + 1) (e := (d : Int)) (p := shV (d - 1)) (by omega) (by omega) fun x hx => by
   have := w6 hx
   rw [yG]
   unfold vf
   rw [qS (by omega) (by omega), ih x (by omega) (by omega) f (d - 1) (by omega) (by omega)]
   rfl
  rw [hr, Option.bind_some, hr2]
def Yw (a0 : GValue) (e0 : Int) : Option Bool := none
theorem WI (a0 : GValue) (e0 : Int) (r : Bool) (h : Yw a0 e0 = some r) : ∃ n, yG n a0 e0 = some r := by cases h
def wL (a0 : (List GValue)) (e0 : Int) : Option Int := none
theorem jU (a0 : (List GValue)) (e0 : Int) (r : Int) (h : wL a0 e0 = some r) : ∃ n, zD n a0 e0 = some r := by cases h
def wl (a0 : (List GValue)) (e0 : Int) : Option Bool := none
theorem j3 (a0 : (List GValue)) (e0 : Int) (r : Bool) (h : wl a0 e0 = some r) : ∃ n, z6 n a0 e0 = some r := by cases h
def wM (a0 : GValue) (a1 : Int) : Option Bool := if vsz a0 <= 2 ^ 20 ∧ 0 <= a1 ∧ a1 <= 2 ^ 20 then some (shV a1.toNat a0) else none
theorem Jg (a0 : GValue) (a1 : Int) (r : Bool) (h : wM a0 a1 = some r) : ∃ n, xn n a0 a1 = some r := by
 unfold wM at h
 obtain ⟨⟨hs, h0, h1⟩, h⟩ := zM h
 refine ⟨4 * vsz a0 + 6, ?_⟩
 have := LN _ a0 (Nat.lt_succ_self _) hs _ a1.toNat (Nat.le_refl _) (by omega)
 rw [show ((a1.toNat : Nat) : Int) = a1 by omega] at this
 rw [this]; exact h
theorem Nc : wU Yw := by
 intro a0 e0 r h
 obtain ⟨n, hn⟩ := WI a0 e0 r h
 exact (qz n).1 a0 e0 r hn
theorem Jh : yt wL := by
 intro a0 e0 r h
 obtain ⟨n, hn⟩ := jU a0 e0 r h
 exact (qz n).2.1 a0 e0 r hn
theorem Ql : zQ wl := by
 intro a0 e0 r h
 obtain ⟨n, hn⟩ := j3 a0 e0 r h
 exact (qz n).2.2.1 a0 e0 r hn
theorem KK : ki wM := by
 intro a0 a1 r h
 obtain ⟨n, hn⟩ := Jg a0 a1 r h
 exact (qz n).2.2.2 a0 a1 r hn
def wH (F : GValue → Option Int) : Prop := ∀ (a0 : GValue), Oc (F a0) 223 [] [.val true (z8 a0)] fun r => (vi r, [])
def yL (G_impl_Value_parts : GValue → Option Int) (v1 : (List GValue)) (v2 : Int) : Nat → Int → Int → Option (Int × Int)
  | 0, _, _ => none
  | m + 1, v0, v3 =>
  if v3 < v2 then
   (zy v3).bind fun i2 =>
   (v1[i2]?).bind fun x3 =>
   (G_impl_Value_parts x3).bind fun r4 =>
   yL G_impl_Value_parts v1 v2 m (w64 (v0 + r4)) (w64 (v3 + 1))
  else
  some (v0, v3)
theorem XP (G_impl_Value_parts : GValue → Option Int) (H_impl_Value_parts : wH G_impl_Value_parts) (v1 : (List GValue)) (v2 : Int) (m : Nat) : ∀ (v0 : Int) (v3 : Int), Ol (yL G_impl_Value_parts v1 v2 m v0 v3) 223 (zL Tryz.f223 0) ⟨[(3, vi v0), (7, vq zd v1), (8, vi v2), (9, vi v3)], [], 0⟩ fun o => match o with | ⟨o_0, o_1⟩ => (.exit 0, ⟨[(3, vi o_0), (7, vq zd v1), (8, vi v2), (9, vi o_1), (10, vb false)], [], 0⟩) := by
  induction m with
  | zero => intro v0 v3 o h; cases h
  | succ m ih => exact fun v0 v3 => tlp (
   .lI v3 v2 (fun c1 =>
    .na v3 fun i2 =>
    .ix zR v1 i2 fun x3 =>
    .cl (H_impl_Value_parts x3) fun r4 =>
    .go (ih (w64 (v0 + r4)) (w64 (v3 + 1)))) fun c1 =>
   .ret (v0, v3))
def qL (G_impl_Value_parts : GValue → Option Int) (n : Nat) (a0 : GValue) : Option Int :=
 (yL G_impl_Value_parts a0.L (a0.L.length : Int) n 1 0).bind fun ⟨o1_0, o1_1⟩ =>
 some o1_0
theorem Ji (G_impl_Value_parts : GValue → Option Int) (H_impl_Value_parts : wH G_impl_Value_parts) (n : Nat) : wH (qL G_impl_Value_parts n) := fun a0 => tc (
 .le zd a0.L <|
 .lp (XP G_impl_Value_parts H_impl_Value_parts a0.L (a0.L.length : Int) n 1 0) fun ⟨o1_0, o1_1⟩ =>
 .ret o1_0) (zj Tryz.func223)
def y7 : Nat → GValue → Option Int
 | 0, _ => none
 | n + 1, a0 => qL (y7 n) n a0
theorem WJ (n : Nat) : wH (y7 n) := by
 induction n with
 | zero => exact fun _ _ h => (by rw [y7] at h; cases h)
 | succ n ih =>
  have ih_impl_Value_parts := ih
  exact fun a0 r h => Ji (y7 n) ih_impl_Value_parts n a0 r (by rw [y7] at h; exact h)
theorem Jj {G : GValue → Option Int} {v : GValue} {f : Nat} (hs : vsz v <= 2 ^ 20) (hf : v.L.length < f) (hG : ∀ x ∈ v.L, G x = some (((ptV x) : Nat) : Int)) : qL G f v = some (((ptV v) : Nat) : Int) := by
 have he := qa v
 have hl := yR v.L
 have loop : ∀ (d i m : Nat) (r : Int), i + d = v.L.length → d < m → 0 <= r → r <= 2 ^ 21 - xS (v.L.drop i) → ∃ z, yL G v.L (v.L.length : Int) m r (i : Int) = some (r + xS (v.L.drop i), z) := by
  intro d
  induction d with
  | zero =>
   intro i m r hi hm h0 h1
   obtain ⟨m, rfl, _⟩ := zf hm
   exact ⟨_, by rw [yL, if_neg (by omega), List.drop_eq_nil_of_le (by omega)]; simp [xS]; rfl⟩
  | succ d ih =>
   intro i m r hi hm h0 h1
   obtain ⟨m, rfl, hm'⟩ := zf hm
   have hil : i < v.L.length := by omega
   have hp : xS (v.L.drop i) = ptV v.L[i] + xS (v.L.drop (i + 1)) := by rw [xi hil]; simp only [xS]
   rw [hp] at h1 ⊢
   rw [yL, if_pos (by omega), zc, Option.bind_some, zg hil, Option.bind_some, hG _ (List.getElem_mem hil), Option.bind_some, zC (by omega), xt (by omega) (by omega)]
   obtain ⟨z, hz⟩ := ih (i + 1) m (r + ptV v.L[i]) (by omega) (by omega) (by omega) (by omega)
   exact ⟨z, by rw [hz]; congr 2; omega⟩
 have hle := Tj v.L
 obtain ⟨z, hz⟩ := loop v.L.length 0 f 1 (by omega) (by omega) (by omega) (by rw [List.drop_zero]; omega)
 rw [show ((0 : Nat) : Int) = 0 from rfl, List.drop_zero] at hz
 unfold qL
 rw [hz, PR]
 simp only [Option.bind_some]
 congr 1
theorem Jk : ∀ (N : Nat) (v : GValue), vsz v < N → vsz v <= 2 ^ 20 → ∀ f : Nat, vsz v + 2 <= f → y7 f v = some (((ptV v) : Nat) : Int) := by
 intro N
 induction N with
 | zero => intro v hv; omega
 | succ N ih =>
  intro v hv hs f hf
  obtain ⟨f, rfl, _⟩ := zf (show 0 < f by omega)
  have he := qa v
  have hl := yR v.L
  rw [y7]
  refine Jj hs (by omega) fun x hx => ?_
  have := w6 hx
  exact ih x (by omega) (by omega) f (by omega)
def xF (a0 : GValue) : Option Int := if vsz a0 <= 2 ^ 20 then some (((ptV a0) : Nat) : Int) else none
theorem Wd (a0 : GValue) (r : Int) (h : xF a0 = some r) : ∃ n, y7 n a0 = some r := by
 unfold xF at h
 obtain ⟨ha, h⟩ := zM h
 exact ⟨vsz a0 + 2, by rw [<- h]; exact Jk _ a0 (Nat.lt_succ_self _) ha _ (Nat.le_refl _)⟩
theorem Qw : wH xF := by
 intro a0 r h
 obtain ⟨n, hn⟩ := Wd a0 r h
 exact (WJ n) a0 r hn
def qi (a0 : GValue) : Option Bool :=
 (wM a0 5).bind fun r1 =>
 match r1 with
 | true =>
  (xF a0).bind fun r2 =>
  some (decide (r2 <= 40))
 | false =>
  some false
theorem VM (a0 : GValue) : Oc (qi a0) 202 [] [.val true (z8 a0)] fun r => (vb r, []) := tc (
 .cl (KK a0 5) fun r1 =>
 .vM 0 r1 (
  .az 0 0 <|
  .cl (Qw a0) fun r2 =>
  .az 0 1 <|
  .gD r2 40 <|
  .az 0 1 <|
  .ret (decide (r2 <= 40))) <|
 .az 0 0 <|
 .az 0 0 <|
 .az 0 0 <|
 .ret false) (zj Tryz.func202)
def YY (a0 : GValue) : Option Bool :=
 if a0.Kind = 5 then
  (qi a0).bind fun r2 =>
  some r2
 else
 some false
theorem Ul (a0 : GValue) : Oc (YY a0) 175 [] [.val true (z8 a0)] fun r => (vb r, []) := tc (
 .eI a0.Kind 5 (fun c1 =>
  .cl (VM a0) fun r2 =>
  .ret r2) fun c1 =>
 .ret false) (zj Tryz.func175)
def xP (F : GValue → Option Bool) : Prop := ∀ (a0 : GValue), Oc (F a0) 204 [] [.val true (z8 a0)] fun r => (vb r, [])
def yf (F : (List GValue) → Option Int) : Prop := ∀ (a0 : (List GValue)), Oc (F a0) 224 [] [vq zd a0, .val false [.fn 204 []]] fun r => (vi r, [])
def yb (F : (List GValue) → Option Bool) : Prop := ∀ (a0 : (List GValue)), Oc (F a0) 203 [] [vq zd a0, .val false [.fn 204 []]] fun r => (vb r, [])
def qM (F : GValue → Option Bool) : Prop := ∀ (a0 : GValue), Oc (F a0) 176 [] [.val true (z8 a0)] fun r => (vb r, [])
def jF (G_impl_Value_known : GValue → Option Bool) (a0 : GValue) : Option Bool :=
 (G_impl_Value_known a0).bind fun r1 =>
 some (!r1)
theorem WK (G_impl_Value_known : GValue → Option Bool) (H_impl_Value_known : qM G_impl_Value_known) : xP (jF G_impl_Value_known) := fun a0 => tc (
 .cl (H_impl_Value_known a0) fun r1 =>
 .ret (!r1)) (zj Tryz.func204)
def zA (G_impl_Value_known_1 : GValue → Option Bool) (a0 : (List GValue)) (v1 : Int) : Nat → Int → Option (Int ⊕ Int)
  | 0, _ => none
  | m + 1, v2 =>
  if v2 < v1 then
   (zy v2).bind fun i2 =>
   (a0[i2]?).bind fun x3 =>
   (G_impl_Value_known_1 x3).bind fun r4 =>
   match r4 with
   | true =>
    some (.inl v2)
   | false =>
    zA G_impl_Value_known_1 a0 v1 m (w64 (v2 + 1))
  else
  some (.inr v2)
theorem jr (G_impl_Value_known_1 : GValue → Option Bool) (H_impl_Value_known_1 : xP G_impl_Value_known_1) (a0 : (List GValue)) (v1 : Int) (m : Nat) : ∀ (v2 : Int), Ol (zA G_impl_Value_known_1 a0 v1 m v2) 224 (zL Tryz.f224 0) ⟨[(0, vq zd a0), (1, .val false [.fn 204 []]), (7, vi v1), (8, vi v2)], [], 0⟩ fun o => match o with | .inl o_0 => (.ret, ⟨[(4, vi o_0)], [], 0⟩) | .inr (o_1) => (.exit 0, ⟨[(0, vq zd a0), (1, .val false [.fn 204 []]), (7, vi v1), (8, vi o_1), (9, vb false)], [], 0⟩) := by
  induction m with
  | zero => intro v2 o h; cases h
  | succ m ih => exact fun v2 => tlp (
   .lI v2 v1 (fun c1 =>
    .na v2 fun i2 =>
    .ix zR a0 i2 fun x3 =>
    .cl (H_impl_Value_known_1 x3) fun r4 =>
    .vM 0 r4 (
     .ret (.inl v2)) <|
    .go (ih (w64 (v2 + 1)))) fun c1 =>
   .ret (.inr v2))
def yg (G_impl_Value_known_1 : GValue → Option Bool) (n : Nat) (a0 : (List GValue)) : Option Int :=
 (zA G_impl_Value_known_1 a0 (a0.length : Int) n 0).bind fun o1 =>
 match o1 with
 | .inl o1_0 =>
  some o1_0
 | .inr (o1_1) =>
  some (-1)
theorem jV (G_impl_Value_known_1 : GValue → Option Bool) (H_impl_Value_known_1 : xP G_impl_Value_known_1) (n : Nat) : yf (yg G_impl_Value_known_1 n) := fun a0 => tc (
 .le zd a0 <|
 .l2 (jr G_impl_Value_known_1 H_impl_Value_known_1 a0 (a0.length : Int) n 0) (fun o1_0 =>
  .ret o1_0) fun o1_1 =>
 .ret (-1)) (zj Tryz.func224)
def y4 (G_slices_IndexFunc_Value_Value_known_1 : (List GValue) → Option Int) (a0 : (List GValue)) : Option Bool :=
 (G_slices_IndexFunc_Value_Value_known_1 a0).bind fun r1 =>
 some (decide (0 <= r1))
theorem j4 (G_slices_IndexFunc_Value_Value_known_1 : (List GValue) → Option Int) (H_slices_IndexFunc_Value_Value_known_1 : yf G_slices_IndexFunc_Value_Value_known_1) : yb (y4 G_slices_IndexFunc_Value_Value_known_1) := fun a0 => tc (
 .cl (H_slices_IndexFunc_Value_Value_known_1 a0) fun r1 =>
 .gD 0 r1 <|
 .ret (decide (0 <= r1))) (zj Tryz.func203)
def kA (G_slices_ContainsFunc_Value_Value_known_1 : (List GValue) → Option Bool) (a0 : GValue) : Option Bool :=
 if a0.Kind = 6 then
  some false
 else
 (G_slices_ContainsFunc_Value_Value_known_1 a0.L).bind fun r2 =>
 some (!r2)
theorem Jl (G_slices_ContainsFunc_Value_Value_known_1 : (List GValue) → Option Bool) (H_slices_ContainsFunc_Value_Value_known_1 : yb G_slices_ContainsFunc_Value_Value_known_1) : qM (kA G_slices_ContainsFunc_Value_Value_known_1) := fun a0 => tc (
 .eI a0.Kind 6 (fun c1 =>
  .ret false) fun c1 =>
 .cl (H_slices_ContainsFunc_Value_Value_known_1 a0.L) fun r2 =>
 .ret (!r2)) (zj Tryz.func176)
mutual
def yo : Nat → GValue → Option Bool
 | 0, _ => none
 | n + 1, a0 => jF (y8 n) a0
def z7 : Nat → (List GValue) → Option Int
 | 0, _ => none
 | n + 1, a0 => yg (yo n) n a0
def zx : Nat → (List GValue) → Option Bool
 | 0, _ => none
 | n + 1, a0 => y4 (z7 n) a0
def y8 : Nat → GValue → Option Bool
 | 0, _ => none
 | n + 1, a0 => kA (zx n) a0
end
theorem w9 (n : Nat) : xP (yo n) ∧ yf (z7 n) ∧ yb (zx n) ∧ qM (y8 n) := by
 induction n with
 | zero => exact ⟨fun _ _ h => (by rw [yo] at h; cases h), fun _ _ h => (by rw [z7] at h; cases h), fun _ _ h => (by rw [zx] at h; cases h), fun _ _ h => (by rw [y8] at h; cases h)⟩
 | succ n ih =>
  obtain ⟨ih_impl_Value_known_1, ih_slices_IndexFunc_Value_Value_known_1, ih_slices_ContainsFunc_Value_Value_known_1, ih_impl_Value_known⟩ := ih
  exact ⟨fun a0 r h => WK (y8 n) ih_impl_Value_known a0 r (by rw [yo] at h; exact h),
   fun a0 r h => jV (yo n) ih_impl_Value_known_1 n a0 r (by rw [z7] at h; exact h),
   fun a0 r h => j4 (z7 n) ih_slices_IndexFunc_Value_Value_known_1 a0 r (by rw [zx] at h; exact h),
   fun a0 r h => Jl (zx n) ih_slices_ContainsFunc_Value_Value_known_1 a0 r (by rw [y8] at h; exact h)⟩
def Zj (a0 : GValue) : Option Bool := none
theorem Xk (a0 : GValue) (r : Bool) (h : Zj a0 = some r) : ∃ n, yo n a0 = some r := by cases h
def wm (a0 : (List GValue)) : Option Int := none
theorem j5 (a0 : (List GValue)) (r : Int) (h : wm a0 = some r) : ∃ n, z7 n a0 = some r := by cases h
def xL (a0 : (List GValue)) : Option Bool := none
theorem qT (a0 : (List GValue)) (r : Bool) (h : xL a0 = some r) : ∃ n, zx n a0 = some r := by cases h
theorem G5 {G : GValue → Option Bool} {a : List GValue} {f : Nat} (ha : a.length <= 2 ^ 40) (hf : a.length < f) (hG : ∀ x ∈ a, G x = some (!knV x)) : ∃ r : Int, yg G f a = some r ∧ decide (0 <= r) = !(Yq a) := by
 have loop : ∀ (l p : List GValue) (m : Nat), a = p ++ l → l.length < m → ∃ (q : Nat) (z : Int), zA G a (a.length : Int) m (p.length : Int) = some (if Yq l = true then .inr z else .inl (q : Int)) := by
  intro l
  induction l with
  | nil =>
   intro p m he hm
   subst he
   obtain ⟨m, rfl, _⟩ := zf hm
   exact ⟨0, _, by rw [zA, if_neg (jz p)]; rfl⟩
  | cons x l ih =>
   intro p m he hm
   obtain ⟨m, rfl, hm'⟩ := zf hm
   have hlen : a.length = p.length + (l.length + 1) := by rw [he]; simp
   rw [zA, if_pos (by omega), zc, Option.bind_some, show a[p.length]? = some x by rw [he]; exact yh p x l, Option.bind_some, hG x (by rw [he]; simp), Option.bind_some, xK p x (by omega)]
   rw [show Yq (x :: l) = (knV x && Yq l) by simp only [Yq]]
   by_cases hp : knV x = true
   ·obtain ⟨q, z, hz⟩ := ih (p ++ [x]) m (by rw [he]; simp) (by simp only [List.length_cons] at hm'; omega)
    exact ⟨q, z, by rw [hp, Bool.true_and]; exact hz⟩
   ·rw [Bool.eq_false_iff.2 hp]
    exact ⟨p.length, 0, rfl⟩
 obtain ⟨q, z, hz⟩ := loop a [] f rfl (by omega)
 simp only [List.length_nil, Int.natCast_zero] at hz
 unfold yg
 rw [hz, Option.bind_some]
 cases hp : Yq a with
 | true => exact ⟨-1, rfl, rfl⟩
 | false => exact ⟨(q : Int), rfl, by simp⟩
theorem E9 : ∀ (N : Nat) (v : GValue), vsz v < N → vsz v <= 2 ^ 39 → ∀ f : Nat, 4 * vsz v + 5 <= f → y8 f v = some (knV v) := by
 intro N
 induction N with
 | zero => intro v hv; omega
 | succ N ih =>
  intro v hv hs f hf
  have he := qa v
  have hl := yR v.L
  obtain ⟨f, rfl, _⟩ := zf (show 0 < f by omega)
  obtain ⟨f, rfl, _⟩ := zf (show 0 < f by omega)
  obtain ⟨f, rfl, _⟩ := zf (show 0 < f by omega)
  obtain ⟨f, rfl, _⟩ := zf (show 0 < f by omega)
  obtain ⟨r, hr, hd⟩ := G5 (G := yo (f + 1)) (a := v.L) (f := f + 1) (by omega) (by omega) (fun x hx => by
   have := w6 hx
   rw [yo]
   unfold jF
   rw [ih x (by omega) (by omega) f (by omega), Option.bind_some])
  rw [y8]
  unfold kA
  rw [zx]
  unfold y4
  rw [z7, hr, Option.bind_some, Option.bind_some, hd, Nu]
  by_cases h6 : v.Kind = 6
  ·rw [if_pos h6, h6]; rfl
  ·rw [if_neg h6]; simp [h6]
def wI (a0 : GValue) : Option Bool := if vsz a0 <= 2 ^ 39 then some (knV a0) else none
theorem We (a0 : GValue) (r : Bool) (h : wI a0 = some r) : ∃ n, y8 n a0 = some r := by
 unfold wI at h
 obtain ⟨ha, h⟩ := zM h
 exact ⟨4 * vsz a0 + 5, by rw [<- h]; exact E9 _ a0 (Nat.lt_succ_self _) ha _ (Nat.le_refl _)⟩
theorem OM : xP Zj := by
 intro a0 r h
 obtain ⟨n, hn⟩ := Xk a0 r h
 exact (w9 n).1 a0 r hn
theorem Qm : yf wm := by
 intro a0 r h
 obtain ⟨n, hn⟩ := j5 a0 r h
 exact (w9 n).2.1 a0 r hn
theorem Wg : yb xL := by
 intro a0 r h
 obtain ⟨n, hn⟩ := qT a0 r h
 exact (w9 n).2.2.1 a0 r hn
theorem Qx : qM wI := by
 intro a0 r h
 obtain ⟨n, hn⟩ := We a0 r h
 exact (w9 n).2.2.2 a0 r hn
def wV (a0 : GValue) : Option Bool :=
 (YY a0).bind fun r1 =>
 match r1 with
 | true =>
  (wI a0).bind fun r2 =>
  some r2
 | false =>
  some false
theorem ZY (a0 : GValue) : Oc (wV a0) 134 [] [.val true (z8 a0)] fun r => (vb r, []) := tc (
 .cl (Ul a0) fun r1 =>
 .vM 0 r1 (
  .az 0 0 <|
  .cl (Qx a0) fun r2 =>
  .az 0 1 <|
  .ret r2) <|
 .az 0 0 <|
 .az 0 0 <|
 .ret false) (zj Tryz.func134)
end
end Go.Am.Try
