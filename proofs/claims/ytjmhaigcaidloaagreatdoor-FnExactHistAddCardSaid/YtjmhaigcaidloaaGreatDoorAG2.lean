
/- The functions of the program in plain Lean, and that the machine answers as they do; conditions at each theorem. -/
import Derived.Test.YtjmhaigcaidloaaGreatDoorAG1
set_option linter.unusedVariables false
set_option linter.unusedSimpArgs false
namespace Go.Am.Try
open Go.Am Go.Proofs
set_option linter.unusedVariables false
set_option maxRecDepth 20000
set_option maxHeartbeats 2000000
noncomputable section
def Jq (F : (List (List UInt8)) → Option Bool) : Prop := ∀ (a0 : (List (List UInt8))), Oc (F a0) 126 [] [vq (zu za) a0] fun r => (vb r, [])
def xN (a0 : (List (List UInt8))) : Nat → Int → Option (Bool ⊕ Int)
  | 0, _ => none
  | m + 1, v1 =>
  if v1 < (a0.length : Int) then
   (zv v1).bind fun i2 =>
   (a0[i2]?).bind fun x3 =>
   (wn x3).bind fun r4 =>
   match r4 with
   | true =>
    if 0 < v1 then
     (zv (w64 (v1 - 1))).bind fun i6 =>
     (a0[i6]?).bind fun x7 =>
     if Op.bytesLess x7 x3 = true then
      xN a0 m (w64 (v1 + 1))
     else
     some (.inl false)
    else
    xN a0 m (w64 (v1 + 1))
   | false =>
    some (.inl false)
  else
  some (.inr v1)
theorem VA (a0 : (List (List UInt8))) (m : Nat) : ∀ (v1 : Int), Ol (xN a0 m v1) 126 (zJ Tryz.f126 0) ⟨[(0, vq (zu za) a0), (3, vi v1)], [], 0⟩ fun o => match o with | .inl o_0 => (.ret, ⟨[(2, vb o_0)], [], 0⟩) | .inr (o_1) => (.exit 0, ⟨[(0, vq (zu za) a0), (3, vi o_1), (10, vb false)], [], 0⟩) := by
  induction m with
  | zero => intro v1 o h; cases h
  | succ m ih => exact fun v1 => tlp (
   .le (zu za) a0 <|
   .lI v1 (a0.length : Int) (fun c1 =>
    .na v1 fun i2 =>
    .ix0 (zu za) a0 i2 fun x3 =>
    .cl (qq x3) fun r4 =>
    .vN 0 r4 (
     .an 0 0 <|
     .lI 0 v1 (fun c5 =>
      .an 0 0 <|
      .na (w64 (v1 - 1)) fun i6 =>
      .ix0 (zu za) a0 i6 fun x7 =>
      .bt x7 <|
      .ag 5 <|
      .ag 4 <|
      .bt x3 <|
      .bI x7 x3 (fun c8 =>
       .an 0 2 <|
       .an 1 2 <|
       .go (ih (w64 (v1 + 1)))) fun c8 =>
      .an 0 2 <|
      .an 1 2 <|
      .ret (.inl false)) fun c5 =>
     .an 0 0 <|
     .an 12 0 <|
     .an 1 0 <|
     .go (ih (w64 (v1 + 1)))) <|
    .an 0 0 <|
    .an 0 0 <|
    .an 0 0 <|
    .an 0 0 <|
    .ret (.inl false)) fun c1 =>
   .ret (.inr v1))
def X0 (n : Nat) (a0 : (List (List UInt8))) : Option Bool :=
 if 8 < (a0.length : Int) then
  some false
 else
 (xN a0 n 0).bind fun o2 =>
 match o2 with
 | .inl o2_0 =>
  some o2_0
 | .inr (o2_1) =>
  some true
theorem Oj (n : Nat) : Jq (X0 n) := fun a0 => tc (
 .le (zu za) a0 <|
 .lI 8 (a0.length : Int) (fun c1 =>
  .ret false) fun c1 =>
 .l2 (VA a0 n 0) (fun o2_0 =>
  .ret o2_0) fun o2_1 =>
 .ret true) (zf Tryz.func126)
theorem QL {a : List UInt8} (h : a.length <= 2 ^ 20) : wn a = some (ye a) := Bp h
theorem MV {a : List (List UInt8)} (hs : ∀ x ∈ a, x.length <= 2 ^ 20) (ha : a.length <= 2 ^ 40) : ∀ (d i m : Nat), i + d = a.length → d < m → ∃ z, xN a m (i : Int) = some (if kV ye id a i d = true then .inr z else .inl false) := by
 intro d
 induction d with
 | zero =>
  intro i m hi hm
  obtain ⟨m, rfl, _⟩ := zg hm
  exact ⟨_, by rw [xN, if_neg (by omega)]; rfl⟩
 | succ d ih =>
  intro i m hi hm
  obtain ⟨m, rfl, hm'⟩ := zg hm
  have hil : i < a.length := by omega
  rw [xN, if_pos (by omega), zb, oB, zl hil, oB, QL (hs _ (List.getElem_mem hil)), oB, QW]
  obtain ⟨z, hz⟩ := ih (i + 1) m (by omega) (by omega)
  cases hx : ye a[i] with
  | false =>
   refine ⟨0, ?_⟩
   have : gOk ye id a i = false := by
    unfold gOk; rw [zl hil]; simp [hx]
   rw [this]; rfl
  | true =>
   dsimp only
   by_cases h0 : 0 < i
   ·rw [if_pos (by omega), kh (by omega) h0, zb, oB, zl (show i - 1 < a.length by omega), oB, Rj hil h0, hx, Bool.true_and, zH (by omega), hz]
    by_cases hl : Op.bytesLess a[i - 1] a[i] = true
    ·rw [if_pos hl, show Op.bytesLess (id a[i - 1]) (id a[i]) = true from hl, Bool.true_and]; exact ⟨z, rfl⟩
    ·rw [if_neg hl, show Op.bytesLess (id a[i - 1]) (id a[i]) = false from Bool.eq_false_iff.2 hl]; exact ⟨z, rfl⟩
   ·obtain rfl : i = 0 := by omega
    rw [if_neg (by omega), Ku hil, hx, Bool.true_and, zH (by omega), hz]
    exact ⟨z, rfl⟩
def qv (a0 : (List (List UInt8))) : Option Bool := if bsz a0 <= 2 ^ 20 then some (jZ a0) else none
theorem RB (a0 : (List (List UInt8))) (r : Bool) (h : qv a0 = some r) : ∃ n, X0 n a0 = some r := by
 unfold qv at h
 obtain ⟨ha, h⟩ := zC h
 have hl := q7 a0
 obtain ⟨z, hz⟩ := MV (a := a0) (fun x hx => by have := ZT hx; omega) (by omega) a0.length 0 (a0.length + 1) (by omega) (by omega)
 refine ⟨a0.length + 1, ?_⟩
 unfold X0
 rw [show ((0 : Nat) : Int) = 0 from rfl] at hz
 rw [<- h]
 unfold jZ
 by_cases h8 : (8 : Int) < (a0.length : Int)
 ·rw [if_pos h8, decide_eq_false (by omega)]; rfl
 ·rw [if_neg h8, hz, oB, decide_eq_true (by omega), Bool.true_and]
  cases kV ye id a0 0 a0.length <;> rfl
theorem QM : Jq qv := fun a0 r h => (RB a0 r h).elim fun n hn => Oj n a0 r hn
def Jr (F : GState → Option Bool) : Prop := ∀ (a0 : GState), Oc (F a0) 70 [] [.val true (zX a0)] fun r => (vb r, [])
def y9 (a0 : GState) : Nat → Int → Option (Bool ⊕ Int)
  | 0, _ => none
  | m + 1, v0 =>
  if v0 < (a0.Entries.length : Int) then
   (zv v0).bind fun i2 =>
   (a0.Entries[i2]?).bind fun x3 =>
   (wn x3.Addr).bind fun r4 =>
   match r4 with
   | true =>
    (jz x3.Val).bind fun r5 =>
    match r5 with
    | true =>
     (qv x3.Deps).bind fun r6 =>
     match r6 with
     | true =>
      if x3.Turned < 1 then
       some (.inl false)
      else
      if a0.Serial < x3.Turned then
       some (.inl false)
      else
      if 0 < v0 then
       (zv (w64 (v0 - 1))).bind fun i10 =>
       (a0.Entries[i10]?).bind fun x11 =>
       if Op.bytesLess x11.Addr x3.Addr = true then
        y9 a0 m (w64 (v0 + 1))
       else
       some (.inl false)
      else
      y9 a0 m (w64 (v0 + 1))
     | false =>
      some (.inl false)
    | false =>
     some (.inl false)
   | false =>
    some (.inl false)
  else
  some (.inr v0)
theorem Zr (a0 : GState) (m : Nat) : ∀ (v0 : Int), Ol (y9 a0 m v0) 70 (zJ Tryz.f70 0) ⟨[(1, vp 0 0), (4, vi v0)], [.var (zX a0)], 0⟩ fun o => match o with | .inl o_0 => (.ret, ⟨[(2, vb o_0)], [], 0⟩) | .inr (o_1) => (.exit 0, ⟨[(1, vp 0 0), (4, vi o_1), (71, vb false)], [.var (zX a0)], 0⟩) := by
  induction m with
  | zero => intro v0 o h; cases h
  | succ m ih => exact fun v0 => tlp (
   .le zj a0.Entries <|
   .lI v0 (a0.Entries.length : Int) (fun c1 =>
    .na v0 fun i2 =>
    .ix zV a0.Entries i2 fun x3 =>
    .cl (qq x3.Addr) fun r4 =>
    .vN 0 r4 (
     .an 0 0 <|
     .an 0 0 <|
     .cl (K1 x3.Val) fun r5 =>
     .an 0 1 <|
     .an 0 1 <|
     .vN 0 r5 (
      .an 0 0 <|
      .an 0 0 <|
      .cl (QM x3.Deps) fun r6 =>
      .an 0 1 <|
      .an 0 1 <|
      .vN 0 r6 (
       .an 0 0 <|
       .an 0 0 <|
       .lI x3.Turned 1 (fun c7 =>
        .an 0 0 <|
        .ret (.inl false)) fun c7 =>
       .an 0 0 <|
       .lI a0.Serial x3.Turned (fun c8 =>
        .ret (.inl false)) fun c8 =>
       .lI 0 v0 (fun c9 =>
        .na (w64 (v0 - 1)) fun i10 =>
        .ix zV a0.Entries i10 fun x11 =>
        .bt x11.Addr <|
        .bt x3.Addr <|
        .bI x11.Addr x3.Addr (fun c12 =>
         .go (ih (w64 (v0 + 1)))) fun c12 =>
        .ret (.inl false)) fun c9 =>
       .go (ih (w64 (v0 + 1)))) <|
      .an 0 0 <|
      .an 0 0 <|
      .an 0 0 <|
      .ret (.inl false)) <|
     .an 0 0 <|
     .an 0 0 <|
     .an 0 0 <|
     .an 0 0 <|
     .ret (.inl false)) <|
    .an 0 0 <|
    .an 0 0 <|
    .an 0 0 <|
    .an 0 0 <|
    .ret (.inl false)) fun c1 =>
   .ret (.inr v0))
def ZJ (n : Nat) (a0 : GState) : Option Bool :=
 if a0.Serial < 0 then
  some false
 else
 if 1000000 < a0.Serial then
  some false
 else
 if 16 < (a0.Entries.length : Int) then
  some false
 else
 if 0 < (a0.Pending.length : Int) then
  match a0.Open with
  | true =>
   (wn a0.Pending).bind fun r5 =>
   match r5 with
   | true =>
    if a0.Act < 1 then
     some false
    else
    if 4 < a0.Act then
     some false
    else
    (wo a0 a0.Pending).bind fun r8 =>
    if a0.Act = 1 then
     if 0 <= r8 then
      some false
     else
     (y9 a0 n 0).bind fun o11 =>
     match o11 with
     | .inl o11_0 =>
      some o11_0
     | .inr (o11_1) =>
      some true
    else
    if 0 <= r8 then
     (y9 a0 n 0).bind fun o11 =>
     match o11 with
     | .inl o11_0 =>
      some o11_0
     | .inr (o11_1) =>
      some true
    else
    some false
   | false =>
    some false
  | false =>
   some false
 else
 if a0.Act = 0 then
  (y9 a0 n 0).bind fun o6 =>
  match o6 with
  | .inl o6_0 =>
   some o6_0
  | .inr (o6_1) =>
   some true
 else
 some false
theorem Ok (n : Nat) : Jr (ZJ n) := fun a0 => tc (
 .lI a0.Serial 0 (fun c1 =>
  .ret false) fun c1 =>
 .lI 1000000 a0.Serial (fun c2 =>
  .ret false) fun c2 =>
 .le zj a0.Entries <|
 .lI 16 (a0.Entries.length : Int) (fun c3 =>
  .ret false) fun c3 =>
 .le za a0.Pending <|
 .lI 0 (a0.Pending.length : Int) (fun c4 =>
  .vN 4 a0.Open (
   .an 0 0 <|
   .an 0 0 <|
   .cl (qq a0.Pending) fun r5 =>
   .an 0 1 <|
   .an 1 1 <|
   .vN 1 r5 (
    .an 0 0 <|
    .an 0 0 <|
    .lI a0.Act 1 (fun c6 =>
     .an 1 0 <|
     .ret false) fun c6 =>
    .an 1 0 <|
    .lI 4 a0.Act (fun c7 =>
     .ret false) fun c7 =>
    .eD a0.Act 1 <|
    .cl (Xy a0 a0.Pending) fun r8 =>
    .gD 0 r8 <|
    .sp (a0.Act = 1) (fun c9 =>
     .sp (0 <= r8) (fun c10 =>
      .eb (dT c9) (dT c10) <|
      .ret false) fun c10 =>
     .eb (dT c9) (dF c10) <|
     .l2 (Zr a0 n 0) (fun o11_0 =>
      .ret o11_0) fun o11_1 =>
     .ret true) fun c9 =>
    .sp (0 <= r8) (fun c10 =>
     .eb (dF c9) (dT c10) <|
     .l2 (Zr a0 n 0) (fun o11_0 =>
      .ret o11_0) fun o11_1 =>
     .ret true) fun c10 =>
    .eb (dF c9) (dF c10) <|
    .ret false) <|
   .an 0 0 <|
   .an 0 0 <|
   .an 1 0 <|
   .ret false) <|
  .an 0 0 <|
  .an 0 0 <|
  .an 0 0 <|
  .an 1 0 <|
  .ret false) fun c4 =>
 .eI a0.Act 0 (fun c5 =>
  .l2 (Zr a0 n 0) (fun o6_0 =>
   .ret o6_0) fun o6_1 =>
  .ret true) fun c5 =>
 .ret false) (zf Tryz.func70)
theorem ze1 {v : GValue} (h : vsz v <= 2 ^ 20) : xq v = some (Yk v) := by
 unfold xq vK
 rw [if_pos ⟨h, by decide, by decide, by decide⟩, oB]
 congr 1
 unfold okV Yk
 rw [show (6 - (1 : Int)).toNat = 5 from rfl]
 by_cases hc : shV 5 v = true ∧ (ptV v : Int) <= 40
 ·rw [if_pos hc, decide_eq_true hc]; exact decide_eq_true (by omega)
 ·rw [if_neg hc, decide_eq_false hc]; rfl
theorem EL {v : GValue} (h : vsz v <= 2 ^ 20) : jz v = some (kz v) := by
 unfold jz kz
 by_cases h5 : v.Kind = 5
 ·rw [if_pos h5, ze1 h, oB, decide_eq_true h5, Bool.true_and]
  cases hv : Yk v with
  | false => rfl
  | true =>
   simp only [Bool.true_and]
   unfold jq
   rw [if_pos (by omega)]; rfl
 ·rw [if_neg h5, decide_eq_false h5]; rfl
theorem Hx {l : List (List UInt8)} (h : bsz l <= 2 ^ 20) : qv l = some (jZ l) := if_pos h
theorem MW {s : GState} (hs : zZ s.Entries <= 2 ^ 20) : ∀ (d i m : Nat), i + d = s.Entries.length → d < m → ∃ z, y9 s m (i : Int) = some (if kV (Qt s.Serial) GEntry.Addr s.Entries i d = true then .inr z else .inl false) := by
 have hlen := wW s.Entries
 intro d
 induction d with
 | zero =>
  intro i m hi hm
  obtain ⟨m, rfl, _⟩ := zg hm
  exact ⟨_, by rw [y9, if_neg (by omega)]; rfl⟩
 | succ d ih =>
  intro i m hi hm
  obtain ⟨m, rfl, hm'⟩ := zg hm
  have hil : i < s.Entries.length := by omega
  have hz0 := X9 (List.getElem_mem hil)
  obtain ⟨z, hz⟩ := ih (i + 1) m (by omega) (by omega)
  rw [y9, if_pos (by omega), zb, oB, zl hil, oB, QW]
  unfold esz at hz0
  rw [QL (by omega), oB, EL (by omega), oB, Hx (by omega), oB, zH (by omega), hz]
  generalize kV _ GEntry.Addr s.Entries (i + 1) d = g
  have hT : decide (1 <= s.Entries[i].Turned ∧ s.Entries[i].Turned <= s.Serial) = (!(decide (s.Entries[i].Turned < 1)) && !(decide (s.Serial < s.Entries[i].Turned))) := by
   by_cases a : s.Entries[i].Turned < 1 <;> by_cases b : s.Serial < s.Entries[i].Turned <;> simp [a, b] <;> omega
  refine ⟨z, ?_⟩
  by_cases h0 : 0 < i
  ·rw [Rj hil h0]
   unfold Qt
   rw [hT]
   rw [if_pos (show (0 : Int) < ((i : Nat) : Int) by omega), kh (by omega) h0, zb, oB, zl (show i - 1 < s.Entries.length by omega), oB]
   generalize Op.bytesLess s.Entries[i - 1].Addr s.Entries[i].Addr = b
   by_cases a1 : s.Entries[i].Turned < 1 <;> by_cases a2 : s.Serial < s.Entries[i].Turned <;> cases b <;> cases ye s.Entries[i].Addr <;> cases kz s.Entries[i].Val <;> cases jZ s.Entries[i].Deps <;> simp [a1, a2]
  ·obtain rfl : i = 0 := by omega
   rw [Ku hil]
   unfold Qt
   rw [hT]
   rw [if_neg (show ¬ (0 : Int) < ((0 : Nat) : Int) by omega)]
   by_cases a1 : s.Entries[0].Turned < 1 <;> by_cases a2 : s.Serial < s.Entries[0].Turned <;> cases ye s.Entries[0].Addr <;> cases kz s.Entries[0].Val <;> cases jZ s.Entries[0].Deps <;> simp [a1, a2]
def kG (a0 : GState) : Option Bool := if ssz a0 <= 2 ^ 20 then some (stB a0) else none
theorem EM {s : GState} (h : ssz s <= 2 ^ 20) : kG s = some (stB s) := if_pos h
theorem NU {s : GState} (h : ssz s <= 2 ^ 20) : ZJ (s.Entries.length + 1) s = some (stB s) := by
 have hlen := wW s.Entries
 unfold ssz at h
 obtain ⟨z, hz⟩ := MW (s := s) (by omega) s.Entries.length 0 (s.Entries.length + 1) (by omega) (by omega)
 rw [show ((0 : Nat) : Int) = 0 from rfl] at hz
 have hf : ((y9 s (s.Entries.length + 1) 0).bind fun o4 => match o4 with | .inl o => some o | .inr _ => some true) = some (LX s) := by
  rw [hz, show LX s = kV (Qt s.Serial) GEntry.Addr s.Entries 0 s.Entries.length from rfl]
  cases kV (Qt s.Serial) GEntry.Addr s.Entries 0 s.Entries.length <;> rfl
 unfold ZJ
 unfold stB
 by_cases h1 : s.Serial < 0
 ·rw [if_pos h1, decide_eq_false (p := 0 <= s.Serial ∧ s.Serial <= 1000000 ∧ s.Entries.length <= 16) (by omega)]; rfl
 rw [if_neg h1]
 by_cases h2 : 1000000 < s.Serial
 ·rw [if_pos h2, decide_eq_false (p := 0 <= s.Serial ∧ s.Serial <= 1000000 ∧ s.Entries.length <= 16) (by omega)]; rfl
 rw [if_neg h2]
 by_cases h3 : (16 : Int) < (s.Entries.length : Int)
 ·rw [if_pos h3, decide_eq_false (p := 0 <= s.Serial ∧ s.Serial <= 1000000 ∧ s.Entries.length <= 16) (by omega)]; rfl
 rw [if_neg h3, decide_eq_true (p := 0 <= s.Serial ∧ s.Serial <= 1000000 ∧ s.Entries.length <= 16) (by omega), Bool.true_and]
 unfold LW
 by_cases hp : s.Pending = []
 ·rw [if_neg (by rw [hp]; simp), if_pos hp]
  by_cases ha : s.Act = 0
  ·rw [if_pos ha, decide_eq_true ha, Bool.and_true]
   exact hf
  ·rw [if_neg ha, decide_eq_false ha, Bool.and_false]
 ·have hp0 : (0 : Int) < (s.Pending.length : Int) := by
   have : s.Pending.length ≠ 0 := fun e => hp (List.eq_nil_of_length_eq_zero e)
   omega
  rw [if_pos hp0, if_neg hp]
  cases ho : s.Open with
  | false => simp
  | true =>
   dsimp only
   rw [QL (by omega), oB]
   cases ye s.Pending with
   | false => simp
   | true =>
    dsimp only
    by_cases a1 : s.Act < 1
    ·rw [if_pos a1, decide_eq_false (p := 1 <= s.Act ∧ s.Act <= 4) (by omega)]; simp
    rw [if_neg a1]
    by_cases a2 : 4 < s.Act
    ·rw [if_pos a2, decide_eq_false (p := 1 <= s.Act ∧ s.Act <= 4) (by omega)]; simp
    rw [if_neg a2, decide_eq_true (p := 1 <= s.Act ∧ s.Act <= 4) (by omega)]
    unfold wo
    rw [if_pos (by omega), oB]
    have hh := V8 s.Entries s.Pending 0
    by_cases hA : s.Act = 1
    ·rw [if_pos hA, decide_eq_false (p := s.Act ≠ 1) (by omega)]
     cases hb : yT s.Entries s.Pending with
     | true => rw [if_pos (hh.2 hb)]; simp
     | false => rw [if_neg (fun h => by rw [hh.1 h] at hb; cases hb)]; refine Eq.trans hf ?_; simp
    ·rw [if_neg hA, decide_eq_true (p := s.Act ≠ 1) hA]
     cases hb : yT s.Entries s.Pending with
     | true => rw [if_pos (hh.2 hb)]; refine Eq.trans hf ?_; simp
     | false => rw [if_neg (fun h => by rw [hh.1 h] at hb; cases hb)]; simp
theorem RC (a0 : GState) (r : Bool) (h : kG a0 = some r) : ∃ n, ZJ n a0 = some r := by
 unfold kG at h
 obtain ⟨ha, h⟩ := zC h
 exact ⟨_, by rw [<- h]; exact NU ha⟩
theorem UM : Jr kG := fun a0 r h => (RC a0 r h).elim fun n hn => Ok n a0 r hn
def kH (a0 : (List UInt8)) (a1 : (List UInt8)) : Option Int :=
 if Op.bytesLess a0 a1 = true then
  some (-1)
 else
 if Op.bytesLess a1 a0 = true then
  some 1
 else
 some 0
theorem YV (a0 : (List UInt8)) (a1 : (List UInt8)) : Oc (kH a0 a1) 155 [] [vq za a0, vq za a1] fun r => (vi r, []) := tc (
 .bt a0 <|
 .bt a1 <|
 .bI a0 a1 (fun c1 =>
  .ret (-1)) fun c1 =>
 .bt a0 <|
 .bt a1 <|
 .bI a1 a0 (fun c2 =>
  .ret 1) fun c2 =>
 .ret 0) (zf Tryz.func155)
def kI (a0 : Int) (a1 : Int) : Option Int :=
 if a0 < a1 then
  some (-1)
 else
 if a1 < a0 then
  some 1
 else
 some 0
theorem Wl (a0 : Int) (a1 : Int) : Oc (kI a0 a1) 154 [] [vi a0, vi a1] fun r => (vi r, []) := tc (
 .lI a0 a1 (fun c1 =>
  .ret (-1)) fun c1 =>
 .lI a1 a0 (fun c2 =>
  .ret 1) fun c2 =>
 .ret 0) (zf Tryz.func154)
def Zs (F : GValue → GValue → Option Int) : Prop := ∀ (a0 : GValue) (a1 : GValue), Oc (F a0 a1) 109 [] [.val true (zD a0), .val true (zD a1)] fun r => (vi r, [])
def jT (G_spec_l2cmp : GValue → GValue → Option Int) (a0 : GValue) (a1 : GValue) : Nat → Int → Option (Int ⊕ Int)
  | 0, _ => none
  | m + 1, v0 =>
  if v0 < (a0.L.length : Int) then
   if v0 < (a1.L.length : Int) then
    if a0.Kind = 5 then
     (zv v0).bind fun i4 =>
     (a0.K[i4]?).bind fun x5 =>
     (a1.K[i4]?).bind fun x6 =>
     (kH x5 x6).bind fun r7 =>
     if r7 = 0 then
      (a0.L[i4]?).bind fun x9 =>
      (a1.L[i4]?).bind fun x10 =>
      (G_spec_l2cmp x9 x10).bind fun r11 =>
      if r11 = 0 then
       jT G_spec_l2cmp a0 a1 m (w64 (v0 + 1))
      else
      some (.inl r11)
     else
     some (.inl r7)
    else
    (zv v0).bind fun i4 =>
    (a0.L[i4]?).bind fun x5 =>
    (a1.L[i4]?).bind fun x6 =>
    (G_spec_l2cmp x5 x6).bind fun r7 =>
    if r7 = 0 then
     jT G_spec_l2cmp a0 a1 m (w64 (v0 + 1))
    else
    some (.inl r7)
   else
   some (.inr v0)
  else
  some (.inr v0)
theorem T7 (G_spec_l2cmp : GValue → GValue → Option Int) (H_spec_l2cmp : Zs G_spec_l2cmp) (a0 : GValue) (a1 : GValue) (m : Nat) : ∀ (v0 : Int), Ol (jT G_spec_l2cmp a0 a1 m v0) 109 (zJ Tryz.f109 0) ⟨[(2, vp 0 0), (3, vp 1 0), (5, vi v0)], [.var (zD a0), .var (zD a1)], 0⟩ fun o => match o with | .inl o_0 => (.ret, ⟨[(4, vi o_0)], [], 0⟩) | .inr (o_1) => (.exit 0, ⟨[(2, vp 0 0), (3, vp 1 0), (5, vi o_1), (47, vb false)], [.var (zD a0), .var (zD a1)], 0⟩) := by
  induction m with
  | zero => intro v0 o h; cases h
  | succ m ih => exact fun v0 => tlp (
   .le zh a0.L <|
   .lI v0 (a0.L.length : Int) (fun c1 =>
    .le zh a1.L <|
    .lI v0 (a1.L.length : Int) (fun c2 =>
     .eI a0.Kind 5 (fun c3 =>
      .na v0 fun i4 =>
      .ix0 (zu za) a0.K i4 fun x5 =>
      .ag 1 <|
      .ix0 (zu za) a1.K i4 fun x6 =>
      .cl (YV x5 x6) fun r7 =>
      .eI r7 0 (fun c8 =>
       .ag 3 <|
       .ix yz a0.L i4 fun x9 =>
       .ag 4 <|
       .ix yz a1.L i4 fun x10 =>
       .cl (H_spec_l2cmp x9 x10) fun r11 =>
       .eI r11 0 (fun c12 =>
        .go (ih (w64 (v0 + 1)))) fun c12 =>
       .ret (.inl r11)) fun c8 =>
      .ret (.inl r7)) fun c3 =>
     .na v0 fun i4 =>
     .ix yz a0.L i4 fun x5 =>
     .ag 1 <|
     .ix yz a1.L i4 fun x6 =>
     .cl (H_spec_l2cmp x5 x6) fun r7 =>
     .eI r7 0 (fun c8 =>
      .go (ih (w64 (v0 + 1)))) fun c8 =>
     .ret (.inl r7)) fun c2 =>
    .ret (.inr v0)) fun c1 =>
   .ret (.inr v0))
def YW (G_spec_l2cmp : GValue → GValue → Option Int) (n : Nat) (a0 : GValue) (a1 : GValue) : Option Int :=
 if a0.Kind = a1.Kind then
  if a0.Kind = 3 then
   (kH a0.S a1.S).bind fun r3 =>
   some r3
  else
  if a0.N = a1.N then
   (jT G_spec_l2cmp a0 a1 n 0).bind fun o4 =>
   match o4 with
   | .inl o4_0 =>
    some o4_0
   | .inr (o4_1) =>
    (kI (a0.L.length : Int) (a1.L.length : Int)).bind fun r5 =>
    some r5
  else
  (kI a0.N a1.N).bind fun r4 =>
  some r4
 else
 (kI a0.Kind a1.Kind).bind fun r2 =>
 some r2
theorem MX (G_spec_l2cmp : GValue → GValue → Option Int) (H_spec_l2cmp : Zs G_spec_l2cmp) (n : Nat) : Zs (YW G_spec_l2cmp n) := fun a0 a1 => tc (
 .eI a0.Kind a1.Kind (fun c1 =>
  .eI a0.Kind 3 (fun c2 =>
   .cl (YV a0.S a1.S) fun r3 =>
   .ret r3) fun c2 =>
  .eI a0.N a1.N (fun c3 =>
   .l2 (T7 G_spec_l2cmp H_spec_l2cmp a0 a1 n 0) (fun o4_0 =>
    .ret o4_0) fun o4_1 =>
   .le zh a0.L <|
   .le zh a1.L <|
   .cl (Wl (a0.L.length : Int) (a1.L.length : Int)) fun r5 =>
   .ret r5) fun c3 =>
  .cl (Wl a0.N a1.N) fun r4 =>
  .ret r4) fun c1 =>
 .cl (Wl a0.Kind a1.Kind) fun r2 =>
 .ret r2) (zf Tryz.func109)
def wS : Nat → GValue → GValue → Option Int
 | 0, _, _ => none
 | n + 1, a0, a1 => YW (wS n) n a0 a1
theorem Om (n : Nat) : Zs (wS n) := by
 induction n with
 | zero => exact fun _ _ _ h => (by rw [wS] at h; cases h)
 | succ n ih =>
  have ih_spec_l2cmp := ih
  exact fun a0 a1 r h => MX (wS n) ih_spec_l2cmp n a0 a1 r (by rw [wS] at h; exact h)
def YX (a0 : GValue) (a1 : GValue) : Option Int := wS (vsz a0 + 3) a0 a1
theorem UN (a0 : GValue) (a1 : GValue) (r : Int) (h : YX a0 a1 = some r) : ∃ n, wS n a0 a1 = some r := ⟨_, h⟩
theorem L5 : Zs YX := by
 intro a0 a1 r h
 obtain ⟨n, hn⟩ := UN a0 a1 r h
 exact (Om n) a0 a1 r hn
def qg (a0 : GValue) : Option Bool :=
 (YX a0 (GValue.mk 0 0 [] [] [])).bind fun r1 =>
 if r1 = 0 then
  some (decide (a0.N = 0))
 else
 some false
theorem ZK (a0 : GValue) : Oc (qg a0) 128 [] [.val true (zD a0)] fun r => (vb r, []) := tc (
 .cl (L5 a0 (GValue.mk 0 0 [] [] [])) fun r1 =>
 .eI r1 0 (fun c2 =>
  .eD a0.N 0 <|
  .ret (decide (a0.N = 0))) fun c2 =>
 .ret false) (zf Tryz.func128)
def kJ (a0 : GEvent) : Option Bool :=
 if a0.Kind < 0 then
  some false
 else
 if 6 < a0.Kind then
  some false
 else
 if a0.Kind = 1 then
  if 0 < (a0.Addr.length : Int) then
   (wn a0.Addr).bind fun r5 =>
   match r5 with
   | true =>
    if a0.Act < 1 then
     some false
    else
    if 4 < a0.Act then
     some false
    else
    (xq a0.Val).bind fun r8 =>
    match r8 with
    | true =>
     (qg a0.Val).bind fun r9 =>
     match r9 with
     | true =>
      some (decide ((a0.Deps.length : Int) = 0))
     | false =>
      some false
    | false =>
     some false
   | false =>
    some false
  else
  some false
 else
 if a0.Kind = 2 then
  if 0 < (a0.Addr.length : Int) then
   (wn a0.Addr).bind fun r6 =>
   match r6 with
   | true =>
    if a0.Act = 0 then
     (jz a0.Val).bind fun r8 =>
     match r8 with
     | true =>
      (qv a0.Deps).bind fun r9 =>
      some r9
     | false =>
      some false
    else
    some false
   | false =>
    some false
  else
  some false
 else
 if a0.Kind = 3 then
  if 0 < (a0.Addr.length : Int) then
   (wn a0.Addr).bind fun r7 =>
   match r7 with
   | true =>
    if a0.Act = 0 then
     (xq a0.Val).bind fun r9 =>
     match r9 with
     | true =>
      (qg a0.Val).bind fun r10 =>
      match r10 with
      | true =>
       some (decide ((a0.Deps.length : Int) = 0))
      | false =>
       some false
     | false =>
      some false
    else
    some false
   | false =>
    some false
  else
  some false
 else
 if a0.Kind = 4 then
  if 0 < (a0.Addr.length : Int) then
   (wn a0.Addr).bind fun r8 =>
   match r8 with
   | true =>
    if a0.Act = 0 then
     (xq a0.Val).bind fun r10 =>
     match r10 with
     | true =>
      (qg a0.Val).bind fun r11 =>
      match r11 with
      | true =>
       some (decide ((a0.Deps.length : Int) = 0))
      | false =>
       some false
     | false =>
      some false
    else
    some false
   | false =>
    some false
  else
  some false
 else
 if 0 < (a0.Addr.length : Int) then
  some false
 else
 if a0.Act = 0 then
  (xq a0.Val).bind fun r9 =>
  match r9 with
  | true =>
   (qg a0.Val).bind fun r10 =>
   match r10 with
   | true =>
    some (decide ((a0.Deps.length : Int) = 0))
   | false =>
    some false
  | false =>
   some false
 else
 some false
theorem QN (a0 : GEvent) : Oc (kJ a0) 71 [] [.val true (xS a0)] fun r => (vb r, []) := tc (
 .lI a0.Kind 0 (fun c1 =>
  .ret false) fun c1 =>
 .lI 6 a0.Kind (fun c2 =>
  .ret false) fun c2 =>
 .eI a0.Kind 1 (fun c3 =>
  .le za a0.Addr <|
  .lD 0 (a0.Addr.length : Int) <|
  .sp (0 < (a0.Addr.length : Int)) (fun c4 =>
   .eb (a := true) (b := (decide (0 < (a0.Addr.length : Int)))) rfl (dT c4) <|
   .cl (qq a0.Addr) fun r5 =>
   .vN 4 r5 (
    .q (.eT c3) <|
    .lI a0.Act 1 (fun c6 =>
     .ret false) fun c6 =>
    .lI 4 a0.Act (fun c7 =>
     .ret false) fun c7 =>
    .q (.eFo a0.Kind 2 (by omega)) <|
    .cl (vB a0.Val) fun r8 =>
    .vM 0 r8 (
     .az 0 0 <|
     .az 0 0 <|
     .cl (ZK a0.Val) fun r9 =>
     .az 0 1 <|
     .vM 0 r9 (
      .az 0 0 <|
      .az 0 0 <|
      .le (zu za) a0.Deps <|
      .az 0 0 <|
      .eD (a0.Deps.length : Int) 0 <|
      .az 0 0 <|
      .ret (decide ((a0.Deps.length : Int) = 0))) <|
     .az 0 0 <|
     .az 0 0 <|
     .az 0 0 <|
     .az 0 0 <|
     .ret false) <|
    .az 0 0 <|
    .az 0 0 <|
    .az 0 0 <|
    .ret false) <|
   .ret false) fun c4 =>
  .eb (a := true) (b := (decide (0 < (a0.Addr.length : Int)))) rfl (dF c4) <|
  .ret false) fun c3 =>
 .eI a0.Kind 2 (fun c4 =>
  .le za a0.Addr <|
  .lD 0 (a0.Addr.length : Int) <|
  .sp (0 < (a0.Addr.length : Int)) (fun c5 =>
   .eb (a := true) (b := (decide (0 < (a0.Addr.length : Int)))) rfl (dT c5) <|
   .cl (qq a0.Addr) fun r6 =>
   .vN 4 r6 (
    .q (.eF c3) <|
    .eI a0.Act 0 (fun c7 =>
     .q (.eT c4) <|
     .cl (K1 a0.Val) fun r8 =>
     .vM 0 r8 (
      .az 0 0 <|
      .az 0 0 <|
      .cl (QM a0.Deps) fun r9 =>
      .az 0 1 <|
      .ret r9) <|
     .az 0 0 <|
     .az 0 0 <|
     .az 0 0 <|
     .ret false) fun c7 =>
    .ret false) <|
   .ret false) fun c5 =>
  .eb (a := true) (b := (decide (0 < (a0.Addr.length : Int)))) rfl (dF c5) <|
  .ret false) fun c4 =>
 .eI a0.Kind 3 (fun c5 =>
  .le za a0.Addr <|
  .lD 0 (a0.Addr.length : Int) <|
  .sp (0 < (a0.Addr.length : Int)) (fun c6 =>
   .eb (a := true) (b := (decide (0 < (a0.Addr.length : Int)))) rfl (dT c6) <|
   .cl (qq a0.Addr) fun r7 =>
   .vN 4 r7 (
    .q (.eF c3) <|
    .eI a0.Act 0 (fun c8 =>
     .q (.eF c4) <|
     .cl (vB a0.Val) fun r9 =>
     .vM 0 r9 (
      .az 0 0 <|
      .az 0 0 <|
      .cl (ZK a0.Val) fun r10 =>
      .az 0 1 <|
      .vM 0 r10 (
       .az 0 0 <|
       .az 0 0 <|
       .le (zu za) a0.Deps <|
       .az 0 0 <|
       .eD (a0.Deps.length : Int) 0 <|
       .az 0 0 <|
       .ret (decide ((a0.Deps.length : Int) = 0))) <|
      .az 0 0 <|
      .az 0 0 <|
      .az 0 0 <|
      .az 0 0 <|
      .ret false) <|
     .az 0 0 <|
     .az 0 0 <|
     .az 0 0 <|
     .ret false) fun c8 =>
    .ret false) <|
   .ret false) fun c6 =>
  .eb (a := true) (b := (decide (0 < (a0.Addr.length : Int)))) rfl (dF c6) <|
  .ret false) fun c5 =>
 .eI a0.Kind 4 (fun c6 =>
  .le za a0.Addr <|
  .lD 0 (a0.Addr.length : Int) <|
  .sp (0 < (a0.Addr.length : Int)) (fun c7 =>
   .eb (a := true) (b := (decide (0 < (a0.Addr.length : Int)))) rfl (dT c7) <|
   .cl (qq a0.Addr) fun r8 =>
   .vN 4 r8 (
    .q (.eF c3) <|
    .eI a0.Act 0 (fun c9 =>
     .q (.eF c4) <|
     .cl (vB a0.Val) fun r10 =>
     .vM 0 r10 (
      .az 0 0 <|
      .az 0 0 <|
      .cl (ZK a0.Val) fun r11 =>
      .az 0 1 <|
      .vM 0 r11 (
       .az 0 0 <|
       .az 0 0 <|
       .le (zu za) a0.Deps <|
       .az 0 0 <|
       .eD (a0.Deps.length : Int) 0 <|
       .az 0 0 <|
       .ret (decide ((a0.Deps.length : Int) = 0))) <|
      .az 0 0 <|
      .az 0 0 <|
      .az 0 0 <|
      .az 0 0 <|
      .ret false) <|
     .az 0 0 <|
     .az 0 0 <|
     .az 0 0 <|
     .ret false) fun c9 =>
    .ret false) <|
   .ret false) fun c7 =>
  .eb (a := true) (b := (decide (0 < (a0.Addr.length : Int)))) rfl (dF c7) <|
  .ret false) fun c6 =>
 .le za a0.Addr <|
 .lD 0 (a0.Addr.length : Int) <|
 .sp (0 < (a0.Addr.length : Int)) (fun c7 =>
  .eb (a := false) (b := (decide (0 < (a0.Addr.length : Int)))) rfl (dT c7) <|
  .ret false) fun c7 =>
 .eb (a := false) (b := (decide (0 < (a0.Addr.length : Int)))) rfl (dF c7) <|
 .q (.eF c3) <|
 .eI a0.Act 0 (fun c8 =>
  .q (.eF c4) <|
  .cl (vB a0.Val) fun r9 =>
  .vM 0 r9 (
   .az 0 0 <|
   .az 0 0 <|
   .cl (ZK a0.Val) fun r10 =>
   .az 0 1 <|
   .vM 0 r10 (
    .az 0 0 <|
    .az 0 0 <|
    .le (zu za) a0.Deps <|
    .az 0 0 <|
    .eD (a0.Deps.length : Int) 0 <|
    .az 0 0 <|
    .ret (decide ((a0.Deps.length : Int) = 0))) <|
   .az 0 0 <|
   .az 0 0 <|
   .az 0 0 <|
   .az 0 0 <|
   .ret false) <|
  .az 0 0 <|
  .az 0 0 <|
  .az 0 0 <|
  .ret false) fun c8 =>
 .ret false) (zf Tryz.func71)
def Zt (a0 : GState) (a1 : GEvent) : Option Bool :=
 if 1000000 <= a0.Serial then
  some false
 else
 if a1.Kind = 0 then
  some (!a0.Open)
 else
 if a1.Kind = 1 then
  (wo a0 a1.Addr).bind fun r4 =>
  match a0.Open with
  | true =>
   if 0 < (a0.Pending.length : Int) then
    some false
   else
   if a1.Act = 1 then
    if 0 <= r4 then
     some false
    else
    some (decide ((a0.Entries.length : Int) < 16))
   else
   if 0 <= r4 then
    some true
   else
   some false
  | false =>
   some false
 else
 if a1.Kind = 2 then
  if 0 < (a0.Pending.length : Int) then
   if a0.Pending = a1.Addr then
    some (!(decide (a0.Act = 4)))
   else
   some false
  else
  some false
 else
 if a1.Kind = 3 then
  if 0 < (a0.Pending.length : Int) then
   if a0.Pending = a1.Addr then
    some (decide (a0.Act = 4))
   else
   some false
  else
  some false
 else
 if a1.Kind = 4 then
  if 0 < (a0.Pending.length : Int) then
   some (decide (a0.Pending = a1.Addr))
  else
  some false
 else
 if a1.Kind = 5 then
  match a0.Open with
  | true =>
   some (!(decide (0 < (a0.Pending.length : Int))))
  | false =>
   some false
 else
 some a0.Open
theorem K3 (a0 : GState) (a1 : GEvent) : Oc (Zt a0 a1) 72 [] [.val true (zX a0), .val true (xS a1)] fun r => (vb r, []) := tc (
 .le za a0.Pending <|
 .lD 0 (a0.Pending.length : Int) <|
 .gI 1000000 a0.Serial (fun c1 =>
  .ret false) fun c1 =>
 .eI a1.Kind 0 (fun c2 =>
  .ret (!a0.Open)) fun c2 =>
 .eI a1.Kind 1 (fun c3 =>
  .cl (Xy a0 a1.Addr) fun r4 =>
  .gD 0 r4 <|
  .vM 0 a0.Open (
   .az 0 0 <|
   .az 0 0 <|
   .cN 0 (0 < (a0.Pending.length : Int)) (fun c5 =>
    .kF 0 (nT (dT c5)) <|
    .kF 0 (nT (dT c5)) <|
    .kF 0 (nT (dT c5)) <|
    .kF 0 (nT (dT c5)) <|
    .kF 0 (nT (dT c5)) <|
    .ret false) fun c5 =>
   .kT 0 (nF (dF c5)) <|
   .kT 0 (nF (dF c5)) <|
   .eI a1.Act 1 (fun c6 =>
    .kT 0 (nF (dF c5)) <|
    .kT 0 (nF (dF c5)) <|
    .sp (0 <= r4) (fun c7 =>
     .eb (a := true) (b := (decide (0 <= r4))) rfl (dT c7) <|
     .kT 0 (nF (dF c5)) <|
     .ret false) fun c7 =>
    .eb (a := true) (b := (decide (0 <= r4))) rfl (dF c7) <|
    .kT 0 (nF (dF c5)) <|
    .kF 2 (dF c7) <|
    .kF 0 (dF c7) <|
    .kF 0 (dF c7) <|
    .le zj a0.Entries <|
    .kF 0 (dF c7) <|
    .lD (a0.Entries.length : Int) 16 <|
    .kF 1 (dF c7) <|
    .ret (decide ((a0.Entries.length : Int) < 16))) fun c6 =>
   .kT 0 (nF (dF c5)) <|
   .kT 0 (nF (dF c5)) <|
   .sp (0 <= r4) (fun c7 =>
    .eb (a := false) (b := (decide (0 <= r4))) rfl (dT c7) <|
    .kT 0 (nF (dF c5)) <|
    .kT 2 (dT c7) <|
    .kT 0 (dT c7) <|
    .kT 0 (dT c7) <|
    .kT 0 (dT c7) <|
    .kT 1 (dT c7) <|
    .ret true) fun c7 =>
   .eb (a := false) (b := (decide (0 <= r4))) rfl (dF c7) <|
   .kT 0 (nF (dF c5)) <|
   .ret false) <|
  .az 0 0 <|
  .az 0 0 <|
  .ret false) fun c3 =>
 .eI a1.Kind 2 (fun c4 =>
  .cI 1 (0 < (a0.Pending.length : Int)) (fun c5 =>
   .kT 0 (dT c5) <|
   .kT 0 (dT c5) <|
   .bt a0.Pending <|
   .kT 0 (dT c5) <|
   .kT 0 (dT c5) <|
   .kT 0 (dT c5) <|
   .bt a1.Addr <|
   .kT 0 (dT c5) <|
   .sD a0.Pending a1.Addr <|
   .kT 0 (dT c5) <|
   .cI 0 (a0.Pending = a1.Addr) (fun c6 =>
    .kT 0 (dT c6) <|
    .kT 0 (dT c6) <|
    .eD a0.Act 4 <|
    .kT 0 (dT c6) <|
    .ret (!(decide (a0.Act = 4)))) fun c6 =>
   .kF 0 (dF c6) <|
   .kF 0 (dF c6) <|
   .kF 0 (dF c6) <|
   .ret false) fun c5 =>
  .kF 0 (dF c5) <|
  .kF 0 (dF c5) <|
  .kF 0 (dF c5) <|
  .kF 0 (dF c5) <|
  .kF 0 (dF c5) <|
  .kF 0 (dF c5) <|
  .kF 0 (dF c5) <|
  .ret false) fun c4 =>
 .eI a1.Kind 3 (fun c5 =>
  .cI 1 (0 < (a0.Pending.length : Int)) (fun c6 =>
   .kT 0 (dT c6) <|
   .kT 0 (dT c6) <|
   .bt a0.Pending <|
   .kT 0 (dT c6) <|
   .kT 0 (dT c6) <|
   .kT 0 (dT c6) <|
   .bt a1.Addr <|
   .kT 0 (dT c6) <|
   .sD a0.Pending a1.Addr <|
   .kT 0 (dT c6) <|
   .cI 0 (a0.Pending = a1.Addr) (fun c7 =>
    .kT 0 (dT c7) <|
    .kT 0 (dT c7) <|
    .eD a0.Act 4 <|
    .kT 0 (dT c7) <|
    .ret (decide (a0.Act = 4))) fun c7 =>
   .kF 0 (dF c7) <|
   .kF 0 (dF c7) <|
   .kF 0 (dF c7) <|
   .ret false) fun c6 =>
  .kF 0 (dF c6) <|
  .kF 0 (dF c6) <|
  .kF 0 (dF c6) <|
  .kF 0 (dF c6) <|
  .kF 0 (dF c6) <|
  .kF 0 (dF c6) <|
  .kF 0 (dF c6) <|
  .ret false) fun c5 =>
 .eI a1.Kind 4 (fun c6 =>
  .cI 1 (0 < (a0.Pending.length : Int)) (fun c7 =>
   .kT 0 (dT c7) <|
   .kT 0 (dT c7) <|
   .bt a0.Pending <|
   .kT 0 (dT c7) <|
   .kT 0 (dT c7) <|
   .kT 0 (dT c7) <|
   .bt a1.Addr <|
   .kT 0 (dT c7) <|
   .sD a0.Pending a1.Addr <|
   .kT 0 (dT c7) <|
   .ret (decide (a0.Pending = a1.Addr))) fun c7 =>
  .kF 0 (dF c7) <|
  .kF 0 (dF c7) <|
  .kF 0 (dF c7) <|
  .kF 0 (dF c7) <|
  .kF 0 (dF c7) <|
  .kF 0 (dF c7) <|
  .kF 0 (dF c7) <|
  .ret false) fun c6 =>
 .eI a1.Kind 5 (fun c7 =>
  .vM 1 a0.Open (
   .az 0 0 <|
   .az 0 0 <|
   .ret (!(decide (0 < (a0.Pending.length : Int))))) <|
  .az 0 0 <|
  .az 0 0 <|
  .ret false) fun c7 =>
 .ret a0.Open) (zf Tryz.func72)
def VB (F : (List GEntry) → GEntry → Option (List GEntry)) : Prop := ∀ (a0 : (List GEntry)) (a1 : GEntry), Oc (F a0 a1) 130 [] [vq zj a0, .val true (j9 a1)] fun r => (vq zj r, [])
def y0 (a0 : (List GEntry)) (a1 : GEntry) : Nat → Bool → Int → (List GEntry) → Option (Bool × Int × (List GEntry))
  | 0, _, _, _ => none
  | m + 1, v1, v2, v4 =>
  if v2 < (a0.length : Int) then
   (zv v2).bind fun i2 =>
   (a0[i2]?).bind fun x3 =>
   (kH a1.Addr x3.Addr).bind fun r4 =>
   match v1 with
   | true =>
    if r4 = 0 then
     y0 a0 a1 m v1 (w64 (v2 + 1)) v4
    else
    if yj 152 (v4.length + [x3].length) then
    y0 a0 a1 m v1 (w64 (v2 + 1)) (v4 ++ [x3])
    else none
   | false =>
    if r4 <= 0 then
     if yj 152 (v4.length + [a1].length) then
     if r4 = 0 then
      y0 a0 a1 m true (w64 (v2 + 1)) (v4 ++ [a1])
     else
     if yj 152 ((v4 ++ [a1]).length + [x3].length) then
     y0 a0 a1 m true (w64 (v2 + 1)) ((v4 ++ [a1]) ++ [x3])
     else none
     else none
    else
    if r4 = 0 then
     y0 a0 a1 m v1 (w64 (v2 + 1)) v4
    else
    if yj 152 (v4.length + [x3].length) then
    y0 a0 a1 m v1 (w64 (v2 + 1)) (v4 ++ [x3])
    else none
  else
  some (v1, v2, v4)
theorem T8 (a0 : (List GEntry)) (a1 : GEntry) (m : Nat) : ∀ (v1 : Bool) (v2 : Int) (v4 : (List GEntry)), Ol (y0 a0 a1 m v1 v2 v4) 130 (zJ Tryz.f130 0) ⟨[(0, vq zj a0), (3, vp 0 0), (5, vr 1), (6, vb v1), (7, vi v2)], [.var (j9 a1), .obj 9 (eL zj v4)], 0⟩ fun o => match o with | ⟨o_0, o_1, o_2⟩ => (.exit 0, ⟨[(0, vq zj a0), (3, vp 0 0), (5, vr 1), (6, vb o_0), (7, vi o_1), (12, vb false)], [.var (j9 a1), .obj 9 (eL zj o_2)], 0⟩) := by
  induction m with
  | zero => intro v1 v2 v4 o h; cases h
  | succ m ih => exact fun v1 v2 v4 => tlp (
   .le zj a0 <|
   .lI v2 (a0.length : Int) (fun c1 =>
    .na v2 fun i2 =>
    .ix zV a0 i2 fun x3 =>
    .cl (YV a1.Addr x3.Addr) fun r4 =>
    .vN 0 v1 (
     .an 0 0 <|
     .an 0 0 <|
     .eI r4 0 (fun c5 =>
      .go (ih v1 (w64 (v2 + 1)) v4)) fun c5 =>
     .ag 3 <|
     .ag 2 <|
     .pl yG [x3] <|
     .ap 152 yG v4 [x3] fun n6 =>
     .go (ih v1 (w64 (v2 + 1)) (v4 ++ [x3]))) <|
    .an 0 0 <|
    .gI r4 0 (fun c5 =>
     .an 0 0 <|
     .pl yG [a1] <|
     .ap 152 yG v4 [a1] fun n6 =>
     .eI r4 0 (fun c7 =>
      .go (ih true (w64 (v2 + 1)) (v4 ++ [a1]))) fun c7 =>
     .ag 3 <|
     .ag 2 <|
     .pl yG [x3] <|
     .ap 152 yG (v4 ++ [a1]) [x3] fun n8 =>
     .go (ih true (w64 (v2 + 1)) ((v4 ++ [a1]) ++ [x3]))) fun c5 =>
    .an 0 0 <|
    .eI r4 0 (fun c6 =>
     .go (ih v1 (w64 (v2 + 1)) v4)) fun c6 =>
    .ag 3 <|
    .ag 2 <|
    .pl yG [x3] <|
    .ap 152 yG v4 [x3] fun n7 =>
    .go (ih v1 (w64 (v2 + 1)) (v4 ++ [x3]))) fun c1 =>
   .ret (v1, v2, v4))
def Qd (n : Nat) (a0 : (List GEntry)) (a1 : GEntry) : Option (List GEntry) :=
 (y0 a0 a1 n false 0 []).bind fun ⟨o1_0, o1_1, o1_2⟩ =>
 match o1_0 with
 | true =>
  some o1_2
 | false =>
  if yj 152 (o1_2.length + [a1].length) then
  some (o1_2 ++ [a1])
  else none
theorem MY (n : Nat) : VB (Qd n) := fun a0 a1 => tc (
 .lp (T8 a0 a1 n false 0 []) fun ⟨o1_0, o1_1, o1_2⟩ =>
 .vN 0 o1_0 (
  .vw yG o1_2 <|
  .ret o1_2) <|
 .pl yG [a1] <|
 .ap 152 yG o1_2 [a1] fun n2 =>
 .vw yG (o1_2 ++ [a1]) <|
 .ret (o1_2 ++ [a1])) (zf Tryz.func130)
theorem jr {m : Nat} (hm : m <= 2 ^ 39) : yj 152 m := by
 unfold yj
 constructor <;> simp [Am.maxBytes] <;> omega
def vP (e : GEntry) : Bool → List GEntry → List GEntry
 | put, [] => bif put then [] else [e]
 | put, x :: l =>
  bif Op.bytesLess e.Addr x.Addr then (bif put then x :: vP e put l else e :: x :: vP e true l)
  else bif Op.bytesLess x.Addr e.Addr then x :: vP e put l
  else bif put then vP e put l else e :: vP e true l
theorem Hy {a : List GEntry} {e : GEntry} (ha : a.length <= 2 ^ 37) : ∀ (l p q : List GEntry) (b : Bool) (m : Nat), a = p ++ l → q.length <= 2 * p.length + 1 → l.length < m →
  ∃ (b' : Bool) (z : Int) (o : List GEntry), y0 a e m b (p.length : Int) q = some (b', z, o) ∧ o.length <= 2 * a.length + 1 ∧ (bif b' then o else o ++ [e]) = q ++ vP e b l := by
 intro l
 induction l with
 | nil =>
  intro p q b m he hq hm
  obtain ⟨m, rfl, _⟩ := zg hm
  refine ⟨b, _, q, by rw [y0, he, List.append_nil, if_neg (by omega)], by rw [he]; simp; omega, ?_⟩
  cases b <;> simp [vP]
 | cons x l ih =>
  intro p q b m he hq hm
  obtain ⟨m, rfl, hm'⟩ := zg hm
  have hlen : a.length = p.length + (l.length + 1) := by rw [he]; simp
  have hlm : l.length < m := by simp only [List.length_cons] at hm'; omega
  have hnext : ∀ (b1 : Bool) (q1 : List GEntry), q1.length <= 2 * p.length + 3 → ∃ (b' : Bool) (z : Int) (o : List GEntry), y0 a e m b1 ((p ++ [x]).length : Int) q1 = some (b', z, o) ∧ o.length <= 2 * a.length + 1 ∧ (bif b' then o else o ++ [e]) = q1 ++ vP e b1 l := fun b1 q1 h1 =>
   ih (p ++ [x]) q1 b1 m (by rw [he]; simp) (by simp; omega) hlm
  rw [y0, if_pos (by omega), zb, oB, show a[p.length]? = some x by rw [he]; exact zG p x l, oB, y8 p x (by omega)]
  unfold kH
  unfold vP
  by_cases c1 : Op.bytesLess e.Addr x.Addr = true
  ·rw [if_pos c1, oB, c1]
   simp only [cond_true]
   cases b with
   | true =>
    simp only [cond_true]
    rw [if_neg (by decide), if_pos (jr (by simp; omega))]
    obtain ⟨b', z, o, h1, h2, h3⟩ := hnext true (q ++ [x]) (by simp; omega)
    exact ⟨b', z, o, h1, h2, by rw [h3]; simp⟩
   | false =>
    simp only [cond_false]
    rw [if_pos (by decide), if_pos (jr (by simp; omega)), if_neg (by decide), if_pos (jr (by simp; omega))]
    obtain ⟨b', z, o, h1, h2, h3⟩ := hnext true (q ++ [e] ++ [x]) (by simp; omega)
    exact ⟨b', z, o, h1, h2, by rw [h3]; simp⟩
  ·rw [if_neg c1]
   rw [show Op.bytesLess e.Addr x.Addr = false by simpa using c1]
   simp only [cond_false]
   by_cases c2 : Op.bytesLess x.Addr e.Addr = true
   ·rw [if_pos c2, oB, c2]
    simp only [cond_true]
    obtain ⟨b', z, o, h1, h2, h3⟩ := hnext b (q ++ [x]) (by simp; omega)
    cases b with
    | true =>
     simp only
     rw [if_neg (by decide), if_pos (jr (by simp; omega))]
     exact ⟨b', z, o, h1, h2, by rw [h3]; simp⟩
    | false =>
     simp only
     rw [if_neg (by decide), if_neg (by decide), if_pos (jr (by simp; omega))]
     exact ⟨b', z, o, h1, h2, by rw [h3]; simp⟩
   ·rw [if_neg c2, oB, show Op.bytesLess x.Addr e.Addr = false by simpa using c2]
    simp only [cond_false]
    cases b with
    | true =>
     simp only [cond_true]
     rw [if_pos trivial]
     obtain ⟨b', z, o, h1, h2, h3⟩ := hnext true q (by omega)
     exact ⟨b', z, o, h1, h2, by rw [h3]⟩
    | false =>
     simp only [cond_false]
     rw [if_pos (by decide), if_pos (jr (by simp; omega)), if_pos trivial]
     obtain ⟨b', z, o, h1, h2, h3⟩ := hnext true (q ++ [e]) (by simp; omega)
     exact ⟨b', z, o, h1, h2, by rw [h3]; simp⟩
def j0 (a0 : (List GEntry)) (a1 : GEntry) : Option (List GEntry) := if a0.length <= 2 ^ 37 then some (vP a1 false a0) else none
theorem UO (a0 : (List GEntry)) (a1 : GEntry) (r : (List GEntry)) (h : j0 a0 a1 = some r) : ∃ n, Qd n a0 a1 = some r := by
 unfold j0 at h
 obtain ⟨ha, h⟩ := zC h
 obtain ⟨b', z, o, h1, h2, h3⟩ := Hy (a := a0) (e := a1) (by omega) a0 [] [] false (a0.length + 1) rfl (by simp) (by omega)
 refine ⟨a0.length + 1, ?_⟩
 unfold Qd
 simp only [List.length_nil, Int.natCast_zero] at h1
 rw [h1, <- h]
 rw [List.nil_append] at h3
 rw [<- h3]
 cases b' with
 | true => rfl
 | false =>
  simp only [oB, cond_false]
  rw [if_pos (jr (by simp; omega))]
theorem K4 : VB j0 := fun a0 a1 r h => (UO a0 a1 r h).elim fun n hn => MY n a0 a1 r hn
def vL (a0 : GEvent) (e0 : GState) : Option GState :=
 (wo (GState.mk (w64 (e0.Serial + 1)) e0.Open e0.Pending e0.Act e0.Entries) e0.Pending).bind fun r1 =>
 if a0.Kind = 0 then
  some (GState.mk (w64 (e0.Serial + 1)) true e0.Pending e0.Act e0.Entries)
 else
 if a0.Kind = 1 then
  some (GState.mk (w64 (e0.Serial + 1)) e0.Open a0.Addr a0.Act e0.Entries)
 else
 if a0.Kind = 2 then
  (j0 e0.Entries (GEntry.mk a0.Addr a0.Val a0.Deps false (w64 (e0.Serial + 1)))).bind fun r5 =>
  some (GState.mk (w64 (e0.Serial + 1)) e0.Open [] 0 r5)
 else
 if a0.Kind = 3 then
  (zv r1).bind fun i6 =>
  (qm e0.Entries none (some i6)).bind fun s7 =>
  if yj 152 (0 + s7.length) then
  (zv (w64 (r1 + 1))).bind fun i9 =>
  (qm e0.Entries (some i9) none).bind fun s10 =>
  if yj 152 (s7.length + s10.length) then
  some (GState.mk (w64 (e0.Serial + 1)) e0.Open [] 0 (s7 ++ s10))
  else none
  else none
 else
 if a0.Kind = 4 then
  if (e0.Pending.length : Int) = 0 then
   some (GState.mk (w64 (e0.Serial + 1)) e0.Open [] 0 e0.Entries)
  else
  if 0 <= r1 then
   if yj 152 (0 + e0.Entries.length) then
   (zv r1).bind fun i10 =>
   (e0.Entries[i10]?).bind fun x11 =>
   ((e0.Entries.set i10 (GEntry.mk x11.Addr x11.Val x11.Deps true x11.Turned))[i10]?).bind fun x12 =>
   some (GState.mk (w64 (e0.Serial + 1)) e0.Open [] 0 ((e0.Entries.set i10 (GEntry.mk x11.Addr x11.Val x11.Deps true x11.Turned)).set i10 (GEntry.mk x12.Addr x12.Val x12.Deps x12.Taint (w64 (e0.Serial + 1)))))
   else none
  else
  some (GState.mk (w64 (e0.Serial + 1)) e0.Open [] 0 e0.Entries)
 else
 if a0.Kind = 6 then
  if (e0.Pending.length : Int) = 0 then
   some (GState.mk (w64 (e0.Serial + 1)) false [] 0 e0.Entries)
  else
  if 0 <= r1 then
   if yj 152 (0 + e0.Entries.length) then
   (zv r1).bind fun i11 =>
   (e0.Entries[i11]?).bind fun x12 =>
   ((e0.Entries.set i11 (GEntry.mk x12.Addr x12.Val x12.Deps true x12.Turned))[i11]?).bind fun x13 =>
   some (GState.mk (w64 (e0.Serial + 1)) false [] 0 ((e0.Entries.set i11 (GEntry.mk x12.Addr x12.Val x12.Deps true x12.Turned)).set i11 (GEntry.mk x13.Addr x13.Val x13.Deps x13.Taint (w64 (e0.Serial + 1)))))
   else none
  else
  (j0 e0.Entries (GEntry.mk e0.Pending (GValue.mk 5 0 [] [] []) [] true (w64 (e0.Serial + 1)))).bind fun r10 =>
  some (GState.mk (w64 (e0.Serial + 1)) false [] 0 r10)
 else
 if a0.Kind = 5 then
  some (GState.mk (w64 (e0.Serial + 1)) false [] 0 e0.Entries)
 else
 some (GState.mk (w64 (e0.Serial + 1)) e0.Open [] 0 e0.Entries)
theorem MZ (a0 : GEvent) (e0 : GState) : Oc (vL a0 e0) 74 [.var (zX e0)] [vp 0 0, .val true (xS a0)] fun r => (.tup [], [.var (zX r)]) := tc (
 .cl (Xy (GState.mk (w64 (e0.Serial + 1)) e0.Open e0.Pending e0.Act e0.Entries) e0.Pending) fun r1 =>
 .eI a0.Kind 0 (fun c2 =>
  .ret (GState.mk (w64 (e0.Serial + 1)) true e0.Pending e0.Act e0.Entries)) fun c2 =>
 .eI a0.Kind 1 (fun c3 =>
  .ret (GState.mk (w64 (e0.Serial + 1)) e0.Open a0.Addr a0.Act e0.Entries)) fun c3 =>
 .eI a0.Kind 2 (fun c4 =>
  .cl (K4 e0.Entries (GEntry.mk a0.Addr a0.Val a0.Deps false (w64 (e0.Serial + 1)))) fun r5 =>
  .ret (GState.mk (w64 (e0.Serial + 1)) e0.Open [] 0 r5)) fun c4 =>
 .eI a0.Kind 3 (fun c5 =>
  .na r1 fun i6 =>
  .ct zj e0.Entries none (some i6) fun s7 =>
  .un yG e0.Entries <|
  .ap 152 yG [] s7 fun n8 =>
  .na (w64 (r1 + 1)) fun i9 =>
  .ct zj e0.Entries (some i9) none fun s10 =>
  .un yG e0.Entries <|
  .ap 152 yG s7 s10 fun n11 =>
  .vw yG (s7 ++ s10) <|
  .ret (GState.mk (w64 (e0.Serial + 1)) e0.Open [] 0 (s7 ++ s10))) fun c5 =>
 .eI a0.Kind 4 (fun c6 =>
  .le za e0.Pending <|
  .eI (e0.Pending.length : Int) 0 (fun c7 =>
   .q (.eFo a0.Kind 6 (by omega)) <|
   .ret (GState.mk (w64 (e0.Serial + 1)) e0.Open [] 0 e0.Entries)) fun c7 =>
  .gI 0 r1 (fun c8 =>
   .ap 152 yG [] e0.Entries fun n9 =>
   .na r1 fun i10 =>
   .ix zV e0.Entries i10 fun x11 =>
   .ag 0 <|
   .sl (zV (GEntry.mk x11.Addr x11.Val x11.Deps true x11.Turned)) e0.Entries i10 <|
   .ag 1 <|
   .ix zV (e0.Entries.set i10 (GEntry.mk x11.Addr x11.Val x11.Deps true x11.Turned)) i10 fun x12 =>
   .ag 0 <|
   .sl (zV (GEntry.mk x12.Addr x12.Val x12.Deps x12.Taint (w64 (e0.Serial + 1)))) (e0.Entries.set i10 (GEntry.mk x11.Addr x11.Val x11.Deps true x11.Turned)) i10 <|
   .q (.eFo a0.Kind 6 (by omega)) <|
   .vw yG ((e0.Entries.set i10 (GEntry.mk x11.Addr x11.Val x11.Deps true x11.Turned)).set i10 (GEntry.mk x12.Addr x12.Val x12.Deps x12.Taint (w64 (e0.Serial + 1)))) <|
   .ret (GState.mk (w64 (e0.Serial + 1)) e0.Open [] 0 ((e0.Entries.set i10 (GEntry.mk x11.Addr x11.Val x11.Deps true x11.Turned)).set i10 (GEntry.mk x12.Addr x12.Val x12.Deps x12.Taint (w64 (e0.Serial + 1)))))) fun c8 =>
  .q (.eFo a0.Kind 6 (by omega)) <|
  .q (.eFo a0.Kind 6 (by omega)) <|
  .ret (GState.mk (w64 (e0.Serial + 1)) e0.Open [] 0 e0.Entries)) fun c6 =>
 .eI a0.Kind 6 (fun c7 =>
  .le za e0.Pending <|
  .eI (e0.Pending.length : Int) 0 (fun c8 =>
   .q (.eT c7) <|
   .ret (GState.mk (w64 (e0.Serial + 1)) false [] 0 e0.Entries)) fun c8 =>
  .gI 0 r1 (fun c9 =>
   .ap 152 yG [] e0.Entries fun n10 =>
   .na r1 fun i11 =>
   .ix zV e0.Entries i11 fun x12 =>
   .ag 0 <|
   .sl (zV (GEntry.mk x12.Addr x12.Val x12.Deps true x12.Turned)) e0.Entries i11 <|
   .ag 1 <|
   .ix zV (e0.Entries.set i11 (GEntry.mk x12.Addr x12.Val x12.Deps true x12.Turned)) i11 fun x13 =>
   .ag 0 <|
   .sl (zV (GEntry.mk x13.Addr x13.Val x13.Deps x13.Taint (w64 (e0.Serial + 1)))) (e0.Entries.set i11 (GEntry.mk x12.Addr x12.Val x12.Deps true x12.Turned)) i11 <|
   .q (.eT c7) <|
   .vw yG ((e0.Entries.set i11 (GEntry.mk x12.Addr x12.Val x12.Deps true x12.Turned)).set i11 (GEntry.mk x13.Addr x13.Val x13.Deps x13.Taint (w64 (e0.Serial + 1)))) <|
   .ret (GState.mk (w64 (e0.Serial + 1)) false [] 0 ((e0.Entries.set i11 (GEntry.mk x12.Addr x12.Val x12.Deps true x12.Turned)).set i11 (GEntry.mk x13.Addr x13.Val x13.Deps x13.Taint (w64 (e0.Serial + 1)))))) fun c9 =>
  .q (.eT c7) <|
  .cl (K4 e0.Entries (GEntry.mk e0.Pending (GValue.mk 5 0 [] [] []) [] true (w64 (e0.Serial + 1)))) fun r10 =>
  .q (.eT c7) <|
  .ret (GState.mk (w64 (e0.Serial + 1)) false [] 0 r10)) fun c7 =>
 .eI a0.Kind 5 (fun c8 =>
  .ret (GState.mk (w64 (e0.Serial + 1)) false [] 0 e0.Entries)) fun c8 =>
 .ret (GState.mk (w64 (e0.Serial + 1)) e0.Open [] 0 e0.Entries)) (zf Tryz.func74)
def K5 (F : GHistory → Int → Option (GState × Bool)) : Prop := ∀ (a0 : GHistory) (a1 : Int), Oc (F a0 a1) 87 [] [.val true (yq a0), vi a1] fun r => (.tup [(true, (zX r.1)), (false, [.bool r.2])], [])
def qw (a1 : Int) (a0 : GHistory) (v3 : Int) (v4 : Bool) (v5 : Int) (v7 : (List UInt8)) (v8 : (List GEntry)) : Nat → Int → GState → Option ((Bool × GState) ⊕ (Int × GState))
  | 0, _, _ => none
  | m + 1, v1, v6 =>
  if v1 < a1 then
   (zv v1).bind fun i2 =>
   (a0.Events[i2]?).bind fun x3 =>
   (Zt v6 x3).bind fun r4 =>
   match r4 with
   | true =>
    (vL x3 v6).bind fun r5 =>
    qw a1 a0 v3 v4 v5 v7 v8 m (w64 (v1 + 1)) r5
   | false =>
    some (.inl (false, v6))
  else
  some (.inr (v1, v6))
theorem RD (a1 : Int) (a0 : GHistory) (v3 : Int) (v4 : Bool) (v5 : Int) (v7 : (List UInt8)) (v8 : (List GEntry)) (m : Nat) : ∀ (v1 : Int) (v6 : GState), Ol (qw a1 a0 v3 v4 v5 v7 v8 m v1 v6) 87 (zJ Tryz.f87 0) ⟨[(1, vi a1), (2, vp 0 0), (4, vp 1 0), (6, vp 2 0), (7, vi v1)], [.var (yq a0), .var [ci v3, .bool v4, .ref 3, ci v5, .ref 4], .var (zX v6), .obj 1 (eL za v7), .obj 9 (eL zj v8)], 0⟩ fun o => match o with | .inl ⟨o_0_0, o_0_1⟩ => (.ret, ⟨[(4, vp 0 0), (5, vb o_0_0)], [.var (zX o_0_1)], 0⟩) | .inr (⟨o_1_0, o_1_1⟩) => (.exit 0, ⟨[(1, vi a1), (2, vp 0 0), (4, vp 1 0), (6, vp 2 0), (7, vi o_1_0), (12, vb false)], [.var (yq a0), .var [ci v3, .bool v4, .ref 3, ci v5, .ref 4], .var (zX o_1_1), .obj 1 (eL za v7), .obj 9 (eL zj v8)], 0⟩) := by
  induction m with
  | zero => intro v1 v6 o h; cases h
  | succ m ih => exact fun v1 v6 => tlp (
   .lI v1 a1 (fun c1 =>
    .na v1 fun i2 =>
    .ix eq_GEvent a0.Events i2 fun x3 =>
    .cl (K3 v6 x3) fun r4 =>
    .vN 0 r4 (
     .ag 3 <|
     .ag 2 <|
     .cl (MZ x3 v6) fun r5 =>
     .go (ih (w64 (v1 + 1)) r5)) <|
    .ret (.inl (false, v6))) fun c1 =>
   .ret (.inr (v1, v6)))
def vC (n : Nat) (a0 : GHistory) (a1 : Int) : Option (GState × Bool) :=
 (qw a1 a0 0 false 0 [] [] n 0 a0.Base).bind fun o1 =>
 match o1 with
 | .inl ⟨o1_0_0, o1_0_1⟩ =>
  some (o1_0_1, o1_0_0)
 | .inr (⟨o1_1_0, o1_1_1⟩) =>
  some (o1_1_1, true)
theorem L6 (n : Nat) : K5 (vC n) := fun a0 a1 => tc (
 .l2 (RD a1 a0 0 false 0 [] [] n 0 a0.Base) (fun ⟨o1_0_0, o1_0_1⟩ =>
  .ret (o1_0_1, o1_0_0)) fun ⟨o1_1_0, o1_1_1⟩ =>
 .ret (o1_1_1, true)) (zf Tryz.func87)
def ja (a0 : GHistory) (a1 : Int) : Option (GState × Bool) := vC (a0.Events.length + 5) a0 a1
theorem T9 (a0 : GHistory) (a1 : Int) (r : (GState × Bool)) (h : ja a0 a1 = some r) : ∃ n, vC n a0 a1 = some r := ⟨_, h⟩
theorem Js : K5 ja := fun a0 a1 r h => (T9 a0 a1 r h).elim fun n hn => L6 n a0 a1 r hn
def K6 (F : GHistory → Option Bool) : Prop := ∀ (a0 : GHistory), Oc (F a0) 27 [] [.val true (yq a0)] fun r => (vb r, [])
def qx (a0 : GHistory) : Nat → Int → Option (Bool ⊕ Int)
  | 0, _ => none
  | m + 1, v0 =>
  if v0 < (a0.Events.length : Int) then
   (zv v0).bind fun i2 =>
   (a0.Events[i2]?).bind fun x3 =>
   (kJ x3).bind fun r4 =>
   match r4 with
   | true =>
    qx a0 m (w64 (v0 + 1))
   | false =>
    some (.inl false)
  else
  some (.inr v0)
theorem RE (a0 : GHistory) (m : Nat) : ∀ (v0 : Int), Ol (qx a0 m v0) 27 (zJ Tryz.f27 0) ⟨[(1, vp 0 0), (3, vi v0)], [.var (yq a0)], 0⟩ fun o => match o with | .inl o_0 => (.ret, ⟨[(2, vb o_0)], [], 0⟩) | .inr (o_1) => (.exit 0, ⟨[(1, vp 0 0), (3, vi o_1), (33, vb false)], [.var (yq a0)], 0⟩) := by
  induction m with
  | zero => intro v0 o h; cases h
  | succ m ih => exact fun v0 => tlp (
   .le zw a0.Events <|
   .lI v0 (a0.Events.length : Int) (fun c1 =>
    .na v0 fun i2 =>
    .ix eq_GEvent a0.Events i2 fun x3 =>
    .cl (QN x3) fun r4 =>
    .vN 0 r4 (
     .go (ih (w64 (v0 + 1)))) <|
    .ret (.inl false)) fun c1 =>
   .ret (.inr v0))
def Ys (n : Nat) (a0 : GHistory) : Option Bool :=
 (kG a0.Base).bind fun r1 =>
 match r1 with
 | true =>
  if 300 < (a0.Events.length : Int) then
   some false
  else
  if a0.Safe < 0 then
   some false
  else
  if (a0.Events.length : Int) < a0.Safe then
   some false
  else
  (qx a0 n 0).bind fun o5 =>
  match o5 with
  | .inl o5_0 =>
   some o5_0
  | .inr (o5_1) =>
   (ja a0 (a0.Events.length : Int)).bind fun ⟨r6_0, r6_1⟩ =>
   some r6_1
 | false =>
  some false
theorem L7 (n : Nat) : K6 (Ys n) := fun a0 => tc (
 .cl (UM a0.Base) fun r1 =>
 .vN 0 r1 (
  .an 0 0 <|
  .an 0 0 <|
  .le zw a0.Events <|
  .an 0 0 <|
  .lI 300 (a0.Events.length : Int) (fun c2 =>
   .an 0 0 <|
   .ret false) fun c2 =>
  .an 0 0 <|
  .lI a0.Safe 0 (fun c3 =>
   .ret false) fun c3 =>
  .le zw a0.Events <|
  .lI (a0.Events.length : Int) a0.Safe (fun c4 =>
   .ret false) fun c4 =>
  .l2 (RE a0 n 0) (fun o5_0 =>
   .ret o5_0) fun o5_1 =>
  .le zw a0.Events <|
  .cl (Js a0 (a0.Events.length : Int)) fun ⟨r6_0, r6_1⟩ =>
  .ret r6_1) <|
 .an 0 0 <|
 .an 0 0 <|
 .an 0 0 <|
 .an 0 0 <|
 .ret false) (zf Tryz.func27)
def vD (a0 : GHistory) : Option Bool := Ys (a0.Events.length + 5) a0
theorem TA (a0 : GHistory) (r : Bool) (h : vD a0 = some r) : ∃ n, Ys n a0 = some r := ⟨_, h⟩
theorem On : K6 vD := fun a0 r h => (TA a0 r h).elim fun n hn => L7 n a0 r hn
def kK (F : GValue → Option GValue) : Prop := ∀ (a0 : GValue), Oc (F a0) 151 [] [.val true (zD a0)] fun r => (.val true (xv r), [])
def qP (G_spec_l2own : GValue → Option GValue) (a0 : GValue) (v2 : Int) (v3 : Int) (v4 : Int) (v5 : Int) (v6 : (List UInt8)) (v7 : (List (List UInt8))) (v8 : (List GValue)) (v9 : (List UInt8)) (v11 : (List GValue)) : Nat → Int → (List (List UInt8)) → Option (Int × (List (List UInt8)))
  | 0, _, _ => none
  | m + 1, v0, v10 =>
  if v0 < (a0.K.length : Int) then
   (zv v0).bind fun i2 =>
   (a0.K[i2]?).bind fun x3 =>
   if yj 1 (0 + x3.length) then
   if yj 24 (v10.length + [x3].length) then
   qP G_spec_l2own a0 v2 v3 v4 v5 v6 v7 v8 v9 v11 m (w64 (v0 + 1)) (v10 ++ [x3])
   else none
   else none
  else
  some (v0, v10)
theorem TB (G_spec_l2own : GValue → Option GValue) (H_spec_l2own : kK G_spec_l2own) (a0 : GValue) (v2 : Int) (v3 : Int) (v4 : Int) (v5 : Int) (v6 : (List UInt8)) (v7 : (List (List UInt8))) (v8 : (List GValue)) (v9 : (List UInt8)) (v11 : (List GValue)) (m : Nat) : ∀ (v0 : Int) (v10 : (List (List UInt8))), Ol (qP G_spec_l2own a0 v2 v3 v4 v5 v6 v7 v8 v9 v11 m v0 v10) 151 (zJ Tryz.f151 0) ⟨[(1, vp 0 0), (2, vp 1 0), (3, vp 2 0), (4, vi v0)], [.var (zD a0), .var [ci v2, ci v3, .ref 3, .ref 4, .ref 5], .var [ci v4, ci v5, .ref 6, .ref 7, .ref 8], .obj 1 (eL za v6), .obj 1 (eL (yv 1 za) v7), .obj 5 (eL zq v8), .obj 1 (eL za v9), .obj 1 (eL (yv 1 za) v10), .obj 5 (eL zq v11)], 0⟩ fun o => match o with | ⟨o_0, o_1⟩ => (.exit 0, ⟨[(1, vp 0 0), (2, vp 1 0), (3, vp 2 0), (4, vi o_0), (19, vb false)], [.var (zD a0), .var [ci v2, ci v3, .ref 3, .ref 4, .ref 5], .var [ci v4, ci v5, .ref 6, .ref 7, .ref 8], .obj 1 (eL za v6), .obj 1 (eL (yv 1 za) v7), .obj 5 (eL zq v8), .obj 1 (eL za v9), .obj 1 (eL (yv 1 za) o_1), .obj 5 (eL zq v11)], 0⟩) := by
  induction m with
  | zero => intro v0 v10 o h; cases h
  | succ m ih => exact fun v0 v10 => tlp (
   .le (zu za) a0.K <|
   .lI v0 (a0.K.length : Int) (fun c1 =>
    .na v0 fun i2 =>
    .ix0 (zu za) a0.K i2 fun x3 =>
    .ap 1 zz [] x3 fun n4 =>
    .ao 24 (qZ 1 xm) v10 [x3] fun n5 =>
    .go (ih (w64 (v0 + 1)) (v10 ++ [x3]))) fun c1 =>
   .ret (v0, v10))
def qQ (G_spec_l2own : GValue → Option GValue) (a0 : GValue) (v2 : Int) (v3 : Int) (v4 : Int) (v5 : Int) (v6 : (List UInt8)) (v7 : (List (List UInt8))) (v8 : (List GValue)) (v9 : (List UInt8)) (v10 : (List (List UInt8))) : Nat → Int → (List GValue) → Option (Int × (List GValue))
  | 0, _, _ => none
  | m + 1, v0, v11 =>
  if v0 < (a0.L.length : Int) then
   (zv v0).bind fun i2 =>
   (a0.L[i2]?).bind fun x3 =>
   (G_spec_l2own x3).bind fun r4 =>
   if yj 88 (v11.length + [r4].length) then
   qQ G_spec_l2own a0 v2 v3 v4 v5 v6 v7 v8 v9 v10 m (w64 (v0 + 1)) (v11 ++ [r4])
   else none
  else
  some (v0, v11)
theorem TC (G_spec_l2own : GValue → Option GValue) (H_spec_l2own : kK G_spec_l2own) (a0 : GValue) (v2 : Int) (v3 : Int) (v4 : Int) (v5 : Int) (v6 : (List UInt8)) (v7 : (List (List UInt8))) (v8 : (List GValue)) (v9 : (List UInt8)) (v10 : (List (List UInt8))) (m : Nat) : ∀ (v0 : Int) (v11 : (List GValue)), Ol (qQ G_spec_l2own a0 v2 v3 v4 v5 v6 v7 v8 v9 v10 m v0 v11) 151 (zJ Tryz.f151 1) ⟨[(1, vp 0 0), (2, vp 1 0), (3, vp 2 0), (5, vi v0)], [.var (zD a0), .var [ci v2, ci v3, .ref 3, .ref 4, .ref 5], .var [ci v4, ci v5, .ref 6, .ref 7, .ref 8], .obj 1 (eL za v6), .obj 1 (eL (yv 1 za) v7), .obj 5 (eL zq v8), .obj 1 (eL za v9), .obj 1 (eL (yv 1 za) v10), .obj 5 (eL zq v11)], 0⟩ fun o => match o with | ⟨o_0, o_1⟩ => (.exit 2, ⟨[(1, vp 0 0), (2, vp 1 0), (3, vp 2 0), (5, vi o_0), (38, vb false)], [.var (zD a0), .var [ci v2, ci v3, .ref 3, .ref 4, .ref 5], .var [ci v4, ci v5, .ref 6, .ref 7, .ref 8], .obj 1 (eL za v6), .obj 1 (eL (yv 1 za) v7), .obj 5 (eL zq v8), .obj 1 (eL za v9), .obj 1 (eL (yv 1 za) v10), .obj 5 (eL zq o_1)], 0⟩) := by
  induction m with
  | zero => intro v0 v11 o h; cases h
  | succ m ih => exact fun v0 v11 => tlp (
   .le zh a0.L <|
   .lI v0 (a0.L.length : Int) (fun c1 =>
    .na v0 fun i2 =>
    .ix yz a0.L i2 fun x3 =>
    .cl (H_spec_l2own x3) fun r4 =>
    .nd (yj 88 (v11.length + [r4].length)) fun n5 =>
    .q ⟨.room 88 (eL zq v11) ([(xv r4)] : List (List C)), .b true, by rw [(show ([(xv r4)] : List (List C)) = eL zq [r4] from (X7 (yp r4) WO))]; exact (A.room n5)⟩ <|
    .q ⟨.uni 5 ([(xv r4)] : List (List C)), .b true, by rw [(show ([(xv r4)] : List (List C)) = eL zq [r4] from (X7 (yp r4) WO))]; exact (A.uniO wV)⟩ <|
    .q ⟨.app (eL zq v11) ([(xv r4)] : List (List C)), .l (eL zq (v11 ++ [r4])), by rw [(show ([(xv r4)] : List (List C)) = eL zq [r4] from (X7 (yp r4) WO))]; exact A.app⟩ <|
    .go (ih (w64 (v0 + 1)) (v11 ++ [r4]))) fun c1 =>
   .ret (v0, v11))
def Qe (G_spec_l2own : GValue → Option GValue) (n : Nat) (a0 : GValue) : Option GValue :=
 if yj 1 (0 + a0.S.length) then
 (qP G_spec_l2own a0 0 0 a0.Kind a0.N [] [] [] a0.S [] n 0 []).bind fun ⟨o2_0, o2_1⟩ =>
 (qQ G_spec_l2own a0 0 0 a0.Kind a0.N [] [] [] a0.S o2_1 n 0 []).bind fun ⟨o3_0, o3_1⟩ =>
 some (GValue.mk a0.Kind a0.N a0.S o2_1 o3_1)
 else none
theorem Na (G_spec_l2own : GValue → Option GValue) (H_spec_l2own : kK G_spec_l2own) (n : Nat) : kK (Qe G_spec_l2own n) := fun a0 => tc (
 .ap 1 zz [] a0.S fun n1 =>
 .lp (TB G_spec_l2own H_spec_l2own a0 0 0 a0.Kind a0.N [] [] [] a0.S [] n 0 []) fun ⟨o2_0, o2_1⟩ =>
 .lp (TC G_spec_l2own H_spec_l2own a0 0 0 a0.Kind a0.N [] [] [] a0.S o2_1 n 0 []) fun ⟨o3_0, o3_1⟩ =>
 .ret (GValue.mk a0.Kind a0.N a0.S o2_1 o3_1)) (zf Tryz.func151)
def wk : Nat → GValue → Option GValue
 | 0, _ => none
 | n + 1, a0 => Qe (wk n) n a0
theorem Oo (n : Nat) : kK (wk n) := by
 induction n with
 | zero => exact fun _ _ h => (by rw [wk] at h; cases h)
 | succ n ih =>
  have ih_spec_l2own := ih
  exact fun a0 r h => Na (wk n) ih_spec_l2own n a0 r (by rw [wk] at h; exact h)
theorem NV {G : GValue → Option GValue} {a : GValue} {v2 v3 v4 v5 : Int} {v6 : List UInt8} {v7 : List (List UInt8)} {v8 : List GValue} {v9 : List UInt8} {v11 : List GValue} (ha : bsz a.K <= 2 ^ 39) : ∀ (l p : List (List UInt8)) (m : Nat), a.K = p ++ l → l.length < m → ∃ z, qP G a v2 v3 v4 v5 v6 v7 v8 v9 v11 m (p.length : Int) p = some (z, a.K) := by
 have hl := q7 a.K
 intro l
 induction l with
 | nil =>
  intro p m he hm
  obtain ⟨m, rfl, _⟩ := zg hm
  exact ⟨_, by rw [qP, he, if_neg (wh p)]; simp; rfl⟩
 | cons x l ih =>
  intro p m he hm
  obtain ⟨m, rfl, hm'⟩ := zg hm
  have hx : 1 + x.length <= bsz a.K := ZT (by rw [he]; simp)
  have hlen : a.K.length = p.length + (l.length + 1) := by rw [he]; simp
  obtain ⟨z, hz⟩ := ih (p ++ [x]) m (by rw [he]; simp) (by simp only [List.length_cons] at hm'; omega)
  refine ⟨z, ?_⟩
  rw [qP, if_pos (by rw [he]; exact vI p x l), zb, oB, show a.K[p.length]? = some x by rw [he]; exact zG p x l, oB, if_pos (xK (by decide) (by omega)), if_pos (xK (by decide) (by simp only [List.length_cons, List.length_nil]; omega)), y8 p x (by omega), hz]
theorem NW {G : GValue → Option GValue} {a : GValue} {v2 v3 v4 v5 : Int} {v6 : List UInt8} {v7 : List (List UInt8)} {v8 : List GValue} {v9 : List UInt8} {v10 : List (List UInt8)} (ha : yA a.L <= 2 ^ 39) : ∀ (l p : List GValue) (m : Nat), a.L = p ++ l → (∀ x ∈ l, G x = some x) → l.length < m → ∃ z, qQ G a v2 v3 v4 v5 v6 v7 v8 v9 v10 m (p.length : Int) p = some (z, a.L) := by
 have hl := yR a.L
 intro l
 induction l with
 | nil =>
  intro p m he _ hm
  obtain ⟨m, rfl, _⟩ := zg hm
  exact ⟨_, by rw [qQ, he, if_neg (wh p)]; simp; rfl⟩
 | cons x l ih =>
  intro p m he hG hm
  obtain ⟨m, rfl, hm'⟩ := zg hm
  have hlen : a.L.length = p.length + (l.length + 1) := by rw [he]; simp
  obtain ⟨z, hz⟩ := ih (p ++ [x]) m (by rw [he]; simp) (fun y hy => hG y (List.mem_cons_of_mem _ hy)) (by simp only [List.length_cons] at hm'; omega)
  refine ⟨z, ?_⟩
  rw [qQ, if_pos (by omega), zb, oB, show a.L[p.length]? = some x by rw [he]; exact zG p x l, oB, hG x List.mem_cons_self, oB, if_pos (xK (by decide) (by simp only [List.length_cons, List.length_nil]; omega)), y8 p x (by omega), hz]
theorem zbd : ∀ (N : Nat) (v : GValue), vsz v < N → vsz v <= 2 ^ 39 → ∀ f : Nat, vsz v + 2 <= f → wk f v = some v := by
 intro N
 induction N with
 | zero => intro v hv; omega
 | succ N ih =>
  intro v hv hs f hf
  obtain ⟨f, rfl, _⟩ := zg (show 0 < f by omega)
  have he := xw v
  have hl := yR v.L
  have hb := q7 v.K
  rw [wk]
  unfold Qe
  rw [if_pos (xK (by decide) (by omega))]
  obtain ⟨y, hy⟩ := NV (G := wk f) (a := v) (v2 := 0) (v3 := 0) (v4 := v.Kind) (v5 := v.N) (v6 := []) (v7 := []) (v8 := []) (v9 := v.S) (v11 := []) (by omega) v.K [] f rfl (by omega)
  simp only [List.length_nil, Int.natCast_zero] at hy
  rw [hy, oB]
  dsimp only
  obtain ⟨z, hz⟩ := NW (G := wk f) (a := v) (v2 := 0) (v3 := 0) (v4 := v.Kind) (v5 := v.N) (v6 := []) (v7 := []) (v8 := []) (v9 := v.S) (v10 := v.K) (by omega) v.L [] f rfl (fun x hx => by
   have := wr hx
   exact ih x (by omega) (by omega) f (by omega)) (by omega)
  simp only [List.length_nil, Int.natCast_zero] at hz
  rw [hz]
  exact congrArg some (GValue.eta v)
def j3 (a0 : GValue) : Option GValue := if vsz a0 <= 2 ^ 39 then some a0 else none
theorem UP (a0 : GValue) (r : GValue) (h : j3 a0 = some r) : ∃ n, wk n a0 = some r := by
 unfold j3 at h
 obtain ⟨ha, h⟩ := zC h
 exact ⟨vsz a0 + 2, by rw [<- h]; exact zbd _ a0 (Nat.lt_succ_self _) ha _ (Nat.le_refl _)⟩
theorem K7 : kK j3 := by
 intro a0 r h
 obtain ⟨n, hn⟩ := UP a0 r h
 exact (Oo n) a0 r hn
def Ws (F : (List (List UInt8)) → Option (List (List UInt8))) : Prop := ∀ (a0 : (List (List UInt8))), Oc (F a0) 117 [] [vq (zu za) a0] fun r => (.val false [.own 1 (eL (yv 1 za) r)], [])
def xB (a0 : (List (List UInt8))) : Nat → Int → (List (List UInt8)) → Option (Int × (List (List UInt8)))
  | 0, _, _ => none
  | m + 1, v1, v2 =>
  if v1 < (a0.length : Int) then
   (zv v1).bind fun i2 =>
   (a0[i2]?).bind fun x3 =>
   if yj 1 (0 + x3.length) then
   if yj 24 (v2.length + [x3].length) then
   xB a0 m (w64 (v1 + 1)) (v2 ++ [x3])
   else none
   else none
  else
  some (v1, v2)
theorem Jt (a0 : (List (List UInt8))) (m : Nat) : ∀ (v1 : Int) (v2 : (List (List UInt8))), Ol (xB a0 m v1 v2) 117 (zJ Tryz.f117 0) ⟨[(0, vq (zu za) a0), (3, vr 0), (4, vi v1)], [.obj 1 (eL (yv 1 za) v2)], 0⟩ fun o => match o with | ⟨o_0, o_1⟩ => (.exit 0, ⟨[(0, vq (zu za) a0), (3, vr 0), (4, vi o_0), (8, vb false)], [.obj 1 (eL (yv 1 za) o_1)], 0⟩) := by
  induction m with
  | zero => intro v1 v2 o h; cases h
  | succ m ih => exact fun v1 v2 => tlp (
   .le (zu za) a0 <|
   .lI v1 (a0.length : Int) (fun c1 =>
    .na v1 fun i2 =>
    .ix0 (zu za) a0 i2 fun x3 =>
    .ap 1 zz [] x3 fun n4 =>
    .ao 24 (qZ 1 xm) v2 [x3] fun n5 =>
    .go (ih (w64 (v1 + 1)) (v2 ++ [x3]))) fun c1 =>
   .ret (v1, v2))
def ZV (n : Nat) (a0 : (List (List UInt8))) : Option (List (List UInt8)) :=
 (xB a0 n 0 []).bind fun ⟨o1_0, o1_1⟩ =>
 some o1_1
theorem RF (n : Nat) : Ws (ZV n) := fun a0 => tc (
 .lp (Jt a0 n 0 []) fun ⟨o1_0, o1_1⟩ =>
 .ret o1_1) (zf Tryz.func117)
theorem Hz {a : List (List UInt8)} (ha : bsz a <= 2 ^ 39) : ∀ (l p : List (List UInt8)) (m : Nat), a = p ++ l → l.length < m → ∃ z, xB a m (p.length : Int) p = some (z, a) := by
 have hl := q7 a
 intro l
 induction l with
 | nil =>
  intro p m he hm
  subst he
  obtain ⟨m, rfl, _⟩ := zg hm
  exact ⟨_, by rw [xB, if_neg (wh p)]; simp; rfl⟩
 | cons x l ih =>
  intro p m he hm
  obtain ⟨m, rfl, hm'⟩ := zg hm
  have hx : 1 + x.length <= bsz a := ZT (by rw [he]; simp)
  have hlen : a.length = p.length + (l.length + 1) := by rw [he]; simp
  obtain ⟨z, hz⟩ := ih (p ++ [x]) m (by rw [he]; simp) (by simp only [List.length_cons] at hm'; omega)
  refine ⟨z, ?_⟩
  rw [xB, if_pos (by rw [he]; exact vI p x l), zb, oB, show a[p.length]? = some x by rw [he]; exact zG p x l, oB, if_pos (xK (by decide) (by omega)), if_pos (xK (by decide) (by simp only [List.length_cons, List.length_nil]; omega)), y8 p x (by omega), hz]
def xO (a0 : (List (List UInt8))) : Option (List (List UInt8)) := if bsz a0 <= 2 ^ 39 then some a0 else none
theorem JW (a0 : (List (List UInt8))) (r : (List (List UInt8))) (h : xO a0 = some r) : ∃ n, ZV n a0 = some r := by
 unfold xO at h
 obtain ⟨ha, h⟩ := zC h
 obtain ⟨z, hz⟩ := Hz ha a0 [] (a0.length + 1) rfl (by omega)
 refine ⟨a0.length + 1, ?_⟩
 unfold ZV
 simp only [List.length_nil, Int.natCast_zero] at hz
 rw [hz]; exact h
theorem XQ : Ws xO := fun a0 r h => (JW a0 r h).elim fun n hn => RF n a0 r hn
def kq (a0 : GEntry) : Option GEntry :=
 if yj 1 (0 + a0.Addr.length) then
 (j3 a0.Val).bind fun r2 =>
 (xO a0.Deps).bind fun r3 =>
 some (GEntry.mk a0.Addr r2 r3 a0.Taint a0.Turned)
 else none
theorem VC (a0 : GEntry) : Oc (kq a0) 129 [] [.val true (j9 a0)] fun r => (.val true (Kp r), []) := tc (
 .ap 1 zz [] a0.Addr fun n1 =>
 .cl (K7 a0.Val) fun r2 =>
 .cl (XQ a0.Deps) fun r3 =>
 .ret (GEntry.mk a0.Addr r2 r3 a0.Taint a0.Turned)) (zf Tryz.func129)
def VD (F : GState → Option GState) : Prop := ∀ (a0 : GState), Oc (F a0) 73 [] [.val true (zX a0)] fun r => (.val true (Qq r), [])
def qR (a0 : GState) (v2 : Int) (v3 : Bool) (v4 : Int) (v5 : Int) (v6 : Bool) (v7 : Int) (v8 : (List UInt8)) (v9 : (List GEntry)) (v10 : (List UInt8)) : Nat → Int → (List GEntry) → Option (Int × (List GEntry))
  | 0, _, _ => none
  | m + 1, v0, v11 =>
  if v0 < (a0.Entries.length : Int) then
   (zv v0).bind fun i2 =>
   (a0.Entries[i2]?).bind fun x3 =>
   (kq x3).bind fun r4 =>
   if yj 152 (v11.length + [r4].length) then
   qR a0 v2 v3 v4 v5 v6 v7 v8 v9 v10 m (w64 (v0 + 1)) (v11 ++ [r4])
   else none
  else
  some (v0, v11)
theorem TE (a0 : GState) (v2 : Int) (v3 : Bool) (v4 : Int) (v5 : Int) (v6 : Bool) (v7 : Int) (v8 : (List UInt8)) (v9 : (List GEntry)) (v10 : (List UInt8)) (m : Nat) : ∀ (v0 : Int) (v11 : (List GEntry)), Ol (qR a0 v2 v3 v4 v5 v6 v7 v8 v9 v10 m v0 v11) 73 (zJ Tryz.f73 0) ⟨[(1, vp 0 0), (2, vp 1 0), (3, vp 2 0), (4, vi v0)], [.var (zX a0), .var [ci v2, .bool v3, .ref 3, ci v4, .ref 4], .var [ci v5, .bool v6, .ref 5, ci v7, .ref 6], .obj 1 (eL za v8), .obj 9 (eL zt v9), .obj 1 (eL za v10), .obj 9 (eL zt v11)], 0⟩ fun o => match o with | ⟨o_0, o_1⟩ => (.exit 0, ⟨[(1, vp 0 0), (2, vp 1 0), (3, vp 2 0), (4, vi o_0), (20, vb false)], [.var (zX a0), .var [ci v2, .bool v3, .ref 3, ci v4, .ref 4], .var [ci v5, .bool v6, .ref 5, ci v7, .ref 6], .obj 1 (eL za v8), .obj 9 (eL zt v9), .obj 1 (eL za v10), .obj 9 (eL zt o_1)], 0⟩) := by
  induction m with
  | zero => intro v0 v11 o h; cases h
  | succ m ih => exact fun v0 v11 => tlp (
   .le zj a0.Entries <|
   .lI v0 (a0.Entries.length : Int) (fun c1 =>
    .na v0 fun i2 =>
    .ix zV a0.Entries i2 fun x3 =>
    .cl (VC x3) fun r4 =>
    .ao 152 zR v11 [r4] fun n5 =>
    .go (ih (w64 (v0 + 1)) (v11 ++ [r4]))) fun c1 =>
   .ret (v0, v11))
def Qf (n : Nat) (a0 : GState) : Option GState :=
 if yj 1 (0 + a0.Pending.length) then
 (qR a0 0 false 0 a0.Serial a0.Open a0.Act [] [] a0.Pending n 0 []).bind fun ⟨o2_0, o2_1⟩ =>
 some (GState.mk a0.Serial a0.Open a0.Pending a0.Act o2_1)
 else none
theorem Nb (n : Nat) : VD (Qf n) := fun a0 => tc (
 .ap 1 zz [] a0.Pending fun n1 =>
 .lp (TE a0 0 false 0 a0.Serial a0.Open a0.Act [] [] a0.Pending n 0 []) fun ⟨o2_0, o2_1⟩ =>
 .ret (GState.mk a0.Serial a0.Open a0.Pending a0.Act o2_1)) (zf Tryz.func73)
theorem EN {e : GEntry} (h : esz e <= 2 ^ 38) : kq e = some e := by
 unfold esz at h
 unfold kq j3 xO
 rw [if_pos (xK (by decide) (by omega)), if_pos (by omega), oB, if_pos (by omega), oB]
 cases e; rfl
theorem NX {s : GState} {v2 : Int} {v3 : Bool} {v4 v5 : Int} {v6 : Bool} {v7 : Int} {v8 : List UInt8} {v9 : List GEntry} {v10 : List UInt8} (ha : zZ s.Entries <= 2 ^ 38) : ∀ (l p : List GEntry) (m : Nat), s.Entries = p ++ l → l.length < m → ∃ z, qR s v2 v3 v4 v5 v6 v7 v8 v9 v10 m (p.length : Int) p = some (z, s.Entries) := by
 have hl := wW s.Entries
 intro l
 induction l with
 | nil =>
  intro p m he hm
  obtain ⟨m, rfl, _⟩ := zg hm
  exact ⟨_, by rw [qR, he, List.append_nil, if_neg (by omega)]⟩
 | cons x l ih =>
  intro p m he hm
  obtain ⟨m, rfl, hm'⟩ := zg hm
  have hx : 1 + esz x <= zZ s.Entries := X9 (by rw [he]; simp)
  have hlen : s.Entries.length = p.length + (l.length + 1) := by rw [he]; simp
  obtain ⟨z, hz⟩ := ih (p ++ [x]) m (by rw [he]; simp) (by simp only [List.length_cons] at hm'; omega)
  refine ⟨z, ?_⟩
  rw [qR, if_pos (by omega), zb, oB, show s.Entries[p.length]? = some x by rw [he]; exact zG p x l, oB, EN (by omega), oB, if_pos (jr (by simp only [List.length_cons, List.length_nil]; omega)), y8 p x (by omega), hz]
def Zu (a0 : GState) : Option GState := if ssz a0 <= 2 ^ 38 then some a0 else none
theorem UQ (a0 : GState) (r : GState) (h : Zu a0 = some r) : ∃ n, Qf n a0 = some r := by
 unfold Zu at h
 obtain ⟨ha, h⟩ := zC h
 unfold ssz at ha
 refine ⟨a0.Entries.length + 1, ?_⟩
 unfold Qf
 obtain ⟨z, hz⟩ := NX (s := a0) (v2 := 0) (v3 := false) (v4 := 0) (v5 := a0.Serial) (v6 := a0.Open) (v7 := a0.Act) (v8 := []) (v9 := []) (v10 := a0.Pending) (by omega) a0.Entries [] (a0.Entries.length + 1) rfl (by omega)
 simp only [List.length_nil, Int.natCast_zero] at hz
 rw [if_pos (xK (by decide) (by omega)), hz, <- h]
 cases a0; rfl
theorem L8 : VD Zu := fun a0 r h => (UQ a0 r h).elim fun n hn => Nb n a0 r hn
def jc (a0 : GEvent) : Option GEvent :=
 if yj 1 (0 + a0.Addr.length) then
 (j3 a0.Val).bind fun r2 =>
 (xO a0.Deps).bind fun r3 =>
 some (GEvent.mk a0.Kind a0.Addr a0.Act r2 r3)
 else none
theorem XR (a0 : GEvent) : Oc (jc a0) 102 [] [.val true (xS a0)] fun r => (.val true (Kq r), []) := tc (
 .ap 1 zz [] a0.Addr fun n1 =>
 .cl (K7 a0.Val) fun r2 =>
 .cl (XQ a0.Deps) fun r3 =>
 .ret (GEvent.mk a0.Kind a0.Addr a0.Act r2 r3)) (zf Tryz.func102)
def VE (F : GHistory → Option GHistory) : Prop := ∀ (a0 : GHistory), Oc (F a0) 99 [] [.val true (yq a0)] fun r => (.val true (Xi r), [])
def qS (a0 : GHistory) (v2 : Int) (v3 : Bool) (v4 : Int) (v5 : Int) (v6 : Int) (v7 : Bool) (v8 : Int) (v9 : Int) (v10 : (List UInt8)) (v11 : (List GEntry)) (v12 : (List GEvent)) (v13 : (List UInt8)) (v14 : (List GEntry)) : Nat → Int → (List GEvent) → Option (Int × (List GEvent))
  | 0, _, _ => none
  | m + 1, v0, v15 =>
  if v0 < (a0.Events.length : Int) then
   (zv v0).bind fun i2 =>
   (a0.Events[i2]?).bind fun x3 =>
   (jc x3).bind fun r4 =>
   if yj 152 (v15.length + [r4].length) then
   qS a0 v2 v3 v4 v5 v6 v7 v8 v9 v10 v11 v12 v13 v14 m (w64 (v0 + 1)) (v15 ++ [r4])
   else none
  else
  some (v0, v15)
theorem TF (a0 : GHistory) (v2 : Int) (v3 : Bool) (v4 : Int) (v5 : Int) (v6 : Int) (v7 : Bool) (v8 : Int) (v9 : Int) (v10 : (List UInt8)) (v11 : (List GEntry)) (v12 : (List GEvent)) (v13 : (List UInt8)) (v14 : (List GEntry)) (m : Nat) : ∀ (v0 : Int) (v15 : (List GEvent)), Ol (qS a0 v2 v3 v4 v5 v6 v7 v8 v9 v10 v11 v12 v13 v14 m v0 v15) 99 (zJ Tryz.f99 0) ⟨[(1, vp 0 0), (2, vp 1 0), (3, vp 2 0), (4, vi v0)], [.var (yq a0), .var [ci v2, .bool v3, .ref 3, ci v4, .ref 4, .ref 5, ci v5], .var [ci v6, .bool v7, .ref 6, ci v8, .ref 7, .ref 8, ci v9], .obj 1 (eL za v10), .obj 9 (eL zt v11), .obj 9 (eL yx v12), .obj 1 (eL za v13), .obj 9 (eL zt v14), .obj 9 (eL yx v15)], 0⟩ fun o => match o with | ⟨o_0, o_1⟩ => (.exit 0, ⟨[(1, vp 0 0), (2, vp 1 0), (3, vp 2 0), (4, vi o_0), (15, vb false)], [.var (yq a0), .var [ci v2, .bool v3, .ref 3, ci v4, .ref 4, .ref 5, ci v5], .var [ci v6, .bool v7, .ref 6, ci v8, .ref 7, .ref 8, ci v9], .obj 1 (eL za v10), .obj 9 (eL zt v11), .obj 9 (eL yx v12), .obj 1 (eL za v13), .obj 9 (eL zt v14), .obj 9 (eL yx o_1)], 0⟩) := by
  induction m with
  | zero => intro v0 v15 o h; cases h
  | succ m ih => exact fun v0 v15 => tlp (
   .le zw a0.Events <|
   .lI v0 (a0.Events.length : Int) (fun c1 =>
    .na v0 fun i2 =>
    .ix eq_GEvent a0.Events i2 fun x3 =>
    .cl (XR x3) fun r4 =>
    .ao 152 zW v15 [r4] fun n5 =>
    .go (ih (w64 (v0 + 1)) (v15 ++ [r4]))) fun c1 =>
   .ret (v0, v15))
def Qg (n : Nat) (a0 : GHistory) : Option GHistory :=
 (Zu a0.Base).bind fun r1 =>
 (qS a0 0 false 0 0 r1.Serial r1.Open r1.Act a0.Safe [] [] [] r1.Pending r1.Entries n 0 []).bind fun ⟨o2_0, o2_1⟩ =>
 some (GHistory.mk r1 o2_1 a0.Safe)
theorem Nc (n : Nat) : VE (Qg n) := fun a0 => tc (
 .cl (L8 a0.Base) fun r1 =>
 .lp (TF a0 0 false 0 0 r1.Serial r1.Open r1.Act a0.Safe [] [] [] r1.Pending r1.Entries n 0 []) fun ⟨o2_0, o2_1⟩ =>
 .ret (GHistory.mk r1 o2_1 a0.Safe)) (zf Tryz.func99)
theorem UR {e : GEvent} (h : yy e <= 2 ^ 38) : jc e = some e := by
 unfold yy at h
 unfold jc j3 xO
 rw [if_pos (xK (by decide) (by omega)), if_pos (by omega), oB, if_pos (by omega), oB]
 cases e; rfl
theorem H0 {h : GHistory} {v2 : Int} {v3 : Bool} {v4 v5 v6 : Int} {v7 : Bool} {v8 v9 : Int} {v10 : List UInt8} {v11 : List GEntry} {v12 : List GEvent} {v13 : List UInt8} {v14 : List GEntry} (ha : zT h.Events <= 2 ^ 38) : ∀ (l p : List GEvent) (m : Nat), h.Events = p ++ l → l.length < m → ∃ z, qS h v2 v3 v4 v5 v6 v7 v8 v9 v10 v11 v12 v13 v14 m (p.length : Int) p = some (z, h.Events) := by
 have hl := jn h.Events
 intro l
 induction l with
 | nil =>
  intro p m he hm
  obtain ⟨m, rfl, _⟩ := zg hm
  exact ⟨_, by rw [qS, he, List.append_nil, if_neg (by omega)]⟩
 | cons x l ih =>
  intro p m he hm
  obtain ⟨m, rfl, hm'⟩ := zg hm
  have hx : 1 + yy x <= zT h.Events := XW (by rw [he]; simp)
  have hlen : h.Events.length = p.length + (l.length + 1) := by rw [he]; simp
  obtain ⟨z, hz⟩ := ih (p ++ [x]) m (by rw [he]; simp) (by simp only [List.length_cons] at hm'; omega)
  refine ⟨z, ?_⟩
  rw [qS, if_pos (by omega), zb, oB, show h.Events[p.length]? = some x by rw [he]; exact zG p x l, oB, UR (by omega), oB, if_pos (jr (by simp only [List.length_cons, List.length_nil]; omega)), y8 p x (by omega), hz]
def Zv (a0 : GHistory) : Option GHistory := if ssz a0.Base + zT a0.Events <= 2 ^ 38 then some a0 else none
theorem US (a0 : GHistory) (r : GHistory) (h : Zv a0 = some r) : ∃ n, Qg n a0 = some r := by
 unfold Zv at h
 obtain ⟨ha, h⟩ := zC h
 refine ⟨a0.Events.length + 1, ?_⟩
 unfold Qg Zu
 obtain ⟨z, hz⟩ := H0 (h := a0) (v2 := 0) (v3 := false) (v4 := 0) (v5 := 0) (v6 := a0.Base.Serial) (v7 := a0.Base.Open) (v8 := a0.Base.Act) (v9 := a0.Safe) (v10 := []) (v11 := []) (v12 := []) (v13 := a0.Base.Pending) (v14 := a0.Base.Entries) (by omega) a0.Events [] (a0.Events.length + 1) rfl (by omega)
 simp only [List.length_nil, Int.natCast_zero] at hz
 rw [if_pos (by omega), oB, hz, <- h]
 cases a0; rfl
theorem L9 : VE Zv := fun a0 r h => (US a0 r h).elim fun n hn => Nc n a0 r hn
def ZL (a0 : GHistory) (a1 : GEvent) : Option (GHistory × Bool) :=
 (vD a0).bind fun r1 =>
 match r1 with
 | true =>
  (kJ a1).bind fun r2 =>
  match r2 with
  | true =>
   (Zv a0).bind fun r3 =>
   (ja a0 (a0.Events.length : Int)).bind fun ⟨r4_0, r4_1⟩ =>
   if 300 <= (a0.Events.length : Int) then
    some (r3, false)
   else
   (Zt r4_0 a1).bind fun r6 =>
   match r6 with
   | true =>
    (jc a1).bind fun r7 =>
    if yj 152 (r3.Events.length + [r7].length) then
    some ((GHistory.mk r3.Base (r3.Events ++ [r7]) r3.Safe), true)
    else none
   | false =>
    some (r3, false)
  | false =>
   some ((GHistory.mk (GState.mk 0 false [] 0 []) [] 0), false)
 | false =>
  some ((GHistory.mk (GState.mk 0 false [] 0 []) [] 0), false)
theorem UT (a0 : GHistory) (a1 : GEvent) : Oc (ZL a0 a1) 48 [] [.val true (yq a0), .val true (xS a1)] fun r => (.tup [(true, (Xi r.1)), (false, [.bool r.2])], []) := tc (
 .cl (On a0) fun r1 =>
 .vN 0 r1 (
  .an 0 0 <|
  .cl (QN a1) fun r2 =>
  .an 0 1 <|
  .an 0 1 <|
  .vN 0 r2 (
   .cl (L9 a0) fun r3 =>
   .le zw a0.Events <|
   .cl (Js a0 (a0.Events.length : Int)) fun ⟨r4_0, r4_1⟩ =>
   .le zw a0.Events <|
   .gI 300 (a0.Events.length : Int) (fun c5 =>
    .ret (r3, false)) fun c5 =>
   .cl (K3 r4_0 a1) fun r6 =>
   .vN 2 r6 (
    .cl (XR a1) fun r7 =>
    .ao 152 zW r3.Events [r7] fun n8 =>
    .ret ((GHistory.mk r3.Base (r3.Events ++ [r7]) r3.Safe), true)) <|
   .ret (r3, false)) <|
  .ret ((GHistory.mk (GState.mk 0 false [] 0 []) [] 0), false)) <|
 .an 0 0 <|
 .an 0 0 <|
 .an 0 0 <|
 .ret ((GHistory.mk (GState.mk 0 false [] 0 []) [] 0), false)) (zf Tryz.func48)
def xg (a0 : Int) (a1 : Int) (a2 : Int) : Option Bool :=
 if a1 <= a0 then
  some (decide (a0 <= a2))
 else
 some false
theorem qA (a0 : Int) (a1 : Int) (a2 : Int) : Oc (xg a0 a1 a2) 94 [] [vi a0, vi a1, vi a2] fun r => (vb r, []) := tc (
 .gI a1 a0 (fun c1 =>
  .gD a0 a2 <|
  .ret (decide (a0 <= a2))) fun c1 =>
 .ret false) (zf Tryz.func94)
def ZW (a0 : (List UInt8)) (a1 : UInt8) : Option Int :=
 (q8 a0 a1).bind fun r1 =>
 some r1
theorem VF (a0 : (List UInt8)) (a1 : UInt8) : Oc (ZW a0 a1) 212 [] [vq za a0, .val false [.int .u8 ((a1.toNat : Nat) : Int)]] fun r => (vi r, []) := tc (
 .cl (Xm a0 a1) fun r1 =>
 .ret r1) (zf Tryz.func212)
def xx (a0 : (List UInt8)) (a1 : (List UInt8)) : Option Bool :=
 some (decide (a0 = a1))
theorem js (a0 : (List UInt8)) (a1 : (List UInt8)) : Oc (xx a0 a1) 105 [] [vq za a0, vq za a1] fun r => (vb r, []) := tc (
 .bt a0 <|
 .bt a1 <|
 .sD a0 a1 <|
 .ret (decide (a0 = a1))) (zf Tryz.func105)
def vE (a0 : (List UInt8)) (a1 : (List UInt8)) : Option Int :=
 if (a1.length : Int) = 0 then
  some 0
 else
 if (a1.length : Int) = 1 then
  (a1[0]?).bind fun x3 =>
  (ZW a0 x3).bind fun r4 =>
  some r4
 else
 if (a1.length : Int) = (a0.length : Int) then
  (xx a1 a0).bind fun r4 =>
  match r4 with
  | true =>
   some 0
  | false =>
   some (-1)
 else
 if (a0.length : Int) < (a1.length : Int) then
  some (-1)
 else
 none
theorem Oq (a0 : (List UInt8)) (a1 : (List UInt8)) : Oc (vE a0 a1) 196 [] [vq za a0, vq za a1] fun r => (vi r, []) := tc (
 .le za a1 <|
 .eI (a1.length : Int) 0 (fun c1 =>
  .ret 0) fun c1 =>
 .eI (a1.length : Int) 1 (fun c2 =>
  .nl 0 <|
  .ix0 za a1 0 fun x3 =>
  .cl (VF a0 x3) fun r4 =>
  .ret r4) fun c2 =>
 .le za a0 <|
 .eI (a1.length : Int) (a0.length : Int) (fun c3 =>
  .cl (js a1 a0) fun r4 =>
  .vM 0 r4 (
   .ret 0) <|
  .ret (-1)) fun c3 =>
 .le za a0 <|
 .lI (a0.length : Int) (a1.length : Int) (fun c4 =>
  .ret (-1)) fun c4 =>
 .no) (zf Tryz.func196)
def XI (a0 : (List UInt8)) (a1 : (List UInt8)) : Option ((List UInt8) × (List UInt8) × Bool) :=
 (vE a0 a1).bind fun r1 =>
 if 0 <= r1 then
  (zv r1).bind fun i3 =>
  (qm a0 none (some i3)).bind fun s4 =>
  (zv (w64 (r1 + (a1.length : Int)))).bind fun i5 =>
  (qm a0 (some i5) none).bind fun s6 =>
  some (s4, s6, true)
 else
 some (a0, [], false)
theorem Nd (a0 : (List UInt8)) (a1 : (List UInt8)) : Oc (XI a0 a1) 170 [] [vq za a0, vq za a1] fun r => (.tup [(false, [cq za r.1]), (false, [cq za r.2.1]), (false, [.bool r.2.2])], []) := tc (
 .cl (Oq a0 a1) fun r1 =>
 .gI 0 r1 (fun c2 =>
  .na r1 fun i3 =>
  .ct za a0 none (some i3) fun s4 =>
  .un zz a0 <|
  .le za a1 <|
  .na (w64 (r1 + (a1.length : Int))) fun i5 =>
  .ct za a0 (some i5) none fun s6 =>
  .un zz a0 <|
  .ret (s4, s6, true)) fun c2 =>
 .vw zz [] <|
 .ret (a0, [], false)) (zf Tryz.func170)
def K8 (F : (List UInt8) → Option Bool) : Prop := ∀ (a0 : (List UInt8)), Oc (F a0) 158 [] [vq za a0] fun r => (vb r, [])
def qy (a0 : (List UInt8)) (v1 : Int) : Nat → Int → Option (Bool ⊕ Int)
  | 0, _ => none
  | m + 1, v2 =>
  if v2 < v1 then
   (zv v2).bind fun i2 =>
   (a0[i2]?).bind fun x3 =>
   if ((x3.toNat : Nat) : Int) < 97 then
    some (.inl false)
   else
   if 122 < ((x3.toNat : Nat) : Int) then
    some (.inl false)
   else
   qy a0 v1 m (w64 (v2 + 1))
  else
  some (.inr v2)
theorem RG (a0 : (List UInt8)) (v1 : Int) (m : Nat) : ∀ (v2 : Int), Ol (qy a0 v1 m v2) 158 (zJ Tryz.f158 0) ⟨[(0, vq za a0), (5, vq za a0), (6, vi v1), (7, vi v2)], [], 0⟩ fun o => match o with | .inl o_0 => (.ret, ⟨[(2, vb o_0)], [], 0⟩) | .inr (o_1) => (.exit 0, ⟨[(0, vq za a0), (5, vq za a0), (6, vi v1), (7, vi o_1), (8, vb false)], [], 0⟩) := by
  induction m with
  | zero => intro v2 o h; cases h
  | succ m ih => exact fun v2 => tlp (
   .lI v2 v1 (fun c1 =>
    .na v2 fun i2 =>
    .ix0 za a0 i2 fun x3 =>
    .lI ((x3.toNat : Nat) : Int) 97 (fun c4 =>
     .ret (.inl false)) fun c4 =>
    .lI 122 ((x3.toNat : Nat) : Int) (fun c5 =>
     .ret (.inl false)) fun c5 =>
    .go (ih (w64 (v2 + 1)))) fun c1 =>
   .ret (.inr v2))
def Wm (n : Nat) (a0 : (List UInt8)) : Option Bool :=
 (qy a0 (a0.length : Int) n 0).bind fun o1 =>
 match o1 with
 | .inl o1_0 =>
  some o1_0
 | .inr (o1_1) =>
  (xg (a0.length : Int) 1 8).bind fun r2 =>
  some r2
theorem LA (n : Nat) : K8 (Wm n) := fun a0 => tc (
 .le za a0 <|
 .l2 (RG a0 (a0.length : Int) n 0) (fun o1_0 =>
  .ret o1_0) fun o1_1 =>
 .le za a0 <|
 .cl (qA (a0.length : Int) 1 8) fun r2 =>
 .ret r2) (zf Tryz.func158)
theorem TG {a : List UInt8} (ha : a.length <= 2 ^ 20) : ∀ (d i m : Nat), i + d = a.length → d < m → ∃ z, qy a (a.length : Int) m (i : Int) = some (if (a.drop i).all (inB 97 122) = true then .inr z else .inl false) := by
 intro d
 induction d with
 | zero =>
  intro i m hi hm
  obtain ⟨m, rfl, _⟩ := zg hm
  exact ⟨_, by rw [qy, if_neg (by omega), List.drop_eq_nil_of_le (by omega)]; rfl⟩
 | succ d ih =>
  intro i m hi hm
  obtain ⟨m, rfl, hm'⟩ := zg hm
  have hil : i < a.length := by omega
  rw [qy, if_pos (by omega), zb, oB, zl hil, oB, zH (by omega), xU hil, List.all_cons]
  by_cases h1 : ((a[i].toNat : Nat) : Int) < 97
  ·exact ⟨0, by rw [if_pos h1, if_neg]; simp [inB]; omega⟩
  ·rw [if_neg h1]
   by_cases h2 : (122 : Int) < ((a[i].toNat : Nat) : Int)
   ·exact ⟨0, by rw [if_pos h2, if_neg]; simp [inB]; omega⟩
   ·rw [if_neg h2, show inB 97 122 a[i] = true by simp [inB]; omega, Bool.true_and]
    exact ih (i + 1) m (by omega) (by omega)
theorem WD (a b c : Int) : xg a b c = some (decide (b <= a ∧ a <= c)) := by
 unfold xg
 by_cases h : b <= a
 ·rw [if_pos h]; simp [h]
 ·rw [if_neg h]; simp [h]
def qh (a0 : (List UInt8)) : Option Bool := if a0.length <= 2 ^ 20 then some (jY a0) else none
theorem TH (a0 : (List UInt8)) (r : Bool) (h : qh a0 = some r) : ∃ n, Wm n a0 = some r := by
 unfold qh at h
 obtain ⟨ha, h⟩ := zC h
 refine ⟨a0.length + 1, ?_⟩
 obtain ⟨z, hz⟩ := TG ha a0.length 0 (a0.length + 1) (by omega) (by omega)
 rw [show ((0 : Nat) : Int) = 0 from rfl, List.drop_zero] at hz
 unfold Wm
 rw [<- h, hz]
 unfold jY
 have hd : decide (1 <= a0.length ∧ a0.length <= 8) = decide ((1 : Int) <= (a0.length : Int) ∧ (a0.length : Int) <= 8) := decide_eq_decide.2 (by omega)
 rw [hd]
 cases a0.all (inB 97 122)
 ·rw [Bool.and_false]; rfl
 ·rw [Bool.and_true]
  simp only [if_true, oB, WD]
theorem X1 : K8 qh := fun a0 r h => (TH a0 r h).elim fun n hn => LA n a0 r hn
def kr (a0 : (List UInt8)) (a1 : (List UInt8)) : Option Bool :=
 if (a1.length : Int) <= (a0.length : Int) then
  (zv (w64 ((a0.length : Int) - (a1.length : Int)))).bind fun i2 =>
  (qm a0 (some i2) none).bind fun s3 =>
  (xx s3 a1).bind fun r4 =>
  some r4
 else
 some false
theorem VG (a0 : (List UInt8)) (a1 : (List UInt8)) : Oc (kr a0 a1) 197 [] [vq za a0, vq za a1] fun r => (vb r, []) := tc (
 .le za a0 <|
 .le za a1 <|
 .gI (a1.length : Int) (a0.length : Int) (fun c1 =>
  .le za a0 <|
  .le za a1 <|
  .na (w64 ((a0.length : Int) - (a1.length : Int))) fun i2 =>
  .ct za a0 (some i2) none fun s3 =>
  .un zz a0 <|
  .cl (js s3 a1) fun r4 =>
  .ret r4) fun c1 =>
 .ret false) (zf Tryz.func197)
def jd (a0 : (List UInt8)) (a1 : (List UInt8)) : Option ((List UInt8) × Bool) :=
 (kr a0 a1).bind fun r1 =>
 match r1 with
 | true =>
  (zv (w64 ((a0.length : Int) - (a1.length : Int)))).bind fun i2 =>
  (qm a0 none (some i2)).bind fun s3 =>
  some (s3, true)
 | false =>
  some (a0, false)
theorem XS (a0 : (List UInt8)) (a1 : (List UInt8)) : Oc (jd a0 a1) 171 [] [vq za a0, vq za a1] fun r => (.tup [(false, [cq za r.1]), (false, [.bool r.2])], []) := tc (
 .cl (VG a0 a1) fun r1 =>
 .vN 0 r1 (
  .le za a0 <|
  .le za a1 <|
  .na (w64 ((a0.length : Int) - (a1.length : Int))) fun i2 =>
  .ct za a0 none (some i2) fun s3 =>
  .un zz a0 <|
  .ret (s3, true)) <|
 .ret (a0, false)) (zf Tryz.func171)
def ZX (a0 : (List UInt8)) (a1 : (List UInt8)) : Option Bool :=
 if (a1.length : Int) <= (a0.length : Int) then
  (zv (a1.length : Int)).bind fun i2 =>
  (qm a0 none (some i2)).bind fun s3 =>
  (xx s3 a1).bind fun r4 =>
  some r4
 else
 some false
theorem VH (a0 : (List UInt8)) (a1 : (List UInt8)) : Oc (ZX a0 a1) 198 [] [vq za a0, vq za a1] fun r => (vb r, []) := tc (
 .le za a0 <|
 .le za a1 <|
 .gI (a1.length : Int) (a0.length : Int) (fun c1 =>
  .le za a1 <|
  .na (a1.length : Int) fun i2 =>
  .ct za a0 none (some i2) fun s3 =>
  .un zz a0 <|
  .cl (js s3 a1) fun r4 =>
  .ret r4) fun c1 =>
 .ret false) (zf Tryz.func198)
def ku (a0 : (List UInt8)) (a1 : (List UInt8)) : Option ((List UInt8) × Bool) :=
 (ZX a0 a1).bind fun r1 =>
 match r1 with
 | true =>
  (zv (a1.length : Int)).bind fun i2 =>
  (qm a0 (some i2) none).bind fun s3 =>
  some (s3, true)
 | false =>
  some (a0, false)
theorem VI (a0 : (List UInt8)) (a1 : (List UInt8)) : Oc (ku a0 a1) 172 [] [vq za a0, vq za a1] fun r => (.tup [(false, [cq za r.1]), (false, [.bool r.2])], []) := tc (
 .cl (VH a0 a1) fun r1 =>
 .vN 0 r1 (
  .le za a1 <|
  .na (a1.length : Int) fun i2 =>
  .ct za a0 (some i2) none fun s3 =>
  .un zz a0 <|
  .ret (s3, true)) <|
 .ret (a0, false)) (zf Tryz.func172)
def j4 (a0 : Int) : Option (List UInt8) :=
 if a0 < 10 then
  (zv a0).bind fun i2 =>
  (zv (w64 (a0 + 1))).bind fun i3 =>
  (qm [48, 49, 50, 51, 52, 53, 54, 55, 56, 57, 97, 98, 99, 100, 101, 102, 103, 104, 105, 106, 107, 108, 109, 110, 111, 112, 113, 114, 115, 116, 117, 118, 119, 120, 121, 122] (some i2) (some i3)).bind fun s4 =>
  some s4
 else
 (zv (w64 (a0 * 2))).bind fun i2 =>
 (zv (w64 ((w64 (a0 * 2)) + 2))).bind fun i3 =>
 (qm [48, 48, 48, 49, 48, 50, 48, 51, 48, 52, 48, 53, 48, 54, 48, 55, 48, 56, 48, 57, 49, 48, 49, 49, 49, 50, 49, 51, 49, 52, 49, 53, 49, 54, 49, 55, 49, 56, 49, 57, 50, 48, 50, 49, 50, 50, 50, 51, 50, 52, 50, 53, 50, 54, 50, 55, 50, 56, 50, 57, 51, 48, 51, 49, 51, 50, 51, 51, 51, 52, 51, 53, 51, 54, 51, 55, 51, 56, 51, 57, 52, 48, 52, 49, 52, 50, 52, 51, 52, 52, 52, 53, 52, 54, 52, 55, 52, 56, 52, 57, 53, 48, 53, 49, 53, 50, 53, 51, 53, 52, 53, 53, 53, 54, 53, 55, 53, 56, 53, 57, 54, 48, 54, 49, 54, 50, 54, 51, 54, 52, 54, 53, 54, 54, 54, 55, 54, 56, 54, 57, 55, 48, 55, 49, 55, 50, 55, 51, 55, 52, 55, 53, 55, 54, 55, 55, 55, 56, 55, 57, 56, 48, 56, 49, 56, 50, 56, 51, 56, 52, 56, 53, 56, 54, 56, 55, 56, 56, 56, 57, 57, 48, 57, 49, 57, 50, 57, 51, 57, 52, 57, 53, 57, 54, 57, 55, 57, 56, 57, 57] (some i2) (some i3)).bind fun s4 =>
 some s4
theorem WE (a0 : Int) : Oc (j4 a0) 232 [] [vi a0] fun r => (vs r, []) := tc (
 .lI a0 10 (fun c1 =>
  .na a0 fun i2 =>
  .na (w64 (a0 + 1)) fun i3 =>
  .cs [48, 49, 50, 51, 52, 53, 54, 55, 56, 57, 97, 98, 99, 100, 101, 102, 103, 104, 105, 106, 107, 108, 109, 110, 111, 112, 113, 114, 115, 116, 117, 118, 119, 120, 121, 122] (some i2) (some i3) fun s4 =>
  .ret s4) fun c1 =>
 .na (w64 (a0 * 2)) fun i2 =>
 .na (w64 ((w64 (a0 * 2)) + 2)) fun i3 =>
 .cs [48, 48, 48, 49, 48, 50, 48, 51, 48, 52, 48, 53, 48, 54, 48, 55, 48, 56, 48, 57, 49, 48, 49, 49, 49, 50, 49, 51, 49, 52, 49, 53, 49, 54, 49, 55, 49, 56, 49, 57, 50, 48, 50, 49, 50, 50, 50, 51, 50, 52, 50, 53, 50, 54, 50, 55, 50, 56, 50, 57, 51, 48, 51, 49, 51, 50, 51, 51, 51, 52, 51, 53, 51, 54, 51, 55, 51, 56, 51, 57, 52, 48, 52, 49, 52, 50, 52, 51, 52, 52, 52, 53, 52, 54, 52, 55, 52, 56, 52, 57, 53, 48, 53, 49, 53, 50, 53, 51, 53, 52, 53, 53, 53, 54, 53, 55, 53, 56, 53, 57, 54, 48, 54, 49, 54, 50, 54, 51, 54, 52, 54, 53, 54, 54, 54, 55, 54, 56, 54, 57, 55, 48, 55, 49, 55, 50, 55, 51, 55, 52, 55, 53, 55, 54, 55, 55, 55, 56, 55, 57, 56, 48, 56, 49, 56, 50, 56, 51, 56, 52, 56, 53, 56, 54, 56, 55, 56, 56, 56, 57, 57, 48, 57, 49, 57, 50, 57, 51, 57, 52, 57, 53, 57, 54, 57, 55, 57, 56, 57, 57] (some i2) (some i3) fun s4 =>
 .ret s4) (zf Tryz.func232)
def km (a0 : (List UInt8)) (a1 : Int) (a2 : Int) (a3 : Bool) (a4 : Bool) : Option ((List UInt8) × (List UInt8)) :=
 none
theorem YY (a0 : (List UInt8)) (a1 : Int) (a2 : Int) (a3 : Bool) (a4 : Bool) : Oc (km a0 a1 a2 a3 a4) 235 [] [vq za a0, .val false [.int .u64 a1], vi a2, vb a3, vb a4] fun r => (.tup [(false, [.own 1 (eL za r.1)]), (false, [.str r.2])], []) := tc (
 .no) (zf Tryz.func235)
def qz (a0 : Int) (a1 : Int) : Option (List UInt8) :=
 if a1 = 10 then
  if 0 <= a0 then
   if a0 < 100 then
    (j4 a0).bind fun r4 =>
    some r4
   else
   none
  else
  none
 else
 (km [] (IntKind.u64.wrap a0) a1 (decide (a0 < 0)) false).bind fun ⟨r2_0, r2_1⟩ =>
 some r2_1
theorem Xl (a0 : Int) (a1 : Int) : Oc (qz a0 a1) 221 [] [vi a0, vi a1] fun r => (vs r, []) := tc (
 .eI a1 10 (fun c1 =>
  .gI 0 a0 (fun c2 =>
   .lI a0 100 (fun c3 =>
    .cl (WE a0) fun r4 =>
    .ret r4) fun c3 =>
   .no) fun c2 =>
  .no) fun c1 =>
 .lD a0 0 <|
 .cl (YY [] (IntKind.u64.wrap a0) a1 (decide (a0 < 0)) false) fun ⟨r2_0, r2_1⟩ =>
 .ret r2_1) (zf Tryz.func221)
def jF (a0 : Int) : Option (List UInt8) :=
 (qz a0 10).bind fun r1 =>
 some r1
theorem Qh (a0 : Int) : Oc (jF a0) 201 [] [vi a0] fun r => (vs r, []) := tc (
 .cl (Xl a0 10) fun r1 =>
 .ret r1) (zf Tryz.func201)
def kL (a0 : Int) : Option (List UInt8) :=
 (jF a0).bind fun r1 =>
 some r1
theorem UU (a0 : Int) : Oc (kL a0) 174 [] [vi a0] fun r => (vs r, []) := tc (
 .cl (Qh a0) fun r1 =>
 .ret r1) (zf Tryz.func174)
def xy (a0 : (List UInt8)) : Option Bool :=
 (XI a0 [(91 : UInt8)]).bind fun ⟨r1_0, r1_1, r1_2⟩ =>
 (qh r1_0).bind fun r2 =>
 match r2 with
 | true =>
  match r1_2 with
  | true =>
   (jd r1_1 [(93 : UInt8)]).bind fun ⟨r3_0, r3_1⟩ =>
   (ku r3_0 [(34 : UInt8)]).bind fun ⟨r4_0, r4_1⟩ =>
   (jd r4_0 [(34 : UInt8)]).bind fun ⟨r5_0, r5_1⟩ =>
   match r4_1 with
   | true =>
    match r3_1 with
    | true =>
     match r5_1 with
     | true =>
      (qh r5_0).bind fun r6 =>
      some r6
     | false =>
      some false
    | false =>
     some false
   | false =>
    match r5_1 with
    | true =>
     match r3_1 with
     | true =>
      some false
     | false =>
      some false
    | false =>
     (jv r3_0).bind fun ⟨r6_0, r6_1⟩ =>
     match r6_1 with
     | true =>
      match r3_1 with
      | true =>
       some false
      | false =>
       some false
     | false =>
      match r3_1 with
      | true =>
       (xg r6_0 0 99).bind fun r7 =>
       match r7 with
       | true =>
        (kL r6_0).bind fun r8 =>
        some (decide (r8 = r3_0))
       | false =>
        some false
      | false =>
       some false
  | false =>
   some true
 | false =>
  some false
theorem q4 (a0 : (List UInt8)) : Oc (xy a0) 133 [] [vq za a0] fun r => (vb r, []) := tc (
 .le za [(91 : UInt8)] <|
 .q (.lTo 0 (([(91 : UInt8)].length : Nat) : Int) (by decide)) <|
 .vw zz [(91 : UInt8)] <|
 .cl (Nd a0 [(91 : UInt8)]) fun ⟨r1_0, r1_1, r1_2⟩ =>
 .cl (X1 r1_0) fun r2 =>
 .vN 0 r2 (
  .vN 0 r1_2 (
   .le za [(93 : UInt8)] <|
   .q (.lTo 0 (([(93 : UInt8)].length : Nat) : Int) (by decide)) <|
   .vw zz [(93 : UInt8)] <|
   .cl (XS r1_1 [(93 : UInt8)]) fun ⟨r3_0, r3_1⟩ =>
   .le za [(34 : UInt8)] <|
   .q (.lTo 0 (([(34 : UInt8)].length : Nat) : Int) (by decide)) <|
   .vw zz [(34 : UInt8)] <|
   .cl (VI r3_0 [(34 : UInt8)]) fun ⟨r4_0, r4_1⟩ =>
   .le za [(34 : UInt8)] <|
   .q (.lTo 0 (([(34 : UInt8)].length : Nat) : Int) (by decide)) <|
   .vw zz [(34 : UInt8)] <|
   .cl (XS r4_0 [(34 : UInt8)]) fun ⟨r5_0, r5_1⟩ =>
   .vM 0 r4_1 (
    .az 0 0 <|
    .vM 1 r3_1 (
     .az 0 0 <|
     .az 0 1 <|
     .az 0 1 <|
     .vM 0 r5_1 (
      .az 0 0 <|
      .cl (X1 r5_0) fun r6 =>
      .az 0 1 <|
      .ret r6) <|
     .az 0 0 <|
     .az 0 0 <|
     .ret false) <|
    .az 0 0 <|
    .ret false) <|
   .az 0 0 <|
   .vM 0 r5_1 (
    .vM 0 r3_1 (
     .az 0 0 <|
     .az 0 2 <|
     .az 0 2 <|
     .ret false) <|
    .az 0 0 <|
    .ret false) <|
   .bt r3_0 <|
   .ae (P0 r3_0) (fun r6_0 =>
    .vM 0 r3_1 (
     .az 0 0 <|
     .az 0 0 <|
     .ret false) <|
    .az 0 0 <|
    .az 0 0 <|
    .ret false) fun r6_0 =>
   .vM 0 r3_1 (
    .az 0 0 <|
    .az 0 0 <|
    .cl (qA r6_0 0 99) fun r7 =>
    .vM 1 r7 (
     .az 0 0 <|
     .cl (UU r6_0) fun r8 =>
     .az 0 1 <|
     .az 0 1 <|
     .bt r3_0 <|
     .az 0 1 <|
     .sD r8 r3_0 <|
     .az 0 1 <|
     .ret (decide (r8 = r3_0))) <|
    .az 0 0 <|
    .az 0 0 <|
    .az 0 0 <|
    .az 0 0 <|
    .az 0 0 <|
    .ret false) <|
   .az 0 0 <|
   .az 0 0 <|
   .ret false) <|
  .ret true) <|
 .ret false) (zf Tryz.func133)
def xX (a0 : (List UInt8)) (a1 : (List UInt8)) : Option Int :=
 (wq a0 a1).bind fun r1 =>
 some r1
theorem vk (a0 : (List UInt8)) (a1 : (List UInt8)) : Oc (xX a0 a1) 121 [] [vq za a0, vq za a1] fun r => (vi r, []) := tc (
 .cl (XX a0 a1) fun r1 =>
 .ret r1) (zf Tryz.func121)
def K9 (F : (List UInt8) → Option Bool) : Prop := ∀ (a0 : (List UInt8)), Oc (F a0) 236 [] [vq za a0] fun r => (vb r, [])
def q5 (a0 : (List UInt8)) (v1 : Int) : Nat → Int → Option (Bool ⊕ Int)
  | 0, _ => none
  | m + 1, v2 =>
  if v2 < v1 then
   (zv v2).bind fun i2 =>
   (a0[i2]?).bind fun x3 =>
   if ((x3.toNat : Nat) : Int) < 32 then
    some (.inl false)
   else
   if 126 < ((x3.toNat : Nat) : Int) then
    some (.inl false)
   else
   q5 a0 v1 m (w64 (v2 + 1))
  else
  some (.inr v2)
theorem RH (a0 : (List UInt8)) (v1 : Int) (m : Nat) : ∀ (v2 : Int), Ol (q5 a0 v1 m v2) 236 (zJ Tryz.f236 0) ⟨[(0, vq za a0), (5, vq za a0), (6, vi v1), (7, vi v2)], [], 0⟩ fun o => match o with | .inl o_0 => (.ret, ⟨[(2, vb o_0)], [], 0⟩) | .inr (o_1) => (.exit 0, ⟨[(0, vq za a0), (5, vq za a0), (6, vi v1), (7, vi o_1), (8, vb false)], [], 0⟩) := by
  induction m with
  | zero => intro v2 o h; cases h
  | succ m ih => exact fun v2 => tlp (
   .lI v2 v1 (fun c1 =>
    .na v2 fun i2 =>
    .ix0 za a0 i2 fun x3 =>
    .lI ((x3.toNat : Nat) : Int) 32 (fun c4 =>
     .ret (.inl false)) fun c4 =>
    .lI 126 ((x3.toNat : Nat) : Int) (fun c5 =>
     .ret (.inl false)) fun c5 =>
    .go (ih (w64 (v2 + 1)))) fun c1 =>
   .ret (.inr v2))
def Wn (n : Nat) (a0 : (List UInt8)) : Option Bool :=
 (q5 a0 (a0.length : Int) n 0).bind fun o1 =>
 match o1 with
 | .inl o1_0 =>
  some o1_0
 | .inr (o1_1) =>
  some (decide ((a0.length : Int) <= 20))
theorem LB (n : Nat) : K9 (Wn n) := fun a0 => tc (
 .le za a0 <|
 .l2 (RH a0 (a0.length : Int) n 0) (fun o1_0 =>
  .ret o1_0) fun o1_1 =>
 .le za a0 <|
 .gD (a0.length : Int) 20 <|
 .ret (decide ((a0.length : Int) <= 20))) (zf Tryz.func236)
theorem TJ {a : List UInt8} (ha : a.length <= 2 ^ 20) : ∀ (d i m : Nat), i + d = a.length → d < m → ∃ z, q5 a (a.length : Int) m (i : Int) = some (if (a.drop i).all (inB 32 126) = true then .inr z else .inl false) := by
 intro d
 induction d with
 | zero =>
  intro i m hi hm
  obtain ⟨m, rfl, _⟩ := zg hm
  exact ⟨_, by rw [q5, if_neg (by omega), List.drop_eq_nil_of_le (by omega)]; rfl⟩
 | succ d ih =>
  intro i m hi hm
  obtain ⟨m, rfl, hm'⟩ := zg hm
  have hil : i < a.length := by omega
  rw [q5, if_pos (by omega), zb, oB, zl hil, oB, zH (by omega), xU hil, List.all_cons]
  by_cases h1 : ((a[i].toNat : Nat) : Int) < 32
  ·exact ⟨0, by rw [if_pos h1, if_neg]; simp [inB]; omega⟩
  ·rw [if_neg h1]
   by_cases h2 : (126 : Int) < ((a[i].toNat : Nat) : Int)
   ·exact ⟨0, by rw [if_pos h2, if_neg]; simp [inB]; omega⟩
   ·rw [if_neg h2, show inB 32 126 a[i] = true by simp [inB]; omega, Bool.true_and]
    exact ih (i + 1) m (by omega) (by omega)
def vF (a0 : (List UInt8)) : Option Bool := if a0.length <= 2 ^ 20 then some (Xj a0) else none
theorem TK (a0 : (List UInt8)) (r : Bool) (h : vF a0 = some r) : ∃ n, Wn n a0 = some r := by
 unfold vF at h
 obtain ⟨ha, h⟩ := zC h
 refine ⟨a0.length + 1, ?_⟩
 obtain ⟨z, hz⟩ := TJ ha a0.length 0 (a0.length + 1) (by omega) (by omega)
 rw [show ((0 : Nat) : Int) = 0 from rfl, List.drop_zero] at hz
 unfold Wn
 rw [<- h, hz]
 unfold Xj
 by_cases hl : a0.length <= 20
 ·rw [decide_eq_true hl]
  cases a0.all (inB 32 126)
  ·rfl
  ·show some (decide _) = _; rw [decide_eq_true (by omega)]; rfl
 ·rw [decide_eq_false hl]
  cases a0.all (inB 32 126)
  ·rfl
  ·show some (decide _) = _; rw [decide_eq_false (by omega)]; rfl
theorem Ot : K9 vF := fun a0 r h => (TK a0 r h).elim fun n hn => LB n a0 r hn
end
end Go.Am.Try
