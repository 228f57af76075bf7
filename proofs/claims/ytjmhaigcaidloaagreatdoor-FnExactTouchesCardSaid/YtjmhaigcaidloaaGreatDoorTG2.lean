/- The functions of the program in plain Lean, and that the machine answers as they do; conditions at each theorem. -/
import Derived.Test.YtjmhaigcaidloaaGreatDoorTG1
set_option linter.unusedVariables false
set_option linter.unusedSimpArgs false
namespace Go.Am.Try
open Go.Am Go.Proofs
set_option linter.unusedVariables false
set_option maxRecDepth 20000
set_option maxHeartbeats 2000000
noncomputable section
def Q0 (F : (List (List UInt8)) → Option Bool) : Prop := ∀ (a0 : (List (List UInt8))), Oc (F a0) 126 [] [vq (zx za) a0] fun r => (vb r, [])
def xw (a0 : (List (List UInt8))) : Nat → Int → Option (Bool ⊕ Int)
  | 0, _ => none
  | m + 1, v1 =>
  if v1 < (a0.length : Int) then
   (zw v1).bind fun i2 =>
   (a0[i2]?).bind fun x3 =>
   (xO x3).bind fun r4 =>
   match r4 with
   | true =>
    if 0 < v1 then
     (zw (w64 (v1 - 1))).bind fun i6 =>
     (a0[i6]?).bind fun x7 =>
     if Op.bytesLess x7 x3 = true then
      xw a0 m (w64 (v1 + 1))
     else
     some (.inl false)
    else
    xw a0 m (w64 (v1 + 1))
   | false =>
    some (.inl false)
  else
  some (.inr v1)
theorem K8 (a0 : (List (List UInt8))) (m : Nat) : ∀ (v1 : Int), Ol (xw a0 m v1) 126 (zQ Tryz.f126 0) ⟨[(0, vq (zx za) a0), (3, vi v1)], [], 0⟩ fun o => match o with | .inl o_0 => (.ret, ⟨[(2, vb o_0)], [], 0⟩) | .inr (o_1) => (.exit 0, ⟨[(0, vq (zx za) a0), (3, vi o_1), (10, vb false)], [], 0⟩) := by
  induction m with
  | zero => intro v1 o h; cases h
  | succ m ih => exact fun v1 => tlp (
   .le (zx za) a0 <|
   .lI v1 (a0.length : Int) (fun c1 =>
    .na v1 fun i2 =>
    .ix0 (zx za) a0 i2 fun x3 =>
    .cl (wT x3) fun r4 =>
    .vN 0 r4 (
     .an 0 0 <|
     .lI 0 v1 (fun c5 =>
      .an 0 0 <|
      .na (w64 (v1 - 1)) fun i6 =>
      .ix0 (zx za) a0 i6 fun x7 =>
      .bt x7 <|
      .ag 5 <|
      .ag 4 <|
      .bt x3 <|
      .bI x7 x3 (fun c8 =>
       .an 0 2 <|
       .an 1 2 <|
       .go (ih (w64 (v1 + 1)))) fun c8 =>
      .an 0 2 <|
      .an 1 2 <|
      .ret (.inl false)) fun c5 =>
     .an 0 0 <|
     .an 12 0 <|
     .an 1 0 <|
     .go (ih (w64 (v1 + 1)))) <|
    .an 0 0 <|
    .an 0 0 <|
    .an 0 0 <|
    .an 0 0 <|
    .ret (.inl false)) fun c1 =>
   .ret (.inr v1))
def YP (n : Nat) (a0 : (List (List UInt8))) : Option Bool :=
 if 8 < (a0.length : Int) then
  some false
 else
 (xw a0 n 0).bind fun o2 =>
 match o2 with
 | .inl o2_0 =>
  some o2_0
 | .inr (o2_1) =>
  some true
theorem Pd (n : Nat) : Q0 (YP n) := fun a0 => tc (
 .le (zx za) a0 <|
 .lI 8 (a0.length : Int) (fun c1 =>
  .ret false) fun c1 =>
 .l2 (K8 a0 n 0) (fun o2_0 =>
  .ret o2_0) fun o2_1 =>
 .ret true) (zf Tryz.func126)
theorem WX {a : List UInt8} (h : a.length <= 2 ^ 20) : xO a = some (ya a) := Dg h
theorem LT {a : List (List UInt8)} (hs : ∀ x ∈ a, x.length <= 2 ^ 20) (ha : a.length <= 2 ^ 40) : ∀ (d i m : Nat), i + d = a.length → d < m → ∃ z, xw a m (i : Int) = some (if jh ya id a i d = true then .inr z else .inl false) := by
 intro d
 induction d with
 | zero =>
  intro i m hi hm
  obtain ⟨m, rfl, _⟩ := zh hm
  exact ⟨_, by rw [xw, if_neg (by omega)]; rfl⟩
 | succ d ih =>
  intro i m hi hm
  obtain ⟨m, rfl, hm'⟩ := zh hm
  have hil : i < a.length := by omega
  rw [xw, if_pos (by omega), zd, Option.bind_some, zk hil, Option.bind_some, WX (hs _ (List.getElem_mem hil)), Option.bind_some, Qi]
  obtain ⟨z, hz⟩ := ih (i + 1) m (by omega) (by omega)
  cases hx : ya a[i] with
  | false =>
   refine ⟨0, ?_⟩
   have : gOk ya id a i = false := by
    unfold gOk; rw [zk hil]; simp [hx]
   rw [this]; rfl
  | true =>
   dsimp only
   by_cases h0 : 0 < i
   ·rw [if_pos (by omega), j9 (by omega) h0, zd, Option.bind_some, zk (show i - 1 < a.length by omega), Option.bind_some, Vg hil h0, hx, Bool.true_and, zC (by omega), hz]
    by_cases hl : Op.bytesLess a[i - 1] a[i] = true
    ·rw [if_pos hl, show Op.bytesLess (id a[i - 1]) (id a[i]) = true from hl, Bool.true_and]; exact ⟨z, rfl⟩
    ·rw [if_neg hl, show Op.bytesLess (id a[i - 1]) (id a[i]) = false from Bool.eq_false_iff.2 hl]; exact ⟨z, rfl⟩
   ·obtain rfl : i = 0 := by omega
    rw [if_neg (by omega), Jv hil, hx, Bool.true_and, zC (by omega), hz]
    exact ⟨z, rfl⟩
def wW (a0 : (List (List UInt8))) : Option Bool := if bsz a0 <= 2 ^ 20 then some (j5 a0) else none
theorem V9 (a0 : (List (List UInt8))) (r : Bool) (h : wW a0 = some r) : ∃ n, YP n a0 = some r := by
 unfold wW at h
 obtain ⟨ha, h⟩ := zK h
 have hl := kh a0
 obtain ⟨z, hz⟩ := LT (a := a0) (fun x hx => by have := YW hx; omega) (by omega) a0.length 0 (a0.length + 1) (by omega) (by omega)
 refine ⟨a0.length + 1, ?_⟩
 unfold YP
 rw [show ((0 : Nat) : Int) = 0 from rfl] at hz
 rw [<- h]
 unfold j5
 by_cases h8 : (8 : Int) < (a0.length : Int)
 ·rw [if_pos h8, decide_eq_false (by omega)]; rfl
 ·rw [if_neg h8, hz, Option.bind_some, decide_eq_true (by omega), Bool.true_and]
  cases jh ya id a0 0 a0.length <;> rfl
theorem WY : Q0 wW := fun a0 r h => (V9 a0 r h).elim fun n hn => Pd n a0 r hn
def Q1 (F : GState → Option Bool) : Prop := ∀ (a0 : GState), Oc (F a0) 70 [] [.val true (yn a0)] fun r => (vb r, [])
def yw (a0 : GState) : Nat → Int → Option (Bool ⊕ Int)
  | 0, _ => none
  | m + 1, v0 =>
  if v0 < (a0.Entries.length : Int) then
   (zw v0).bind fun i2 =>
   (a0.Entries[i2]?).bind fun x3 =>
   (xO x3.Addr).bind fun r4 =>
   match r4 with
   | true =>
    (qS x3.Val).bind fun r5 =>
    match r5 with
    | true =>
     (wW x3.Deps).bind fun r6 =>
     match r6 with
     | true =>
      if x3.Turned < 1 then
       some (.inl false)
      else
      if a0.Serial < x3.Turned then
       some (.inl false)
      else
      if 0 < v0 then
       (zw (w64 (v0 - 1))).bind fun i10 =>
       (a0.Entries[i10]?).bind fun x11 =>
       if Op.bytesLess x11.Addr x3.Addr = true then
        yw a0 m (w64 (v0 + 1))
       else
       some (.inl false)
      else
      yw a0 m (w64 (v0 + 1))
     | false =>
      some (.inl false)
    | false =>
     some (.inl false)
   | false =>
    some (.inl false)
  else
  some (.inr v0)
theorem vK (a0 : GState) (m : Nat) : ∀ (v0 : Int), Ol (yw a0 m v0) 70 (zQ Tryz.f70 0) ⟨[(1, vp 0 0), (4, vi v0)], [.var (yn a0)], 0⟩ fun o => match o with | .inl o_0 => (.ret, ⟨[(2, vb o_0)], [], 0⟩) | .inr (o_1) => (.exit 0, ⟨[(1, vp 0 0), (4, vi o_1), (71, vb false)], [.var (yn a0)], 0⟩) := by
  induction m with
  | zero => intro v0 o h; cases h
  | succ m ih => exact fun v0 => tlp (
   .le zl a0.Entries <|
   .lI v0 (a0.Entries.length : Int) (fun c1 =>
    .na v0 fun i2 =>
    .ix zX a0.Entries i2 fun x3 =>
    .cl (wT x3.Addr) fun r4 =>
    .vN 0 r4 (
     .an 0 0 <|
     .an 0 0 <|
     .cl (J2 x3.Val) fun r5 =>
     .an 0 1 <|
     .an 0 1 <|
     .vN 0 r5 (
      .an 0 0 <|
      .an 0 0 <|
      .cl (WY x3.Deps) fun r6 =>
      .an 0 1 <|
      .an 0 1 <|
      .vN 0 r6 (
       .an 0 0 <|
       .an 0 0 <|
       .lI x3.Turned 1 (fun c7 =>
        .an 0 0 <|
        .ret (.inl false)) fun c7 =>
       .an 0 0 <|
       .lI a0.Serial x3.Turned (fun c8 =>
        .ret (.inl false)) fun c8 =>
       .lI 0 v0 (fun c9 =>
        .na (w64 (v0 - 1)) fun i10 =>
        .ix zX a0.Entries i10 fun x11 =>
        .bt x11.Addr <|
        .bt x3.Addr <|
        .bI x11.Addr x3.Addr (fun c12 =>
         .go (ih (w64 (v0 + 1)))) fun c12 =>
        .ret (.inl false)) fun c9 =>
       .go (ih (w64 (v0 + 1)))) <|
      .an 0 0 <|
      .an 0 0 <|
      .an 0 0 <|
      .ret (.inl false)) <|
     .an 0 0 <|
     .an 0 0 <|
     .an 0 0 <|
     .an 0 0 <|
     .ret (.inl false)) <|
    .an 0 0 <|
    .an 0 0 <|
    .an 0 0 <|
    .an 0 0 <|
    .ret (.inl false)) fun c1 =>
   .ret (.inr v0))
def Zg (n : Nat) (a0 : GState) : Option Bool :=
 if a0.Serial < 0 then
  some false
 else
 if 1000000 < a0.Serial then
  some false
 else
 if 16 < (a0.Entries.length : Int) then
  some false
 else
 if 0 < (a0.Pending.length : Int) then
  match a0.Open with
  | true =>
   (xO a0.Pending).bind fun r5 =>
   match r5 with
   | true =>
    if a0.Act < 1 then
     some false
    else
    if 4 < a0.Act then
     some false
    else
    (xP a0 a0.Pending).bind fun r8 =>
    if a0.Act = 1 then
     if 0 <= r8 then
      some false
     else
     (yw a0 n 0).bind fun o11 =>
     match o11 with
     | .inl o11_0 =>
      some o11_0
     | .inr (o11_1) =>
      some true
    else
    if 0 <= r8 then
     (yw a0 n 0).bind fun o11 =>
     match o11 with
     | .inl o11_0 =>
      some o11_0
     | .inr (o11_1) =>
      some true
    else
    some false
   | false =>
    some false
  | false =>
   some false
 else
 if a0.Act = 0 then
  (yw a0 n 0).bind fun o6 =>
  match o6 with
  | .inl o6_0 =>
   some o6_0
  | .inr (o6_1) =>
   some true
 else
 some false
theorem Pe (n : Nat) : Q1 (Zg n) := fun a0 => tc (
 .lI a0.Serial 0 (fun c1 =>
  .ret false) fun c1 =>
 .lI 1000000 a0.Serial (fun c2 =>
  .ret false) fun c2 =>
 .le zl a0.Entries <|
 .lI 16 (a0.Entries.length : Int) (fun c3 =>
  .ret false) fun c3 =>
 .le za a0.Pending <|
 .lI 0 (a0.Pending.length : Int) (fun c4 =>
  .vN 4 a0.Open (
   .an 0 0 <|
   .an 0 0 <|
   .cl (wT a0.Pending) fun r5 =>
   .an 0 1 <|
   .an 1 1 <|
   .vN 1 r5 (
    .an 0 0 <|
    .an 0 0 <|
    .lI a0.Act 1 (fun c6 =>
     .an 1 0 <|
     .ret false) fun c6 =>
    .an 1 0 <|
    .lI 4 a0.Act (fun c7 =>
     .ret false) fun c7 =>
    .eD a0.Act 1 <|
    .cl (YN a0 a0.Pending) fun r8 =>
    .gD 0 r8 <|
    .sp (a0.Act = 1) (fun c9 =>
     .sp (0 <= r8) (fun c10 =>
      .eb (dT c9) (dT c10) <|
      .ret false) fun c10 =>
     .eb (dT c9) (dF c10) <|
     .l2 (vK a0 n 0) (fun o11_0 =>
      .ret o11_0) fun o11_1 =>
     .ret true) fun c9 =>
    .sp (0 <= r8) (fun c10 =>
     .eb (dF c9) (dT c10) <|
     .l2 (vK a0 n 0) (fun o11_0 =>
      .ret o11_0) fun o11_1 =>
     .ret true) fun c10 =>
    .eb (dF c9) (dF c10) <|
    .ret false) <|
   .an 0 0 <|
   .an 0 0 <|
   .an 1 0 <|
   .ret false) <|
  .an 0 0 <|
  .an 0 0 <|
  .an 0 0 <|
  .an 1 0 <|
  .ret false) fun c4 =>
 .eI a0.Act 0 (fun c5 =>
  .l2 (vK a0 n 0) (fun o6_0 =>
   .ret o6_0) fun o6_1 =>
  .ret true) fun c5 =>
 .ret false) (zf Tryz.func70)
theorem zcw {v : GValue} (h : vsz v <= 2 ^ 20) : xd v = some (kJ v) := by
 unfold xd kW
 rw [if_pos ⟨h, by decide, by decide, by decide⟩, Option.bind_some]
 congr 1
 unfold okV kJ
 rw [show (6 - (1 : Int)).toNat = 5 from rfl]
 by_cases hc : shV 5 v = true ∧ (ptV v : Int) <= 40
 ·rw [if_pos hc, decide_eq_true hc]; exact decide_eq_true (by omega)
 ·rw [if_neg hc, decide_eq_false hc]; rfl
theorem H3 {v : GValue} (h : vsz v <= 2 ^ 20) : qS v = some (jK v) := by
 unfold qS jK
 by_cases h5 : v.Kind = 5
 ·rw [if_pos h5, zcw h, Option.bind_some, decide_eq_true h5, Bool.true_and]
  cases hv : kJ v with
  | false => rfl
  | true =>
   simp only [Bool.true_and]
   unfold qK
   rw [if_pos (by omega)]; rfl
 ·rw [if_neg h5, decide_eq_false h5]; rfl
theorem Gq {l : List (List UInt8)} (h : bsz l <= 2 ^ 20) : wW l = some (j5 l) := if_pos h
theorem LU {s : GState} (hs : yh s.Entries <= 2 ^ 20) : ∀ (d i m : Nat), i + d = s.Entries.length → d < m → ∃ z, yw s m (i : Int) = some (if jh (W4 s.Serial) GEntry.Addr s.Entries i d = true then .inr z else .inl false) := by
 have hlen := qX s.Entries
 intro d
 induction d with
 | zero =>
  intro i m hi hm
  obtain ⟨m, rfl, _⟩ := zh hm
  exact ⟨_, by rw [yw, if_neg (by omega)]; rfl⟩
 | succ d ih =>
  intro i m hi hm
  obtain ⟨m, rfl, hm'⟩ := zh hm
  have hil : i < s.Entries.length := by omega
  have hz0 := W3 (List.getElem_mem hil)
  obtain ⟨z, hz⟩ := ih (i + 1) m (by omega) (by omega)
  rw [yw, if_pos (by omega), zd, Option.bind_some, zk hil, Option.bind_some, Qi]
  unfold esz at hz0
  rw [WX (by omega), Option.bind_some, H3 (by omega), Option.bind_some, Gq (by omega), Option.bind_some, zC (by omega), hz]
  generalize jh _ GEntry.Addr s.Entries (i + 1) d = g
  have hT : decide (1 <= s.Entries[i].Turned ∧ s.Entries[i].Turned <= s.Serial) = (!(decide (s.Entries[i].Turned < 1)) && !(decide (s.Serial < s.Entries[i].Turned))) := by
   by_cases a : s.Entries[i].Turned < 1 <;> by_cases b : s.Serial < s.Entries[i].Turned <;> simp [a, b] <;> omega
  refine ⟨z, ?_⟩
  by_cases h0 : 0 < i
  ·rw [Vg hil h0]
   unfold W4
   rw [hT]
   rw [if_pos (show (0 : Int) < ((i : Nat) : Int) by omega), j9 (by omega) h0, zd, Option.bind_some, zk (show i - 1 < s.Entries.length by omega), Option.bind_some]
   generalize Op.bytesLess s.Entries[i - 1].Addr s.Entries[i].Addr = b
   by_cases a1 : s.Entries[i].Turned < 1 <;> by_cases a2 : s.Serial < s.Entries[i].Turned <;> cases b <;> cases ya s.Entries[i].Addr <;> cases jK s.Entries[i].Val <;> cases j5 s.Entries[i].Deps <;> simp [a1, a2]
  ·obtain rfl : i = 0 := by omega
   rw [Jv hil]
   unfold W4
   rw [hT]
   rw [if_neg (show ¬ (0 : Int) < ((0 : Nat) : Int) by omega)]
   by_cases a1 : s.Entries[0].Turned < 1 <;> by_cases a2 : s.Serial < s.Entries[0].Turned <;> cases ya s.Entries[0].Addr <;> cases jK s.Entries[0].Val <;> cases j5 s.Entries[0].Deps <;> simp [a1, a2]
def jT (a0 : GState) : Option Bool := if ssz a0 <= 2 ^ 20 then some (stB a0) else none
theorem H4 {s : GState} (h : ssz s <= 2 ^ 20) : jT s = some (stB s) := if_pos h
theorem MJ {s : GState} (h : ssz s <= 2 ^ 20) : Zg (s.Entries.length + 1) s = some (stB s) := by
 have hlen := qX s.Entries
 unfold ssz at h
 obtain ⟨z, hz⟩ := LU (s := s) (by omega) s.Entries.length 0 (s.Entries.length + 1) (by omega) (by omega)
 rw [show ((0 : Nat) : Int) = 0 from rfl] at hz
 have hf : ((yw s (s.Entries.length + 1) 0).bind fun o4 => match o4 with | .inl o => some o | .inr _ => some true) = some (OS s) := by
  rw [hz, show OS s = jh (W4 s.Serial) GEntry.Addr s.Entries 0 s.Entries.length from rfl]
  cases jh (W4 s.Serial) GEntry.Addr s.Entries 0 s.Entries.length <;> rfl
 unfold Zg
 unfold stB
 by_cases h1 : s.Serial < 0
 ·rw [if_pos h1, decide_eq_false (p := 0 <= s.Serial ∧ s.Serial <= 1000000 ∧ s.Entries.length <= 16) (by omega)]; rfl
 rw [if_neg h1]
 by_cases h2 : 1000000 < s.Serial
 ·rw [if_pos h2, decide_eq_false (p := 0 <= s.Serial ∧ s.Serial <= 1000000 ∧ s.Entries.length <= 16) (by omega)]; rfl
 rw [if_neg h2]
 by_cases h3 : (16 : Int) < (s.Entries.length : Int)
 ·rw [if_pos h3, decide_eq_false (p := 0 <= s.Serial ∧ s.Serial <= 1000000 ∧ s.Entries.length <= 16) (by omega)]; rfl
 rw [if_neg h3, decide_eq_true (p := 0 <= s.Serial ∧ s.Serial <= 1000000 ∧ s.Entries.length <= 16) (by omega), Bool.true_and]
 unfold OR
 by_cases hp : s.Pending = []
 ·rw [if_neg (by rw [hp]; simp), if_pos hp]
  by_cases ha : s.Act = 0
  ·rw [if_pos ha, decide_eq_true ha, Bool.and_true]
   exact hf
  ·rw [if_neg ha, decide_eq_false ha, Bool.and_false]
 ·have hp0 : (0 : Int) < (s.Pending.length : Int) := by
   have : s.Pending.length ≠ 0 := fun e => hp (List.eq_nil_of_length_eq_zero e)
   omega
  rw [if_pos hp0, if_neg hp]
  cases ho : s.Open with
  | false => simp
  | true =>
   dsimp only
   rw [WX (by omega), Option.bind_some]
   cases ya s.Pending with
   | false => simp
   | true =>
    dsimp only
    by_cases a1 : s.Act < 1
    ·rw [if_pos a1, decide_eq_false (p := 1 <= s.Act ∧ s.Act <= 4) (by omega)]; simp
    rw [if_neg a1]
    by_cases a2 : 4 < s.Act
    ·rw [if_pos a2, decide_eq_false (p := 1 <= s.Act ∧ s.Act <= 4) (by omega)]; simp
    rw [if_neg a2, decide_eq_true (p := 1 <= s.Act ∧ s.Act <= 4) (by omega)]
    unfold xP
    rw [if_pos (by omega), Option.bind_some]
    have hh := K6 s.Entries s.Pending 0
    by_cases hA : s.Act = 1
    ·rw [if_pos hA, decide_eq_false (p := s.Act ≠ 1) (by omega)]
     cases hb : yJ s.Entries s.Pending with
     | true => rw [if_pos (hh.2 hb)]; simp
     | false => rw [if_neg (fun h => by rw [hh.1 h] at hb; cases hb)]; refine Eq.trans hf ?_; simp
    ·rw [if_neg hA, decide_eq_true (p := s.Act ≠ 1) hA]
     cases hb : yJ s.Entries s.Pending with
     | true => rw [if_pos (hh.2 hb)]; refine Eq.trans hf ?_; simp
     | false => rw [if_neg (fun h => by rw [hh.1 h] at hb; cases hb)]; simp
theorem VA (a0 : GState) (r : Bool) (h : jT a0 = some r) : ∃ n, Zg n a0 = some r := by
 unfold jT at h
 obtain ⟨ha, h⟩ := zK h
 exact ⟨_, by rw [<- h]; exact MJ ha⟩
theorem TN : Q1 jT := fun a0 r h => (VA a0 r h).elim fun n hn => Pe n a0 r hn
def jU (a0 : (List UInt8)) (a1 : (List UInt8)) : Option Int :=
 if Op.bytesLess a0 a1 = true then
  some (-1)
 else
 if Op.bytesLess a1 a0 = true then
  some 1
 else
 some 0
theorem Yt (a0 : (List UInt8)) (a1 : (List UInt8)) : Oc (jU a0 a1) 155 [] [vq za a0, vq za a1] fun r => (vi r, []) := tc (
 .bt a0 <|
 .bt a1 <|
 .bI a0 a1 (fun c1 =>
  .ret (-1)) fun c1 =>
 .bt a0 <|
 .bt a1 <|
 .bI a1 a0 (fun c2 =>
  .ret 1) fun c2 =>
 .ret 0) (zf Tryz.func155)
def jV (a0 : Int) (a1 : Int) : Option Int :=
 if a0 < a1 then
  some (-1)
 else
 if a1 < a0 then
  some 1
 else
 some 0
theorem X2 (a0 : Int) (a1 : Int) : Oc (jV a0 a1) 154 [] [vi a0, vi a1] fun r => (vi r, []) := tc (
 .lI a0 a1 (fun c1 =>
  .ret (-1)) fun c1 =>
 .lI a1 a0 (fun c2 =>
  .ret 1) fun c2 =>
 .ret 0) (zf Tryz.func154)
def vL (F : GValue → GValue → Option Int) : Prop := ∀ (a0 : GValue) (a1 : GValue), Oc (F a0 a1) 109 [] [.val true (zI a0), .val true (zI a1)] fun r => (vi r, [])
def ju (G_spec_l2cmp : GValue → GValue → Option Int) (a0 : GValue) (a1 : GValue) : Nat → Int → Option (Int ⊕ Int)
  | 0, _ => none
  | m + 1, v0 =>
  if v0 < (a0.L.length : Int) then
   if v0 < (a1.L.length : Int) then
    if a0.Kind = 5 then
     (zw v0).bind fun i4 =>
     (a0.K[i4]?).bind fun x5 =>
     (a1.K[i4]?).bind fun x6 =>
     (jU x5 x6).bind fun r7 =>
     if r7 = 0 then
      (a0.L[i4]?).bind fun x9 =>
      (a1.L[i4]?).bind fun x10 =>
      (G_spec_l2cmp x9 x10).bind fun r11 =>
      if r11 = 0 then
       ju G_spec_l2cmp a0 a1 m (w64 (v0 + 1))
      else
      some (.inl r11)
     else
     some (.inl r7)
    else
    (zw v0).bind fun i4 =>
    (a0.L[i4]?).bind fun x5 =>
    (a1.L[i4]?).bind fun x6 =>
    (G_spec_l2cmp x5 x6).bind fun r7 =>
    if r7 = 0 then
     ju G_spec_l2cmp a0 a1 m (w64 (v0 + 1))
    else
    some (.inl r7)
   else
   some (.inr v0)
  else
  some (.inr v0)
theorem R1 (G_spec_l2cmp : GValue → GValue → Option Int) (H_spec_l2cmp : vL G_spec_l2cmp) (a0 : GValue) (a1 : GValue) (m : Nat) : ∀ (v0 : Int), Ol (ju G_spec_l2cmp a0 a1 m v0) 109 (zQ Tryz.f109 0) ⟨[(2, vp 0 0), (3, vp 1 0), (5, vi v0)], [.var (zI a0), .var (zI a1)], 0⟩ fun o => match o with | .inl o_0 => (.ret, ⟨[(4, vi o_0)], [], 0⟩) | .inr (o_1) => (.exit 0, ⟨[(2, vp 0 0), (3, vp 1 0), (5, vi o_1), (47, vb false)], [.var (zI a0), .var (zI a1)], 0⟩) := by
  induction m with
  | zero => intro v0 o h; cases h
  | succ m ih => exact fun v0 => tlp (
   .le zg a0.L <|
   .lI v0 (a0.L.length : Int) (fun c1 =>
    .le zg a1.L <|
    .lI v0 (a1.L.length : Int) (fun c2 =>
     .eI a0.Kind 5 (fun c3 =>
      .na v0 fun i4 =>
      .ix0 (zx za) a0.K i4 fun x5 =>
      .ag 1 <|
      .ix0 (zx za) a1.K i4 fun x6 =>
      .cl (Yt x5 x6) fun r7 =>
      .eI r7 0 (fun c8 =>
       .ag 3 <|
       .ix yo a0.L i4 fun x9 =>
       .ag 4 <|
       .ix yo a1.L i4 fun x10 =>
       .cl (H_spec_l2cmp x9 x10) fun r11 =>
       .eI r11 0 (fun c12 =>
        .go (ih (w64 (v0 + 1)))) fun c12 =>
       .ret (.inl r11)) fun c8 =>
      .ret (.inl r7)) fun c3 =>
     .na v0 fun i4 =>
     .ix yo a0.L i4 fun x5 =>
     .ag 1 <|
     .ix yo a1.L i4 fun x6 =>
     .cl (H_spec_l2cmp x5 x6) fun r7 =>
     .eI r7 0 (fun c8 =>
      .go (ih (w64 (v0 + 1)))) fun c8 =>
     .ret (.inl r7)) fun c2 =>
    .ret (.inr v0)) fun c1 =>
   .ret (.inr v0))
def Yu (G_spec_l2cmp : GValue → GValue → Option Int) (n : Nat) (a0 : GValue) (a1 : GValue) : Option Int :=
 if a0.Kind = a1.Kind then
  if a0.Kind = 3 then
   (jU a0.S a1.S).bind fun r3 =>
   some r3
  else
  if a0.N = a1.N then
   (ju G_spec_l2cmp a0 a1 n 0).bind fun o4 =>
   match o4 with
   | .inl o4_0 =>
    some o4_0
   | .inr (o4_1) =>
    (jV (a0.L.length : Int) (a1.L.length : Int)).bind fun r5 =>
    some r5
  else
  (jV a0.N a1.N).bind fun r4 =>
  some r4
 else
 (jV a0.Kind a1.Kind).bind fun r2 =>
 some r2
theorem LV (G_spec_l2cmp : GValue → GValue → Option Int) (H_spec_l2cmp : vL G_spec_l2cmp) (n : Nat) : vL (Yu G_spec_l2cmp n) := fun a0 a1 => tc (
 .eI a0.Kind a1.Kind (fun c1 =>
  .eI a0.Kind 3 (fun c2 =>
   .cl (Yt a0.S a1.S) fun r3 =>
   .ret r3) fun c2 =>
  .eI a0.N a1.N (fun c3 =>
   .l2 (R1 G_spec_l2cmp H_spec_l2cmp a0 a1 n 0) (fun o4_0 =>
    .ret o4_0) fun o4_1 =>
   .le zg a0.L <|
   .le zg a1.L <|
   .cl (X2 (a0.L.length : Int) (a1.L.length : Int)) fun r5 =>
   .ret r5) fun c3 =>
  .cl (X2 a0.N a1.N) fun r4 =>
  .ret r4) fun c1 =>
 .cl (X2 a0.Kind a1.Kind) fun r2 =>
 .ret r2) (zf Tryz.func109)
def w4 : Nat → GValue → GValue → Option Int
 | 0, _, _ => none
 | n + 1, a0, a1 => Yu (w4 n) n a0 a1
theorem Pf (n : Nat) : vL (w4 n) := by
 induction n with
 | zero => exact fun _ _ _ h => (by rw [w4] at h; cases h)
 | succ n ih =>
  have ih_spec_l2cmp := ih
  exact fun a0 a1 r h => LV (w4 n) ih_spec_l2cmp n a0 a1 r (by rw [w4] at h; exact h)
def Yv (a0 : GValue) (a1 : GValue) : Option Int := w4 (vsz a0 + 3) a0 a1
theorem TO (a0 : GValue) (a1 : GValue) (r : Int) (h : Yv a0 a1 = some r) : ∃ n, w4 n a0 a1 = some r := ⟨_, h⟩
theorem Oy : vL Yv := by
 intro a0 a1 r h
 obtain ⟨n, hn⟩ := TO a0 a1 r h
 exact (Pf n) a0 a1 r hn
def wH (a0 : GValue) : Option Bool :=
 (Yv a0 (GValue.mk 0 0 [] [] [])).bind fun r1 =>
 if r1 = 0 then
  some (decide (a0.N = 0))
 else
 some false
theorem Zh (a0 : GValue) : Oc (wH a0) 128 [] [.val true (zI a0)] fun r => (vb r, []) := tc (
 .cl (Oy a0 (GValue.mk 0 0 [] [] [])) fun r1 =>
 .eI r1 0 (fun c2 =>
  .eD a0.N 0 <|
  .ret (decide (a0.N = 0))) fun c2 =>
 .ret false) (zf Tryz.func128)
def Zi (a0 : GEvent) : Option Bool :=
 if a0.Kind < 0 then
  some false
 else
 if 6 < a0.Kind then
  some false
 else
 if a0.Kind = 1 then
  if 0 < (a0.Addr.length : Int) then
   (xO a0.Addr).bind fun r5 =>
   match r5 with
   | true =>
    if a0.Act < 1 then
     some false
    else
    if 4 < a0.Act then
     some false
    else
    (xd a0.Val).bind fun r8 =>
    match r8 with
    | true =>
     (wH a0.Val).bind fun r9 =>
     match r9 with
     | true =>
      some (decide ((a0.Deps.length : Int) = 0))
     | false =>
      some false
    | false =>
     some false
   | false =>
    some false
  else
  some false
 else
 if a0.Kind = 2 then
  if 0 < (a0.Addr.length : Int) then
   (xO a0.Addr).bind fun r6 =>
   match r6 with
   | true =>
    if a0.Act = 0 then
     (qS a0.Val).bind fun r8 =>
     match r8 with
     | true =>
      (wW a0.Deps).bind fun r9 =>
      some r9
     | false =>
      some false
    else
    some false
   | false =>
    some false
  else
  some false
 else
 if a0.Kind = 3 then
  if 0 < (a0.Addr.length : Int) then
   (xO a0.Addr).bind fun r7 =>
   match r7 with
   | true =>
    if a0.Act = 0 then
     (xd a0.Val).bind fun r9 =>
     match r9 with
     | true =>
      (wH a0.Val).bind fun r10 =>
      match r10 with
      | true =>
       some (decide ((a0.Deps.length : Int) = 0))
      | false =>
       some false
     | false =>
      some false
    else
    some false
   | false =>
    some false
  else
  some false
 else
 if a0.Kind = 4 then
  if 0 < (a0.Addr.length : Int) then
   (xO a0.Addr).bind fun r8 =>
   match r8 with
   | true =>
    if a0.Act = 0 then
     (xd a0.Val).bind fun r10 =>
     match r10 with
     | true =>
      (wH a0.Val).bind fun r11 =>
      match r11 with
      | true =>
       some (decide ((a0.Deps.length : Int) = 0))
      | false =>
       some false
     | false =>
      some false
    else
    some false
   | false =>
    some false
  else
  some false
 else
 if 0 < (a0.Addr.length : Int) then
  some false
 else
 if a0.Act = 0 then
  (xd a0.Val).bind fun r9 =>
  match r9 with
  | true =>
   (wH a0.Val).bind fun r10 =>
   match r10 with
   | true =>
    some (decide ((a0.Deps.length : Int) = 0))
   | false =>
    some false
  | false =>
   some false
 else
 some false
theorem TP (a0 : GEvent) : Oc (Zi a0) 71 [] [.val true (qW a0)] fun r => (vb r, []) := tc (
 .lI a0.Kind 0 (fun c1 =>
  .ret false) fun c1 =>
 .lI 6 a0.Kind (fun c2 =>
  .ret false) fun c2 =>
 .eI a0.Kind 1 (fun c3 =>
  .le za a0.Addr <|
  .lD 0 (a0.Addr.length : Int) <|
  .sp (0 < (a0.Addr.length : Int)) (fun c4 =>
   .eb (a := true) (b := (decide (0 < (a0.Addr.length : Int)))) rfl (dT c4) <|
   .cl (wT a0.Addr) fun r5 =>
   .vN 4 r5 (
    .q (.eT c3) <|
    .lI a0.Act 1 (fun c6 =>
     .ret false) fun c6 =>
    .lI 4 a0.Act (fun c7 =>
     .ret false) fun c7 =>
    .q (.eFo a0.Kind 2 (by omega)) <|
    .cl (kM a0.Val) fun r8 =>
    .vM 0 r8 (
     .az 0 0 <|
     .az 0 0 <|
     .cl (Zh a0.Val) fun r9 =>
     .az 0 1 <|
     .vM 0 r9 (
      .az 0 0 <|
      .az 0 0 <|
      .le (zx za) a0.Deps <|
      .az 0 0 <|
      .eD (a0.Deps.length : Int) 0 <|
      .az 0 0 <|
      .ret (decide ((a0.Deps.length : Int) = 0))) <|
     .az 0 0 <|
     .az 0 0 <|
     .az 0 0 <|
     .az 0 0 <|
     .ret false) <|
    .az 0 0 <|
    .az 0 0 <|
    .az 0 0 <|
    .ret false) <|
   .ret false) fun c4 =>
  .eb (a := true) (b := (decide (0 < (a0.Addr.length : Int)))) rfl (dF c4) <|
  .ret false) fun c3 =>
 .eI a0.Kind 2 (fun c4 =>
  .le za a0.Addr <|
  .lD 0 (a0.Addr.length : Int) <|
  .sp (0 < (a0.Addr.length : Int)) (fun c5 =>
   .eb (a := true) (b := (decide (0 < (a0.Addr.length : Int)))) rfl (dT c5) <|
   .cl (wT a0.Addr) fun r6 =>
   .vN 4 r6 (
    .q (.eF c3) <|
    .eI a0.Act 0 (fun c7 =>
     .q (.eT c4) <|
     .cl (J2 a0.Val) fun r8 =>
     .vM 0 r8 (
      .az 0 0 <|
      .az 0 0 <|
      .cl (WY a0.Deps) fun r9 =>
      .az 0 1 <|
      .ret r9) <|
     .az 0 0 <|
     .az 0 0 <|
     .az 0 0 <|
     .ret false) fun c7 =>
    .ret false) <|
   .ret false) fun c5 =>
  .eb (a := true) (b := (decide (0 < (a0.Addr.length : Int)))) rfl (dF c5) <|
  .ret false) fun c4 =>
 .eI a0.Kind 3 (fun c5 =>
  .le za a0.Addr <|
  .lD 0 (a0.Addr.length : Int) <|
  .sp (0 < (a0.Addr.length : Int)) (fun c6 =>
   .eb (a := true) (b := (decide (0 < (a0.Addr.length : Int)))) rfl (dT c6) <|
   .cl (wT a0.Addr) fun r7 =>
   .vN 4 r7 (
    .q (.eF c3) <|
    .eI a0.Act 0 (fun c8 =>
     .q (.eF c4) <|
     .cl (kM a0.Val) fun r9 =>
     .vM 0 r9 (
      .az 0 0 <|
      .az 0 0 <|
      .cl (Zh a0.Val) fun r10 =>
      .az 0 1 <|
      .vM 0 r10 (
       .az 0 0 <|
       .az 0 0 <|
       .le (zx za) a0.Deps <|
       .az 0 0 <|
       .eD (a0.Deps.length : Int) 0 <|
       .az 0 0 <|
       .ret (decide ((a0.Deps.length : Int) = 0))) <|
      .az 0 0 <|
      .az 0 0 <|
      .az 0 0 <|
      .az 0 0 <|
      .ret false) <|
     .az 0 0 <|
     .az 0 0 <|
     .az 0 0 <|
     .ret false) fun c8 =>
    .ret false) <|
   .ret false) fun c6 =>
  .eb (a := true) (b := (decide (0 < (a0.Addr.length : Int)))) rfl (dF c6) <|
  .ret false) fun c5 =>
 .eI a0.Kind 4 (fun c6 =>
  .le za a0.Addr <|
  .lD 0 (a0.Addr.length : Int) <|
  .sp (0 < (a0.Addr.length : Int)) (fun c7 =>
   .eb (a := true) (b := (decide (0 < (a0.Addr.length : Int)))) rfl (dT c7) <|
   .cl (wT a0.Addr) fun r8 =>
   .vN 4 r8 (
    .q (.eF c3) <|
    .eI a0.Act 0 (fun c9 =>
     .q (.eF c4) <|
     .cl (kM a0.Val) fun r10 =>
     .vM 0 r10 (
      .az 0 0 <|
      .az 0 0 <|
      .cl (Zh a0.Val) fun r11 =>
      .az 0 1 <|
      .vM 0 r11 (
       .az 0 0 <|
       .az 0 0 <|
       .le (zx za) a0.Deps <|
       .az 0 0 <|
       .eD (a0.Deps.length : Int) 0 <|
       .az 0 0 <|
       .ret (decide ((a0.Deps.length : Int) = 0))) <|
      .az 0 0 <|
      .az 0 0 <|
      .az 0 0 <|
      .az 0 0 <|
      .ret false) <|
     .az 0 0 <|
     .az 0 0 <|
     .az 0 0 <|
     .ret false) fun c9 =>
    .ret false) <|
   .ret false) fun c7 =>
  .eb (a := true) (b := (decide (0 < (a0.Addr.length : Int)))) rfl (dF c7) <|
  .ret false) fun c6 =>
 .le za a0.Addr <|
 .lD 0 (a0.Addr.length : Int) <|
 .sp (0 < (a0.Addr.length : Int)) (fun c7 =>
  .eb (a := false) (b := (decide (0 < (a0.Addr.length : Int)))) rfl (dT c7) <|
  .ret false) fun c7 =>
 .eb (a := false) (b := (decide (0 < (a0.Addr.length : Int)))) rfl (dF c7) <|
 .q (.eF c3) <|
 .eI a0.Act 0 (fun c8 =>
  .q (.eF c4) <|
  .cl (kM a0.Val) fun r9 =>
  .vM 0 r9 (
   .az 0 0 <|
   .az 0 0 <|
   .cl (Zh a0.Val) fun r10 =>
   .az 0 1 <|
   .vM 0 r10 (
    .az 0 0 <|
    .az 0 0 <|
    .le (zx za) a0.Deps <|
    .az 0 0 <|
    .eD (a0.Deps.length : Int) 0 <|
    .az 0 0 <|
    .ret (decide ((a0.Deps.length : Int) = 0))) <|
   .az 0 0 <|
   .az 0 0 <|
   .az 0 0 <|
   .az 0 0 <|
   .ret false) <|
  .az 0 0 <|
  .az 0 0 <|
  .az 0 0 <|
  .ret false) fun c8 =>
 .ret false) (zf Tryz.func71)
def Yw (a0 : GState) (a1 : GEvent) : Option Bool :=
 if 1000000 <= a0.Serial then
  some false
 else
 if a1.Kind = 0 then
  some (!a0.Open)
 else
 if a1.Kind = 1 then
  (xP a0 a1.Addr).bind fun r4 =>
  match a0.Open with
  | true =>
   if 0 < (a0.Pending.length : Int) then
    some false
   else
   if a1.Act = 1 then
    if 0 <= r4 then
     some false
    else
    some (decide ((a0.Entries.length : Int) < 16))
   else
   if 0 <= r4 then
    some true
   else
   some false
  | false =>
   some false
 else
 if a1.Kind = 2 then
  if 0 < (a0.Pending.length : Int) then
   if a0.Pending = a1.Addr then
    some (!(decide (a0.Act = 4)))
   else
   some false
  else
  some false
 else
 if a1.Kind = 3 then
  if 0 < (a0.Pending.length : Int) then
   if a0.Pending = a1.Addr then
    some (decide (a0.Act = 4))
   else
   some false
  else
  some false
 else
 if a1.Kind = 4 then
  if 0 < (a0.Pending.length : Int) then
   some (decide (a0.Pending = a1.Addr))
  else
  some false
 else
 if a1.Kind = 5 then
  match a0.Open with
  | true =>
   some (!(decide (0 < (a0.Pending.length : Int))))
  | false =>
   some false
 else
 some a0.Open
theorem Oz (a0 : GState) (a1 : GEvent) : Oc (Yw a0 a1) 72 [] [.val true (yn a0), .val true (qW a1)] fun r => (vb r, []) := tc (
 .le za a0.Pending <|
 .lD 0 (a0.Pending.length : Int) <|
 .gI 1000000 a0.Serial (fun c1 =>
  .ret false) fun c1 =>
 .eI a1.Kind 0 (fun c2 =>
  .ret (!a0.Open)) fun c2 =>
 .eI a1.Kind 1 (fun c3 =>
  .cl (YN a0 a1.Addr) fun r4 =>
  .gD 0 r4 <|
  .vM 0 a0.Open (
   .az 0 0 <|
   .az 0 0 <|
   .cN 0 (0 < (a0.Pending.length : Int)) (fun c5 =>
    .kF 0 (nT (dT c5)) <|
    .kF 0 (nT (dT c5)) <|
    .kF 0 (nT (dT c5)) <|
    .kF 0 (nT (dT c5)) <|
    .kF 0 (nT (dT c5)) <|
    .ret false) fun c5 =>
   .kT 0 (nF (dF c5)) <|
   .kT 0 (nF (dF c5)) <|
   .eI a1.Act 1 (fun c6 =>
    .kT 0 (nF (dF c5)) <|
    .kT 0 (nF (dF c5)) <|
    .sp (0 <= r4) (fun c7 =>
     .eb (a := true) (b := (decide (0 <= r4))) rfl (dT c7) <|
     .kT 0 (nF (dF c5)) <|
     .ret false) fun c7 =>
    .eb (a := true) (b := (decide (0 <= r4))) rfl (dF c7) <|
    .kT 0 (nF (dF c5)) <|
    .kF 2 (dF c7) <|
    .kF 0 (dF c7) <|
    .kF 0 (dF c7) <|
    .le zl a0.Entries <|
    .kF 0 (dF c7) <|
    .lD (a0.Entries.length : Int) 16 <|
    .kF 1 (dF c7) <|
    .ret (decide ((a0.Entries.length : Int) < 16))) fun c6 =>
   .kT 0 (nF (dF c5)) <|
   .kT 0 (nF (dF c5)) <|
   .sp (0 <= r4) (fun c7 =>
    .eb (a := false) (b := (decide (0 <= r4))) rfl (dT c7) <|
    .kT 0 (nF (dF c5)) <|
    .kT 2 (dT c7) <|
    .kT 0 (dT c7) <|
    .kT 0 (dT c7) <|
    .kT 0 (dT c7) <|
    .kT 1 (dT c7) <|
    .ret true) fun c7 =>
   .eb (a := false) (b := (decide (0 <= r4))) rfl (dF c7) <|
   .kT 0 (nF (dF c5)) <|
   .ret false) <|
  .az 0 0 <|
  .az 0 0 <|
  .ret false) fun c3 =>
 .eI a1.Kind 2 (fun c4 =>
  .cI 1 (0 < (a0.Pending.length : Int)) (fun c5 =>
   .kT 0 (dT c5) <|
   .kT 0 (dT c5) <|
   .bt a0.Pending <|
   .kT 0 (dT c5) <|
   .kT 0 (dT c5) <|
   .kT 0 (dT c5) <|
   .bt a1.Addr <|
   .kT 0 (dT c5) <|
   .sD a0.Pending a1.Addr <|
   .kT 0 (dT c5) <|
   .cI 0 (a0.Pending = a1.Addr) (fun c6 =>
    .kT 0 (dT c6) <|
    .kT 0 (dT c6) <|
    .eD a0.Act 4 <|
    .kT 0 (dT c6) <|
    .ret (!(decide (a0.Act = 4)))) fun c6 =>
   .kF 0 (dF c6) <|
   .kF 0 (dF c6) <|
   .kF 0 (dF c6) <|
   .ret false) fun c5 =>
  .kF 0 (dF c5) <|
  .kF 0 (dF c5) <|
  .kF 0 (dF c5) <|
  .kF 0 (dF c5) <|
  .kF 0 (dF c5) <|
  .kF 0 (dF c5) <|
  .kF 0 (dF c5) <|
  .ret false) fun c4 =>
 .eI a1.Kind 3 (fun c5 =>
  .cI 1 (0 < (a0.Pending.length : Int)) (fun c6 =>
   .kT 0 (dT c6) <|
   .kT 0 (dT c6) <|
   .bt a0.Pending <|
   .kT 0 (dT c6) <|
   .kT 0 (dT c6) <|
   .kT 0 (dT c6) <|
   .bt a1.Addr <|
   .kT 0 (dT c6) <|
   .sD a0.Pending a1.Addr <|
   .kT 0 (dT c6) <|
   .cI 0 (a0.Pending = a1.Addr) (fun c7 =>
    .kT 0 (dT c7) <|
    .kT 0 (dT c7) <|
    .eD a0.Act 4 <|
    .kT 0 (dT c7) <|
    .ret (decide (a0.Act = 4))) fun c7 =>
   .kF 0 (dF c7) <|
   .kF 0 (dF c7) <|
   .kF 0 (dF c7) <|
   .ret false) fun c6 =>
  .kF 0 (dF c6) <|
  .kF 0 (dF c6) <|
  .kF 0 (dF c6) <|
  .kF 0 (dF c6) <|
  .kF 0 (dF c6) <|
  .kF 0 (dF c6) <|
  .kF 0 (dF c6) <|
  .ret false) fun c5 =>
 .eI a1.Kind 4 (fun c6 =>
  .cI 1 (0 < (a0.Pending.length : Int)) (fun c7 =>
   .kT 0 (dT c7) <|
   .kT 0 (dT c7) <|
   .bt a0.Pending <|
   .kT 0 (dT c7) <|
   .kT 0 (dT c7) <|
   .kT 0 (dT c7) <|
   .bt a1.Addr <|
   .kT 0 (dT c7) <|
   .sD a0.Pending a1.Addr <|
   .kT 0 (dT c7) <|
   .ret (decide (a0.Pending = a1.Addr))) fun c7 =>
  .kF 0 (dF c7) <|
  .kF 0 (dF c7) <|
  .kF 0 (dF c7) <|
  .kF 0 (dF c7) <|
  .kF 0 (dF c7) <|
  .kF 0 (dF c7) <|
  .kF 0 (dF c7) <|
  .ret false) fun c6 =>
 .eI a1.Kind 5 (fun c7 =>
  .vM 1 a0.Open (
   .az 0 0 <|
   .az 0 0 <|
   .ret (!(decide (0 < (a0.Pending.length : Int))))) <|
  .az 0 0 <|
  .az 0 0 <|
  .ret false) fun c7 =>
 .ret a0.Open) (zf Tryz.func72)
def K9 (F : (List GEntry) → GEntry → Option (List GEntry)) : Prop := ∀ (a0 : (List GEntry)) (a1 : GEntry), Oc (F a0 a1) 130 [] [vq zl a0, .val true (jC a1)] fun r => (vq zl r, [])
def yr (a0 : (List GEntry)) (a1 : GEntry) : Nat → Bool → Int → (List GEntry) → Option (Bool × Int × (List GEntry))
  | 0, _, _, _ => none
  | m + 1, v1, v2, v4 =>
  if v2 < (a0.length : Int) then
   (zw v2).bind fun i2 =>
   (a0[i2]?).bind fun x3 =>
   (jU a1.Addr x3.Addr).bind fun r4 =>
   match v1 with
   | true =>
    if r4 = 0 then
     yr a0 a1 m v1 (w64 (v2 + 1)) v4
    else
    if yC 152 (v4.length + [x3].length) then
    yr a0 a1 m v1 (w64 (v2 + 1)) (v4 ++ [x3])
    else none
   | false =>
    if r4 <= 0 then
     if yC 152 (v4.length + [a1].length) then
     if r4 = 0 then
      yr a0 a1 m true (w64 (v2 + 1)) (v4 ++ [a1])
     else
     if yC 152 ((v4 ++ [a1]).length + [x3].length) then
     yr a0 a1 m true (w64 (v2 + 1)) ((v4 ++ [a1]) ++ [x3])
     else none
     else none
    else
    if r4 = 0 then
     yr a0 a1 m v1 (w64 (v2 + 1)) v4
    else
    if yC 152 (v4.length + [x3].length) then
    yr a0 a1 m v1 (w64 (v2 + 1)) (v4 ++ [x3])
    else none
  else
  some (v1, v2, v4)
theorem R2 (a0 : (List GEntry)) (a1 : GEntry) (m : Nat) : ∀ (v1 : Bool) (v2 : Int) (v4 : (List GEntry)), Ol (yr a0 a1 m v1 v2 v4) 130 (zQ Tryz.f130 0) ⟨[(0, vq zl a0), (3, vp 0 0), (5, vr 1), (6, vb v1), (7, vi v2)], [.var (jC a1), .obj 9 (eL zl v4)], 0⟩ fun o => match o with | ⟨o_0, o_1, o_2⟩ => (.exit 0, ⟨[(0, vq zl a0), (3, vp 0 0), (5, vr 1), (6, vb o_0), (7, vi o_1), (12, vb false)], [.var (jC a1), .obj 9 (eL zl o_2)], 0⟩) := by
  induction m with
  | zero => intro v1 v2 v4 o h; cases h
  | succ m ih => exact fun v1 v2 v4 => tlp (
   .le zl a0 <|
   .lI v2 (a0.length : Int) (fun c1 =>
    .na v2 fun i2 =>
    .ix zX a0 i2 fun x3 =>
    .cl (Yt a1.Addr x3.Addr) fun r4 =>
    .vN 0 v1 (
     .an 0 0 <|
     .an 0 0 <|
     .eI r4 0 (fun c5 =>
      .go (ih v1 (w64 (v2 + 1)) v4)) fun c5 =>
     .ag 3 <|
     .ag 2 <|
     .pl y6 [x3] <|
     .ap 152 y6 v4 [x3] fun n6 =>
     .go (ih v1 (w64 (v2 + 1)) (v4 ++ [x3]))) <|
    .an 0 0 <|
    .gI r4 0 (fun c5 =>
     .an 0 0 <|
     .pl y6 [a1] <|
     .ap 152 y6 v4 [a1] fun n6 =>
     .eI r4 0 (fun c7 =>
      .go (ih true (w64 (v2 + 1)) (v4 ++ [a1]))) fun c7 =>
     .ag 3 <|
     .ag 2 <|
     .pl y6 [x3] <|
     .ap 152 y6 (v4 ++ [a1]) [x3] fun n8 =>
     .go (ih true (w64 (v2 + 1)) ((v4 ++ [a1]) ++ [x3]))) fun c5 =>
    .an 0 0 <|
    .eI r4 0 (fun c6 =>
     .go (ih v1 (w64 (v2 + 1)) v4)) fun c6 =>
    .ag 3 <|
    .ag 2 <|
    .pl y6 [x3] <|
    .ap 152 y6 v4 [x3] fun n7 =>
    .go (ih v1 (w64 (v2 + 1)) (v4 ++ [x3]))) fun c1 =>
   .ret (v1, v2, v4))
def Wo (n : Nat) (a0 : (List GEntry)) (a1 : GEntry) : Option (List GEntry) :=
 (yr a0 a1 n false 0 []).bind fun ⟨o1_0, o1_1, o1_2⟩ =>
 match o1_0 with
 | true =>
  some o1_2
 | false =>
  if yC 152 (o1_2.length + [a1].length) then
  some (o1_2 ++ [a1])
  else none
theorem LW (n : Nat) : K9 (Wo n) := fun a0 a1 => tc (
 .lp (R2 a0 a1 n false 0 []) fun ⟨o1_0, o1_1, o1_2⟩ =>
 .vN 0 o1_0 (
  .vw y6 o1_2 <|
  .ret o1_2) <|
 .pl y6 [a1] <|
 .ap 152 y6 o1_2 [a1] fun n2 =>
 .vw y6 (o1_2 ++ [a1]) <|
 .ret (o1_2 ++ [a1])) (zf Tryz.func130)
theorem Zj {m : Nat} (hm : m <= 2 ^ 39) : yC 152 m := by
 unfold yC
 constructor <;> simp [Am.maxBytes] <;> omega
def va (e : GEntry) : Bool → List GEntry → List GEntry
 | put, [] => bif put then [] else [e]
 | put, x :: l =>
  bif Op.bytesLess e.Addr x.Addr then (bif put then x :: va e put l else e :: x :: va e true l)
  else bif Op.bytesLess x.Addr e.Addr then x :: va e put l
  else bif put then va e put l else e :: va e true l
theorem Gr {a : List GEntry} {e : GEntry} (ha : a.length <= 2 ^ 37) : ∀ (l p q : List GEntry) (b : Bool) (m : Nat), a = p ++ l → q.length <= 2 * p.length + 1 → l.length < m →
  ∃ (b' : Bool) (z : Int) (o : List GEntry), yr a e m b (p.length : Int) q = some (b', z, o) ∧ o.length <= 2 * a.length + 1 ∧ (bif b' then o else o ++ [e]) = q ++ va e b l := by
 intro l
 induction l with
 | nil =>
  intro p q b m he hq hm
  obtain ⟨m, rfl, _⟩ := zh hm
  refine ⟨b, _, q, by rw [yr, he, List.append_nil, if_neg (by omega)], by rw [he]; simp; omega, ?_⟩
  cases b <;> simp [va]
 | cons x l ih =>
  intro p q b m he hq hm
  obtain ⟨m, rfl, hm'⟩ := zh hm
  have hlen : a.length = p.length + (l.length + 1) := by rw [he]; simp
  have hlm : l.length < m := by simp only [List.length_cons] at hm'; omega
  have hnext : ∀ (b1 : Bool) (q1 : List GEntry), q1.length <= 2 * p.length + 3 → ∃ (b' : Bool) (z : Int) (o : List GEntry), yr a e m b1 ((p ++ [x]).length : Int) q1 = some (b', z, o) ∧ o.length <= 2 * a.length + 1 ∧ (bif b' then o else o ++ [e]) = q1 ++ va e b1 l := fun b1 q1 h1 =>
   ih (p ++ [x]) q1 b1 m (by rw [he]; simp) (by simp; omega) hlm
  rw [yr, if_pos (by omega), zd, Option.bind_some, show a[p.length]? = some x by rw [he]; exact zR p x l, Option.bind_some, yI p x (by omega)]
  unfold jU
  unfold va
  by_cases c1 : Op.bytesLess e.Addr x.Addr = true
  ·rw [if_pos c1, Option.bind_some, c1]
   simp only [cond_true]
   cases b with
   | true =>
    simp only [cond_true]
    rw [if_neg (by decide), if_pos (Zj (by simp; omega))]
    obtain ⟨b', z, o, h1, h2, h3⟩ := hnext true (q ++ [x]) (by simp; omega)
    exact ⟨b', z, o, h1, h2, by rw [h3]; simp⟩
   | false =>
    simp only [cond_false]
    rw [if_pos (by decide), if_pos (Zj (by simp; omega)), if_neg (by decide), if_pos (Zj (by simp; omega))]
    obtain ⟨b', z, o, h1, h2, h3⟩ := hnext true (q ++ [e] ++ [x]) (by simp; omega)
    exact ⟨b', z, o, h1, h2, by rw [h3]; simp⟩
  ·rw [if_neg c1]
   rw [show Op.bytesLess e.Addr x.Addr = false by simpa using c1]
   simp only [cond_false]
   by_cases c2 : Op.bytesLess x.Addr e.Addr = true
   ·rw [if_pos c2, Option.bind_some, c2]
    simp only [cond_true]
    obtain ⟨b', z, o, h1, h2, h3⟩ := hnext b (q ++ [x]) (by simp; omega)
    cases b with
    | true =>
     simp only
     rw [if_neg (by decide), if_pos (Zj (by simp; omega))]
     exact ⟨b', z, o, h1, h2, by rw [h3]; simp⟩
    | false =>
     simp only
     rw [if_neg (by decide), if_neg (by decide), if_pos (Zj (by simp; omega))]
     exact ⟨b', z, o, h1, h2, by rw [h3]; simp⟩
   ·rw [if_neg c2, Option.bind_some, show Op.bytesLess x.Addr e.Addr = false by simpa using c2]
    simp only [cond_false]
    cases b with
    | true =>
     simp only [cond_true]
     rw [if_pos trivial]
     obtain ⟨b', z, o, h1, h2, h3⟩ := hnext true q (by omega)
     exact ⟨b', z, o, h1, h2, by rw [h3]⟩
    | false =>
     simp only [cond_false]
     rw [if_pos (by decide), if_pos (Zj (by simp; omega)), if_pos trivial]
     obtain ⟨b', z, o, h1, h2, h3⟩ := hnext true (q ++ [e]) (by simp; omega)
     exact ⟨b', z, o, h1, h2, by rw [h3]; simp⟩
def qT (a0 : (List GEntry)) (a1 : GEntry) : Option (List GEntry) := if a0.length <= 2 ^ 37 then some (va a1 false a0) else none
theorem TQ (a0 : (List GEntry)) (a1 : GEntry) (r : (List GEntry)) (h : qT a0 a1 = some r) : ∃ n, Wo n a0 a1 = some r := by
 unfold qT at h
 obtain ⟨ha, h⟩ := zK h
 obtain ⟨b', z, o, h1, h2, h3⟩ := Gr (a := a0) (e := a1) (by omega) a0 [] [] false (a0.length + 1) rfl (by simp) (by omega)
 refine ⟨a0.length + 1, ?_⟩
 unfold Wo
 simp only [List.length_nil, Int.natCast_zero] at h1
 rw [h1, <- h]
 rw [List.nil_append] at h3
 rw [<- h3]
 cases b' with
 | true => rfl
 | false =>
  simp only [Option.bind_some, cond_false]
  rw [if_pos (Zj (by simp; omega))]
theorem J3 : K9 qT := fun a0 a1 r h => (TQ a0 a1 r h).elim fun n hn => LW n a0 a1 r hn
def kX (a0 : GEvent) (e0 : GState) : Option GState :=
 (xP (GState.mk (w64 (e0.Serial + 1)) e0.Open e0.Pending e0.Act e0.Entries) e0.Pending).bind fun r1 =>
 if a0.Kind = 0 then
  some (GState.mk (w64 (e0.Serial + 1)) true e0.Pending e0.Act e0.Entries)
 else
 if a0.Kind = 1 then
  some (GState.mk (w64 (e0.Serial + 1)) e0.Open a0.Addr a0.Act e0.Entries)
 else
 if a0.Kind = 2 then
  (qT e0.Entries (GEntry.mk a0.Addr a0.Val a0.Deps false (w64 (e0.Serial + 1)))).bind fun r5 =>
  some (GState.mk (w64 (e0.Serial + 1)) e0.Open [] 0 r5)
 else
 if a0.Kind = 3 then
  (zw r1).bind fun i6 =>
  (wO e0.Entries none (some i6)).bind fun s7 =>
  if yC 152 (0 + s7.length) then
  (zw (w64 (r1 + 1))).bind fun i9 =>
  (wO e0.Entries (some i9) none).bind fun s10 =>
  if yC 152 (s7.length + s10.length) then
  some (GState.mk (w64 (e0.Serial + 1)) e0.Open [] 0 (s7 ++ s10))
  else none
  else none
 else
 if a0.Kind = 4 then
  if (e0.Pending.length : Int) = 0 then
   some (GState.mk (w64 (e0.Serial + 1)) e0.Open [] 0 e0.Entries)
  else
  if 0 <= r1 then
   if yC 152 (0 + e0.Entries.length) then
   (zw r1).bind fun i10 =>
   (e0.Entries[i10]?).bind fun x11 =>
   ((e0.Entries.set i10 (GEntry.mk x11.Addr x11.Val x11.Deps true x11.Turned))[i10]?).bind fun x12 =>
   some (GState.mk (w64 (e0.Serial + 1)) e0.Open [] 0 ((e0.Entries.set i10 (GEntry.mk x11.Addr x11.Val x11.Deps true x11.Turned)).set i10 (GEntry.mk x12.Addr x12.Val x12.Deps x12.Taint (w64 (e0.Serial + 1)))))
   else none
  else
  some (GState.mk (w64 (e0.Serial + 1)) e0.Open [] 0 e0.Entries)
 else
 if a0.Kind = 6 then
  if (e0.Pending.length : Int) = 0 then
   some (GState.mk (w64 (e0.Serial + 1)) false [] 0 e0.Entries)
  else
  if 0 <= r1 then
   if yC 152 (0 + e0.Entries.length) then
   (zw r1).bind fun i11 =>
   (e0.Entries[i11]?).bind fun x12 =>
   ((e0.Entries.set i11 (GEntry.mk x12.Addr x12.Val x12.Deps true x12.Turned))[i11]?).bind fun x13 =>
   some (GState.mk (w64 (e0.Serial + 1)) false [] 0 ((e0.Entries.set i11 (GEntry.mk x12.Addr x12.Val x12.Deps true x12.Turned)).set i11 (GEntry.mk x13.Addr x13.Val x13.Deps x13.Taint (w64 (e0.Serial + 1)))))
   else none
  else
  (qT e0.Entries (GEntry.mk e0.Pending (GValue.mk 5 0 [] [] []) [] true (w64 (e0.Serial + 1)))).bind fun r10 =>
  some (GState.mk (w64 (e0.Serial + 1)) false [] 0 r10)
 else
 if a0.Kind = 5 then
  some (GState.mk (w64 (e0.Serial + 1)) false [] 0 e0.Entries)
 else
 some (GState.mk (w64 (e0.Serial + 1)) e0.Open [] 0 e0.Entries)
theorem LX (a0 : GEvent) (e0 : GState) : Oc (kX a0 e0) 74 [.var (yn e0)] [vp 0 0, .val true (qW a0)] fun r => (.tup [], [.var (yn r)]) := tc (
 .cl (YN (GState.mk (w64 (e0.Serial + 1)) e0.Open e0.Pending e0.Act e0.Entries) e0.Pending) fun r1 =>
 .eI a0.Kind 0 (fun c2 =>
  .ret (GState.mk (w64 (e0.Serial + 1)) true e0.Pending e0.Act e0.Entries)) fun c2 =>
 .eI a0.Kind 1 (fun c3 =>
  .ret (GState.mk (w64 (e0.Serial + 1)) e0.Open a0.Addr a0.Act e0.Entries)) fun c3 =>
 .eI a0.Kind 2 (fun c4 =>
  .cl (J3 e0.Entries (GEntry.mk a0.Addr a0.Val a0.Deps false (w64 (e0.Serial + 1)))) fun r5 =>
  .ret (GState.mk (w64 (e0.Serial + 1)) e0.Open [] 0 r5)) fun c4 =>
 .eI a0.Kind 3 (fun c5 =>
  .na r1 fun i6 =>
  .ct zl e0.Entries none (some i6) fun s7 =>
  .un y6 e0.Entries <|
  .ap 152 y6 [] s7 fun n8 =>
  .na (w64 (r1 + 1)) fun i9 =>
  .ct zl e0.Entries (some i9) none fun s10 =>
  .un y6 e0.Entries <|
  .ap 152 y6 s7 s10 fun n11 =>
  .vw y6 (s7 ++ s10) <|
  .ret (GState.mk (w64 (e0.Serial + 1)) e0.Open [] 0 (s7 ++ s10))) fun c5 =>
 .eI a0.Kind 4 (fun c6 =>
  .le za e0.Pending <|
  .eI (e0.Pending.length : Int) 0 (fun c7 =>
   .q (.eFo a0.Kind 6 (by omega)) <|
   .ret (GState.mk (w64 (e0.Serial + 1)) e0.Open [] 0 e0.Entries)) fun c7 =>
  .gI 0 r1 (fun c8 =>
   .ap 152 y6 [] e0.Entries fun n9 =>
   .na r1 fun i10 =>
   .ix zX e0.Entries i10 fun x11 =>
   .ag 0 <|
   .sl (zX (GEntry.mk x11.Addr x11.Val x11.Deps true x11.Turned)) e0.Entries i10 <|
   .ag 1 <|
   .ix zX (e0.Entries.set i10 (GEntry.mk x11.Addr x11.Val x11.Deps true x11.Turned)) i10 fun x12 =>
   .ag 0 <|
   .sl (zX (GEntry.mk x12.Addr x12.Val x12.Deps x12.Taint (w64 (e0.Serial + 1)))) (e0.Entries.set i10 (GEntry.mk x11.Addr x11.Val x11.Deps true x11.Turned)) i10 <|
   .q (.eFo a0.Kind 6 (by omega)) <|
   .vw y6 ((e0.Entries.set i10 (GEntry.mk x11.Addr x11.Val x11.Deps true x11.Turned)).set i10 (GEntry.mk x12.Addr x12.Val x12.Deps x12.Taint (w64 (e0.Serial + 1)))) <|
   .ret (GState.mk (w64 (e0.Serial + 1)) e0.Open [] 0 ((e0.Entries.set i10 (GEntry.mk x11.Addr x11.Val x11.Deps true x11.Turned)).set i10 (GEntry.mk x12.Addr x12.Val x12.Deps x12.Taint (w64 (e0.Serial + 1)))))) fun c8 =>
  .q (.eFo a0.Kind 6 (by omega)) <|
  .q (.eFo a0.Kind 6 (by omega)) <|
  .ret (GState.mk (w64 (e0.Serial + 1)) e0.Open [] 0 e0.Entries)) fun c6 =>
 .eI a0.Kind 6 (fun c7 =>
  .le za e0.Pending <|
  .eI (e0.Pending.length : Int) 0 (fun c8 =>
   .q (.eT c7) <|
   .ret (GState.mk (w64 (e0.Serial + 1)) false [] 0 e0.Entries)) fun c8 =>
  .gI 0 r1 (fun c9 =>
   .ap 152 y6 [] e0.Entries fun n10 =>
   .na r1 fun i11 =>
   .ix zX e0.Entries i11 fun x12 =>
   .ag 0 <|
   .sl (zX (GEntry.mk x12.Addr x12.Val x12.Deps true x12.Turned)) e0.Entries i11 <|
   .ag 1 <|
   .ix zX (e0.Entries.set i11 (GEntry.mk x12.Addr x12.Val x12.Deps true x12.Turned)) i11 fun x13 =>
   .ag 0 <|
   .sl (zX (GEntry.mk x13.Addr x13.Val x13.Deps x13.Taint (w64 (e0.Serial + 1)))) (e0.Entries.set i11 (GEntry.mk x12.Addr x12.Val x12.Deps true x12.Turned)) i11 <|
   .q (.eT c7) <|
   .vw y6 ((e0.Entries.set i11 (GEntry.mk x12.Addr x12.Val x12.Deps true x12.Turned)).set i11 (GEntry.mk x13.Addr x13.Val x13.Deps x13.Taint (w64 (e0.Serial + 1)))) <|
   .ret (GState.mk (w64 (e0.Serial + 1)) false [] 0 ((e0.Entries.set i11 (GEntry.mk x12.Addr x12.Val x12.Deps true x12.Turned)).set i11 (GEntry.mk x13.Addr x13.Val x13.Deps x13.Taint (w64 (e0.Serial + 1)))))) fun c9 =>
  .q (.eT c7) <|
  .cl (J3 e0.Entries (GEntry.mk e0.Pending (GValue.mk 5 0 [] [] []) [] true (w64 (e0.Serial + 1)))) fun r10 =>
  .q (.eT c7) <|
  .ret (GState.mk (w64 (e0.Serial + 1)) false [] 0 r10)) fun c7 =>
 .eI a0.Kind 5 (fun c8 =>
  .ret (GState.mk (w64 (e0.Serial + 1)) false [] 0 e0.Entries)) fun c8 =>
 .ret (GState.mk (w64 (e0.Serial + 1)) e0.Open [] 0 e0.Entries)) (zf Tryz.func74)
def J4 (F : GHistory → Int → Option (GState × Bool)) : Prop := ∀ (a0 : GHistory) (a1 : Int), Oc (F a0 a1) 87 [] [.val true (yk a0), vi a1] fun r => (.tup [(true, (yn r.1)), (false, [.bool r.2])], [])
def wX (a1 : Int) (a0 : GHistory) (v3 : Int) (v4 : Bool) (v5 : Int) (v7 : (List UInt8)) (v8 : (List GEntry)) : Nat → Int → GState → Option ((Bool × GState) ⊕ (Int × GState))
  | 0, _, _ => none
  | m + 1, v1, v6 =>
  if v1 < a1 then
   (zw v1).bind fun i2 =>
   (a0.Events[i2]?).bind fun x3 =>
   (Yw v6 x3).bind fun r4 =>
   match r4 with
   | true =>
    (kX x3 v6).bind fun r5 =>
    wX a1 a0 v3 v4 v5 v7 v8 m (w64 (v1 + 1)) r5
   | false =>
    some (.inl (false, v6))
  else
  some (.inr (v1, v6))
theorem VB (a1 : Int) (a0 : GHistory) (v3 : Int) (v4 : Bool) (v5 : Int) (v7 : (List UInt8)) (v8 : (List GEntry)) (m : Nat) : ∀ (v1 : Int) (v6 : GState), Ol (wX a1 a0 v3 v4 v5 v7 v8 m v1 v6) 87 (zQ Tryz.f87 0) ⟨[(1, vi a1), (2, vp 0 0), (4, vp 1 0), (6, vp 2 0), (7, vi v1)], [.var (yk a0), .var [ci v3, .bool v4, .ref 3, ci v5, .ref 4], .var (yn v6), .obj 1 (eL za v7), .obj 9 (eL zl v8)], 0⟩ fun o => match o with | .inl ⟨o_0_0, o_0_1⟩ => (.ret, ⟨[(4, vp 0 0), (5, vb o_0_0)], [.var (yn o_0_1)], 0⟩) | .inr (⟨o_1_0, o_1_1⟩) => (.exit 0, ⟨[(1, vi a1), (2, vp 0 0), (4, vp 1 0), (6, vp 2 0), (7, vi o_1_0), (12, vb false)], [.var (yk a0), .var [ci v3, .bool v4, .ref 3, ci v5, .ref 4], .var (yn o_1_1), .obj 1 (eL za v7), .obj 9 (eL zl v8)], 0⟩) := by
  induction m with
  | zero => intro v1 v6 o h; cases h
  | succ m ih => exact fun v1 v6 => tlp (
   .lI v1 a1 (fun c1 =>
    .na v1 fun i2 =>
    .ix wu a0.Events i2 fun x3 =>
    .cl (Oz v6 x3) fun r4 =>
    .vN 0 r4 (
     .ag 3 <|
     .ag 2 <|
     .cl (LX x3 v6) fun r5 =>
     .go (ih (w64 (v1 + 1)) r5)) <|
    .ret (.inl (false, v6))) fun c1 =>
   .ret (.inr (v1, v6)))
def kN (n : Nat) (a0 : GHistory) (a1 : Int) : Option (GState × Bool) :=
 (wX a1 a0 0 false 0 [] [] n 0 a0.Base).bind fun o1 =>
 match o1 with
 | .inl ⟨o1_0_0, o1_0_1⟩ =>
  some (o1_0_1, o1_0_0)
 | .inr (⟨o1_1_0, o1_1_1⟩) =>
  some (o1_1_1, true)
theorem O0 (n : Nat) : J4 (kN n) := fun a0 a1 => tc (
 .l2 (VB a1 a0 0 false 0 [] [] n 0 a0.Base) (fun ⟨o1_0_0, o1_0_1⟩ =>
  .ret (o1_0_1, o1_0_0)) fun ⟨o1_1_0, o1_1_1⟩ =>
 .ret (o1_1_1, true)) (zf Tryz.func87)
def jj (a0 : GHistory) (a1 : Int) : Option (GState × Bool) := kN (a0.Events.length + 5) a0 a1
theorem R3 (a0 : GHistory) (a1 : Int) (r : (GState × Bool)) (h : jj a0 a1 = some r) : ∃ n, kN n a0 a1 = some r := ⟨_, h⟩
theorem Pg : J4 jj := fun a0 a1 r h => (R3 a0 a1 r h).elim fun n hn => O0 n a0 a1 r hn
def J5 (F : GHistory → Option Bool) : Prop := ∀ (a0 : GHistory), Oc (F a0) 27 [] [.val true (yk a0)] fun r => (vb r, [])
def wY (a0 : GHistory) : Nat → Int → Option (Bool ⊕ Int)
  | 0, _ => none
  | m + 1, v0 =>
  if v0 < (a0.Events.length : Int) then
   (zw v0).bind fun i2 =>
   (a0.Events[i2]?).bind fun x3 =>
   (Zi x3).bind fun r4 =>
   match r4 with
   | true =>
    wY a0 m (w64 (v0 + 1))
   | false =>
    some (.inl false)
  else
  some (.inr v0)
theorem VC (a0 : GHistory) (m : Nat) : ∀ (v0 : Int), Ol (wY a0 m v0) 27 (zQ Tryz.f27 0) ⟨[(1, vp 0 0), (3, vi v0)], [.var (yk a0)], 0⟩ fun o => match o with | .inl o_0 => (.ret, ⟨[(2, vb o_0)], [], 0⟩) | .inr (o_1) => (.exit 0, ⟨[(1, vp 0 0), (3, vi o_1), (33, vb false)], [.var (yk a0)], 0⟩) := by
  induction m with
  | zero => intro v0 o h; cases h
  | succ m ih => exact fun v0 => tlp (
   .le zz a0.Events <|
   .lI v0 (a0.Events.length : Int) (fun c1 =>
    .na v0 fun i2 =>
    .ix wu a0.Events i2 fun x3 =>
    .cl (TP x3) fun r4 =>
    .vN 0 r4 (
     .go (ih (w64 (v0 + 1)))) <|
    .ret (.inl false)) fun c1 =>
   .ret (.inr v0))
def ZC (n : Nat) (a0 : GHistory) : Option Bool :=
 (jT a0.Base).bind fun r1 =>
 match r1 with
 | true =>
  if 300 < (a0.Events.length : Int) then
   some false
  else
  if a0.Safe < 0 then
   some false
  else
  if (a0.Events.length : Int) < a0.Safe then
   some false
  else
  (wY a0 n 0).bind fun o5 =>
  match o5 with
  | .inl o5_0 =>
   some o5_0
  | .inr (o5_1) =>
   (jj a0 (a0.Events.length : Int)).bind fun ⟨r6_0, r6_1⟩ =>
   some r6_1
 | false =>
  some false
theorem O1 (n : Nat) : J5 (ZC n) := fun a0 => tc (
 .cl (TN a0.Base) fun r1 =>
 .vN 0 r1 (
  .an 0 0 <|
  .an 0 0 <|
  .le zz a0.Events <|
  .an 0 0 <|
  .lI 300 (a0.Events.length : Int) (fun c2 =>
   .an 0 0 <|
   .ret false) fun c2 =>
  .an 0 0 <|
  .lI a0.Safe 0 (fun c3 =>
   .ret false) fun c3 =>
  .le zz a0.Events <|
  .lI (a0.Events.length : Int) a0.Safe (fun c4 =>
   .ret false) fun c4 =>
  .l2 (VC a0 n 0) (fun o5_0 =>
   .ret o5_0) fun o5_1 =>
  .le zz a0.Events <|
  .cl (Pg a0 (a0.Events.length : Int)) fun ⟨r6_0, r6_1⟩ =>
  .ret r6_1) <|
 .an 0 0 <|
 .an 0 0 <|
 .an 0 0 <|
 .an 0 0 <|
 .ret false) (zf Tryz.func27)
def kO (a0 : GHistory) : Option Bool := ZC (a0.Events.length + 5) a0
theorem R4 (a0 : GHistory) (r : Bool) (h : kO a0 = some r) : ∃ n, ZC n a0 = some r := ⟨_, h⟩
theorem Ph : J5 kO := fun a0 r h => (R4 a0 r h).elim fun n hn => O1 n a0 r hn
def Q2 (F : GHistory → (List UInt8) → Option (List Int)) : Prop := ∀ (a0 : GHistory) (a1 : (List UInt8)), Oc (F a0 a1) 50 [] [.val true (yk a0), vq za a1] fun r => (.val false [.own 1 (eL y0 r)], [])
def yx (a1 : (List UInt8)) (a0 : GHistory) : Nat → Int → (List Int) → Option (Int × (List Int))
  | 0, _, _ => none
  | m + 1, v1, v3 =>
  if v1 < (a0.Events.length : Int) then
   if 0 < (a1.length : Int) then
    (zw v1).bind fun i3 =>
    (a0.Events[i3]?).bind fun x4 =>
    if x4.Addr = a1 then
     if yC 8 (v3.length + [(w64 ((w64 (a0.Base.Serial + v1)) + 1))].length) then
     yx a1 a0 m (w64 (v1 + 1)) (v3 ++ [(w64 ((w64 (a0.Base.Serial + v1)) + 1))])
     else none
    else
    yx a1 a0 m (w64 (v1 + 1)) v3
   else
   yx a1 a0 m (w64 (v1 + 1)) v3
  else
  some (v1, v3)
theorem KA (a1 : (List UInt8)) (a0 : GHistory) (m : Nat) : ∀ (v1 : Int) (v3 : (List Int)), Ol (yx a1 a0 m v1 v3) 50 (zQ Tryz.f50 0) ⟨[(1, vq za a1), (2, vp 0 0), (5, vr 1), (6, vi v1)], [.var (yk a0), .obj 1 (eL y0 v3)], 0⟩ fun o => match o with | ⟨o_0, o_1⟩ => (.exit 0, ⟨[(1, vq za a1), (2, vp 0 0), (5, vr 1), (6, vi o_0), (14, vb false)], [.var (yk a0), .obj 1 (eL y0 o_1)], 0⟩) := by
  induction m with
  | zero => intro v1 v3 o h; cases h
  | succ m ih => exact fun v1 v3 => tlp (
   .le zz a0.Events <|
   .lI v1 (a0.Events.length : Int) (fun c1 =>
    .le za a1 <|
    .lI 0 (a1.length : Int) (fun c2 =>
     .na v1 fun i3 =>
     .ix wu a0.Events i3 fun x4 =>
     .bt x4.Addr <|
     .bt a1 <|
     .sI x4.Addr a1 (fun c5 =>
      .pl ZA [(w64 ((w64 (a0.Base.Serial + v1)) + 1))] <|
      .ap 8 ZA v3 [(w64 ((w64 (a0.Base.Serial + v1)) + 1))] fun n6 =>
      .go (ih (w64 (v1 + 1)) (v3 ++ [(w64 ((w64 (a0.Base.Serial + v1)) + 1))]))) fun c5 =>
     .go (ih (w64 (v1 + 1)) v3)) fun c2 =>
    .go (ih (w64 (v1 + 1)) v3)) fun c1 =>
   .ret (v1, v3))
def Zk (n : Nat) (a0 : GHistory) (a1 : (List UInt8)) : Option (List Int) :=
 (kO a0).bind fun r1 =>
 match r1 with
 | true =>
  (yx a1 a0 n 0 []).bind fun ⟨o2_0, o2_1⟩ =>
  some o2_1
 | false =>
  some []
theorem Pi (n : Nat) : Q2 (Zk n) := fun a0 a1 => tc (
 .cl (Ph a0) fun r1 =>
 .vN 0 r1 (
  .lp (KA a1 a0 n 0 []) fun ⟨o2_0, o2_1⟩ =>
  .ret o2_1) <|
 .ret []) (zf Tryz.func50)
def jW (a0 : GHistory) (a1 : (List UInt8)) : Option (List Int) := Zk (a0.Events.length + 5) a0 a1
theorem VD (a0 : GHistory) (a1 : (List UInt8)) (r : (List Int)) (h : jW a0 a1 = some r) : ∃ n, Zk n a0 a1 = some r := ⟨_, h⟩
theorem TR : Q2 jW := fun a0 a1 r h => (VD a0 a1 r h).elim fun n hn => Pi n a0 a1 r hn
def yT (a0 : Int) (a1 : Int) (a2 : Int) : Option Bool :=
 if a1 <= a0 then
  some (decide (a0 <= a2))
 else
 some false
theorem ql (a0 : Int) (a1 : Int) (a2 : Int) : Oc (yT a0 a1 a2) 94 [] [vi a0, vi a1, vi a2] fun r => (vb r, []) := tc (
 .gI a1 a0 (fun c1 =>
  .gD a0 a2 <|
  .ret (decide (a0 <= a2))) fun c1 =>
 .ret false) (zf Tryz.func94)
def Zu (a0 : (List UInt8)) (a1 : UInt8) : Option Int :=
 (qj a0 a1).bind fun r1 =>
 some r1
theorem KB (a0 : (List UInt8)) (a1 : UInt8) : Oc (Zu a0 a1) 212 [] [vq za a0, .val false [.int .u8 ((a1.toNat : Nat) : Int)]] fun r => (vi r, []) := tc (
 .cl (YC a0 a1) fun r1 =>
 .ret r1) (zf Tryz.func212)
def yl (a0 : (List UInt8)) (a1 : (List UInt8)) : Option Bool :=
 some (decide (a0 = a1))
theorem wZ (a0 : (List UInt8)) (a1 : (List UInt8)) : Oc (yl a0 a1) 105 [] [vq za a0, vq za a1] fun r => (vb r, []) := tc (
 .bt a0 <|
 .bt a1 <|
 .sD a0 a1 <|
 .ret (decide (a0 = a1))) (zf Tryz.func105)
def kP (a0 : (List UInt8)) (a1 : (List UInt8)) : Option Int :=
 if (a1.length : Int) = 0 then
  some 0
 else
 if (a1.length : Int) = 1 then
  (a1[0]?).bind fun x3 =>
  (Zu a0 x3).bind fun r4 =>
  some r4
 else
 if (a1.length : Int) = (a0.length : Int) then
  (yl a1 a0).bind fun r4 =>
  match r4 with
  | true =>
   some 0
  | false =>
   some (-1)
 else
 if (a0.length : Int) < (a1.length : Int) then
  some (-1)
 else
 none
theorem Pj (a0 : (List UInt8)) (a1 : (List UInt8)) : Oc (kP a0 a1) 196 [] [vq za a0, vq za a1] fun r => (vi r, []) := tc (
 .le za a1 <|
 .eI (a1.length : Int) 0 (fun c1 =>
  .ret 0) fun c1 =>
 .eI (a1.length : Int) 1 (fun c2 =>
  .nl 0 <|
  .ix0 za a1 0 fun x3 =>
  .cl (KB a0 x3) fun r4 =>
  .ret r4) fun c2 =>
 .le za a0 <|
 .eI (a1.length : Int) (a0.length : Int) (fun c3 =>
  .cl (wZ a1 a0) fun r4 =>
  .vM 0 r4 (
   .ret 0) <|
  .ret (-1)) fun c3 =>
 .le za a0 <|
 .lI (a0.length : Int) (a1.length : Int) (fun c4 =>
  .ret (-1)) fun c4 =>
 .no) (zf Tryz.func196)
def Xg (a0 : (List UInt8)) (a1 : (List UInt8)) : Option ((List UInt8) × (List UInt8) × Bool) :=
 (kP a0 a1).bind fun r1 =>
 if 0 <= r1 then
  (zw r1).bind fun i3 =>
  (wO a0 none (some i3)).bind fun s4 =>
  (zw (w64 (r1 + (a1.length : Int)))).bind fun i5 =>
  (wO a0 (some i5) none).bind fun s6 =>
  some (s4, s6, true)
 else
 some (a0, [], false)
theorem LY (a0 : (List UInt8)) (a1 : (List UInt8)) : Oc (Xg a0 a1) 170 [] [vq za a0, vq za a1] fun r => (.tup [(false, [cq za r.1]), (false, [cq za r.2.1]), (false, [.bool r.2.2])], []) := tc (
 .cl (Pj a0 a1) fun r1 =>
 .gI 0 r1 (fun c2 =>
  .na r1 fun i3 =>
  .ct za a0 none (some i3) fun s4 =>
  .un yd a0 <|
  .le za a1 <|
  .na (w64 (r1 + (a1.length : Int))) fun i5 =>
  .ct za a0 (some i5) none fun s6 =>
  .un yd a0 <|
  .ret (s4, s6, true)) fun c2 =>
 .vw yd [] <|
 .ret (a0, [], false)) (zf Tryz.func170)
def J6 (F : (List UInt8) → Option Bool) : Prop := ∀ (a0 : (List UInt8)), Oc (F a0) 158 [] [vq za a0] fun r => (vb r, [])
def qa (a0 : (List UInt8)) (v1 : Int) : Nat → Int → Option (Bool ⊕ Int)
  | 0, _ => none
  | m + 1, v2 =>
  if v2 < v1 then
   (zw v2).bind fun i2 =>
   (a0[i2]?).bind fun x3 =>
   if ((x3.toNat : Nat) : Int) < 97 then
    some (.inl false)
   else
   if 122 < ((x3.toNat : Nat) : Int) then
    some (.inl false)
   else
   qa a0 v1 m (w64 (v2 + 1))
  else
  some (.inr v2)
theorem VE (a0 : (List UInt8)) (v1 : Int) (m : Nat) : ∀ (v2 : Int), Ol (qa a0 v1 m v2) 158 (zQ Tryz.f158 0) ⟨[(0, vq za a0), (5, vq za a0), (6, vi v1), (7, vi v2)], [], 0⟩ fun o => match o with | .inl o_0 => (.ret, ⟨[(2, vb o_0)], [], 0⟩) | .inr (o_1) => (.exit 0, ⟨[(0, vq za a0), (5, vq za a0), (6, vi v1), (7, vi o_1), (8, vb false)], [], 0⟩) := by
  induction m with
  | zero => intro v2 o h; cases h
  | succ m ih => exact fun v2 => tlp (
   .lI v2 v1 (fun c1 =>
    .na v2 fun i2 =>
    .ix0 za a0 i2 fun x3 =>
    .lI ((x3.toNat : Nat) : Int) 97 (fun c4 =>
     .ret (.inl false)) fun c4 =>
    .lI 122 ((x3.toNat : Nat) : Int) (fun c5 =>
     .ret (.inl false)) fun c5 =>
    .go (ih (w64 (v2 + 1)))) fun c1 =>
   .ret (.inr v2))
def X3 (n : Nat) (a0 : (List UInt8)) : Option Bool :=
 (qa a0 (a0.length : Int) n 0).bind fun o1 =>
 match o1 with
 | .inl o1_0 =>
  some o1_0
 | .inr (o1_1) =>
  (yT (a0.length : Int) 1 8).bind fun r2 =>
  some r2
theorem O2 (n : Nat) : J6 (X3 n) := fun a0 => tc (
 .le za a0 <|
 .l2 (VE a0 (a0.length : Int) n 0) (fun o1_0 =>
  .ret o1_0) fun o1_1 =>
 .le za a0 <|
 .cl (ql (a0.length : Int) 1 8) fun r2 =>
 .ret r2) (zf Tryz.func158)
theorem R5 {a : List UInt8} (ha : a.length <= 2 ^ 20) : ∀ (d i m : Nat), i + d = a.length → d < m → ∃ z, qa a (a.length : Int) m (i : Int) = some (if (a.drop i).all (inB 97 122) = true then .inr z else .inl false) := by
 intro d
 induction d with
 | zero =>
  intro i m hi hm
  obtain ⟨m, rfl, _⟩ := zh hm
  exact ⟨_, by rw [qa, if_neg (by omega), List.drop_eq_nil_of_le (by omega)]; rfl⟩
 | succ d ih =>
  intro i m hi hm
  obtain ⟨m, rfl, hm'⟩ := zh hm
  have hil : i < a.length := by omega
  rw [qa, if_pos (by omega), zd, Option.bind_some, zk hil, Option.bind_some, zC (by omega), xA hil, List.all_cons]
  by_cases h1 : ((a[i].toNat : Nat) : Int) < 97
  ·exact ⟨0, by rw [if_pos h1, if_neg]; simp [inB]; omega⟩
  ·rw [if_neg h1]
   by_cases h2 : (122 : Int) < ((a[i].toNat : Nat) : Int)
   ·exact ⟨0, by rw [if_pos h2, if_neg]; simp [inB]; omega⟩
   ·rw [if_neg h2, show inB 97 122 a[i] = true by simp [inB]; omega, Bool.true_and]
    exact ih (i + 1) m (by omega) (by omega)
theorem XP (a b c : Int) : yT a b c = some (decide (b <= a ∧ a <= c)) := by
 unfold yT
 by_cases h : b <= a
 ·rw [if_pos h]; simp [h]
 ·rw [if_neg h]; simp [h]
def wI (a0 : (List UInt8)) : Option Bool := if a0.length <= 2 ^ 20 then some (qI a0) else none
theorem R6 (a0 : (List UInt8)) (r : Bool) (h : wI a0 = some r) : ∃ n, X3 n a0 = some r := by
 unfold wI at h
 obtain ⟨ha, h⟩ := zK h
 refine ⟨a0.length + 1, ?_⟩
 obtain ⟨z, hz⟩ := R5 ha a0.length 0 (a0.length + 1) (by omega) (by omega)
 rw [show ((0 : Nat) : Int) = 0 from rfl, List.drop_zero] at hz
 unfold X3
 rw [<- h, hz]
 unfold qI
 have hd : decide (1 <= a0.length ∧ a0.length <= 8) = decide ((1 : Int) <= (a0.length : Int) ∧ (a0.length : Int) <= 8) := decide_eq_decide.2 (by omega)
 rw [hd]
 cases a0.all (inB 97 122)
 ·rw [Bool.and_false]; rfl
 ·rw [Bool.and_true]
  simp only [if_true, Option.bind_some, XP]
theorem YQ : J6 wI := fun a0 r h => (R6 a0 r h).elim fun n hn => O2 n a0 r hn
def jH (a0 : (List UInt8)) (a1 : (List UInt8)) : Option Bool :=
 if (a1.length : Int) <= (a0.length : Int) then
  (zw (w64 ((a0.length : Int) - (a1.length : Int)))).bind fun i2 =>
  (wO a0 (some i2) none).bind fun s3 =>
  (yl s3 a1).bind fun r4 =>
  some r4
 else
 some false
theorem KC (a0 : (List UInt8)) (a1 : (List UInt8)) : Oc (jH a0 a1) 197 [] [vq za a0, vq za a1] fun r => (vb r, []) := tc (
 .le za a0 <|
 .le za a1 <|
 .gI (a1.length : Int) (a0.length : Int) (fun c1 =>
  .le za a0 <|
  .le za a1 <|
  .na (w64 ((a0.length : Int) - (a1.length : Int))) fun i2 =>
  .ct za a0 (some i2) none fun s3 =>
  .un yd a0 <|
  .cl (wZ s3 a1) fun r4 =>
  .ret r4) fun c1 =>
 .ret false) (zf Tryz.func197)
def qC (a0 : (List UInt8)) (a1 : (List UInt8)) : Option ((List UInt8) × Bool) :=
 (jH a0 a1).bind fun r1 =>
 match r1 with
 | true =>
  (zw (w64 ((a0.length : Int) - (a1.length : Int)))).bind fun i2 =>
  (wO a0 none (some i2)).bind fun s3 =>
  some (s3, true)
 | false =>
  some (a0, false)
theorem Xo (a0 : (List UInt8)) (a1 : (List UInt8)) : Oc (qC a0 a1) 171 [] [vq za a0, vq za a1] fun r => (.tup [(false, [cq za r.1]), (false, [.bool r.2])], []) := tc (
 .cl (KC a0 a1) fun r1 =>
 .vN 0 r1 (
  .le za a0 <|
  .le za a1 <|
  .na (w64 ((a0.length : Int) - (a1.length : Int))) fun i2 =>
  .ct za a0 none (some i2) fun s3 =>
  .un yd a0 <|
  .ret (s3, true)) <|
 .ret (a0, false)) (zf Tryz.func171)
def Zv (a0 : (List UInt8)) (a1 : (List UInt8)) : Option Bool :=
 if (a1.length : Int) <= (a0.length : Int) then
  (zw (a1.length : Int)).bind fun i2 =>
  (wO a0 none (some i2)).bind fun s3 =>
  (yl s3 a1).bind fun r4 =>
  some r4
 else
 some false
theorem KD (a0 : (List UInt8)) (a1 : (List UInt8)) : Oc (Zv a0 a1) 198 [] [vq za a0, vq za a1] fun r => (vb r, []) := tc (
 .le za a0 <|
 .le za a1 <|
 .gI (a1.length : Int) (a0.length : Int) (fun c1 =>
  .le za a1 <|
  .na (a1.length : Int) fun i2 =>
  .ct za a0 none (some i2) fun s3 =>
  .un yd a0 <|
  .cl (wZ s3 a1) fun r4 =>
  .ret r4) fun c1 =>
 .ret false) (zf Tryz.func198)
def jI (a0 : (List UInt8)) (a1 : (List UInt8)) : Option ((List UInt8) × Bool) :=
 (Zv a0 a1).bind fun r1 =>
 match r1 with
 | true =>
  (zw (a1.length : Int)).bind fun i2 =>
  (wO a0 (some i2) none).bind fun s3 =>
  some (s3, true)
 | false =>
  some (a0, false)
theorem KE (a0 : (List UInt8)) (a1 : (List UInt8)) : Oc (jI a0 a1) 172 [] [vq za a0, vq za a1] fun r => (.tup [(false, [cq za r.1]), (false, [.bool r.2])], []) := tc (
 .cl (KD a0 a1) fun r1 =>
 .vN 0 r1 (
  .le za a1 <|
  .na (a1.length : Int) fun i2 =>
  .ct za a0 (some i2) none fun s3 =>
  .un yd a0 <|
  .ret (s3, true)) <|
 .ret (a0, false)) (zf Tryz.func172)
def qU (a0 : Int) : Option (List UInt8) :=
 if a0 < 10 then
  (zw a0).bind fun i2 =>
  (zw (w64 (a0 + 1))).bind fun i3 =>
  (wO [48, 49, 50, 51, 52, 53, 54, 55, 56, 57, 97, 98, 99, 100, 101, 102, 103, 104, 105, 106, 107, 108, 109, 110, 111, 112, 113, 114, 115, 116, 117, 118, 119, 120, 121, 122] (some i2) (some i3)).bind fun s4 =>
  some s4
 else
 (zw (w64 (a0 * 2))).bind fun i2 =>
 (zw (w64 ((w64 (a0 * 2)) + 2))).bind fun i3 =>
 (wO [48, 48, 48, 49, 48, 50, 48, 51, 48, 52, 48, 53, 48, 54, 48, 55, 48, 56, 48, 57, 49, 48, 49, 49, 49, 50, 49, 51, 49, 52, 49, 53, 49, 54, 49, 55, 49, 56, 49, 57, 50, 48, 50, 49, 50, 50, 50, 51, 50, 52, 50, 53, 50, 54, 50, 55, 50, 56, 50, 57, 51, 48, 51, 49, 51, 50, 51, 51, 51, 52, 51, 53, 51, 54, 51, 55, 51, 56, 51, 57, 52, 48, 52, 49, 52, 50, 52, 51, 52, 52, 52, 53, 52, 54, 52, 55, 52, 56, 52, 57, 53, 48, 53, 49, 53, 50, 53, 51, 53, 52, 53, 53, 53, 54, 53, 55, 53, 56, 53, 57, 54, 48, 54, 49, 54, 50, 54, 51, 54, 52, 54, 53, 54, 54, 54, 55, 54, 56, 54, 57, 55, 48, 55, 49, 55, 50, 55, 51, 55, 52, 55, 53, 55, 54, 55, 55, 55, 56, 55, 57, 56, 48, 56, 49, 56, 50, 56, 51, 56, 52, 56, 53, 56, 54, 56, 55, 56, 56, 56, 57, 57, 48, 57, 49, 57, 50, 57, 51, 57, 52, 57, 53, 57, 54, 57, 55, 57, 56, 57, 57] (some i2) (some i3)).bind fun s4 =>
 some s4
theorem XQ (a0 : Int) : Oc (qU a0) 232 [] [vi a0] fun r => (vs r, []) := tc (
 .lI a0 10 (fun c1 =>
  .na a0 fun i2 =>
  .na (w64 (a0 + 1)) fun i3 =>
  .cs [48, 49, 50, 51, 52, 53, 54, 55, 56, 57, 97, 98, 99, 100, 101, 102, 103, 104, 105, 106, 107, 108, 109, 110, 111, 112, 113, 114, 115, 116, 117, 118, 119, 120, 121, 122] (some i2) (some i3) fun s4 =>
  .ret s4) fun c1 =>
 .na (w64 (a0 * 2)) fun i2 =>
 .na (w64 ((w64 (a0 * 2)) + 2)) fun i3 =>
 .cs [48, 48, 48, 49, 48, 50, 48, 51, 48, 52, 48, 53, 48, 54, 48, 55, 48, 56, 48, 57, 49, 48, 49, 49, 49, 50, 49, 51, 49, 52, 49, 53, 49, 54, 49, 55, 49, 56, 49, 57, 50, 48, 50, 49, 50, 50, 50, 51, 50, 52, 50, 53, 50, 54, 50, 55, 50, 56, 50, 57, 51, 48, 51, 49, 51, 50, 51, 51, 51, 52, 51, 53, 51, 54, 51, 55, 51, 56, 51, 57, 52, 48, 52, 49, 52, 50, 52, 51, 52, 52, 52, 53, 52, 54, 52, 55, 52, 56, 52, 57, 53, 48, 53, 49, 53, 50, 53, 51, 53, 52, 53, 53, 53, 54, 53, 55, 53, 56, 53, 57, 54, 48, 54, 49, 54, 50, 54, 51, 54, 52, 54, 53, 54, 54, 54, 55, 54, 56, 54, 57, 55, 48, 55, 49, 55, 50, 55, 51, 55, 52, 55, 53, 55, 54, 55, 55, 55, 56, 55, 57, 56, 48, 56, 49, 56, 50, 56, 51, 56, 52, 56, 53, 56, 54, 56, 55, 56, 56, 56, 57, 57, 48, 57, 49, 57, 50, 57, 51, 57, 52, 57, 53, 57, 54, 57, 55, 57, 56, 57, 57] (some i2) (some i3) fun s4 =>
 .ret s4) (zf Tryz.func232)
def jE (a0 : (List UInt8)) (a1 : Int) (a2 : Int) (a3 : Bool) (a4 : Bool) : Option ((List UInt8) × (List UInt8)) :=
 none
theorem Yx (a0 : (List UInt8)) (a1 : Int) (a2 : Int) (a3 : Bool) (a4 : Bool) : Oc (jE a0 a1 a2 a3 a4) 235 [] [vq za a0, .val false [.int .u64 a1], vi a2, vb a3, vb a4] fun r => (.tup [(false, [.own 1 (eL za r.1)]), (false, [.str r.2])], []) := tc (
 .no) (zf Tryz.func235)
def qc (a0 : Int) (a1 : Int) : Option (List UInt8) :=
 if a1 = 10 then
  if 0 <= a0 then
   if a0 < 100 then
    (qU a0).bind fun r4 =>
    some r4
   else
   none
  else
  none
 else
 (jE [] (IntKind.u64.wrap a0) a1 (decide (a0 < 0)) false).bind fun ⟨r2_0, r2_1⟩ =>
 some r2_1
theorem YB (a0 : Int) (a1 : Int) : Oc (qc a0 a1) 221 [] [vi a0, vi a1] fun r => (vs r, []) := tc (
 .eI a1 10 (fun c1 =>
  .gI 0 a0 (fun c2 =>
   .lI a0 100 (fun c3 =>
    .cl (XQ a0) fun r4 =>
    .ret r4) fun c3 =>
   .no) fun c2 =>
  .no) fun c1 =>
 .lD a0 0 <|
 .cl (Yx [] (IntKind.u64.wrap a0) a1 (decide (a0 < 0)) false) fun ⟨r2_0, r2_1⟩ =>
 .ret r2_1) (zf Tryz.func221)
def jc (a0 : Int) : Option (List UInt8) :=
 (qc a0 10).bind fun r1 =>
 some r1
theorem Wp (a0 : Int) : Oc (jc a0) 201 [] [vi a0] fun r => (vs r, []) := tc (
 .cl (YB a0 10) fun r1 =>
 .ret r1) (zf Tryz.func201)
def jX (a0 : Int) : Option (List UInt8) :=
 (jc a0).bind fun r1 =>
 some r1
theorem TS (a0 : Int) : Oc (jX a0) 174 [] [vi a0] fun r => (vs r, []) := tc (
 .cl (Wp a0) fun r1 =>
 .ret r1) (zf Tryz.func174)
def xl (a0 : (List UInt8)) : Option Bool :=
 (Xg a0 [(91 : UInt8)]).bind fun ⟨r1_0, r1_1, r1_2⟩ =>
 (wI r1_0).bind fun r2 =>
 match r2 with
 | true =>
  match r1_2 with
  | true =>
   (qC r1_1 [(93 : UInt8)]).bind fun ⟨r3_0, r3_1⟩ =>
   (jI r3_0 [(34 : UInt8)]).bind fun ⟨r4_0, r4_1⟩ =>
   (qC r4_0 [(34 : UInt8)]).bind fun ⟨r5_0, r5_1⟩ =>
   match r4_1 with
   | true =>
    match r3_1 with
    | true =>
     match r5_1 with
     | true =>
      (wI r5_0).bind fun r6 =>
      some r6
     | false =>
      some false
    | false =>
     some false
   | false =>
    match r5_1 with
    | true =>
     match r3_1 with
     | true =>
      some false
     | false =>
      some false
    | false =>
     (qN r3_0).bind fun ⟨r6_0, r6_1⟩ =>
     match r6_1 with
     | true =>
      match r3_1 with
      | true =>
       some false
      | false =>
       some false
     | false =>
      match r3_1 with
      | true =>
       (yT r6_0 0 99).bind fun r7 =>
       match r7 with
       | true =>
        (jX r6_0).bind fun r8 =>
        some (decide (r8 = r3_0))
       | false =>
        some false
      | false =>
       some false
  | false =>
   some true
 | false =>
  some false
theorem qd (a0 : (List UInt8)) : Oc (xl a0) 133 [] [vq za a0] fun r => (vb r, []) := tc (
 .le za [(91 : UInt8)] <|
 .q (.lTo 0 (([(91 : UInt8)].length : Nat) : Int) (by decide)) <|
 .vw yd [(91 : UInt8)] <|
 .cl (LY a0 [(91 : UInt8)]) fun ⟨r1_0, r1_1, r1_2⟩ =>
 .cl (YQ r1_0) fun r2 =>
 .vN 0 r2 (
  .vN 0 r1_2 (
   .le za [(93 : UInt8)] <|
   .q (.lTo 0 (([(93 : UInt8)].length : Nat) : Int) (by decide)) <|
   .vw yd [(93 : UInt8)] <|
   .cl (Xo r1_1 [(93 : UInt8)]) fun ⟨r3_0, r3_1⟩ =>
   .le za [(34 : UInt8)] <|
   .q (.lTo 0 (([(34 : UInt8)].length : Nat) : Int) (by decide)) <|
   .vw yd [(34 : UInt8)] <|
   .cl (KE r3_0 [(34 : UInt8)]) fun ⟨r4_0, r4_1⟩ =>
   .le za [(34 : UInt8)] <|
   .q (.lTo 0 (([(34 : UInt8)].length : Nat) : Int) (by decide)) <|
   .vw yd [(34 : UInt8)] <|
   .cl (Xo r4_0 [(34 : UInt8)]) fun ⟨r5_0, r5_1⟩ =>
   .vM 0 r4_1 (
    .az 0 0 <|
    .vM 1 r3_1 (
     .az 0 0 <|
     .az 0 1 <|
     .az 0 1 <|
     .vM 0 r5_1 (
      .az 0 0 <|
      .cl (YQ r5_0) fun r6 =>
      .az 0 1 <|
      .ret r6) <|
     .az 0 0 <|
     .az 0 0 <|
     .ret false) <|
    .az 0 0 <|
    .ret false) <|
   .az 0 0 <|
   .vM 0 r5_1 (
    .vM 0 r3_1 (
     .az 0 0 <|
     .az 0 2 <|
     .az 0 2 <|
     .ret false) <|
    .az 0 0 <|
    .ret false) <|
   .bt r3_0 <|
   .ae (Uu r3_0) (fun r6_0 =>
    .vM 0 r3_1 (
     .az 0 0 <|
     .az 0 0 <|
     .ret false) <|
    .az 0 0 <|
    .az 0 0 <|
    .ret false) fun r6_0 =>
   .vM 0 r3_1 (
    .az 0 0 <|
    .az 0 0 <|
    .cl (ql r6_0 0 99) fun r7 =>
    .vM 1 r7 (
     .az 0 0 <|
     .cl (TS r6_0) fun r8 =>
     .az 0 1 <|
     .az 0 1 <|
     .bt r3_0 <|
     .az 0 1 <|
     .sD r8 r3_0 <|
     .az 0 1 <|
     .ret (decide (r8 = r3_0))) <|
    .az 0 0 <|
    .az 0 0 <|
    .az 0 0 <|
    .az 0 0 <|
    .az 0 0 <|
    .ret false) <|
   .az 0 0 <|
   .az 0 0 <|
   .ret false) <|
  .ret true) <|
 .ret false) (zf Tryz.func133)
def xD (a0 : (List UInt8)) (a1 : (List UInt8)) : Option Int :=
 (xQ a0 a1).bind fun r1 =>
 some r1
theorem kC (a0 : (List UInt8)) (a1 : (List UInt8)) : Oc (xD a0 a1) 121 [] [vq za a0, vq za a1] fun r => (vi r, []) := tc (
 .cl (Xq a0 a1) fun r1 =>
 .ret r1) (zf Tryz.func121)
def J7 (F : (List UInt8) → Option Bool) : Prop := ∀ (a0 : (List UInt8)), Oc (F a0) 236 [] [vq za a0] fun r => (vb r, [])
def qe (a0 : (List UInt8)) (v1 : Int) : Nat → Int → Option (Bool ⊕ Int)
  | 0, _ => none
  | m + 1, v2 =>
  if v2 < v1 then
   (zw v2).bind fun i2 =>
   (a0[i2]?).bind fun x3 =>
   if ((x3.toNat : Nat) : Int) < 32 then
    some (.inl false)
   else
   if 126 < ((x3.toNat : Nat) : Int) then
    some (.inl false)
   else
   qe a0 v1 m (w64 (v2 + 1))
  else
  some (.inr v2)
theorem VF (a0 : (List UInt8)) (v1 : Int) (m : Nat) : ∀ (v2 : Int), Ol (qe a0 v1 m v2) 236 (zQ Tryz.f236 0) ⟨[(0, vq za a0), (5, vq za a0), (6, vi v1), (7, vi v2)], [], 0⟩ fun o => match o with | .inl o_0 => (.ret, ⟨[(2, vb o_0)], [], 0⟩) | .inr (o_1) => (.exit 0, ⟨[(0, vq za a0), (5, vq za a0), (6, vi v1), (7, vi o_1), (8, vb false)], [], 0⟩) := by
  induction m with
  | zero => intro v2 o h; cases h
  | succ m ih => exact fun v2 => tlp (
   .lI v2 v1 (fun c1 =>
    .na v2 fun i2 =>
    .ix0 za a0 i2 fun x3 =>
    .lI ((x3.toNat : Nat) : Int) 32 (fun c4 =>
     .ret (.inl false)) fun c4 =>
    .lI 126 ((x3.toNat : Nat) : Int) (fun c5 =>
     .ret (.inl false)) fun c5 =>
    .go (ih (w64 (v2 + 1)))) fun c1 =>
   .ret (.inr v2))
def X4 (n : Nat) (a0 : (List UInt8)) : Option Bool :=
 (qe a0 (a0.length : Int) n 0).bind fun o1 =>
 match o1 with
 | .inl o1_0 =>
  some o1_0
 | .inr (o1_1) =>
  some (decide ((a0.length : Int) <= 20))
theorem O3 (n : Nat) : J7 (X4 n) := fun a0 => tc (
 .le za a0 <|
 .l2 (VF a0 (a0.length : Int) n 0) (fun o1_0 =>
  .ret o1_0) fun o1_1 =>
 .le za a0 <|
 .gD (a0.length : Int) 20 <|
 .ret (decide ((a0.length : Int) <= 20))) (zf Tryz.func236)
theorem R7 {a : List UInt8} (ha : a.length <= 2 ^ 20) : ∀ (d i m : Nat), i + d = a.length → d < m → ∃ z, qe a (a.length : Int) m (i : Int) = some (if (a.drop i).all (inB 32 126) = true then .inr z else .inl false) := by
 intro d
 induction d with
 | zero =>
  intro i m hi hm
  obtain ⟨m, rfl, _⟩ := zh hm
  exact ⟨_, by rw [qe, if_neg (by omega), List.drop_eq_nil_of_le (by omega)]; rfl⟩
 | succ d ih =>
  intro i m hi hm
  obtain ⟨m, rfl, hm'⟩ := zh hm
  have hil : i < a.length := by omega
  rw [qe, if_pos (by omega), zd, Option.bind_some, zk hil, Option.bind_some, zC (by omega), xA hil, List.all_cons]
  by_cases h1 : ((a[i].toNat : Nat) : Int) < 32
  ·exact ⟨0, by rw [if_pos h1, if_neg]; simp [inB]; omega⟩
  ·rw [if_neg h1]
   by_cases h2 : (126 : Int) < ((a[i].toNat : Nat) : Int)
   ·exact ⟨0, by rw [if_pos h2, if_neg]; simp [inB]; omega⟩
   ·rw [if_neg h2, show inB 32 126 a[i] = true by simp [inB]; omega, Bool.true_and]
    exact ih (i + 1) m (by omega) (by omega)
def kQ (a0 : (List UInt8)) : Option Bool := if a0.length <= 2 ^ 20 then some (YA a0) else none
theorem R8 (a0 : (List UInt8)) (r : Bool) (h : kQ a0 = some r) : ∃ n, X4 n a0 = some r := by
 unfold kQ at h
 obtain ⟨ha, h⟩ := zK h
 refine ⟨a0.length + 1, ?_⟩
 obtain ⟨z, hz⟩ := R7 ha a0.length 0 (a0.length + 1) (by omega) (by omega)
 rw [show ((0 : Nat) : Int) = 0 from rfl, List.drop_zero] at hz
 unfold X4
 rw [<- h, hz]
 unfold YA
 by_cases hl : a0.length <= 20
 ·rw [decide_eq_true hl]
  cases a0.all (inB 32 126)
  ·rfl
  ·show some (decide _) = _; rw [decide_eq_true (by omega)]; rfl
 ·rw [decide_eq_false hl]
  cases a0.all (inB 32 126)
  ·rfl
  ·show some (decide _) = _; rw [decide_eq_false (by omega)]; rfl
theorem Pk : J7 kQ := fun a0 r h => (R8 a0 r h).elim fun n hn => O3 n a0 r hn
def qD (F : GValue → Int → Option Bool) : Prop := ∀ (a0 : GValue) (e0 : Int), Oc (F a0 e0) 237 [.var [ci e0]] [.val true (zI a0), vp 0 0] fun r => (vb r, [.var [ci e0]])
def y8 (F : (List GValue) → Int → Option Int) : Prop := ∀ (a0 : (List GValue)) (e0 : Int), Oc (F a0 e0) 224 [.var [ci e0]] [vq zg a0, .val false [.fn 237 [.ptr 0 0]]] fun r => (vi r, [.var [ci e0]])
def zZ (F : (List GValue) → Int → Option Bool) : Prop := ∀ (a0 : (List GValue)) (e0 : Int), Oc (F a0 e0) 203 [.var [ci e0]] [vq zg a0, .val false [.fn 237 [.ptr 0 0]]] fun r => (vb r, [.var [ci e0]])
def vx (F : GValue → Int → Option Bool) : Prop := ∀ (a0 : GValue) (a1 : Int), Oc (F a0 a1) 222 [] [.val true (zI a0), vi a1] fun r => (vb r, [])
def Zw (G_impl_isShaped : GValue → Int → Option Bool) (a0 : GValue) (e0 : Int) : Option Bool :=
 (G_impl_isShaped a0 (w64 (e0 - 1))).bind fun r1 =>
 some (!r1)
theorem VG (G_impl_isShaped : GValue → Int → Option Bool) (H_impl_isShaped : vx G_impl_isShaped) : qD (Zw G_impl_isShaped) := fun a0 e0 => tc (
 .cl (H_impl_isShaped a0 (w64 (e0 - 1))) fun r1 =>
 .ret (!r1)) (zf Tryz.func237)
def zL (G_impl_isShaped_1 : GValue → Int → Option Bool) (a0 : (List GValue)) (v1 : Int) (e0 : Int) : Nat → Int → Option (Int ⊕ Int)
  | 0, _ => none
  | m + 1, v2 =>
  if v2 < v1 then
   (zw v2).bind fun i2 =>
   (a0[i2]?).bind fun x3 =>
   (G_impl_isShaped_1 x3 e0).bind fun r4 =>
   match r4 with
   | true =>
    some (.inl v2)
   | false =>
    zL G_impl_isShaped_1 a0 v1 e0 m (w64 (v2 + 1))
  else
  some (.inr v2)
theorem kR (G_impl_isShaped_1 : GValue → Int → Option Bool) (H_impl_isShaped_1 : qD G_impl_isShaped_1) (a0 : (List GValue)) (v1 : Int) (e0 : Int) (m : Nat) : ∀ (v2 : Int), Ol (zL G_impl_isShaped_1 a0 v1 e0 m v2) 224 (zQ Tryz.f224 0) ⟨[(0, vq zg a0), (1, .val false [.fn 237 [.ptr 0 0]]), (7, vi v1), (8, vi v2)], [.var [ci e0]], 1⟩ fun o => match o with | .inl o_0 => (.ret, ⟨[(4, vi o_0)], [.var [ci e0]], 1⟩) | .inr (o_1) => (.exit 0, ⟨[(0, vq zg a0), (1, .val false [.fn 237 [.ptr 0 0]]), (7, vi v1), (8, vi o_1), (9, vb false)], [.var [ci e0]], 1⟩) := by
  induction m with
  | zero => intro v2 o h; cases h
  | succ m ih => exact fun v2 => tlp (
   .lI v2 v1 (fun c1 =>
    .na v2 fun i2 =>
    .ix yo a0 i2 fun x3 =>
    .cl (H_impl_isShaped_1 x3 e0) fun r4 =>
    .vM 0 r4 (
     .ret (.inl v2)) <|
    .go (ih (w64 (v2 + 1)))) fun c1 =>
   .ret (.inr v2))
def y9 (G_impl_isShaped_1 : GValue → Int → Option Bool) (n : Nat) (a0 : (List GValue)) (e0 : Int) : Option Int :=
 (zL G_impl_isShaped_1 a0 (a0.length : Int) e0 n 0).bind fun o1 =>
 match o1 with
 | .inl o1_0 =>
  some o1_0
 | .inr (o1_1) =>
  some (-1)
theorem Zl (G_impl_isShaped_1 : GValue → Int → Option Bool) (H_impl_isShaped_1 : qD G_impl_isShaped_1) (n : Nat) : y8 (y9 G_impl_isShaped_1 n) := fun a0 e0 => tc (
 .le zg a0 <|
 .l2 (kR G_impl_isShaped_1 H_impl_isShaped_1 a0 (a0.length : Int) e0 n 0) (fun o1_0 =>
  .ret o1_0) fun o1_1 =>
 .ret (-1)) (zf Tryz.func224)
def yX (G_slices_IndexFunc_Value_isShaped_1 : (List GValue) → Int → Option Int) (a0 : (List GValue)) (e0 : Int) : Option Bool :=
 (G_slices_IndexFunc_Value_isShaped_1 a0 e0).bind fun r1 =>
 some (decide (0 <= r1))
theorem vd (G_slices_IndexFunc_Value_isShaped_1 : (List GValue) → Int → Option Int) (H_slices_IndexFunc_Value_isShaped_1 : y8 G_slices_IndexFunc_Value_isShaped_1) : zZ (yX G_slices_IndexFunc_Value_isShaped_1) := fun a0 e0 => tc (
 .cl (H_slices_IndexFunc_Value_isShaped_1 a0 e0) fun r1 =>
 .gD 0 r1 <|
 .ret (decide (0 <= r1))) (zf Tryz.func203)
def xe (G_slices_ContainsFunc_Value_isShaped_1 : (List GValue) → Int → Option Bool) (v0 : Bool) (v1 : Bool) (v2 : (List (List UInt8))) (v3 : Int) (a0 : GValue) (a1 : Int) : Nat → Int → Option (Bool ⊕ Int)
  | 0, _ => none
  | m + 1, v4 =>
  if v4 < v3 then
   (zw v4).bind fun i2 =>
   (v2[i2]?).bind fun x3 =>
   (wI x3).bind fun r4 =>
   match r4 with
   | true =>
    if 0 < v4 then
     (zw (w64 (v4 - 1))).bind fun i6 =>
     (a0.K[i6]?).bind fun x7 =>
     (xD x7 x3).bind fun r8 =>
     if 0 <= r8 then
      some (.inl false)
     else
     xe G_slices_ContainsFunc_Value_isShaped_1 v0 v1 v2 v3 a0 a1 m (w64 (v4 + 1))
    else
    xe G_slices_ContainsFunc_Value_isShaped_1 v0 v1 v2 v3 a0 a1 m (w64 (v4 + 1))
   | false =>
    some (.inl false)
  else
  some (.inr v4)
theorem JK (G_slices_ContainsFunc_Value_isShaped_1 : (List GValue) → Int → Option Bool) (H_slices_ContainsFunc_Value_isShaped_1 : zZ G_slices_ContainsFunc_Value_isShaped_1) (v0 : Bool) (v1 : Bool) (v2 : (List (List UInt8))) (v3 : Int) (a0 : GValue) (a1 : Int) (m : Nat) : ∀ (v4 : Int), Ol (xe G_slices_ContainsFunc_Value_isShaped_1 v0 v1 v2 v3 a0 a1 m v4) 222 (zQ Tryz.f222 0) ⟨[(2, vp 0 0), (3, vp 1 0), (5, vb v0), (6, vb v1), (99, vq (zx za) v2), (100, vi v3), (101, vi v4)], [.var (zI a0), .var [ci a1]], 0⟩ fun o => match o with | .inl o_0 => (.ret, ⟨[(4, vb o_0)], [], 0⟩) | .inr (o_1) => (.exit 1, ⟨[(2, vp 0 0), (3, vp 1 0), (5, vb v0), (6, vb v1), (99, vq (zx za) v2), (100, vi v3), (101, vi o_1), (102, vb false)], [.var (zI a0), .var [ci a1]], 0⟩) := by
  induction m with
  | zero => intro v4 o h; cases h
  | succ m ih => exact fun v4 => tlp (
   .lI v4 v3 (fun c1 =>
    .na v4 fun i2 =>
    .ix0 (zx za) v2 i2 fun x3 =>
    .cl (YQ x3) fun r4 =>
    .vN 0 r4 (
     .an 0 0 <|
     .lI 0 v4 (fun c5 =>
      .an 0 0 <|
      .na (w64 (v4 - 1)) fun i6 =>
      .ix0 (zx za) a0.K i6 fun x7 =>
      .cl (kC x7 x3) fun r8 =>
      .gI 0 r8 (fun c9 =>
       .an 0 3 <|
       .an 1 3 <|
       .ret (.inl false)) fun c9 =>
      .an 0 3 <|
      .an 1 3 <|
      .go (ih (w64 (v4 + 1)))) fun c5 =>
     .an 0 0 <|
     .an 9 0 <|
     .an 1 0 <|
     .go (ih (w64 (v4 + 1)))) <|
    .an 0 0 <|
    .an 0 0 <|
    .an 0 0 <|
    .an 0 0 <|
    .ret (.inl false)) fun c1 =>
   .ret (.inr v4))
def jv (G_slices_ContainsFunc_Value_isShaped_1 : (List GValue) → Int → Option Bool) (n : Nat) (a0 : GValue) (a1 : Int) : Option Bool :=
 if a1 = 0 then
  some false
 else
 if a0.Kind = 0 then
  if a0.N = 0 then
   if (a0.S.length : Int) = 0 then
    if (a0.K.length : Int) = 0 then
     some (decide ((a0.L.length : Int) = 0))
    else
    some false
   else
   some false
  else
  some false
 else
 if a0.Kind = 6 then
  if a0.N = 0 then
   if (a0.S.length : Int) = 0 then
    if (a0.K.length : Int) = 0 then
     some (decide ((a0.L.length : Int) = 0))
    else
    some false
   else
   some false
  else
  some false
 else
 if a0.Kind = 1 then
  (yT a0.N 0 1).bind fun r5 =>
  match r5 with
  | true =>
   if (a0.S.length : Int) = 0 then
    if (a0.K.length : Int) = 0 then
     some (decide ((a0.L.length : Int) = 0))
    else
    some false
   else
   some false
  | false =>
   some false
 else
 if a0.Kind = 2 then
  (yT a0.N (-1000000000000) 1000000000000).bind fun r6 =>
  match r6 with
  | true =>
   if (a0.S.length : Int) = 0 then
    if (a0.K.length : Int) = 0 then
     some (decide ((a0.L.length : Int) = 0))
    else
    some false
   else
   some false
  | false =>
   some false
 else
 if a0.Kind = 3 then
  (kQ a0.S).bind fun r7 =>
  match r7 with
  | true =>
   if a0.N = 0 then
    if (a0.K.length : Int) = 0 then
     some (decide ((a0.L.length : Int) = 0))
    else
    some false
   else
   some false
  | false =>
   some false
 else
 if a0.Kind = 4 then
  if (a0.K.length : Int) = 0 then
   if a0.N = 0 then
    if (a0.S.length : Int) = 0 then
     if (a0.L.length : Int) <= 40 then
      (G_slices_ContainsFunc_Value_isShaped_1 a0.L a1).bind fun r12 =>
      some (!r12)
     else
     some false
    else
    some false
   else
   some false
  else
  some false
 else
 if a0.Kind = 5 then
  if (a0.K.length : Int) = (a0.L.length : Int) then
   (xe G_slices_ContainsFunc_Value_isShaped_1 (decide (a0.N = 0)) (decide ((a0.S.length : Int) = 0)) a0.K (a0.K.length : Int) a0 a1 n 0).bind fun o10 =>
   match o10 with
   | .inl o10_0 =>
    some o10_0
   | .inr (o10_1) =>
    if a0.N = 0 then
     if (a0.S.length : Int) = 0 then
      if (a0.L.length : Int) <= 40 then
       (G_slices_ContainsFunc_Value_isShaped_1 a0.L a1).bind fun r14 =>
       some (!r14)
      else
      some false
     else
     some false
    else
    some false
  else
  some false
 else
 some false
theorem TT (G_slices_ContainsFunc_Value_isShaped_1 : (List GValue) → Int → Option Bool) (H_slices_ContainsFunc_Value_isShaped_1 : zZ G_slices_ContainsFunc_Value_isShaped_1) (n : Nat) : vx (jv G_slices_ContainsFunc_Value_isShaped_1 n) := fun a0 a1 => tc (
 .eI a1 0 (fun c1 =>
  .ret false) fun c1 =>
 .eD a0.N 0 <|
 .le za a0.S <|
 .eD (a0.S.length : Int) 0 <|
 .le (zx za) a0.K <|
 .eD (a0.K.length : Int) 0 <|
 .le zg a0.L <|
 .eD (a0.L.length : Int) 0 <|
 .eI a0.Kind 0 (fun c2 =>
  .cI 2 (a0.N = 0) (fun c3 =>
   .kT 0 (dT c3) <|
   .cI 0 ((a0.S.length : Int) = 0) (fun c4 =>
    .kT 0 (dT c4) <|
    .cI 0 ((a0.K.length : Int) = 0) (fun c5 =>
     .kT 0 (dT c5) <|
     .ret (decide ((a0.L.length : Int) = 0))) fun c5 =>
    .kF 0 (dF c5) <|
    .ret false) fun c4 =>
   .kF 0 (dF c4) <|
   .ret false) fun c3 =>
  .kF 0 (dF c3) <|
  .ret false) fun c2 =>
 .eI a0.Kind 6 (fun c3 =>
  .cI 1 (a0.N = 0) (fun c4 =>
   .kT 0 (dT c4) <|
   .cI 0 ((a0.S.length : Int) = 0) (fun c5 =>
    .kT 0 (dT c5) <|
    .cI 0 ((a0.K.length : Int) = 0) (fun c6 =>
     .kT 0 (dT c6) <|
     .ret (decide ((a0.L.length : Int) = 0))) fun c6 =>
    .kF 0 (dF c6) <|
    .ret false) fun c5 =>
   .kF 0 (dF c5) <|
   .ret false) fun c4 =>
  .kF 0 (dF c4) <|
  .ret false) fun c3 =>
 .eI a0.Kind 1 (fun c4 =>
  .cl (ql a0.N 0 1) fun r5 =>
  .vM 0 r5 (
   .az 0 0 <|
   .cI 0 ((a0.S.length : Int) = 0) (fun c6 =>
    .kT 0 (dT c6) <|
    .cI 0 ((a0.K.length : Int) = 0) (fun c7 =>
     .kT 0 (dT c7) <|
     .ret (decide ((a0.L.length : Int) = 0))) fun c7 =>
    .kF 0 (dF c7) <|
    .ret false) fun c6 =>
   .kF 0 (dF c6) <|
   .ret false) <|
  .az 0 0 <|
  .ret false) fun c4 =>
 .eI a0.Kind 2 (fun c5 =>
  .cl (ql a0.N (-1000000000000) 1000000000000) fun r6 =>
  .vM 0 r6 (
   .az 0 0 <|
   .cI 0 ((a0.S.length : Int) = 0) (fun c7 =>
    .kT 0 (dT c7) <|
    .cI 0 ((a0.K.length : Int) = 0) (fun c8 =>
     .kT 0 (dT c8) <|
     .ret (decide ((a0.L.length : Int) = 0))) fun c8 =>
    .kF 0 (dF c8) <|
    .ret false) fun c7 =>
   .kF 0 (dF c7) <|
   .ret false) <|
  .az 0 0 <|
  .ret false) fun c5 =>
 .eI a0.Kind 3 (fun c6 =>
  .cl (Pk a0.S) fun r7 =>
  .vM 0 r7 (
   .az 0 0 <|
   .cI 0 (a0.N = 0) (fun c8 =>
    .kT 0 (dT c8) <|
    .cI 0 ((a0.K.length : Int) = 0) (fun c9 =>
     .kT 0 (dT c9) <|
     .ret (decide ((a0.L.length : Int) = 0))) fun c9 =>
    .kF 0 (dF c9) <|
    .ret false) fun c8 =>
   .kF 0 (dF c8) <|
   .ret false) <|
  .az 0 0 <|
  .ret false) fun c6 =>
 .eI a0.Kind 4 (fun c7 =>
  .cN 1 ((a0.K.length : Int) = 0) (fun c8 =>
   .cI 0 (a0.N = 0) (fun c9 =>
    .kT 0 (dT c9) <|
    .cI 0 ((a0.S.length : Int) = 0) (fun c10 =>
     .kT 0 (dT c10) <|
     .kT 0 (dT c10) <|
     .le zg a0.L <|
     .kT 0 (dT c10) <|
     .gI (a0.L.length : Int) 40 (fun c11 =>
      .kT 0 (dT c10) <|
      .cl (H_slices_ContainsFunc_Value_isShaped_1 a0.L a1) fun r12 =>
      .ret (!r12)) fun c11 =>
     .kT 0 (dT c10) <|
     .ret false) fun c10 =>
    .kF 0 (dF c10) <|
    .kF 0 (dF c10) <|
    .kF 0 (dF c10) <|
    .kF 0 (dF c10) <|
    .ret false) fun c9 =>
   .kF 0 (dF c9) <|
   .ret false) fun c8 =>
  .ret false) fun c7 =>
 .eI a0.Kind 5 (fun c8 =>
  .le (zx za) a0.K <|
  .le zg a0.L <|
  .eI (a0.K.length : Int) (a0.L.length : Int) (fun c9 =>
   .le (zx za) a0.K <|
   .l2 (JK G_slices_ContainsFunc_Value_isShaped_1 H_slices_ContainsFunc_Value_isShaped_1 (decide (a0.N = 0)) (decide ((a0.S.length : Int) = 0)) a0.K (a0.K.length : Int) a0 a1 n 0) (fun o10_0 =>
    .ret o10_0) fun o10_1 =>
   .cI 0 (a0.N = 0) (fun c11 =>
    .kT 0 (dT c11) <|
    .cI 0 ((a0.S.length : Int) = 0) (fun c12 =>
     .kT 0 (dT c12) <|
     .kT 0 (dT c12) <|
     .le zg a0.L <|
     .kT 0 (dT c12) <|
     .gI (a0.L.length : Int) 40 (fun c13 =>
      .kT 0 (dT c12) <|
      .cl (H_slices_ContainsFunc_Value_isShaped_1 a0.L a1) fun r14 =>
      .ret (!r14)) fun c13 =>
     .kT 0 (dT c12) <|
     .ret false) fun c12 =>
    .kF 0 (dF c12) <|
    .kF 0 (dF c12) <|
    .kF 0 (dF c12) <|
    .kF 0 (dF c12) <|
    .ret false) fun c11 =>
   .kF 0 (dF c11) <|
   .ret false) fun c9 =>
  .ret false) fun c8 =>
 .ret false) (zf Tryz.func222)
mutual
def yU : Nat → GValue → Int → Option Bool
 | 0, _, _ => none
 | n + 1, a0, e0 => Zw (xE n) a0 e0
def zG : Nat → (List GValue) → Int → Option Int
 | 0, _, _ => none
 | n + 1, a0, e0 => y9 (yU n) n a0 e0
def zA : Nat → (List GValue) → Int → Option Bool
 | 0, _, _ => none
 | n + 1, a0, e0 => yX (zG n) a0 e0
def xE : Nat → GValue → Int → Option Bool
 | 0, _, _ => none
 | n + 1, a0, a1 => jv (zA n) n a0 a1
end
theorem ja (n : Nat) : qD (yU n) ∧ y8 (zG n) ∧ zZ (zA n) ∧ vx (xE n) := by
 induction n with
 | zero => exact ⟨fun _ _ _ h => (by rw [yU] at h; cases h), fun _ _ _ h => (by rw [zG] at h; cases h), fun _ _ _ h => (by rw [zA] at h; cases h), fun _ _ _ h => (by rw [xE] at h; cases h)⟩
 | succ n ih =>
  obtain ⟨ih_impl_isShaped_1, ih_slices_IndexFunc_Value_isShaped_1, ih_slices_ContainsFunc_Value_isShaped_1, ih_impl_isShaped⟩ := ih
  exact ⟨fun a0 e0 r h => VG (xE n) ih_impl_isShaped a0 e0 r (by rw [yU] at h; exact h),
   fun a0 e0 r h => Zl (yU n) ih_impl_isShaped_1 n a0 e0 r (by rw [zG] at h; exact h),
   fun a0 e0 r h => vd (zG n) ih_slices_IndexFunc_Value_isShaped_1 a0 e0 r (by rw [zA] at h; exact h),
   fun a0 a1 r h => TT (zA n) ih_slices_ContainsFunc_Value_isShaped_1 n a0 a1 r (by rw [xE] at h; exact h)⟩
theorem Az (a b : List UInt8) : xD a b = some (Lib.compareBytes a b) := rfl
theorem H5 {a : List UInt8} (h : a.length <= 2 ^ 20) : wI a = some (qI a) := if_pos h
theorem H6 {a : List UInt8} (h : a.length <= 2 ^ 20) : kQ a = some (YA a) := if_pos h
theorem ve {G : GValue → Int → Option Bool} {a : List GValue} {f : Nat} {e : Int} {p : GValue → Bool} (ha : a.length <= 2 ^ 20) (hf : a.length < f) (hG : ∀ x ∈ a, G x e = some (!p x)) : ∃ r : Int, y9 G f a e = some r ∧ decide (0 <= r) = !(a.all p) := by
 have loop : ∀ (d i m : Nat), i + d = a.length → d < m → ∃ (q : Nat) (z : Int), zL G a (a.length : Int) e m (i : Int) = some (if (a.drop i).all p = true then .inr z else .inl (q : Int)) := by
  intro d
  induction d with
  | zero =>
   intro i m hi hm
   obtain ⟨m, rfl, _⟩ := zh hm
   exact ⟨0, _, by rw [zL, if_neg (by omega), List.drop_eq_nil_of_le (by omega)]; rfl⟩
  | succ d ih =>
   intro i m hi hm
   obtain ⟨m, rfl, hm'⟩ := zh hm
   have hil : i < a.length := by omega
   rw [zL, if_pos (by omega), zd, Option.bind_some, zk hil, Option.bind_some, hG _ (List.getElem_mem hil), Option.bind_some, zC (by omega), xA hil, List.all_cons]
   cases hp : p a[i] with
   | false => exact ⟨i, 0, rfl⟩
   | true =>
    obtain ⟨q, z, hz⟩ := ih (i + 1) m (by omega) (by omega)
    exact ⟨q, z, by rw [Bool.true_and]; exact hz⟩
 obtain ⟨q, z, hz⟩ := loop a.length 0 f (by omega) (by omega)
 rw [show ((0 : Nat) : Int) = 0 from rfl, List.drop_zero] at hz
 unfold y9
 rw [hz, Option.bind_some]
 cases hp : a.all p with
 | true => exact ⟨-1, rfl, rfl⟩
 | false => exact ⟨(q : Int), rfl, by simp⟩
theorem O4 {G : List GValue → Int → Option Bool} {v : GValue} {v0 v1 : Bool} {a1 : Int} (hs : vsz v <= 2 ^ 20) : ∀ (d i m : Nat), i + d = v.K.length → d < m → ∃ z, xe G v0 v1 v.K (v.K.length : Int) v a1 m (i : Int) = some (if jg v.K i d = true then .inr z else .inl false) := by
 have he := qz v
 have hl := kh v.K
 intro d
 induction d with
 | zero =>
  intro i m hi hm
  obtain ⟨m, rfl, _⟩ := zh hm
  exact ⟨_, by rw [xe, if_neg (by omega)]; rfl⟩
 | succ d ih =>
  intro i m hi hm
  obtain ⟨m, rfl, hm'⟩ := zh hm
  have hil : i < v.K.length := by omega
  have hx := YW (List.getElem_mem hil)
  rw [xe, if_pos (by omega), zd, Option.bind_some, zk hil, Option.bind_some, H5 (by omega), Option.bind_some, zC (by omega), Qg]
  obtain ⟨z, hz⟩ := ih (i + 1) m (by omega) (by omega)
  cases hnm : qI v.K[i] with
  | false =>
   refine ⟨0, ?_⟩
   have : kOk v.K i = false := by
    by_cases h0 : i = 0
    ·subst h0; rw [Jr hil, hnm]
    ·rw [Wz hil (by omega), hnm]; rfl
   rw [this]; rfl
  | true =>
   dsimp only
   by_cases h0 : 0 < i
   ·rw [if_pos (by omega), j9 (by omega) h0, zd, Option.bind_some, zk (show i - 1 < v.K.length by omega), Option.bind_some, Az, Option.bind_some]
    by_cases hb : Op.bytesLess (v.K[i - 1]'(by omega)) v.K[i] = true
    ·rw [if_neg (by rw [YX]; exact fun h => h hb), Wz hil h0, hnm, hb]
     exact ⟨z, hz⟩
    ·rw [if_pos (by rw [YX]; exact hb), Wz hil h0, hnm, show Op.bytesLess (v.K[i - 1]'(by omega)) v.K[i] = false by simpa using hb]
     exact ⟨0, rfl⟩
   ·have : i = 0 := by omega
    subst this
    rw [if_neg (by omega), Jr hil, hnm]
    exact ⟨z, hz⟩
theorem Gs {G : List GValue → Int → Option Bool} {v : GValue} {f d : Nat} (hs : vsz v <= 2 ^ 20) (hf : v.K.length < f) (hd : 0 < d) (hG : G v.L (d : Int) = some (!(v.L.all (shV (d - 1))))) : jv G f v (d : Int) = some (shV d v) := by
 obtain ⟨e, rfl⟩ : ∃ e, d = e + 1 := ⟨d - 1, by omega⟩
 have he := qz v
 have hl := xj v.L
 have hb := kh v.K
 rw [show e + 1 - 1 = e by omega] at hG
 unfold jv
 rw [if_neg (by omega)]
 simp only [shV]
 have nil : v.L.length = 0 → v.L.all (shV e) = true := fun h => by rw [List.eq_nil_of_length_eq_zero h]; rfl
 have c0 : ∀ n : Nat, (((n : Nat) : Int) = 0) = (n = 0) := fun n => by simp
 simp only [c0]
 have leaf : ∀ {b : Bool}, yB v = (b && decide (v.L.length = 0)) → b = true → some (decide (v.L.length = 0)) = some (yB v && v.L.all (shV e)) := fun h hb' => by
  rw [h, hb', Bool.true_and]
  by_cases hz : v.L.length = 0
  ·rw [decide_eq_true hz, nil hz]; rfl
  ·rw [decide_eq_false hz]; rfl
 have no : yB v = false → some false = some (yB v && v.L.all (shV e)) := fun h => by rw [h]; rfl
 have four : ∀ {p : Prop} [Decidable p], yB v = decide (p ∧ v.S.length = 0 ∧ v.K.length = 0 ∧ v.L.length = 0) → p → (if v.S.length = 0 then if v.K.length = 0 then some (decide (v.L.length = 0)) else some false else some false) = some (yB v && v.L.all (shV e)) := fun h hp => by
  by_cases h1 : v.S.length = 0
  ·rw [if_pos h1]
   by_cases h2 : v.K.length = 0
   ·rw [if_pos h2]
    exact leaf (b := true) (by rw [h]; simp [hp, h1, h2]) rfl
   ·rw [if_neg h2]; exact no (by rw [h, decide_eq_false (fun h => h2 h.2.2.1)])
  ·rw [if_neg h1]; exact no (by rw [h, decide_eq_false (fun h => h1 h.2.1)])
 by_cases k0 : v.Kind = 0
 ·rw [if_pos k0]
  have hv : yB v = decide (v.N = 0 ∧ v.S.length = 0 ∧ v.K.length = 0 ∧ v.L.length = 0) := by unfold yB; rw [if_pos (.inl k0)]
  by_cases a1 : v.N = 0
  ·rw [if_pos a1]; exact four hv a1
  ·rw [if_neg a1]; exact no (by rw [hv, decide_eq_false (fun h => a1 h.1)])
 rw [if_neg k0]
 by_cases k6 : v.Kind = 6
 ·rw [if_pos k6]
  have hv : yB v = decide (v.N = 0 ∧ v.S.length = 0 ∧ v.K.length = 0 ∧ v.L.length = 0) := by unfold yB; rw [if_pos (.inr k6)]
  by_cases a1 : v.N = 0
  ·rw [if_pos a1]; exact four hv a1
  ·rw [if_neg a1]; exact no (by rw [hv, decide_eq_false (fun h => a1 h.1)])
 rw [if_neg k6]
 have n06 : ¬ (v.Kind = 0 ∨ v.Kind = 6) := by omega
 by_cases k1 : v.Kind = 1
 ·rw [if_pos k1, XP, Option.bind_some]
  have hv : yB v = decide ((0 <= v.N ∧ v.N <= 1) ∧ v.S.length = 0 ∧ v.K.length = 0 ∧ v.L.length = 0) := by unfold yB; rw [if_neg n06, if_pos k1]
  by_cases a1 : 0 <= v.N ∧ v.N <= 1
  ·rw [decide_eq_true a1]; exact four hv a1
  ·rw [decide_eq_false a1]; exact no (by rw [hv, decide_eq_false (fun h => a1 h.1)])
 rw [if_neg k1]
 by_cases k2 : v.Kind = 2
 ·rw [if_pos k2, XP, Option.bind_some]
  have hv : yB v = decide ((-1000000000000 <= v.N ∧ v.N <= 1000000000000) ∧ v.S.length = 0 ∧ v.K.length = 0 ∧ v.L.length = 0) := by unfold yB; rw [if_neg n06, if_neg k1, if_pos k2]
  by_cases a1 : -1000000000000 <= v.N ∧ v.N <= 1000000000000
  ·rw [decide_eq_true a1]; exact four hv a1
  ·rw [decide_eq_false a1]; exact no (by rw [hv, decide_eq_false (fun h => a1 h.1)])
 rw [if_neg k2]
 by_cases k3 : v.Kind = 3
 ·rw [if_pos k3, H6 (by omega), Option.bind_some]
  have hv : yB v = (YA v.S && decide (v.N = 0 ∧ v.K.length = 0 ∧ v.L.length = 0)) := by unfold yB; rw [if_neg n06, if_neg k1, if_neg k2, if_pos k3]
  cases ht : YA v.S with
  | false => exact no (by rw [hv, ht]; rfl)
  | true =>
   rw [ht, Bool.true_and] at hv
   dsimp only
   by_cases a1 : v.N = 0
   ·rw [if_pos a1]
    by_cases a2 : v.K.length = 0
    ·rw [if_pos a2]; exact leaf (b := true) (by rw [hv]; simp [a1, a2]) rfl
    ·rw [if_neg a2]; exact no (by rw [hv, decide_eq_false (fun h => a2 h.2.1)])
   ·rw [if_neg a1]; exact no (by rw [hv, decide_eq_false (fun h => a1 h.1)])
 rw [if_neg k3]
 have ends : ∀ {b : Bool}, yB v = (b && decide (v.L.length <= 40)) → b = true → (if (v.L.length : Int) <= 40 then (G v.L ((e + 1 : Nat) : Int)).bind fun r12 => some (!r12) else some false) = some (yB v && v.L.all (shV e)) := fun h hb' => by
  by_cases h4 : v.L.length <= 40
  ·rw [if_pos (by omega), hG, Option.bind_some, h, hb', decide_eq_true h4, Bool.not_not]; rfl
  ·rw [if_neg (by omega)]; exact no (by rw [h, decide_eq_false h4, Bool.and_false])
 by_cases k4 : v.Kind = 4
 ·rw [if_pos k4]
  have hv : yB v = decide (v.N = 0 ∧ v.S.length = 0 ∧ v.K.length = 0 ∧ v.L.length <= 40) := by unfold yB; rw [if_neg n06, if_neg k1, if_neg k2, if_neg k3, if_pos k4]
  by_cases a1 : v.K.length = 0
  ·rw [if_pos a1]
   by_cases a2 : v.N = 0
   ·rw [if_pos a2]
    by_cases a3 : v.S.length = 0
    ·rw [if_pos a3]; exact ends (b := true) (by rw [hv]; simp [a1, a2, a3]) rfl
    ·rw [if_neg a3]; exact no (by rw [hv, decide_eq_false (fun h => a3 h.2.1)])
   ·rw [if_neg a2]; exact no (by rw [hv, decide_eq_false (fun h => a2 h.1)])
  ·rw [if_neg a1]; exact no (by rw [hv, decide_eq_false (fun h => a1 h.2.2.1)])
 rw [if_neg k4]
 by_cases k5 : v.Kind = 5
 ·rw [if_pos k5]
  have hv : yB v = (decide (v.K.length = v.L.length ∧ v.N = 0 ∧ v.S.length = 0 ∧ v.L.length <= 40) && jg v.K 0 v.K.length) := by unfold yB; rw [if_neg n06, if_neg k1, if_neg k2, if_neg k3, if_neg k4, if_pos k5]
  by_cases a1 : (v.K.length : Int) = (v.L.length : Int)
  ·rw [if_pos a1]
   have keys := fun (v0 v1 : Bool) => O4 (G := G) (v0 := v0) (v1 := v1) (a1 := ((e + 1 : Nat) : Int)) hs v.K.length 0 f (by omega) (by omega)
   simp only [show ((0 : Nat) : Int) = 0 from rfl] at keys
   obtain ⟨z, hz⟩ := keys (decide (v.N = 0)) (decide (v.S.length = 0))
   rw [hz, Option.bind_some]
   cases hk : jg v.K 0 v.K.length with
   | false => exact no (by rw [hv, hk, Bool.and_false])
   | true =>
    rw [if_pos rfl]
    dsimp only
    by_cases a2 : v.N = 0
    ·rw [if_pos a2]
     by_cases a3 : v.S.length = 0
     ·rw [if_pos a3]
      exact ends (b := true) (by rw [hv, hk]; simp [a2, a3, show v.K.length = v.L.length by omega]) rfl
     ·rw [if_neg a3]
      exact no (by rw [hv, decide_eq_false (fun h => a3 h.2.2.1)]; rfl)
    ·rw [if_neg a2]
     exact no (by rw [hv, decide_eq_false (fun h => a2 h.2.1)]; rfl)
  ·rw [if_neg a1]; exact no (by rw [hv, decide_eq_false (fun h => a1 (by omega))]; rfl)
 rw [if_neg k5]
 exact no (by unfold yB; simp only [k0, k1, k2, k3, k4, k5, k6, or_self, if_false])
theorem Gt : ∀ (N : Nat) (v : GValue), vsz v < N → vsz v <= 2 ^ 20 → ∀ (f d : Nat), 4 * vsz v + 6 <= f → d <= 2 ^ 20 → xE f v (d : Int) = some (shV d v) := by
 intro N
 induction N with
 | zero => intro v hv; omega
 | succ N ih =>
  intro v hv hs f d hf hd
  have he := qz v
  have hl := xj v.L
  have hb := kh v.K
  obtain ⟨f, rfl, _⟩ := zh (show 0 < f by omega)
  rw [xE]
  by_cases h0 : d = 0
  ·subst h0; unfold jv; rw [if_pos (show ((0 : Nat) : Int) = 0 from rfl)]; rfl
  refine Gs hs (by omega) (by omega) ?_
  obtain ⟨f, rfl, _⟩ := zh (show 0 < f by omega)
  obtain ⟨f, rfl, _⟩ := zh (show 0 < f by omega)
  obtain ⟨f, rfl, _⟩ := zh (show 0 < f by omega)
  rw [zA]
  unfold yX
  rw [zG]
  obtain ⟨r, hr, hr2⟩ := ve (G := yU (f + 1)) (a := v.L) (f := f + 1) (e := (d : Int)) (p := shV (d - 1)) (by omega) (by omega) fun x hx => by
   have := qh hx
   rw [yU]
   unfold Zw
   rw [j9 (by omega) (by omega), ih x (by omega) (by omega) f (d - 1) (by omega) (by omega)]
   rfl
  rw [hr, Option.bind_some, hr2]
def X9 (a0 : GValue) (e0 : Int) : Option Bool := none
theorem Jd (a0 : GValue) (e0 : Int) (r : Bool) (h : X9 a0 e0 = some r) : ∃ n, yU n a0 e0 = some r := by cases h
def q7 (a0 : (List GValue)) (e0 : Int) : Option Int := none
theorem vf (a0 : (List GValue)) (e0 : Int) (r : Int) (h : q7 a0 e0 = some r) : ∃ n, zG n a0 e0 = some r := by cases h
def wK (a0 : (List GValue)) (e0 : Int) : Option Bool := none
theorem kj (a0 : (List GValue)) (e0 : Int) (r : Bool) (h : wK a0 e0 = some r) : ∃ n, zA n a0 e0 = some r := by cases h
def q8 (a0 : GValue) (a1 : Int) : Option Bool := if vsz a0 <= 2 ^ 20 ∧ 0 <= a1 ∧ a1 <= 2 ^ 20 then some (shV a1.toNat a0) else none
theorem KF (a0 : GValue) (a1 : Int) (r : Bool) (h : q8 a0 a1 = some r) : ∃ n, xE n a0 a1 = some r := by
 unfold q8 at h
 obtain ⟨⟨hs, h0, h1⟩, h⟩ := zK h
 refine ⟨4 * vsz a0 + 6, ?_⟩
 have := Gt _ a0 (Nat.lt_succ_self _) hs _ a1.toNat (Nat.le_refl _) (by omega)
 rw [show ((a1.toNat : Nat) : Int) = a1 by omega] at this
 rw [this]; exact h
theorem H7 : qD X9 := by
 intro a0 e0 r h
 obtain ⟨n, hn⟩ := Jd a0 e0 r h
 exact (ja n).1 a0 e0 r hn
theorem KG : y8 q7 := by
 intro a0 e0 r h
 obtain ⟨n, hn⟩ := vf a0 e0 r h
 exact (ja n).2.1 a0 e0 r hn
theorem J8 : zZ wK := by
 intro a0 e0 r h
 obtain ⟨n, hn⟩ := kj a0 e0 r h
 exact (ja n).2.2.1 a0 e0 r hn
theorem R9 : vx q8 := by
 intro a0 a1 r h
 obtain ⟨n, hn⟩ := KF a0 a1 r h
 exact (ja n).2.2.2 a0 a1 r hn
def qv (F : GValue → Option Int) : Prop := ∀ (a0 : GValue), Oc (F a0) 223 [] [.val true (zI a0)] fun r => (vi r, [])
def xb (G_impl_Value_parts : GValue → Option Int) (v1 : (List GValue)) (v2 : Int) : Nat → Int → Int → Option (Int × Int)
  | 0, _, _ => none
  | m + 1, v0, v3 =>
  if v3 < v2 then
   (zw v3).bind fun i2 =>
   (v1[i2]?).bind fun x3 =>
   (G_impl_Value_parts x3).bind fun r4 =>
   xb G_impl_Value_parts v1 v2 m (w64 (v0 + r4)) (w64 (v3 + 1))
  else
  some (v0, v3)
theorem Qo (G_impl_Value_parts : GValue → Option Int) (H_impl_Value_parts : qv G_impl_Value_parts) (v1 : (List GValue)) (v2 : Int) (m : Nat) : ∀ (v0 : Int) (v3 : Int), Ol (xb G_impl_Value_parts v1 v2 m v0 v3) 223 (zQ Tryz.f223 0) ⟨[(3, vi v0), (7, vq zg v1), (8, vi v2), (9, vi v3)], [], 0⟩ fun o => match o with | ⟨o_0, o_1⟩ => (.exit 0, ⟨[(3, vi o_0), (7, vq zg v1), (8, vi v2), (9, vi o_1), (10, vb false)], [], 0⟩) := by
  induction m with
  | zero => intro v0 v3 o h; cases h
  | succ m ih => exact fun v0 v3 => tlp (
   .lI v3 v2 (fun c1 =>
    .na v3 fun i2 =>
    .ix yo v1 i2 fun x3 =>
    .cl (H_impl_Value_parts x3) fun r4 =>
    .go (ih (w64 (v0 + r4)) (w64 (v3 + 1)))) fun c1 =>
   .ret (v0, v3))
def jw (G_impl_Value_parts : GValue → Option Int) (n : Nat) (a0 : GValue) : Option Int :=
 (xb G_impl_Value_parts a0.L (a0.L.length : Int) n 1 0).bind fun ⟨o1_0, o1_1⟩ =>
 some o1_0
theorem KH (G_impl_Value_parts : GValue → Option Int) (H_impl_Value_parts : qv G_impl_Value_parts) (n : Nat) : qv (jw G_impl_Value_parts n) := fun a0 => tc (
 .le zg a0.L <|
 .lp (Qo G_impl_Value_parts H_impl_Value_parts a0.L (a0.L.length : Int) n 1 0) fun ⟨o1_0, o1_1⟩ =>
 .ret o1_0) (zf Tryz.func223)
def yL : Nat → GValue → Option Int
 | 0, _ => none
 | n + 1, a0 => jw (yL n) n a0
theorem Je (n : Nat) : qv (yL n) := by
 induction n with
 | zero => exact fun _ _ h => (by rw [yL] at h; cases h)
 | succ n ih =>
  have ih_impl_Value_parts := ih
  exact fun a0 r h => KH (yL n) ih_impl_Value_parts n a0 r (by rw [yL] at h; exact h)
theorem KI {G : GValue → Option Int} {v : GValue} {f : Nat} (hs : vsz v <= 2 ^ 20) (hf : v.L.length < f) (hG : ∀ x ∈ v.L, G x = some (((ptV x) : Nat) : Int)) : jw G f v = some (((ptV v) : Nat) : Int) := by
 have he := qz v
 have hl := xj v.L
 have loop : ∀ (d i m : Nat) (r : Int), i + d = v.L.length → d < m → 0 <= r → r <= 2 ^ 21 - wx (v.L.drop i) → ∃ z, xb G v.L (v.L.length : Int) m r (i : Int) = some (r + wx (v.L.drop i), z) := by
  intro d
  induction d with
  | zero =>
   intro i m r hi hm h0 h1
   obtain ⟨m, rfl, _⟩ := zh hm
   exact ⟨_, by rw [xb, if_neg (by omega), List.drop_eq_nil_of_le (by omega)]; simp [wx]; rfl⟩
  | succ d ih =>
   intro i m r hi hm h0 h1
   obtain ⟨m, rfl, hm'⟩ := zh hm
   have hil : i < v.L.length := by omega
   have hp : wx (v.L.drop i) = ptV v.L[i] + wx (v.L.drop (i + 1)) := by rw [xA hil]; simp only [wx]
   rw [hp] at h1 ⊢
   rw [xb, if_pos (by omega), zd, Option.bind_some, zk hil, Option.bind_some, hG _ (List.getElem_mem hil), Option.bind_some, zC (by omega), yA (by omega) (by omega)]
   obtain ⟨z, hz⟩ := ih (i + 1) m (r + ptV v.L[i]) (by omega) (by omega) (by omega) (by omega)
   exact ⟨z, by rw [hz]; congr 2; omega⟩
 have hle := P0 v.L
 obtain ⟨z, hz⟩ := loop v.L.length 0 f 1 (by omega) (by omega) (by omega) (by rw [List.drop_zero]; omega)
 rw [show ((0 : Nat) : Int) = 0 from rfl, List.drop_zero] at hz
 unfold jw
 rw [hz, Mr]
 simp only [Option.bind_some]
 congr 1
theorem KJ : ∀ (N : Nat) (v : GValue), vsz v < N → vsz v <= 2 ^ 20 → ∀ f : Nat, vsz v + 2 <= f → yL f v = some (((ptV v) : Nat) : Int) := by
 intro N
 induction N with
 | zero => intro v hv; omega
 | succ N ih =>
  intro v hv hs f hf
  obtain ⟨f, rfl, _⟩ := zh (show 0 < f by omega)
  have he := qz v
  have hl := xj v.L
  rw [yL]
  refine KI hs (by omega) fun x hx => ?_
  have := qh hx
  exact ih x (by omega) (by omega) f (by omega)
def wh (a0 : GValue) : Option Int := if vsz a0 <= 2 ^ 20 then some (((ptV a0) : Nat) : Int) else none
theorem Q3 (a0 : GValue) (r : Int) (h : wh a0 = some r) : ∃ n, yL n a0 = some r := by
 unfold wh at h
 obtain ⟨ha, h⟩ := zK h
 exact ⟨vsz a0 + 2, by rw [<- h]; exact KJ _ a0 (Nat.lt_succ_self _) ha _ (Nat.le_refl _)⟩
theorem JL : qv wh := by
 intro a0 r h
 obtain ⟨n, hn⟩ := Q3 a0 r h
 exact (Je n) a0 r hn
def qL (a0 : GValue) : Option Bool :=
 (q8 a0 5).bind fun r1 =>
 match r1 with
 | true =>
  (wh a0).bind fun r2 =>
  some (decide (r2 <= 40))
 | false =>
  some false
theorem TU (a0 : GValue) : Oc (qL a0) 202 [] [.val true (zI a0)] fun r => (vb r, []) := tc (
 .cl (R9 a0 5) fun r1 =>
 .vM 0 r1 (
  .az 0 0 <|
  .cl (JL a0) fun r2 =>
  .az 0 1 <|
  .gD r2 40 <|
  .az 0 1 <|
  .ret (decide (r2 <= 40))) <|
 .az 0 0 <|
 .az 0 0 <|
 .az 0 0 <|
 .ret false) (zf Tryz.func202)
def Yy (a0 : GValue) : Option Bool :=
 if a0.Kind = 5 then
  (qL a0).bind fun r2 =>
  some r2
 else
 some false
theorem O5 (a0 : GValue) : Oc (Yy a0) 175 [] [.val true (zI a0)] fun r => (vb r, []) := tc (
 .eI a0.Kind 5 (fun c1 =>
  .cl (TU a0) fun r2 =>
  .ret r2) fun c1 =>
 .ret false) (zf Tryz.func175)
end
end Go.Am.Try
