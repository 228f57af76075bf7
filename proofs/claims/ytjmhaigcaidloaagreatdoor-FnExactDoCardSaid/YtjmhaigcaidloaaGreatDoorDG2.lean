
/- The functions of the program in plain Lean, and that the machine answers as they do; conditions at each theorem. -/
import Derived.Test.YtjmhaigcaidloaaGreatDoorDG1
set_option linter.unusedVariables false
set_option linter.unusedSimpArgs false
namespace Go.Am.Try
open Go.Am Go.Proofs
set_option linter.unusedVariables false
set_option maxRecDepth 20000
set_option maxHeartbeats 2000000
noncomputable section
def K_q12 (F : GState → Option Bool) : Prop := ∀ (a0 : GState), Oc (F a0) 70 [] [.val true (x_GState a0)] fun r => (vb r, [])
def L_q12_l0 (a0 : GState) : Nat → Int → Option (Bool ⊕ Int)
  | 0, _ => none
  | m + 1, v0 =>
  if v0 < ((a0.Entries.length : Nat) : Int) then
   (natO v0).bind fun i2 =>
   (a0.Entries[i2]?).bind fun x3 =>
   (S_q1k x3.Addr).bind fun r4 =>
   match r4 with
   | true =>
    (S_q26 x3.Val).bind fun r5 =>
    match r5 with
    | true =>
     (S_q14 x3.Deps).bind fun r6 =>
     match r6 with
     | true =>
      if x3.Turned < 1 then
       some (.inl false)
      else
      if a0.Serial < x3.Turned then
       some (.inl false)
      else
      if 0 < v0 then
       (natO (w64 (v0 - 1))).bind fun i10 =>
       (a0.Entries[i10]?).bind fun x11 =>
       if Op.bytesLess x11.Addr x3.Addr = true then
        L_q12_l0 a0 m (w64 (v0 + 1))
       else
       some (.inl false)
      else
      L_q12_l0 a0 m (w64 (v0 + 1))
     | false =>
      some (.inl false)
    | false =>
     some (.inl false)
   | false =>
    some (.inl false)
  else
  some (.inr v0)
theorem gl_spec_StateOk_l0 (a0 : GState) (m : Nat) : ∀ (v0 : Int), Ol (L_q12_l0 a0 m v0) 70 (loopB Tryz.f70 0) ⟨[(1, vp 0 0), (4, vi v0)], [.var (x_GState a0)], 0⟩ fun o => match o with | .inl o_0 => (.ret, ⟨[(2, vb o_0)], [], 0⟩) | .inr (o_1) => (.exit 0, ⟨[(1, vp 0 0), (4, vi o_1), (71, vb false)], [.var (x_GState a0)], 0⟩) := by
  induction m with
  | zero => intro v0 o h; cases h
  | succ m ih => exact fun v0 => tlp (
   .le e_GEntry a0.Entries <|
   .lI v0 ((a0.Entries.length : Nat) : Int) (fun c1 =>
    .na v0 fun i2 =>
    .ix eq_GEntry a0.Entries i2 fun x3 =>
    .cl (ok_q1k x3.Addr) fun r4 =>
    .vN 0 r4 (
     .an 0 0 <|
     .an 0 0 <|
     .cl (ok_q26 x3.Val) fun r5 =>
     .an 0 1 <|
     .an 0 1 <|
     .vN 0 r5 (
      .an 0 0 <|
      .an 0 0 <|
      .cl (ok_q14 x3.Deps) fun r6 =>
      .an 0 1 <|
      .an 0 1 <|
      .vN 0 r6 (
       .an 0 0 <|
       .an 0 0 <|
       .lI x3.Turned 1 (fun c7 =>
        .an 0 0 <|
        .ret (.inl false)) fun c7 =>
       .an 0 0 <|
       .lI a0.Serial x3.Turned (fun c8 =>
        .ret (.inl false)) fun c8 =>
       .lI 0 v0 (fun c9 =>
        .na (w64 (v0 - 1)) fun i10 =>
        .ix eq_GEntry a0.Entries i10 fun x11 =>
        .bt x11.Addr <|
        .bt x3.Addr <|
        .bI x11.Addr x3.Addr (fun c12 =>
         .go (ih (w64 (v0 + 1)))) fun c12 =>
        .ret (.inl false)) fun c9 =>
       .go (ih (w64 (v0 + 1)))) <|
      .an 0 0 <|
      .an 0 0 <|
      .an 0 0 <|
      .ret (.inl false)) <|
     .an 0 0 <|
     .an 0 0 <|
     .an 0 0 <|
     .an 0 0 <|
     .ret (.inl false)) <|
    .an 0 0 <|
    .an 0 0 <|
    .an 0 0 <|
    .an 0 0 <|
    .ret (.inl false)) fun c1 =>
   .ret (.inr v0))
def T_q12 (n : Nat) (a0 : GState) : Option Bool :=
 if a0.Serial < 0 then
  some false
 else
 if 1000000 < a0.Serial then
  some false
 else
 if 16 < ((a0.Entries.length : Nat) : Int) then
  some false
 else
 if 0 < ((a0.Pending.length : Nat) : Int) then
  match a0.Open with
  | true =>
   (S_q1k a0.Pending).bind fun r5 =>
   match r5 with
   | true =>
    if a0.Act < 1 then
     some false
    else
    if 4 < a0.Act then
     some false
    else
    (S_q16 a0 a0.Pending).bind fun r8 =>
    if a0.Act = 1 then
     if 0 <= r8 then
      some false
     else
     (L_q12_l0 a0 n 0).bind fun o11 =>
     match o11 with
     | .inl o11_0 =>
      some o11_0
     | .inr (o11_1) =>
      some true
    else
    if 0 <= r8 then
     (L_q12_l0 a0 n 0).bind fun o11 =>
     match o11 with
     | .inl o11_0 =>
      some o11_0
     | .inr (o11_1) =>
      some true
    else
    some false
   | false =>
    some false
  | false =>
   some false
 else
 if a0.Act = 0 then
  (L_q12_l0 a0 n 0).bind fun o6 =>
  match o6 with
  | .inl o6_0 =>
   some o6_0
  | .inr (o6_1) =>
   some true
 else
 some false
theorem g_spec_StateOk (n : Nat) : K_q12 (T_q12 n) := fun a0 => tc (
 .lI a0.Serial 0 (fun c1 =>
  .ret false) fun c1 =>
 .lI 1000000 a0.Serial (fun c2 =>
  .ret false) fun c2 =>
 .le e_GEntry a0.Entries <|
 .lI 16 ((a0.Entries.length : Nat) : Int) (fun c3 =>
  .ret false) fun c3 =>
 .le e_u8 a0.Pending <|
 .lI 0 ((a0.Pending.length : Nat) : Int) (fun c4 =>
  .vN 4 a0.Open (
   .an 0 0 <|
   .an 0 0 <|
   .cl (ok_q1k a0.Pending) fun r5 =>
   .an 0 1 <|
   .an 1 1 <|
   .vN 1 r5 (
    .an 0 0 <|
    .an 0 0 <|
    .lI a0.Act 1 (fun c6 =>
     .an 1 0 <|
     .ret false) fun c6 =>
    .an 1 0 <|
    .lI 4 a0.Act (fun c7 =>
     .ret false) fun c7 =>
    .eD a0.Act 1 <|
    .cl (ok_q16 a0 a0.Pending) fun r8 =>
    .gD 0 r8 <|
    .sp (a0.Act = 1) (fun c9 =>
     .sp (0 <= r8) (fun c10 =>
      .eb (dT c9) (dT c10) <|
      .ret false) fun c10 =>
     .eb (dT c9) (dF c10) <|
     .l2 (gl_spec_StateOk_l0 a0 n 0) (fun o11_0 =>
      .ret o11_0) fun o11_1 =>
     .ret true) fun c9 =>
    .sp (0 <= r8) (fun c10 =>
     .eb (dF c9) (dT c10) <|
     .l2 (gl_spec_StateOk_l0 a0 n 0) (fun o11_0 =>
      .ret o11_0) fun o11_1 =>
     .ret true) fun c10 =>
    .eb (dF c9) (dF c10) <|
    .ret false) <|
   .an 0 0 <|
   .an 0 0 <|
   .an 1 0 <|
   .ret false) <|
  .an 0 0 <|
  .an 0 0 <|
  .an 0 0 <|
  .an 1 0 <|
  .ret false) fun c4 =>
 .eI a0.Act 0 (fun c5 =>
  .l2 (gl_spec_StateOk_l0 a0 n 0) (fun o6_0 =>
   .ret o6_0) fun o6_1 =>
  .ret true) fun c5 =>
 .ret false) (fn_of Tryz.func70)
theorem sV_eq {v : GValue} (h : vsz v <= 2 ^ 20) : S_q1o v = some (valB v) := by
  unfold S_q1o S_spec_l2ok
  rw [if_pos ⟨h, by decide, by decide, by decide⟩, Option.bind_some]
  congr 1
  unfold okV valB
  rw [show (6 - (1 : Int)).toNat = 5 from rfl]
  by_cases hc : shV 5 v = true ∧ (ptV v : Int) <= 40
  · rw [if_pos hc, decide_eq_true hc]; exact decide_eq_true (by omega)
  · rw [if_neg hc, decide_eq_false hc]; rfl
theorem specKm_eq {v : GValue} (h : vsz v <= 2 ^ 20) : S_q26 v = some (kmapB v) := by
  unfold S_q26 kmapB
  by_cases h5 : v.Kind = 5
  · rw [if_pos h5, sV_eq h, Option.bind_some, decide_eq_true h5, Bool.true_and]
    cases hv : valB v with
    | false => rfl
    | true =>
      simp only [Bool.true_and]
      unfold S_qe
      rw [if_pos (by omega)]; rfl
  · rw [if_neg h5, decide_eq_false h5]; rfl
theorem specAds_eq {l : List (List UInt8)} (h : bsz l <= 2 ^ 20) : S_q14 l = some (addrsB l) := if_pos h
theorem StateOk_loop {s : GState} (hs : eszs s.Entries <= 2 ^ 20) : ∀ (d i m : Nat), i + d = s.Entries.length → d < m → ∃ z, L_q12_l0 s m (i : Int) = some (if gAll (entB s.Serial) GEntry.Addr s.Entries i d = true then .inr z else .inl false) := by
  have hlen := eszs_len s.Entries
  intro d
  induction d with
  | zero =>
    intro i m hi hm
    obtain ⟨m, rfl, _⟩ := fuel hm
    exact ⟨_, by rw [L_q12_l0, if_neg (by omega)]; rfl⟩
  | succ d ih =>
    intro i m hi hm
    obtain ⟨m, rfl, hm'⟩ := fuel hm
    have hil : i < s.Entries.length := by omega
    have hz0 := eszs_mem (List.getElem_mem hil)
    obtain ⟨z, hz⟩ := ih (i + 1) m (by omega) (by omega)
    rw [L_q12_l0, if_pos (by omega), natO_nat, Option.bind_some, get_some hil, Option.bind_some, gAll_succ]
    unfold esz at hz0
    rw [specAd_eq (by omega), Option.bind_some, specKm_eq (by omega), Option.bind_some, specAds_eq (by omega), Option.bind_some, w64_succ (by omega), hz]
    generalize gAll _ GEntry.Addr s.Entries (i + 1) d = g
    have hT : decide (1 <= s.Entries[i].Turned ∧ s.Entries[i].Turned <= s.Serial) = (!(decide (s.Entries[i].Turned < 1)) && !(decide (s.Serial < s.Entries[i].Turned))) := by
      by_cases a : s.Entries[i].Turned < 1 <;> by_cases b : s.Serial < s.Entries[i].Turned <;> simp [a, b] <;> omega
    refine ⟨z, ?_⟩
    by_cases h0 : 0 < i
    · rw [gOk_eq hil h0]
      unfold entB
      rw [hT]
      rw [if_pos (show (0 : Int) < ((i : Nat) : Int) by omega), w64_pred (by omega) h0, natO_nat, Option.bind_some, get_some (show i - 1 < s.Entries.length by omega), Option.bind_some]
      generalize Op.bytesLess s.Entries[i - 1].Addr s.Entries[i].Addr = b
      by_cases a1 : s.Entries[i].Turned < 1 <;> by_cases a2 : s.Serial < s.Entries[i].Turned <;> cases b <;> cases addrB s.Entries[i].Addr <;> cases kmapB s.Entries[i].Val <;> cases addrsB s.Entries[i].Deps <;> simp [a1, a2]
    · obtain rfl : i = 0 := by omega
      rw [gOk_zero hil]
      unfold entB
      rw [hT]
      rw [if_neg (show ¬ (0 : Int) < ((0 : Nat) : Int) by omega)]
      by_cases a1 : s.Entries[0].Turned < 1 <;> by_cases a2 : s.Serial < s.Entries[0].Turned <;> cases addrB s.Entries[0].Addr <;> cases kmapB s.Entries[0].Val <;> cases addrsB s.Entries[0].Deps <;> simp [a1, a2]
def S_q12 (a0 : GState) : Option Bool := if ssz a0 <= 2 ^ 20 then some (stB a0) else none
theorem specSt_eq {s : GState} (h : ssz s <= 2 ^ 20) : S_q12 s = some (stB s) := if_pos h
theorem StateOk_val {s : GState} (h : ssz s <= 2 ^ 20) : T_q12 (s.Entries.length + 1) s = some (stB s) := by
  have hlen := eszs_len s.Entries
  unfold ssz at h
  obtain ⟨z, hz⟩ := StateOk_loop (s := s) (by omega) s.Entries.length 0 (s.Entries.length + 1) (by omega) (by omega)
  rw [show ((0 : Nat) : Int) = 0 from rfl] at hz
  have hf : ((L_q12_l0 s (s.Entries.length + 1) 0).bind fun o4 => match o4 with | .inl o => some o | .inr _ => some true) = some (entsB s) := by
    rw [hz, show entsB s = gAll (entB s.Serial) GEntry.Addr s.Entries 0 s.Entries.length from rfl]
    cases gAll (entB s.Serial) GEntry.Addr s.Entries 0 s.Entries.length <;> rfl
  unfold T_q12
  unfold stB
  by_cases h1 : s.Serial < 0
  · rw [if_pos h1, decide_eq_false (p := 0 <= s.Serial ∧ s.Serial <= 1000000 ∧ s.Entries.length <= 16) (by omega)]; rfl
  rw [if_neg h1]
  by_cases h2 : 1000000 < s.Serial
  · rw [if_pos h2, decide_eq_false (p := 0 <= s.Serial ∧ s.Serial <= 1000000 ∧ s.Entries.length <= 16) (by omega)]; rfl
  rw [if_neg h2]
  by_cases h3 : (16 : Int) < ((s.Entries.length : Nat) : Int)
  · rw [if_pos h3, decide_eq_false (p := 0 <= s.Serial ∧ s.Serial <= 1000000 ∧ s.Entries.length <= 16) (by omega)]; rfl
  rw [if_neg h3, decide_eq_true (p := 0 <= s.Serial ∧ s.Serial <= 1000000 ∧ s.Entries.length <= 16) (by omega), Bool.true_and]
  unfold pendB
  by_cases hp : s.Pending = []
  · rw [if_neg (by rw [hp]; simp), if_pos hp]
    by_cases ha : s.Act = 0
    · rw [if_pos ha, decide_eq_true ha, Bool.and_true]
      exact hf
    · rw [if_neg ha, decide_eq_false ha, Bool.and_false]
  · have hp0 : (0 : Int) < ((s.Pending.length : Nat) : Int) := by
      have : s.Pending.length ≠ 0 := fun e => hp (List.eq_nil_of_length_eq_zero e)
      omega
    rw [if_pos hp0, if_neg hp]
    cases ho : s.Open with
    | false => simp
    | true =>
      dsimp only
      rw [specAd_eq (by omega), Option.bind_some]
      cases addrB s.Pending with
      | false => simp
      | true =>
        dsimp only
        by_cases a1 : s.Act < 1
        · rw [if_pos a1, decide_eq_false (p := 1 <= s.Act ∧ s.Act <= 4) (by omega)]; simp
        rw [if_neg a1]
        by_cases a2 : 4 < s.Act
        · rw [if_pos a2, decide_eq_false (p := 1 <= s.Act ∧ s.Act <= 4) (by omega)]; simp
        rw [if_neg a2, decide_eq_true (p := 1 <= s.Act ∧ s.Act <= 4) (by omega)]
        unfold S_q16
        rw [if_pos (by omega), Option.bind_some]
        have hh := findA_has s.Entries s.Pending 0
        by_cases hA : s.Act = 1
        · rw [if_pos hA, decide_eq_false (p := s.Act ≠ 1) (by omega)]
          cases hb : hasB s.Entries s.Pending with
          | true => rw [if_pos (hh.2 hb)]; simp
          | false => rw [if_neg (fun h => by rw [hh.1 h] at hb; cases hb)]; refine Eq.trans hf ?_; simp
        · rw [if_neg hA, decide_eq_true (p := s.Act ≠ 1) hA]
          cases hb : hasB s.Entries s.Pending with
          | true => rw [if_pos (hh.2 hb)]; refine Eq.trans hf ?_; simp
          | false => rw [if_neg (fun h => by rw [hh.1 h] at hb; cases hb)]; simp
theorem spec_q12 (a0 : GState) (r : Bool) (h : S_q12 a0 = some r) : ∃ n, T_q12 n a0 = some r := by
  unfold S_q12 at h
  obtain ⟨ha, h⟩ := need_c h
  exact ⟨_, by rw [<- h]; exact StateOk_val ha⟩
theorem ok_q12 : K_q12 S_q12 := fun a0 r h => (spec_q12 a0 r h).elim fun n hn => g_spec_StateOk n a0 r hn
def S_q25 (a0 : (List UInt8)) (a1 : (List UInt8)) : Option Int :=
 if Op.bytesLess a0 a1 = true then
  some (-1)
 else
 if Op.bytesLess a1 a0 = true then
  some 1
 else
 some 0
theorem ok_q25 (a0 : (List UInt8)) (a1 : (List UInt8)) : Oc (S_q25 a0 a1) 155 [] [vq e_u8 a0, vq e_u8 a1] fun r => (vi r, []) := tc (
 .bt a0 <|
 .bt a1 <|
 .bI a0 a1 (fun c1 =>
  .ret (-1)) fun c1 =>
 .bt a0 <|
 .bt a1 <|
 .bI a1 a0 (fun c2 =>
  .ret 1) fun c2 =>
 .ret 0) (fn_of Tryz.func155)
def S_q27 (a0 : Int) (a1 : Int) : Option Int :=
 if a0 < a1 then
  some (-1)
 else
 if a1 < a0 then
  some 1
 else
 some 0
theorem ok_q27 (a0 : Int) (a1 : Int) : Oc (S_q27 a0 a1) 154 [] [vi a0, vi a1] fun r => (vi r, []) := tc (
 .lI a0 a1 (fun c1 =>
  .ret (-1)) fun c1 =>
 .lI a1 a0 (fun c2 =>
  .ret 1) fun c2 =>
 .ret 0) (fn_of Tryz.func154)
def K_qz (F : GValue → GValue → Option Int) : Prop := ∀ (a0 : GValue) (a1 : GValue), Oc (F a0 a1) 109 [] [.val true (x_GValue a0), .val true (x_GValue a1)] fun r => (vi r, [])
def L_qz_l0 (G_spec_l2cmp : GValue → GValue → Option Int) (a0 : GValue) (a1 : GValue) : Nat → Int → Option (Int ⊕ Int)
  | 0, _ => none
  | m + 1, v0 =>
  if v0 < ((a0.L.length : Nat) : Int) then
   if v0 < ((a1.L.length : Nat) : Int) then
    if a0.Kind = 5 then
     (natO v0).bind fun i4 =>
     (a0.K[i4]?).bind fun x5 =>
     (a1.K[i4]?).bind fun x6 =>
     (S_q25 x5 x6).bind fun r7 =>
     if r7 = 0 then
      (a0.L[i4]?).bind fun x9 =>
      (a1.L[i4]?).bind fun x10 =>
      (G_spec_l2cmp x9 x10).bind fun r11 =>
      if r11 = 0 then
       L_qz_l0 G_spec_l2cmp a0 a1 m (w64 (v0 + 1))
      else
      some (.inl r11)
     else
     some (.inl r7)
    else
    (natO v0).bind fun i4 =>
    (a0.L[i4]?).bind fun x5 =>
    (a1.L[i4]?).bind fun x6 =>
    (G_spec_l2cmp x5 x6).bind fun r7 =>
    if r7 = 0 then
     L_qz_l0 G_spec_l2cmp a0 a1 m (w64 (v0 + 1))
    else
    some (.inl r7)
   else
   some (.inr v0)
  else
  some (.inr v0)
theorem gl_spec_l2cmp_l0 (G_spec_l2cmp : GValue → GValue → Option Int) (H_spec_l2cmp : K_qz G_spec_l2cmp) (a0 : GValue) (a1 : GValue) (m : Nat) : ∀ (v0 : Int), Ol (L_qz_l0 G_spec_l2cmp a0 a1 m v0) 109 (loopB Tryz.f109 0) ⟨[(2, vp 0 0), (3, vp 1 0), (5, vi v0)], [.var (x_GValue a0), .var (x_GValue a1)], 0⟩ fun o => match o with | .inl o_0 => (.ret, ⟨[(4, vi o_0)], [], 0⟩) | .inr (o_1) => (.exit 0, ⟨[(2, vp 0 0), (3, vp 1 0), (5, vi o_1), (47, vb false)], [.var (x_GValue a0), .var (x_GValue a1)], 0⟩) := by
  induction m with
  | zero => intro v0 o h; cases h
  | succ m ih => exact fun v0 => tlp (
   .le e_GValue a0.L <|
   .lI v0 ((a0.L.length : Nat) : Int) (fun c1 =>
    .le e_GValue a1.L <|
    .lI v0 ((a1.L.length : Nat) : Int) (fun c2 =>
     .eI a0.Kind 5 (fun c3 =>
      .na v0 fun i4 =>
      .ix0 (e_sl e_u8) a0.K i4 fun x5 =>
      .ag 1 <|
      .ix0 (e_sl e_u8) a1.K i4 fun x6 =>
      .cl (ok_q25 x5 x6) fun r7 =>
      .eI r7 0 (fun c8 =>
       .ag 3 <|
       .ix eq_GValue a0.L i4 fun x9 =>
       .ag 4 <|
       .ix eq_GValue a1.L i4 fun x10 =>
       .cl (H_spec_l2cmp x9 x10) fun r11 =>
       .eI r11 0 (fun c12 =>
        .go (ih (w64 (v0 + 1)))) fun c12 =>
       .ret (.inl r11)) fun c8 =>
      .ret (.inl r7)) fun c3 =>
     .na v0 fun i4 =>
     .ix eq_GValue a0.L i4 fun x5 =>
     .ag 1 <|
     .ix eq_GValue a1.L i4 fun x6 =>
     .cl (H_spec_l2cmp x5 x6) fun r7 =>
     .eI r7 0 (fun c8 =>
      .go (ih (w64 (v0 + 1)))) fun c8 =>
     .ret (.inl r7)) fun c2 =>
    .ret (.inr v0)) fun c1 =>
   .ret (.inr v0))
def T_qz (G_spec_l2cmp : GValue → GValue → Option Int) (n : Nat) (a0 : GValue) (a1 : GValue) : Option Int :=
 if a0.Kind = a1.Kind then
  if a0.Kind = 3 then
   (S_q25 a0.S a1.S).bind fun r3 =>
   some r3
  else
  if a0.N = a1.N then
   (L_qz_l0 G_spec_l2cmp a0 a1 n 0).bind fun o4 =>
   match o4 with
   | .inl o4_0 =>
    some o4_0
   | .inr (o4_1) =>
    (S_q27 ((a0.L.length : Nat) : Int) ((a1.L.length : Nat) : Int)).bind fun r5 =>
    some r5
  else
  (S_q27 a0.N a1.N).bind fun r4 =>
  some r4
 else
 (S_q27 a0.Kind a1.Kind).bind fun r2 =>
 some r2
theorem g_spec_l2cmp (G_spec_l2cmp : GValue → GValue → Option Int) (H_spec_l2cmp : K_qz G_spec_l2cmp) (n : Nat) : K_qz (T_qz G_spec_l2cmp n) := fun a0 a1 => tc (
 .eI a0.Kind a1.Kind (fun c1 =>
  .eI a0.Kind 3 (fun c2 =>
   .cl (ok_q25 a0.S a1.S) fun r3 =>
   .ret r3) fun c2 =>
  .eI a0.N a1.N (fun c3 =>
   .l2 (gl_spec_l2cmp_l0 G_spec_l2cmp H_spec_l2cmp a0 a1 n 0) (fun o4_0 =>
    .ret o4_0) fun o4_1 =>
   .le e_GValue a0.L <|
   .le e_GValue a1.L <|
   .cl (ok_q27 ((a0.L.length : Nat) : Int) ((a1.L.length : Nat) : Int)) fun r5 =>
   .ret r5) fun c3 =>
  .cl (ok_q27 a0.N a1.N) fun r4 =>
  .ret r4) fun c1 =>
 .cl (ok_q27 a0.Kind a1.Kind) fun r2 =>
 .ret r2) (fn_of Tryz.func109)
def U_qz : Nat → GValue → GValue → Option Int
  | 0, _, _ => none
  | n + 1, a0, a1 => T_qz (U_qz n) n a0 a1
theorem rec_spec_l2cmp (n : Nat) : K_qz (U_qz n) := by
  induction n with
  | zero => exact fun _ _ _ h => (by rw [U_qz] at h; cases h)
  | succ n ih =>
    have ih_spec_l2cmp := ih
    exact fun a0 a1 r h => g_spec_l2cmp (U_qz n) ih_spec_l2cmp n a0 a1 r (by rw [U_qz] at h; exact h)
def S_qz (a0 : GValue) (a1 : GValue) : Option Int := U_qz (vsz a0 + 3) a0 a1
theorem spec_qz (a0 : GValue) (a1 : GValue) (r : Int) (h : S_qz a0 a1 = some r) : ∃ n, U_qz n a0 a1 = some r := ⟨_, h⟩
theorem ok_qz : K_qz S_qz := by
  intro a0 a1 r h
  obtain ⟨n, hn⟩ := spec_qz a0 a1 r h
  exact (rec_spec_l2cmp n) a0 a1 r hn
def S_q1u (a0 : GValue) : Option Bool :=
 (S_qz a0 (GValue.mk 0 0 [] [] [])).bind fun r1 =>
 if r1 = 0 then
  some (decide (a0.N = 0))
 else
 some false
theorem ok_q1u (a0 : GValue) : Oc (S_q1u a0) 128 [] [.val true (x_GValue a0)] fun r => (vb r, []) := tc (
 .cl (ok_qz a0 (GValue.mk 0 0 [] [] [])) fun r1 =>
 .eI r1 0 (fun c2 =>
  .eD a0.N 0 <|
  .ret (decide (a0.N = 0))) fun c2 =>
 .ret false) (fn_of Tryz.func128)
def S_q2r (a0 : GEvent) : Option Bool :=
 if a0.Kind < 0 then
  some false
 else
 if 6 < a0.Kind then
  some false
 else
 if a0.Kind = 1 then
  if 0 < ((a0.Addr.length : Nat) : Int) then
   (S_q1k a0.Addr).bind fun r5 =>
   match r5 with
   | true =>
    if a0.Act < 1 then
     some false
    else
    if 4 < a0.Act then
     some false
    else
    (S_q1o a0.Val).bind fun r8 =>
    match r8 with
    | true =>
     (S_q1u a0.Val).bind fun r9 =>
     match r9 with
     | true =>
      some (decide (((a0.Deps.length : Nat) : Int) = 0))
     | false =>
      some false
    | false =>
     some false
   | false =>
    some false
  else
  some false
 else
 if a0.Kind = 2 then
  if 0 < ((a0.Addr.length : Nat) : Int) then
   (S_q1k a0.Addr).bind fun r6 =>
   match r6 with
   | true =>
    if a0.Act = 0 then
     (S_q26 a0.Val).bind fun r8 =>
     match r8 with
     | true =>
      (S_q14 a0.Deps).bind fun r9 =>
      some r9
     | false =>
      some false
    else
    some false
   | false =>
    some false
  else
  some false
 else
 if a0.Kind = 3 then
  if 0 < ((a0.Addr.length : Nat) : Int) then
   (S_q1k a0.Addr).bind fun r7 =>
   match r7 with
   | true =>
    if a0.Act = 0 then
     (S_q1o a0.Val).bind fun r9 =>
     match r9 with
     | true =>
      (S_q1u a0.Val).bind fun r10 =>
      match r10 with
      | true =>
       some (decide (((a0.Deps.length : Nat) : Int) = 0))
      | false =>
       some false
     | false =>
      some false
    else
    some false
   | false =>
    some false
  else
  some false
 else
 if a0.Kind = 4 then
  if 0 < ((a0.Addr.length : Nat) : Int) then
   (S_q1k a0.Addr).bind fun r8 =>
   match r8 with
   | true =>
    if a0.Act = 0 then
     (S_q1o a0.Val).bind fun r10 =>
     match r10 with
     | true =>
      (S_q1u a0.Val).bind fun r11 =>
      match r11 with
      | true =>
       some (decide (((a0.Deps.length : Nat) : Int) = 0))
      | false =>
       some false
     | false =>
      some false
    else
    some false
   | false =>
    some false
  else
  some false
 else
 if 0 < ((a0.Addr.length : Nat) : Int) then
  some false
 else
 if a0.Act = 0 then
  (S_q1o a0.Val).bind fun r9 =>
  match r9 with
  | true =>
   (S_q1u a0.Val).bind fun r10 =>
   match r10 with
   | true =>
    some (decide (((a0.Deps.length : Nat) : Int) = 0))
   | false =>
    some false
  | false =>
   some false
 else
 some false
theorem ok_q2r (a0 : GEvent) : Oc (S_q2r a0) 71 [] [.val true (x_GEvent a0)] fun r => (vb r, []) := tc (
 .lI a0.Kind 0 (fun c1 =>
  .ret false) fun c1 =>
 .lI 6 a0.Kind (fun c2 =>
  .ret false) fun c2 =>
 .eI a0.Kind 1 (fun c3 =>
  .le e_u8 a0.Addr <|
  .lD 0 ((a0.Addr.length : Nat) : Int) <|
  .sp (0 < ((a0.Addr.length : Nat) : Int)) (fun c4 =>
   .eb (a := true) (b := (decide (0 < ((a0.Addr.length : Nat) : Int)))) rfl (dT c4) <|
   .cl (ok_q1k a0.Addr) fun r5 =>
   .vN 4 r5 (
    .q (.eT c3) <|
    .lI a0.Act 1 (fun c6 =>
     .ret false) fun c6 =>
    .lI 4 a0.Act (fun c7 =>
     .ret false) fun c7 =>
    .q (.eFo a0.Kind 2 (by omega)) <|
    .cl (ok_q1o a0.Val) fun r8 =>
    .vM 0 r8 (
     .az 0 0 <|
     .az 0 0 <|
     .cl (ok_q1u a0.Val) fun r9 =>
     .az 0 1 <|
     .vM 0 r9 (
      .az 0 0 <|
      .az 0 0 <|
      .le (e_sl e_u8) a0.Deps <|
      .az 0 0 <|
      .eD ((a0.Deps.length : Nat) : Int) 0 <|
      .az 0 0 <|
      .ret (decide (((a0.Deps.length : Nat) : Int) = 0))) <|
     .az 0 0 <|
     .az 0 0 <|
     .az 0 0 <|
     .az 0 0 <|
     .ret false) <|
    .az 0 0 <|
    .az 0 0 <|
    .az 0 0 <|
    .ret false) <|
   .ret false) fun c4 =>
  .eb (a := true) (b := (decide (0 < ((a0.Addr.length : Nat) : Int)))) rfl (dF c4) <|
  .ret false) fun c3 =>
 .eI a0.Kind 2 (fun c4 =>
  .le e_u8 a0.Addr <|
  .lD 0 ((a0.Addr.length : Nat) : Int) <|
  .sp (0 < ((a0.Addr.length : Nat) : Int)) (fun c5 =>
   .eb (a := true) (b := (decide (0 < ((a0.Addr.length : Nat) : Int)))) rfl (dT c5) <|
   .cl (ok_q1k a0.Addr) fun r6 =>
   .vN 4 r6 (
    .q (.eF c3) <|
    .eI a0.Act 0 (fun c7 =>
     .q (.eT c4) <|
     .cl (ok_q26 a0.Val) fun r8 =>
     .vM 0 r8 (
      .az 0 0 <|
      .az 0 0 <|
      .cl (ok_q14 a0.Deps) fun r9 =>
      .az 0 1 <|
      .ret r9) <|
     .az 0 0 <|
     .az 0 0 <|
     .az 0 0 <|
     .ret false) fun c7 =>
    .ret false) <|
   .ret false) fun c5 =>
  .eb (a := true) (b := (decide (0 < ((a0.Addr.length : Nat) : Int)))) rfl (dF c5) <|
  .ret false) fun c4 =>
 .eI a0.Kind 3 (fun c5 =>
  .le e_u8 a0.Addr <|
  .lD 0 ((a0.Addr.length : Nat) : Int) <|
  .sp (0 < ((a0.Addr.length : Nat) : Int)) (fun c6 =>
   .eb (a := true) (b := (decide (0 < ((a0.Addr.length : Nat) : Int)))) rfl (dT c6) <|
   .cl (ok_q1k a0.Addr) fun r7 =>
   .vN 4 r7 (
    .q (.eF c3) <|
    .eI a0.Act 0 (fun c8 =>
     .q (.eF c4) <|
     .cl (ok_q1o a0.Val) fun r9 =>
     .vM 0 r9 (
      .az 0 0 <|
      .az 0 0 <|
      .cl (ok_q1u a0.Val) fun r10 =>
      .az 0 1 <|
      .vM 0 r10 (
       .az 0 0 <|
       .az 0 0 <|
       .le (e_sl e_u8) a0.Deps <|
       .az 0 0 <|
       .eD ((a0.Deps.length : Nat) : Int) 0 <|
       .az 0 0 <|
       .ret (decide (((a0.Deps.length : Nat) : Int) = 0))) <|
      .az 0 0 <|
      .az 0 0 <|
      .az 0 0 <|
      .az 0 0 <|
      .ret false) <|
     .az 0 0 <|
     .az 0 0 <|
     .az 0 0 <|
     .ret false) fun c8 =>
    .ret false) <|
   .ret false) fun c6 =>
  .eb (a := true) (b := (decide (0 < ((a0.Addr.length : Nat) : Int)))) rfl (dF c6) <|
  .ret false) fun c5 =>
 .eI a0.Kind 4 (fun c6 =>
  .le e_u8 a0.Addr <|
  .lD 0 ((a0.Addr.length : Nat) : Int) <|
  .sp (0 < ((a0.Addr.length : Nat) : Int)) (fun c7 =>
   .eb (a := true) (b := (decide (0 < ((a0.Addr.length : Nat) : Int)))) rfl (dT c7) <|
   .cl (ok_q1k a0.Addr) fun r8 =>
   .vN 4 r8 (
    .q (.eF c3) <|
    .eI a0.Act 0 (fun c9 =>
     .q (.eF c4) <|
     .cl (ok_q1o a0.Val) fun r10 =>
     .vM 0 r10 (
      .az 0 0 <|
      .az 0 0 <|
      .cl (ok_q1u a0.Val) fun r11 =>
      .az 0 1 <|
      .vM 0 r11 (
       .az 0 0 <|
       .az 0 0 <|
       .le (e_sl e_u8) a0.Deps <|
       .az 0 0 <|
       .eD ((a0.Deps.length : Nat) : Int) 0 <|
       .az 0 0 <|
       .ret (decide (((a0.Deps.length : Nat) : Int) = 0))) <|
      .az 0 0 <|
      .az 0 0 <|
      .az 0 0 <|
      .az 0 0 <|
      .ret false) <|
     .az 0 0 <|
     .az 0 0 <|
     .az 0 0 <|
     .ret false) fun c9 =>
    .ret false) <|
   .ret false) fun c7 =>
  .eb (a := true) (b := (decide (0 < ((a0.Addr.length : Nat) : Int)))) rfl (dF c7) <|
  .ret false) fun c6 =>
 .le e_u8 a0.Addr <|
 .lD 0 ((a0.Addr.length : Nat) : Int) <|
 .sp (0 < ((a0.Addr.length : Nat) : Int)) (fun c7 =>
  .eb (a := false) (b := (decide (0 < ((a0.Addr.length : Nat) : Int)))) rfl (dT c7) <|
  .ret false) fun c7 =>
 .eb (a := false) (b := (decide (0 < ((a0.Addr.length : Nat) : Int)))) rfl (dF c7) <|
 .q (.eF c3) <|
 .eI a0.Act 0 (fun c8 =>
  .q (.eF c4) <|
  .cl (ok_q1o a0.Val) fun r9 =>
  .vM 0 r9 (
   .az 0 0 <|
   .az 0 0 <|
   .cl (ok_q1u a0.Val) fun r10 =>
   .az 0 1 <|
   .vM 0 r10 (
    .az 0 0 <|
    .az 0 0 <|
    .le (e_sl e_u8) a0.Deps <|
    .az 0 0 <|
    .eD ((a0.Deps.length : Nat) : Int) 0 <|
    .az 0 0 <|
    .ret (decide (((a0.Deps.length : Nat) : Int) = 0))) <|
   .az 0 0 <|
   .az 0 0 <|
   .az 0 0 <|
   .az 0 0 <|
   .ret false) <|
  .az 0 0 <|
  .az 0 0 <|
  .az 0 0 <|
  .ret false) fun c8 =>
 .ret false) (fn_of Tryz.func71)
def S_q2x (a0 : GState) (a1 : GEvent) : Option Bool :=
 if 1000000 <= a0.Serial then
  some false
 else
 if a1.Kind = 0 then
  some (!a0.Open)
 else
 if a1.Kind = 1 then
  (S_q16 a0 a1.Addr).bind fun r4 =>
  match a0.Open with
  | true =>
   if 0 < ((a0.Pending.length : Nat) : Int) then
    some false
   else
   if a1.Act = 1 then
    if 0 <= r4 then
     some false
    else
    some (decide (((a0.Entries.length : Nat) : Int) < 16))
   else
   if 0 <= r4 then
    some true
   else
   some false
  | false =>
   some false
 else
 if a1.Kind = 2 then
  if 0 < ((a0.Pending.length : Nat) : Int) then
   if a0.Pending = a1.Addr then
    some (!(decide (a0.Act = 4)))
   else
   some false
  else
  some false
 else
 if a1.Kind = 3 then
  if 0 < ((a0.Pending.length : Nat) : Int) then
   if a0.Pending = a1.Addr then
    some (decide (a0.Act = 4))
   else
   some false
  else
  some false
 else
 if a1.Kind = 4 then
  if 0 < ((a0.Pending.length : Nat) : Int) then
   some (decide (a0.Pending = a1.Addr))
  else
  some false
 else
 if a1.Kind = 5 then
  match a0.Open with
  | true =>
   some (!(decide (0 < ((a0.Pending.length : Nat) : Int))))
  | false =>
   some false
 else
 some a0.Open
theorem ok_q2x (a0 : GState) (a1 : GEvent) : Oc (S_q2x a0 a1) 72 [] [.val true (x_GState a0), .val true (x_GEvent a1)] fun r => (vb r, []) := tc (
 .le e_u8 a0.Pending <|
 .lD 0 ((a0.Pending.length : Nat) : Int) <|
 .gI 1000000 a0.Serial (fun c1 =>
  .ret false) fun c1 =>
 .eI a1.Kind 0 (fun c2 =>
  .ret (!a0.Open)) fun c2 =>
 .eI a1.Kind 1 (fun c3 =>
  .cl (ok_q16 a0 a1.Addr) fun r4 =>
  .gD 0 r4 <|
  .vM 0 a0.Open (
   .az 0 0 <|
   .az 0 0 <|
   .cN 0 (0 < ((a0.Pending.length : Nat) : Int)) (fun c5 =>
    .kF 0 (nT (dT c5)) <|
    .kF 0 (nT (dT c5)) <|
    .kF 0 (nT (dT c5)) <|
    .kF 0 (nT (dT c5)) <|
    .kF 0 (nT (dT c5)) <|
    .ret false) fun c5 =>
   .kT 0 (nF (dF c5)) <|
   .kT 0 (nF (dF c5)) <|
   .eI a1.Act 1 (fun c6 =>
    .kT 0 (nF (dF c5)) <|
    .kT 0 (nF (dF c5)) <|
    .sp (0 <= r4) (fun c7 =>
     .eb (a := true) (b := (decide (0 <= r4))) rfl (dT c7) <|
     .kT 0 (nF (dF c5)) <|
     .ret false) fun c7 =>
    .eb (a := true) (b := (decide (0 <= r4))) rfl (dF c7) <|
    .kT 0 (nF (dF c5)) <|
    .kF 2 (dF c7) <|
    .kF 0 (dF c7) <|
    .kF 0 (dF c7) <|
    .le e_GEntry a0.Entries <|
    .kF 0 (dF c7) <|
    .lD ((a0.Entries.length : Nat) : Int) 16 <|
    .kF 1 (dF c7) <|
    .ret (decide (((a0.Entries.length : Nat) : Int) < 16))) fun c6 =>
   .kT 0 (nF (dF c5)) <|
   .kT 0 (nF (dF c5)) <|
   .sp (0 <= r4) (fun c7 =>
    .eb (a := false) (b := (decide (0 <= r4))) rfl (dT c7) <|
    .kT 0 (nF (dF c5)) <|
    .kT 2 (dT c7) <|
    .kT 0 (dT c7) <|
    .kT 0 (dT c7) <|
    .kT 0 (dT c7) <|
    .kT 1 (dT c7) <|
    .ret true) fun c7 =>
   .eb (a := false) (b := (decide (0 <= r4))) rfl (dF c7) <|
   .kT 0 (nF (dF c5)) <|
   .ret false) <|
  .az 0 0 <|
  .az 0 0 <|
  .ret false) fun c3 =>
 .eI a1.Kind 2 (fun c4 =>
  .cI 1 (0 < ((a0.Pending.length : Nat) : Int)) (fun c5 =>
   .kT 0 (dT c5) <|
   .kT 0 (dT c5) <|
   .bt a0.Pending <|
   .kT 0 (dT c5) <|
   .kT 0 (dT c5) <|
   .kT 0 (dT c5) <|
   .bt a1.Addr <|
   .kT 0 (dT c5) <|
   .sD a0.Pending a1.Addr <|
   .kT 0 (dT c5) <|
   .cI 0 (a0.Pending = a1.Addr) (fun c6 =>
    .kT 0 (dT c6) <|
    .kT 0 (dT c6) <|
    .eD a0.Act 4 <|
    .kT 0 (dT c6) <|
    .ret (!(decide (a0.Act = 4)))) fun c6 =>
   .kF 0 (dF c6) <|
   .kF 0 (dF c6) <|
   .kF 0 (dF c6) <|
   .ret false) fun c5 =>
  .kF 0 (dF c5) <|
  .kF 0 (dF c5) <|
  .kF 0 (dF c5) <|
  .kF 0 (dF c5) <|
  .kF 0 (dF c5) <|
  .kF 0 (dF c5) <|
  .kF 0 (dF c5) <|
  .ret false) fun c4 =>
 .eI a1.Kind 3 (fun c5 =>
  .cI 1 (0 < ((a0.Pending.length : Nat) : Int)) (fun c6 =>
   .kT 0 (dT c6) <|
   .kT 0 (dT c6) <|
   .bt a0.Pending <|
   .kT 0 (dT c6) <|
   .kT 0 (dT c6) <|
   .kT 0 (dT c6) <|
   .bt a1.Addr <|
   .kT 0 (dT c6) <|
   .sD a0.Pending a1.Addr <|
   .kT 0 (dT c6) <|
   .cI 0 (a0.Pending = a1.Addr) (fun c7 =>
    .kT 0 (dT c7) <|
    .kT 0 (dT c7) <|
    .eD a0.Act 4 <|
    .kT 0 (dT c7) <|
    .ret (decide (a0.Act = 4))) fun c7 =>
   .kF 0 (dF c7) <|
   .kF 0 (dF c7) <|
   .kF 0 (dF c7) <|
   .ret false) fun c6 =>
  .kF 0 (dF c6) <|
  .kF 0 (dF c6) <|
  .kF 0 (dF c6) <|
  .kF 0 (dF c6) <|
  .kF 0 (dF c6) <|
  .kF 0 (dF c6) <|
  .kF 0 (dF c6) <|
  .ret false) fun c5 =>
 .eI a1.Kind 4 (fun c6 =>
  .cI 1 (0 < ((a0.Pending.length : Nat) : Int)) (fun c7 =>
   .kT 0 (dT c7) <|
   .kT 0 (dT c7) <|
   .bt a0.Pending <|
   .kT 0 (dT c7) <|
   .kT 0 (dT c7) <|
   .kT 0 (dT c7) <|
   .bt a1.Addr <|
   .kT 0 (dT c7) <|
   .sD a0.Pending a1.Addr <|
   .kT 0 (dT c7) <|
   .ret (decide (a0.Pending = a1.Addr))) fun c7 =>
  .kF 0 (dF c7) <|
  .kF 0 (dF c7) <|
  .kF 0 (dF c7) <|
  .kF 0 (dF c7) <|
  .kF 0 (dF c7) <|
  .kF 0 (dF c7) <|
  .kF 0 (dF c7) <|
  .ret false) fun c6 =>
 .eI a1.Kind 5 (fun c7 =>
  .vM 1 a0.Open (
   .az 0 0 <|
   .az 0 0 <|
   .ret (!(decide (0 < ((a0.Pending.length : Nat) : Int))))) <|
  .az 0 0 <|
  .az 0 0 <|
  .ret false) fun c7 =>
 .ret a0.Open) (fn_of Tryz.func72)
def K_qd (F : GValue → Option GValue) : Prop := ∀ (a0 : GValue), Oc (F a0) 151 [] [.val true (x_GValue a0)] fun r => (.val true (y_GValue r), [])
def L_qd_l0 (G_spec_l2own : GValue → Option GValue) (a0 : GValue) (v2 : Int) (v3 : Int) (v4 : Int) (v5 : Int) (v6 : (List UInt8)) (v7 : (List (List UInt8))) (v8 : (List GValue)) (v9 : (List UInt8)) (v11 : (List GValue)) : Nat → Int → (List (List UInt8)) → Option (Int × (List (List UInt8)))
  | 0, _, _ => none
  | m + 1, v0, v10 =>
  if v0 < ((a0.K.length : Nat) : Int) then
   (natO v0).bind fun i2 =>
   (a0.K[i2]?).bind fun x3 =>
   if roomP 1 (0 + x3.length) then
   if roomP 24 (v10.length + [x3].length) then
   L_qd_l0 G_spec_l2own a0 v2 v3 v4 v5 v6 v7 v8 v9 v11 m (w64 (v0 + 1)) (v10 ++ [x3])
   else none
   else none
  else
  some (v0, v10)
theorem gl_spec_l2own_l0 (G_spec_l2own : GValue → Option GValue) (H_spec_l2own : K_qd G_spec_l2own) (a0 : GValue) (v2 : Int) (v3 : Int) (v4 : Int) (v5 : Int) (v6 : (List UInt8)) (v7 : (List (List UInt8))) (v8 : (List GValue)) (v9 : (List UInt8)) (v11 : (List GValue)) (m : Nat) : ∀ (v0 : Int) (v10 : (List (List UInt8))), Ol (L_qd_l0 G_spec_l2own a0 v2 v3 v4 v5 v6 v7 v8 v9 v11 m v0 v10) 151 (loopB Tryz.f151 0) ⟨[(1, vp 0 0), (2, vp 1 0), (3, vp 2 0), (4, vi v0)], [.var (x_GValue a0), .var [ci v2, ci v3, .ref 3, .ref 4, .ref 5], .var [ci v4, ci v5, .ref 6, .ref 7, .ref 8], .obj 1 (eL e_u8 v6), .obj 1 (eL (o_sl 1 e_u8) v7), .obj 5 (eL o_GValue v8), .obj 1 (eL e_u8 v9), .obj 1 (eL (o_sl 1 e_u8) v10), .obj 5 (eL o_GValue v11)], 0⟩ fun o => match o with | ⟨o_0, o_1⟩ => (.exit 0, ⟨[(1, vp 0 0), (2, vp 1 0), (3, vp 2 0), (4, vi o_0), (19, vb false)], [.var (x_GValue a0), .var [ci v2, ci v3, .ref 3, .ref 4, .ref 5], .var [ci v4, ci v5, .ref 6, .ref 7, .ref 8], .obj 1 (eL e_u8 v6), .obj 1 (eL (o_sl 1 e_u8) v7), .obj 5 (eL o_GValue v8), .obj 1 (eL e_u8 v9), .obj 1 (eL (o_sl 1 e_u8) o_1), .obj 5 (eL o_GValue v11)], 0⟩) := by
  induction m with
  | zero => intro v0 v10 o h; cases h
  | succ m ih => exact fun v0 v10 => tlp (
   .le (e_sl e_u8) a0.K <|
   .lI v0 ((a0.K.length : Nat) : Int) (fun c1 =>
    .na v0 fun i2 =>
    .ix0 (e_sl e_u8) a0.K i2 fun x3 =>
    .ap 1 E_u8 [] x3 fun n4 =>
    .ao 24 (O_sl 1 O_u8) v10 [x3] fun n5 =>
    .go (ih (w64 (v0 + 1)) (v10 ++ [x3]))) fun c1 =>
   .ret (v0, v10))
def L_qd_l1 (G_spec_l2own : GValue → Option GValue) (a0 : GValue) (v2 : Int) (v3 : Int) (v4 : Int) (v5 : Int) (v6 : (List UInt8)) (v7 : (List (List UInt8))) (v8 : (List GValue)) (v9 : (List UInt8)) (v10 : (List (List UInt8))) : Nat → Int → (List GValue) → Option (Int × (List GValue))
  | 0, _, _ => none
  | m + 1, v0, v11 =>
  if v0 < ((a0.L.length : Nat) : Int) then
   (natO v0).bind fun i2 =>
   (a0.L[i2]?).bind fun x3 =>
   (G_spec_l2own x3).bind fun r4 =>
   if roomP 88 (v11.length + [r4].length) then
   L_qd_l1 G_spec_l2own a0 v2 v3 v4 v5 v6 v7 v8 v9 v10 m (w64 (v0 + 1)) (v11 ++ [r4])
   else none
  else
  some (v0, v11)
theorem gl_spec_l2own_l1 (G_spec_l2own : GValue → Option GValue) (H_spec_l2own : K_qd G_spec_l2own) (a0 : GValue) (v2 : Int) (v3 : Int) (v4 : Int) (v5 : Int) (v6 : (List UInt8)) (v7 : (List (List UInt8))) (v8 : (List GValue)) (v9 : (List UInt8)) (v10 : (List (List UInt8))) (m : Nat) : ∀ (v0 : Int) (v11 : (List GValue)), Ol (L_qd_l1 G_spec_l2own a0 v2 v3 v4 v5 v6 v7 v8 v9 v10 m v0 v11) 151 (loopB Tryz.f151 1) ⟨[(1, vp 0 0), (2, vp 1 0), (3, vp 2 0), (5, vi v0)], [.var (x_GValue a0), .var [ci v2, ci v3, .ref 3, .ref 4, .ref 5], .var [ci v4, ci v5, .ref 6, .ref 7, .ref 8], .obj 1 (eL e_u8 v6), .obj 1 (eL (o_sl 1 e_u8) v7), .obj 5 (eL o_GValue v8), .obj 1 (eL e_u8 v9), .obj 1 (eL (o_sl 1 e_u8) v10), .obj 5 (eL o_GValue v11)], 0⟩ fun o => match o with | ⟨o_0, o_1⟩ => (.exit 2, ⟨[(1, vp 0 0), (2, vp 1 0), (3, vp 2 0), (5, vi o_0), (38, vb false)], [.var (x_GValue a0), .var [ci v2, ci v3, .ref 3, .ref 4, .ref 5], .var [ci v4, ci v5, .ref 6, .ref 7, .ref 8], .obj 1 (eL e_u8 v6), .obj 1 (eL (o_sl 1 e_u8) v7), .obj 5 (eL o_GValue v8), .obj 1 (eL e_u8 v9), .obj 1 (eL (o_sl 1 e_u8) v10), .obj 5 (eL o_GValue o_1)], 0⟩) := by
  induction m with
  | zero => intro v0 v11 o h; cases h
  | succ m ih => exact fun v0 v11 => tlp (
   .le e_GValue a0.L <|
   .lI v0 ((a0.L.length : Nat) : Int) (fun c1 =>
    .na v0 fun i2 =>
    .ix eq_GValue a0.L i2 fun x3 =>
    .cl (H_spec_l2own x3) fun r4 =>
    .nd (roomP 88 (v11.length + [r4].length)) fun n5 =>
    .q ⟨.room 88 (eL o_GValue v11) ([(y_GValue r4)] : List (List C)), .b true, by rw [(show ([(y_GValue r4)] : List (List C)) = eL o_GValue [r4] from (raw_cons (oeq_GValue r4) raw_nil))]; exact (A.room n5)⟩ <|
    .q ⟨.uni 5 ([(y_GValue r4)] : List (List C)), .b true, by rw [(show ([(y_GValue r4)] : List (List C)) = eL o_GValue [r4] from (raw_cons (oeq_GValue r4) raw_nil))]; exact (A.uniO O_GValue)⟩ <|
    .q ⟨.app (eL o_GValue v11) ([(y_GValue r4)] : List (List C)), .l (eL o_GValue (v11 ++ [r4])), by rw [(show ([(y_GValue r4)] : List (List C)) = eL o_GValue [r4] from (raw_cons (oeq_GValue r4) raw_nil))]; exact A.app⟩ <|
    .go (ih (w64 (v0 + 1)) (v11 ++ [r4]))) fun c1 =>
   .ret (v0, v11))
def T_qd (G_spec_l2own : GValue → Option GValue) (n : Nat) (a0 : GValue) : Option GValue :=
 if roomP 1 (0 + a0.S.length) then
 (L_qd_l0 G_spec_l2own a0 0 0 a0.Kind a0.N [] [] [] a0.S [] n 0 []).bind fun ⟨o2_0, o2_1⟩ =>
 (L_qd_l1 G_spec_l2own a0 0 0 a0.Kind a0.N [] [] [] a0.S o2_1 n 0 []).bind fun ⟨o3_0, o3_1⟩ =>
 some (GValue.mk a0.Kind a0.N a0.S o2_1 o3_1)
 else none
theorem g_spec_l2own (G_spec_l2own : GValue → Option GValue) (H_spec_l2own : K_qd G_spec_l2own) (n : Nat) : K_qd (T_qd G_spec_l2own n) := fun a0 => tc (
 .ap 1 E_u8 [] a0.S fun n1 =>
 .lp (gl_spec_l2own_l0 G_spec_l2own H_spec_l2own a0 0 0 a0.Kind a0.N [] [] [] a0.S [] n 0 []) fun ⟨o2_0, o2_1⟩ =>
 .lp (gl_spec_l2own_l1 G_spec_l2own H_spec_l2own a0 0 0 a0.Kind a0.N [] [] [] a0.S o2_1 n 0 []) fun ⟨o3_0, o3_1⟩ =>
 .ret (GValue.mk a0.Kind a0.N a0.S o2_1 o3_1)) (fn_of Tryz.func151)
def U_qd : Nat → GValue → Option GValue
  | 0, _ => none
  | n + 1, a0 => T_qd (U_qd n) n a0
theorem rec_spec_l2own (n : Nat) : K_qd (U_qd n) := by
  induction n with
  | zero => exact fun _ _ h => (by rw [U_qd] at h; cases h)
  | succ n ih =>
    have ih_spec_l2own := ih
    exact fun a0 r h => g_spec_l2own (U_qd n) ih_spec_l2own n a0 r (by rw [U_qd] at h; exact h)
theorem l2own_loop0 {G : GValue → Option GValue} {a : GValue} {v2 v3 v4 v5 : Int} {v6 : List UInt8} {v7 : List (List UInt8)} {v8 : List GValue} {v9 : List UInt8} {v11 : List GValue} (ha : bsz a.K <= 2 ^ 39) : ∀ (l p : List (List UInt8)) (m : Nat), a.K = p ++ l → l.length < m → ∃ z, L_qd_l0 G a v2 v3 v4 v5 v6 v7 v8 v9 v11 m ((p.length : Nat) : Int) p = some (z, a.K) := by
  have hl := bsz_len a.K
  intro l
  induction l with
  | nil =>
    intro p m he hm
    obtain ⟨m, rfl, _⟩ := fuel hm
    exact ⟨_, by rw [L_qd_l0, he, if_neg (nlt_end p)]; simp; rfl⟩
  | cons x l ih =>
    intro p m he hm
    obtain ⟨m, rfl, hm'⟩ := fuel hm
    have hx : 1 + x.length <= bsz a.K := bsz_mem (by rw [he]; simp)
    have hlen : a.K.length = p.length + (l.length + 1) := by rw [he]; simp
    obtain ⟨z, hz⟩ := ih (p ++ [x]) m (by rw [he]; simp) (by simp only [List.length_cons] at hm'; omega)
    refine ⟨z, ?_⟩
    rw [L_qd_l0, if_pos (by rw [he]; exact lt_mid p x l), natO_nat, Option.bind_some, show a.K[p.length]? = some x by rw [he]; exact get_mid p x l, Option.bind_some, if_pos (room_ok (by decide) (by omega)), if_pos (room_ok (by decide) (by simp only [List.length_cons, List.length_nil]; omega)), w64_len p x (by omega), hz]
theorem l2own_loop1 {G : GValue → Option GValue} {a : GValue} {v2 v3 v4 v5 : Int} {v6 : List UInt8} {v7 : List (List UInt8)} {v8 : List GValue} {v9 : List UInt8} {v10 : List (List UInt8)} (ha : vszs a.L <= 2 ^ 39) : ∀ (l p : List GValue) (m : Nat), a.L = p ++ l → (∀ x ∈ l, G x = some x) → l.length < m → ∃ z, L_qd_l1 G a v2 v3 v4 v5 v6 v7 v8 v9 v10 m ((p.length : Nat) : Int) p = some (z, a.L) := by
  have hl := vszs_len a.L
  intro l
  induction l with
  | nil =>
    intro p m he _ hm
    obtain ⟨m, rfl, _⟩ := fuel hm
    exact ⟨_, by rw [L_qd_l1, he, if_neg (nlt_end p)]; simp; rfl⟩
  | cons x l ih =>
    intro p m he hG hm
    obtain ⟨m, rfl, hm'⟩ := fuel hm
    have hlen : a.L.length = p.length + (l.length + 1) := by rw [he]; simp
    obtain ⟨z, hz⟩ := ih (p ++ [x]) m (by rw [he]; simp) (fun y hy => hG y (List.mem_cons_of_mem _ hy)) (by simp only [List.length_cons] at hm'; omega)
    refine ⟨z, ?_⟩
    rw [L_qd_l1, if_pos (by omega), natO_nat, Option.bind_some, show a.L[p.length]? = some x by rw [he]; exact get_mid p x l, Option.bind_some, hG x List.mem_cons_self, Option.bind_some, if_pos (room_ok (by decide) (by simp only [List.length_cons, List.length_nil]; omega)), w64_len p x (by omega), hz]
theorem l2own_U : ∀ (N : Nat) (v : GValue), vsz v < N → vsz v <= 2 ^ 39 → ∀ f : Nat, vsz v + 2 <= f → U_qd f v = some v := by
  intro N
  induction N with
  | zero => intro v hv; omega
  | succ N ih =>
    intro v hv hs f hf
    obtain ⟨f, rfl, _⟩ := fuel (show 0 < f by omega)
    have he := vsz_eq v
    have hl := vszs_len v.L
    have hb := bsz_len v.K
    rw [U_qd]
    unfold T_qd
    rw [if_pos (room_ok (by decide) (by omega))]
    obtain ⟨y, hy⟩ := l2own_loop0 (G := U_qd f) (a := v) (v2 := 0) (v3 := 0) (v4 := v.Kind) (v5 := v.N) (v6 := []) (v7 := []) (v8 := []) (v9 := v.S) (v11 := []) (by omega) v.K [] f rfl (by omega)
    simp only [List.length_nil, Int.natCast_zero] at hy
    rw [hy, Option.bind_some]
    dsimp only
    obtain ⟨z, hz⟩ := l2own_loop1 (G := U_qd f) (a := v) (v2 := 0) (v3 := 0) (v4 := v.Kind) (v5 := v.N) (v6 := []) (v7 := []) (v8 := []) (v9 := v.S) (v10 := v.K) (by omega) v.L [] f rfl (fun x hx => by
      have := vszs_mem hx
      exact ih x (by omega) (by omega) f (by omega)) (by omega)
    simp only [List.length_nil, Int.natCast_zero] at hz
    rw [hz]
    exact congrArg some (GValue.eta v)
def S_qd (a0 : GValue) : Option GValue := if vsz a0 <= 2 ^ 39 then some a0 else none
theorem spec_qd (a0 : GValue) (r : GValue) (h : S_qd a0 = some r) : ∃ n, U_qd n a0 = some r := by
  unfold S_qd at h
  obtain ⟨ha, h⟩ := need_c h
  exact ⟨vsz a0 + 2, by rw [<- h]; exact l2own_U _ a0 (Nat.lt_succ_self _) ha _ (Nat.le_refl _)⟩
theorem ok_qd : K_qd S_qd := by
  intro a0 r h
  obtain ⟨n, hn⟩ := spec_qd a0 r h
  exact (rec_spec_l2own n) a0 r hn
def K_qy (F : (List (List UInt8)) → Option (List (List UInt8))) : Prop := ∀ (a0 : (List (List UInt8))), Oc (F a0) 117 [] [vq (e_sl e_u8) a0] fun r => (.val false [.own 1 (eL (o_sl 1 e_u8) r)], [])
def L_qy_l0 (a0 : (List (List UInt8))) : Nat → Int → (List (List UInt8)) → Option (Int × (List (List UInt8)))
  | 0, _, _ => none
  | m + 1, v1, v2 =>
  if v1 < ((a0.length : Nat) : Int) then
   (natO v1).bind fun i2 =>
   (a0[i2]?).bind fun x3 =>
   if roomP 1 (0 + x3.length) then
   if roomP 24 (v2.length + [x3].length) then
   L_qy_l0 a0 m (w64 (v1 + 1)) (v2 ++ [x3])
   else none
   else none
  else
  some (v1, v2)
theorem gl_spec_l4ownAddrs_l0 (a0 : (List (List UInt8))) (m : Nat) : ∀ (v1 : Int) (v2 : (List (List UInt8))), Ol (L_qy_l0 a0 m v1 v2) 117 (loopB Tryz.f117 0) ⟨[(0, vq (e_sl e_u8) a0), (3, vr 0), (4, vi v1)], [.obj 1 (eL (o_sl 1 e_u8) v2)], 0⟩ fun o => match o with | ⟨o_0, o_1⟩ => (.exit 0, ⟨[(0, vq (e_sl e_u8) a0), (3, vr 0), (4, vi o_0), (8, vb false)], [.obj 1 (eL (o_sl 1 e_u8) o_1)], 0⟩) := by
  induction m with
  | zero => intro v1 v2 o h; cases h
  | succ m ih => exact fun v1 v2 => tlp (
   .le (e_sl e_u8) a0 <|
   .lI v1 ((a0.length : Nat) : Int) (fun c1 =>
    .na v1 fun i2 =>
    .ix0 (e_sl e_u8) a0 i2 fun x3 =>
    .ap 1 E_u8 [] x3 fun n4 =>
    .ao 24 (O_sl 1 O_u8) v2 [x3] fun n5 =>
    .go (ih (w64 (v1 + 1)) (v2 ++ [x3]))) fun c1 =>
   .ret (v1, v2))
def T_qy (n : Nat) (a0 : (List (List UInt8))) : Option (List (List UInt8)) :=
 (L_qy_l0 a0 n 0 []).bind fun ⟨o1_0, o1_1⟩ =>
 some o1_1
theorem g_spec_l4ownAddrs (n : Nat) : K_qy (T_qy n) := fun a0 => tc (
 .lp (gl_spec_l4ownAddrs_l0 a0 n 0 []) fun ⟨o1_0, o1_1⟩ =>
 .ret o1_1) (fn_of Tryz.func117)
theorem l4own_loop {a : List (List UInt8)} (ha : bsz a <= 2 ^ 39) : ∀ (l p : List (List UInt8)) (m : Nat), a = p ++ l → l.length < m → ∃ z, L_qy_l0 a m ((p.length : Nat) : Int) p = some (z, a) := by
  have hl := bsz_len a
  intro l
  induction l with
  | nil =>
    intro p m he hm
    subst he
    obtain ⟨m, rfl, _⟩ := fuel hm
    exact ⟨_, by rw [L_qy_l0, if_neg (nlt_end p)]; simp; rfl⟩
  | cons x l ih =>
    intro p m he hm
    obtain ⟨m, rfl, hm'⟩ := fuel hm
    have hx : 1 + x.length <= bsz a := bsz_mem (by rw [he]; simp)
    have hlen : a.length = p.length + (l.length + 1) := by rw [he]; simp
    obtain ⟨z, hz⟩ := ih (p ++ [x]) m (by rw [he]; simp) (by simp only [List.length_cons] at hm'; omega)
    refine ⟨z, ?_⟩
    rw [L_qy_l0, if_pos (by rw [he]; exact lt_mid p x l), natO_nat, Option.bind_some, show a[p.length]? = some x by rw [he]; exact get_mid p x l, Option.bind_some, if_pos (room_ok (by decide) (by omega)), if_pos (room_ok (by decide) (by simp only [List.length_cons, List.length_nil]; omega)), w64_len p x (by omega), hz]
def S_qy (a0 : (List (List UInt8))) : Option (List (List UInt8)) := if bsz a0 <= 2 ^ 39 then some a0 else none
theorem spec_qy (a0 : (List (List UInt8))) (r : (List (List UInt8))) (h : S_qy a0 = some r) : ∃ n, T_qy n a0 = some r := by
  unfold S_qy at h
  obtain ⟨ha, h⟩ := need_c h
  obtain ⟨z, hz⟩ := l4own_loop ha a0 [] (a0.length + 1) rfl (by omega)
  refine ⟨a0.length + 1, ?_⟩
  unfold T_qy
  simp only [List.length_nil, Int.natCast_zero] at hz
  rw [hz]; exact h
theorem ok_qy : K_qy S_qy := fun a0 r h => (spec_qy a0 r h).elim fun n hn => g_spec_l4ownAddrs n a0 r hn
def S_q2d (a0 : GEntry) : Option GEntry :=
 if roomP 1 (0 + a0.Addr.length) then
 (S_qd a0.Val).bind fun r2 =>
 (S_qy a0.Deps).bind fun r3 =>
 some (GEntry.mk a0.Addr r2 r3 a0.Taint a0.Turned)
 else none
theorem ok_q2d (a0 : GEntry) : Oc (S_q2d a0) 129 [] [.val true (x_GEntry a0)] fun r => (.val true (y_GEntry r), []) := tc (
 .ap 1 E_u8 [] a0.Addr fun n1 =>
 .cl (ok_qd a0.Val) fun r2 =>
 .cl (ok_qy a0.Deps) fun r3 =>
 .ret (GEntry.mk a0.Addr r2 r3 a0.Taint a0.Turned)) (fn_of Tryz.func129)
def K_q1d (F : GState → Option GState) : Prop := ∀ (a0 : GState), Oc (F a0) 73 [] [.val true (x_GState a0)] fun r => (.val true (y_GState r), [])
def L_q1d_l0 (a0 : GState) (v2 : Int) (v3 : Bool) (v4 : Int) (v5 : Int) (v6 : Bool) (v7 : Int) (v8 : (List UInt8)) (v9 : (List GEntry)) (v10 : (List UInt8)) : Nat → Int → (List GEntry) → Option (Int × (List GEntry))
  | 0, _, _ => none
  | m + 1, v0, v11 =>
  if v0 < ((a0.Entries.length : Nat) : Int) then
   (natO v0).bind fun i2 =>
   (a0.Entries[i2]?).bind fun x3 =>
   (S_q2d x3).bind fun r4 =>
   if roomP 152 (v11.length + [r4].length) then
   L_q1d_l0 a0 v2 v3 v4 v5 v6 v7 v8 v9 v10 m (w64 (v0 + 1)) (v11 ++ [r4])
   else none
  else
  some (v0, v11)
theorem gl_spec_l4own_l0 (a0 : GState) (v2 : Int) (v3 : Bool) (v4 : Int) (v5 : Int) (v6 : Bool) (v7 : Int) (v8 : (List UInt8)) (v9 : (List GEntry)) (v10 : (List UInt8)) (m : Nat) : ∀ (v0 : Int) (v11 : (List GEntry)), Ol (L_q1d_l0 a0 v2 v3 v4 v5 v6 v7 v8 v9 v10 m v0 v11) 73 (loopB Tryz.f73 0) ⟨[(1, vp 0 0), (2, vp 1 0), (3, vp 2 0), (4, vi v0)], [.var (x_GState a0), .var [ci v2, .bool v3, .ref 3, ci v4, .ref 4], .var [ci v5, .bool v6, .ref 5, ci v7, .ref 6], .obj 1 (eL e_u8 v8), .obj 9 (eL o_GEntry v9), .obj 1 (eL e_u8 v10), .obj 9 (eL o_GEntry v11)], 0⟩ fun o => match o with | ⟨o_0, o_1⟩ => (.exit 0, ⟨[(1, vp 0 0), (2, vp 1 0), (3, vp 2 0), (4, vi o_0), (20, vb false)], [.var (x_GState a0), .var [ci v2, .bool v3, .ref 3, ci v4, .ref 4], .var [ci v5, .bool v6, .ref 5, ci v7, .ref 6], .obj 1 (eL e_u8 v8), .obj 9 (eL o_GEntry v9), .obj 1 (eL e_u8 v10), .obj 9 (eL o_GEntry o_1)], 0⟩) := by
  induction m with
  | zero => intro v0 v11 o h; cases h
  | succ m ih => exact fun v0 v11 => tlp (
   .le e_GEntry a0.Entries <|
   .lI v0 ((a0.Entries.length : Nat) : Int) (fun c1 =>
    .na v0 fun i2 =>
    .ix eq_GEntry a0.Entries i2 fun x3 =>
    .cl (ok_q2d x3) fun r4 =>
    .ao 152 O_GEntry v11 [r4] fun n5 =>
    .go (ih (w64 (v0 + 1)) (v11 ++ [r4]))) fun c1 =>
   .ret (v0, v11))
def T_q1d (n : Nat) (a0 : GState) : Option GState :=
 if roomP 1 (0 + a0.Pending.length) then
 (L_q1d_l0 a0 0 false 0 a0.Serial a0.Open a0.Act [] [] a0.Pending n 0 []).bind fun ⟨o2_0, o2_1⟩ =>
 some (GState.mk a0.Serial a0.Open a0.Pending a0.Act o2_1)
 else none
theorem g_spec_l4own (n : Nat) : K_q1d (T_q1d n) := fun a0 => tc (
 .ap 1 E_u8 [] a0.Pending fun n1 =>
 .lp (gl_spec_l4own_l0 a0 0 false 0 a0.Serial a0.Open a0.Act [] [] a0.Pending n 0 []) fun ⟨o2_0, o2_1⟩ =>
 .ret (GState.mk a0.Serial a0.Open a0.Pending a0.Act o2_1)) (fn_of Tryz.func73)
theorem room152 {m : Nat} (hm : m <= 2 ^ 39) : roomP 152 m := by
  unfold roomP
  constructor <;> simp [Am.maxBytes] <;> omega
theorem l4ownE_eq {e : GEntry} (h : esz e <= 2 ^ 38) : S_q2d e = some e := by
  unfold esz at h
  unfold S_q2d S_qd S_qy
  rw [if_pos (room_ok (by decide) (by omega)), if_pos (by omega), Option.bind_some, if_pos (by omega), Option.bind_some]
  cases e; rfl
theorem l4ownS_loop {s : GState} {v2 : Int} {v3 : Bool} {v4 v5 : Int} {v6 : Bool} {v7 : Int} {v8 : List UInt8} {v9 : List GEntry} {v10 : List UInt8} (ha : eszs s.Entries <= 2 ^ 38) : ∀ (l p : List GEntry) (m : Nat), s.Entries = p ++ l → l.length < m → ∃ z, L_q1d_l0 s v2 v3 v4 v5 v6 v7 v8 v9 v10 m ((p.length : Nat) : Int) p = some (z, s.Entries) := by
  have hl := eszs_len s.Entries
  intro l
  induction l with
  | nil =>
    intro p m he hm
    obtain ⟨m, rfl, _⟩ := fuel hm
    exact ⟨_, by rw [L_q1d_l0, he, List.append_nil, if_neg (by omega)]⟩
  | cons x l ih =>
    intro p m he hm
    obtain ⟨m, rfl, hm'⟩ := fuel hm
    have hx : 1 + esz x <= eszs s.Entries := eszs_mem (by rw [he]; simp)
    have hlen : s.Entries.length = p.length + (l.length + 1) := by rw [he]; simp
    obtain ⟨z, hz⟩ := ih (p ++ [x]) m (by rw [he]; simp) (by simp only [List.length_cons] at hm'; omega)
    refine ⟨z, ?_⟩
    rw [L_q1d_l0, if_pos (by omega), natO_nat, Option.bind_some, show s.Entries[p.length]? = some x by rw [he]; exact get_mid p x l, Option.bind_some, l4ownE_eq (by omega), Option.bind_some, if_pos (room152 (by simp only [List.length_cons, List.length_nil]; omega)), w64_len p x (by omega), hz]
def S_q1d (a0 : GState) : Option GState := if ssz a0 <= 2 ^ 38 then some a0 else none
theorem spec_q1d (a0 : GState) (r : GState) (h : S_q1d a0 = some r) : ∃ n, T_q1d n a0 = some r := by
  unfold S_q1d at h
  obtain ⟨ha, h⟩ := need_c h
  unfold ssz at ha
  refine ⟨a0.Entries.length + 1, ?_⟩
  unfold T_q1d
  obtain ⟨z, hz⟩ := l4ownS_loop (s := a0) (v2 := 0) (v3 := false) (v4 := 0) (v5 := a0.Serial) (v6 := a0.Open) (v7 := a0.Act) (v8 := []) (v9 := []) (v10 := a0.Pending) (by omega) a0.Entries [] (a0.Entries.length + 1) rfl (by omega)
  simp only [List.length_nil, Int.natCast_zero] at hz
  rw [if_pos (room_ok (by decide) (by omega)), hz, <- h]
  cases a0; rfl
theorem ok_q1d : K_q1d S_q1d := fun a0 r h => (spec_q1d a0 r h).elim fun n hn => g_spec_l4own n a0 r hn
def K_q15 (F : (List GEntry) → GEntry → Option (List GEntry)) : Prop := ∀ (a0 : (List GEntry)) (a1 : GEntry), Oc (F a0 a1) 130 [] [vq e_GEntry a0, .val true (x_GEntry a1)] fun r => (vq e_GEntry r, [])
def L_q15_l0 (a0 : (List GEntry)) (a1 : GEntry) : Nat → Bool → Int → (List GEntry) → Option (Bool × Int × (List GEntry))
  | 0, _, _, _ => none
  | m + 1, v1, v2, v4 =>
  if v2 < ((a0.length : Nat) : Int) then
   (natO v2).bind fun i2 =>
   (a0[i2]?).bind fun x3 =>
   (S_q25 a1.Addr x3.Addr).bind fun r4 =>
   match v1 with
   | true =>
    if r4 = 0 then
     L_q15_l0 a0 a1 m v1 (w64 (v2 + 1)) v4
    else
    if roomP 152 (v4.length + [x3].length) then
    L_q15_l0 a0 a1 m v1 (w64 (v2 + 1)) (v4 ++ [x3])
    else none
   | false =>
    if r4 <= 0 then
     if roomP 152 (v4.length + [a1].length) then
     if r4 = 0 then
      L_q15_l0 a0 a1 m true (w64 (v2 + 1)) (v4 ++ [a1])
     else
     if roomP 152 ((v4 ++ [a1]).length + [x3].length) then
     L_q15_l0 a0 a1 m true (w64 (v2 + 1)) ((v4 ++ [a1]) ++ [x3])
     else none
     else none
    else
    if r4 = 0 then
     L_q15_l0 a0 a1 m v1 (w64 (v2 + 1)) v4
    else
    if roomP 152 (v4.length + [x3].length) then
    L_q15_l0 a0 a1 m v1 (w64 (v2 + 1)) (v4 ++ [x3])
    else none
  else
  some (v1, v2, v4)
theorem gl_spec_l4put_l0 (a0 : (List GEntry)) (a1 : GEntry) (m : Nat) : ∀ (v1 : Bool) (v2 : Int) (v4 : (List GEntry)), Ol (L_q15_l0 a0 a1 m v1 v2 v4) 130 (loopB Tryz.f130 0) ⟨[(0, vq e_GEntry a0), (3, vp 0 0), (5, vr 1), (6, vb v1), (7, vi v2)], [.var (x_GEntry a1), .obj 9 (eL e_GEntry v4)], 0⟩ fun o => match o with | ⟨o_0, o_1, o_2⟩ => (.exit 0, ⟨[(0, vq e_GEntry a0), (3, vp 0 0), (5, vr 1), (6, vb o_0), (7, vi o_1), (12, vb false)], [.var (x_GEntry a1), .obj 9 (eL e_GEntry o_2)], 0⟩) := by
  induction m with
  | zero => intro v1 v2 v4 o h; cases h
  | succ m ih => exact fun v1 v2 v4 => tlp (
   .le e_GEntry a0 <|
   .lI v2 ((a0.length : Nat) : Int) (fun c1 =>
    .na v2 fun i2 =>
    .ix eq_GEntry a0 i2 fun x3 =>
    .cl (ok_q25 a1.Addr x3.Addr) fun r4 =>
    .vN 0 v1 (
     .an 0 0 <|
     .an 0 0 <|
     .eI r4 0 (fun c5 =>
      .go (ih v1 (w64 (v2 + 1)) v4)) fun c5 =>
     .ag 3 <|
     .ag 2 <|
     .pl E_GEntry [x3] <|
     .ap 152 E_GEntry v4 [x3] fun n6 =>
     .go (ih v1 (w64 (v2 + 1)) (v4 ++ [x3]))) <|
    .an 0 0 <|
    .gI r4 0 (fun c5 =>
     .an 0 0 <|
     .pl E_GEntry [a1] <|
     .ap 152 E_GEntry v4 [a1] fun n6 =>
     .eI r4 0 (fun c7 =>
      .go (ih true (w64 (v2 + 1)) (v4 ++ [a1]))) fun c7 =>
     .ag 3 <|
     .ag 2 <|
     .pl E_GEntry [x3] <|
     .ap 152 E_GEntry (v4 ++ [a1]) [x3] fun n8 =>
     .go (ih true (w64 (v2 + 1)) ((v4 ++ [a1]) ++ [x3]))) fun c5 =>
    .an 0 0 <|
    .eI r4 0 (fun c6 =>
     .go (ih v1 (w64 (v2 + 1)) v4)) fun c6 =>
    .ag 3 <|
    .ag 2 <|
    .pl E_GEntry [x3] <|
    .ap 152 E_GEntry v4 [x3] fun n7 =>
    .go (ih v1 (w64 (v2 + 1)) (v4 ++ [x3]))) fun c1 =>
   .ret (v1, v2, v4))
def T_q15 (n : Nat) (a0 : (List GEntry)) (a1 : GEntry) : Option (List GEntry) :=
 (L_q15_l0 a0 a1 n false 0 []).bind fun ⟨o1_0, o1_1, o1_2⟩ =>
 match o1_0 with
 | true =>
  some o1_2
 | false =>
  if roomP 152 (o1_2.length + [a1].length) then
  some (o1_2 ++ [a1])
  else none
theorem g_spec_l4put (n : Nat) : K_q15 (T_q15 n) := fun a0 a1 => tc (
 .lp (gl_spec_l4put_l0 a0 a1 n false 0 []) fun ⟨o1_0, o1_1, o1_2⟩ =>
 .vN 0 o1_0 (
  .vw E_GEntry o1_2 <|
  .ret o1_2) <|
 .pl E_GEntry [a1] <|
 .ap 152 E_GEntry o1_2 [a1] fun n2 =>
 .vw E_GEntry (o1_2 ++ [a1]) <|
 .ret (o1_2 ++ [a1])) (fn_of Tryz.func130)
def putE (e : GEntry) : Bool → List GEntry → List GEntry
  | put, [] => bif put then [] else [e]
  | put, x :: l =>
    bif Op.bytesLess e.Addr x.Addr then (bif put then x :: putE e put l else e :: x :: putE e true l)
    else bif Op.bytesLess x.Addr e.Addr then x :: putE e put l
    else bif put then putE e put l else e :: putE e true l
theorem l4put_loop {a : List GEntry} {e : GEntry} (ha : a.length <= 2 ^ 37) : ∀ (l p q : List GEntry) (b : Bool) (m : Nat), a = p ++ l → q.length <= 2 * p.length + 1 → l.length < m →
    ∃ (b' : Bool) (z : Int) (o : List GEntry), L_q15_l0 a e m b ((p.length : Nat) : Int) q = some (b', z, o) ∧ o.length <= 2 * a.length + 1 ∧ (bif b' then o else o ++ [e]) = q ++ putE e b l := by
  intro l
  induction l with
  | nil =>
    intro p q b m he hq hm
    obtain ⟨m, rfl, _⟩ := fuel hm
    refine ⟨b, _, q, by rw [L_q15_l0, he, List.append_nil, if_neg (by omega)], by rw [he]; simp; omega, ?_⟩
    cases b <;> simp [putE]
  | cons x l ih =>
    intro p q b m he hq hm
    obtain ⟨m, rfl, hm'⟩ := fuel hm
    have hlen : a.length = p.length + (l.length + 1) := by rw [he]; simp
    have hlm : l.length < m := by simp only [List.length_cons] at hm'; omega
    have hnext : ∀ (b1 : Bool) (q1 : List GEntry), q1.length <= 2 * p.length + 3 → ∃ (b' : Bool) (z : Int) (o : List GEntry), L_q15_l0 a e m b1 (((p ++ [x]).length : Nat) : Int) q1 = some (b', z, o) ∧ o.length <= 2 * a.length + 1 ∧ (bif b' then o else o ++ [e]) = q1 ++ putE e b1 l := fun b1 q1 h1 =>
      ih (p ++ [x]) q1 b1 m (by rw [he]; simp) (by simp; omega) hlm
    rw [L_q15_l0, if_pos (by omega), natO_nat, Option.bind_some, show a[p.length]? = some x by rw [he]; exact get_mid p x l, Option.bind_some, w64_len p x (by omega)]
    unfold S_q25
    unfold putE
    by_cases c1 : Op.bytesLess e.Addr x.Addr = true
    · rw [if_pos c1, Option.bind_some, c1]
      simp only [cond_true]
      cases b with
      | true =>
        simp only [cond_true]
        rw [if_neg (by decide), if_pos (room152 (by simp; omega))]
        obtain ⟨b', z, o, h1, h2, h3⟩ := hnext true (q ++ [x]) (by simp; omega)
        exact ⟨b', z, o, h1, h2, by rw [h3]; simp⟩
      | false =>
        simp only [cond_false]
        rw [if_pos (by decide), if_pos (room152 (by simp; omega)), if_neg (by decide), if_pos (room152 (by simp; omega))]
        obtain ⟨b', z, o, h1, h2, h3⟩ := hnext true (q ++ [e] ++ [x]) (by simp; omega)
        exact ⟨b', z, o, h1, h2, by rw [h3]; simp⟩
    · rw [if_neg c1]
      rw [show Op.bytesLess e.Addr x.Addr = false by simpa using c1]
      simp only [cond_false]
      by_cases c2 : Op.bytesLess x.Addr e.Addr = true
      · rw [if_pos c2, Option.bind_some, c2]
        simp only [cond_true]
        obtain ⟨b', z, o, h1, h2, h3⟩ := hnext b (q ++ [x]) (by simp; omega)
        cases b with
        | true =>
          simp only
          rw [if_neg (by decide), if_pos (room152 (by simp; omega))]
          exact ⟨b', z, o, h1, h2, by rw [h3]; simp⟩
        | false =>
          simp only
          rw [if_neg (by decide), if_neg (by decide), if_pos (room152 (by simp; omega))]
          exact ⟨b', z, o, h1, h2, by rw [h3]; simp⟩
      · rw [if_neg c2, Option.bind_some, show Op.bytesLess x.Addr e.Addr = false by simpa using c2]
        simp only [cond_false]
        cases b with
        | true =>
          simp only [cond_true]
          rw [if_pos trivial]
          obtain ⟨b', z, o, h1, h2, h3⟩ := hnext true q (by omega)
          exact ⟨b', z, o, h1, h2, by rw [h3]⟩
        | false =>
          simp only [cond_false]
          rw [if_pos (by decide), if_pos (room152 (by simp; omega)), if_pos trivial]
          obtain ⟨b', z, o, h1, h2, h3⟩ := hnext true (q ++ [e]) (by simp; omega)
          exact ⟨b', z, o, h1, h2, by rw [h3]; simp⟩
def S_q15 (a0 : (List GEntry)) (a1 : GEntry) : Option (List GEntry) := if a0.length <= 2 ^ 37 then some (putE a1 false a0) else none
theorem spec_q15 (a0 : (List GEntry)) (a1 : GEntry) (r : (List GEntry)) (h : S_q15 a0 a1 = some r) : ∃ n, T_q15 n a0 a1 = some r := by
  unfold S_q15 at h
  obtain ⟨ha, h⟩ := need_c h
  obtain ⟨b', z, o, h1, h2, h3⟩ := l4put_loop (a := a0) (e := a1) (by omega) a0 [] [] false (a0.length + 1) rfl (by simp) (by omega)
  refine ⟨a0.length + 1, ?_⟩
  unfold T_q15
  simp only [List.length_nil, Int.natCast_zero] at h1
  rw [h1, <- h]
  rw [List.nil_append] at h3
  rw [<- h3]
  cases b' with
  | true => rfl
  | false =>
    simp only [Option.bind_some, cond_false]
    rw [if_pos (room152 (by simp; omega))]
theorem ok_q15 : K_q15 S_q15 := fun a0 a1 r h => (spec_q15 a0 a1 r h).elim fun n hn => g_spec_l4put n a0 a1 r hn
def S_spec_l4do (a0 : GEvent) (e0 : GState) : Option GState :=
 (S_q16 (GState.mk (w64 (e0.Serial + 1)) e0.Open e0.Pending e0.Act e0.Entries) e0.Pending).bind fun r1 =>
 if a0.Kind = 0 then
  some (GState.mk (w64 (e0.Serial + 1)) true e0.Pending e0.Act e0.Entries)
 else
 if a0.Kind = 1 then
  some (GState.mk (w64 (e0.Serial + 1)) e0.Open a0.Addr a0.Act e0.Entries)
 else
 if a0.Kind = 2 then
  (S_q15 e0.Entries (GEntry.mk a0.Addr a0.Val a0.Deps false (w64 (e0.Serial + 1)))).bind fun r5 =>
  some (GState.mk (w64 (e0.Serial + 1)) e0.Open [] 0 r5)
 else
 if a0.Kind = 3 then
  (natO r1).bind fun i6 =>
  (cutO e0.Entries none (some i6)).bind fun s7 =>
  if roomP 152 (0 + s7.length) then
  (natO (w64 (r1 + 1))).bind fun i9 =>
  (cutO e0.Entries (some i9) none).bind fun s10 =>
  if roomP 152 (s7.length + s10.length) then
  some (GState.mk (w64 (e0.Serial + 1)) e0.Open [] 0 (s7 ++ s10))
  else none
  else none
 else
 if a0.Kind = 4 then
  if ((e0.Pending.length : Nat) : Int) = 0 then
   some (GState.mk (w64 (e0.Serial + 1)) e0.Open [] 0 e0.Entries)
  else
  if 0 <= r1 then
   if roomP 152 (0 + e0.Entries.length) then
   (natO r1).bind fun i10 =>
   (e0.Entries[i10]?).bind fun x11 =>
   ((e0.Entries.set i10 (GEntry.mk x11.Addr x11.Val x11.Deps true x11.Turned))[i10]?).bind fun x12 =>
   some (GState.mk (w64 (e0.Serial + 1)) e0.Open [] 0 ((e0.Entries.set i10 (GEntry.mk x11.Addr x11.Val x11.Deps true x11.Turned)).set i10 (GEntry.mk x12.Addr x12.Val x12.Deps x12.Taint (w64 (e0.Serial + 1)))))
   else none
  else
  some (GState.mk (w64 (e0.Serial + 1)) e0.Open [] 0 e0.Entries)
 else
 if a0.Kind = 6 then
  if ((e0.Pending.length : Nat) : Int) = 0 then
   some (GState.mk (w64 (e0.Serial + 1)) false [] 0 e0.Entries)
  else
  if 0 <= r1 then
   if roomP 152 (0 + e0.Entries.length) then
   (natO r1).bind fun i11 =>
   (e0.Entries[i11]?).bind fun x12 =>
   ((e0.Entries.set i11 (GEntry.mk x12.Addr x12.Val x12.Deps true x12.Turned))[i11]?).bind fun x13 =>
   some (GState.mk (w64 (e0.Serial + 1)) false [] 0 ((e0.Entries.set i11 (GEntry.mk x12.Addr x12.Val x12.Deps true x12.Turned)).set i11 (GEntry.mk x13.Addr x13.Val x13.Deps x13.Taint (w64 (e0.Serial + 1)))))
   else none
  else
  (S_q15 e0.Entries (GEntry.mk e0.Pending (GValue.mk 5 0 [] [] []) [] true (w64 (e0.Serial + 1)))).bind fun r10 =>
  some (GState.mk (w64 (e0.Serial + 1)) false [] 0 r10)
 else
 if a0.Kind = 5 then
  some (GState.mk (w64 (e0.Serial + 1)) false [] 0 e0.Entries)
 else
 some (GState.mk (w64 (e0.Serial + 1)) e0.Open [] 0 e0.Entries)
theorem ok_spec_l4do (a0 : GEvent) (e0 : GState) : Oc (S_spec_l4do a0 e0) 74 [.var (x_GState e0)] [vp 0 0, .val true (x_GEvent a0)] fun r => (.tup [], [.var (x_GState r)]) := tc (
 .cl (ok_q16 (GState.mk (w64 (e0.Serial + 1)) e0.Open e0.Pending e0.Act e0.Entries) e0.Pending) fun r1 =>
 .eI a0.Kind 0 (fun c2 =>
  .ret (GState.mk (w64 (e0.Serial + 1)) true e0.Pending e0.Act e0.Entries)) fun c2 =>
 .eI a0.Kind 1 (fun c3 =>
  .ret (GState.mk (w64 (e0.Serial + 1)) e0.Open a0.Addr a0.Act e0.Entries)) fun c3 =>
 .eI a0.Kind 2 (fun c4 =>
  .cl (ok_q15 e0.Entries (GEntry.mk a0.Addr a0.Val a0.Deps false (w64 (e0.Serial + 1)))) fun r5 =>
  .ret (GState.mk (w64 (e0.Serial + 1)) e0.Open [] 0 r5)) fun c4 =>
 .eI a0.Kind 3 (fun c5 =>
  .na r1 fun i6 =>
  .ct e_GEntry e0.Entries none (some i6) fun s7 =>
  .un E_GEntry e0.Entries <|
  .ap 152 E_GEntry [] s7 fun n8 =>
  .na (w64 (r1 + 1)) fun i9 =>
  .ct e_GEntry e0.Entries (some i9) none fun s10 =>
  .un E_GEntry e0.Entries <|
  .ap 152 E_GEntry s7 s10 fun n11 =>
  .vw E_GEntry (s7 ++ s10) <|
  .ret (GState.mk (w64 (e0.Serial + 1)) e0.Open [] 0 (s7 ++ s10))) fun c5 =>
 .eI a0.Kind 4 (fun c6 =>
  .le e_u8 e0.Pending <|
  .eI ((e0.Pending.length : Nat) : Int) 0 (fun c7 =>
   .q (.eFo a0.Kind 6 (by omega)) <|
   .ret (GState.mk (w64 (e0.Serial + 1)) e0.Open [] 0 e0.Entries)) fun c7 =>
  .gI 0 r1 (fun c8 =>
   .ap 152 E_GEntry [] e0.Entries fun n9 =>
   .na r1 fun i10 =>
   .ix eq_GEntry e0.Entries i10 fun x11 =>
   .ag 0 <|
   .sl (eq_GEntry (GEntry.mk x11.Addr x11.Val x11.Deps true x11.Turned)) e0.Entries i10 <|
   .ag 1 <|
   .ix eq_GEntry (e0.Entries.set i10 (GEntry.mk x11.Addr x11.Val x11.Deps true x11.Turned)) i10 fun x12 =>
   .ag 0 <|
   .sl (eq_GEntry (GEntry.mk x12.Addr x12.Val x12.Deps x12.Taint (w64 (e0.Serial + 1)))) (e0.Entries.set i10 (GEntry.mk x11.Addr x11.Val x11.Deps true x11.Turned)) i10 <|
   .q (.eFo a0.Kind 6 (by omega)) <|
   .vw E_GEntry ((e0.Entries.set i10 (GEntry.mk x11.Addr x11.Val x11.Deps true x11.Turned)).set i10 (GEntry.mk x12.Addr x12.Val x12.Deps x12.Taint (w64 (e0.Serial + 1)))) <|
   .ret (GState.mk (w64 (e0.Serial + 1)) e0.Open [] 0 ((e0.Entries.set i10 (GEntry.mk x11.Addr x11.Val x11.Deps true x11.Turned)).set i10 (GEntry.mk x12.Addr x12.Val x12.Deps x12.Taint (w64 (e0.Serial + 1)))))) fun c8 =>
  .q (.eFo a0.Kind 6 (by omega)) <|
  .q (.eFo a0.Kind 6 (by omega)) <|
  .ret (GState.mk (w64 (e0.Serial + 1)) e0.Open [] 0 e0.Entries)) fun c6 =>
 .eI a0.Kind 6 (fun c7 =>
  .le e_u8 e0.Pending <|
  .eI ((e0.Pending.length : Nat) : Int) 0 (fun c8 =>
   .q (.eT c7) <|
   .ret (GState.mk (w64 (e0.Serial + 1)) false [] 0 e0.Entries)) fun c8 =>
  .gI 0 r1 (fun c9 =>
   .ap 152 E_GEntry [] e0.Entries fun n10 =>
   .na r1 fun i11 =>
   .ix eq_GEntry e0.Entries i11 fun x12 =>
   .ag 0 <|
   .sl (eq_GEntry (GEntry.mk x12.Addr x12.Val x12.Deps true x12.Turned)) e0.Entries i11 <|
   .ag 1 <|
   .ix eq_GEntry (e0.Entries.set i11 (GEntry.mk x12.Addr x12.Val x12.Deps true x12.Turned)) i11 fun x13 =>
   .ag 0 <|
   .sl (eq_GEntry (GEntry.mk x13.Addr x13.Val x13.Deps x13.Taint (w64 (e0.Serial + 1)))) (e0.Entries.set i11 (GEntry.mk x12.Addr x12.Val x12.Deps true x12.Turned)) i11 <|
   .q (.eT c7) <|
   .vw E_GEntry ((e0.Entries.set i11 (GEntry.mk x12.Addr x12.Val x12.Deps true x12.Turned)).set i11 (GEntry.mk x13.Addr x13.Val x13.Deps x13.Taint (w64 (e0.Serial + 1)))) <|
   .ret (GState.mk (w64 (e0.Serial + 1)) false [] 0 ((e0.Entries.set i11 (GEntry.mk x12.Addr x12.Val x12.Deps true x12.Turned)).set i11 (GEntry.mk x13.Addr x13.Val x13.Deps x13.Taint (w64 (e0.Serial + 1)))))) fun c9 =>
  .q (.eT c7) <|
  .cl (ok_q15 e0.Entries (GEntry.mk e0.Pending (GValue.mk 5 0 [] [] []) [] true (w64 (e0.Serial + 1)))) fun r10 =>
  .q (.eT c7) <|
  .ret (GState.mk (w64 (e0.Serial + 1)) false [] 0 r10)) fun c7 =>
 .eI a0.Kind 5 (fun c8 =>
  .ret (GState.mk (w64 (e0.Serial + 1)) false [] 0 e0.Entries)) fun c8 =>
 .ret (GState.mk (w64 (e0.Serial + 1)) e0.Open [] 0 e0.Entries)) (fn_of Tryz.func74)
def S_spec_Do (a0 : GState) (a1 : GEvent) : Option (GState × Bool) :=
 (S_q12 a0).bind fun r1 =>
 match r1 with
 | true =>
  (S_q2r a1).bind fun r2 =>
  match r2 with
  | true =>
   (S_q2x a0 a1).bind fun r3 =>
   match r3 with
   | true =>
    (S_q1d a0).bind fun r4 =>
    (S_spec_l4do a1 r4).bind fun r5 =>
    (S_q1d r5).bind fun r6 =>
    some (r6, true)
   | false =>
    (S_q1d a0).bind fun r4 =>
    some (r4, false)
  | false =>
   some ((GState.mk 0 false [] 0 []), false)
 | false =>
  some ((GState.mk 0 false [] 0 []), false)
theorem ok_spec_Do (a0 : GState) (a1 : GEvent) : Oc (S_spec_Do a0 a1) 17 [] [.val true (x_GState a0), .val true (x_GEvent a1)] fun r => (.tup [(true, (x_GState r.1)), (false, [.bool r.2])], []) := tc (
 .vw E_u8 [] <|
 .vw E_GEntry [] <|
 .cl (ok_q12 a0) fun r1 =>
 .vN 0 r1 (
  .an 0 0 <|
  .cl (ok_q2r a1) fun r2 =>
  .an 0 1 <|
  .an 0 1 <|
  .vN 0 r2 (
   .cl (ok_q2x a0 a1) fun r3 =>
   .vN 0 r3 (
    .cl (ok_q1d a0) fun r4 =>
    .vw E_u8 r4.Pending <|
    .vo O_GEntry r4.Entries <|
    .cl (ok_spec_l4do a1 r4) fun r5 =>
    .cl (ok_q1d r5) fun r6 =>
    .vw E_u8 r6.Pending <|
    .vo O_GEntry r6.Entries <|
    .ret (r6, true)) <|
   .cl (ok_q1d a0) fun r4 =>
   .vw E_u8 r4.Pending <|
   .vo O_GEntry r4.Entries <|
   .ret (r4, false)) <|
  .vw E_u8 [] <|
  .vw E_GEntry [] <|
  .ret ((GState.mk 0 false [] 0 []), false)) <|
 .an 0 0 <|
 .an 0 0 <|
 .an 0 0 <|
 .vw E_u8 [] <|
 .vw E_GEntry [] <|
 .ret ((GState.mk 0 false [] 0 []), false)) (fn_of Tryz.func17)
def S_impl_in (a0 : Int) (a1 : Int) (a2 : Int) : Option Bool :=
 if a1 <= a0 then
  some (decide (a0 <= a2))
 else
 some false
theorem ok_impl_in (a0 : Int) (a1 : Int) (a2 : Int) : Oc (S_impl_in a0 a1 a2) 94 [] [vi a0, vi a1, vi a2] fun r => (vb r, []) := tc (
 .gI a1 a0 (fun c1 =>
  .gD a0 a2 <|
  .ret (decide (a0 <= a2))) fun c1 =>
 .ret false) (fn_of Tryz.func94)
def S_q2l (a0 : (List UInt8)) (a1 : UInt8) : Option Int :=
 (S_q1s a0 a1).bind fun r1 =>
 some r1
theorem ok_q2l (a0 : (List UInt8)) (a1 : UInt8) : Oc (S_q2l a0 a1) 212 [] [vq e_u8 a0, .val false [.int .u8 ((a1.toNat : Nat) : Int)]] fun r => (vi r, []) := tc (
 .cl (ok_q1s a0 a1) fun r1 =>
 .ret r1) (fn_of Tryz.func212)
def S_q1j (a0 : (List UInt8)) (a1 : (List UInt8)) : Option Bool :=
 some (decide (a0 = a1))
theorem ok_q1j (a0 : (List UInt8)) (a1 : (List UInt8)) : Oc (S_q1j a0 a1) 105 [] [vq e_u8 a0, vq e_u8 a1] fun r => (vb r, []) := tc (
 .bt a0 <|
 .bt a1 <|
 .sD a0 a1 <|
 .ret (decide (a0 = a1))) (fn_of Tryz.func105)
def S_q2n (a0 : (List UInt8)) (a1 : (List UInt8)) : Option Int :=
 if ((a1.length : Nat) : Int) = 0 then
  some 0
 else
 if ((a1.length : Nat) : Int) = 1 then
  (a1[0]?).bind fun x3 =>
  (S_q2l a0 x3).bind fun r4 =>
  some r4
 else
 if ((a1.length : Nat) : Int) = ((a0.length : Nat) : Int) then
  (S_q1j a1 a0).bind fun r4 =>
  match r4 with
  | true =>
   some 0
  | false =>
   some (-1)
 else
 if ((a0.length : Nat) : Int) < ((a1.length : Nat) : Int) then
  some (-1)
 else
 none
theorem ok_q2n (a0 : (List UInt8)) (a1 : (List UInt8)) : Oc (S_q2n a0 a1) 196 [] [vq e_u8 a0, vq e_u8 a1] fun r => (vi r, []) := tc (
 .le e_u8 a1 <|
 .eI ((a1.length : Nat) : Int) 0 (fun c1 =>
  .ret 0) fun c1 =>
 .eI ((a1.length : Nat) : Int) 1 (fun c2 =>
  .nl 0 <|
  .ix0 e_u8 a1 0 fun x3 =>
  .cl (ok_q2l a0 x3) fun r4 =>
  .ret r4) fun c2 =>
 .le e_u8 a0 <|
 .eI ((a1.length : Nat) : Int) ((a0.length : Nat) : Int) (fun c3 =>
  .cl (ok_q1j a1 a0) fun r4 =>
  .vM 0 r4 (
   .ret 0) <|
  .ret (-1)) fun c3 =>
 .le e_u8 a0 <|
 .lI ((a0.length : Nat) : Int) ((a1.length : Nat) : Int) (fun c4 =>
  .ret (-1)) fun c4 =>
 .no) (fn_of Tryz.func196)
def S_bytes_Cut (a0 : (List UInt8)) (a1 : (List UInt8)) : Option ((List UInt8) × (List UInt8) × Bool) :=
 (S_q2n a0 a1).bind fun r1 =>
 if 0 <= r1 then
  (natO r1).bind fun i3 =>
  (cutO a0 none (some i3)).bind fun s4 =>
  (natO (w64 (r1 + ((a1.length : Nat) : Int)))).bind fun i5 =>
  (cutO a0 (some i5) none).bind fun s6 =>
  some (s4, s6, true)
 else
 some (a0, [], false)
theorem ok_bytes_Cut (a0 : (List UInt8)) (a1 : (List UInt8)) : Oc (S_bytes_Cut a0 a1) 170 [] [vq e_u8 a0, vq e_u8 a1] fun r => (.tup [(false, [cq e_u8 r.1]), (false, [cq e_u8 r.2.1]), (false, [.bool r.2.2])], []) := tc (
 .cl (ok_q2n a0 a1) fun r1 =>
 .gI 0 r1 (fun c2 =>
  .na r1 fun i3 =>
  .ct e_u8 a0 none (some i3) fun s4 =>
  .un E_u8 a0 <|
  .le e_u8 a1 <|
  .na (w64 (r1 + ((a1.length : Nat) : Int))) fun i5 =>
  .ct e_u8 a0 (some i5) none fun s6 =>
  .un E_u8 a0 <|
  .ret (s4, s6, true)) fun c2 =>
 .vw E_u8 [] <|
 .ret (a0, [], false)) (fn_of Tryz.func170)
def K_q19 (F : (List UInt8) → Option Bool) : Prop := ∀ (a0 : (List UInt8)), Oc (F a0) 158 [] [vq e_u8 a0] fun r => (vb r, [])
def L_q19_l0 (a0 : (List UInt8)) (v1 : Int) : Nat → Int → Option (Bool ⊕ Int)
  | 0, _ => none
  | m + 1, v2 =>
  if v2 < v1 then
   (natO v2).bind fun i2 =>
   (a0[i2]?).bind fun x3 =>
   if ((x3.toNat : Nat) : Int) < 97 then
    some (.inl false)
   else
   if 122 < ((x3.toNat : Nat) : Int) then
    some (.inl false)
   else
   L_q19_l0 a0 v1 m (w64 (v2 + 1))
  else
  some (.inr v2)
theorem gl_impl_isName_l0 (a0 : (List UInt8)) (v1 : Int) (m : Nat) : ∀ (v2 : Int), Ol (L_q19_l0 a0 v1 m v2) 158 (loopB Tryz.f158 0) ⟨[(0, vq e_u8 a0), (5, vq e_u8 a0), (6, vi v1), (7, vi v2)], [], 0⟩ fun o => match o with | .inl o_0 => (.ret, ⟨[(2, vb o_0)], [], 0⟩) | .inr (o_1) => (.exit 0, ⟨[(0, vq e_u8 a0), (5, vq e_u8 a0), (6, vi v1), (7, vi o_1), (8, vb false)], [], 0⟩) := by
  induction m with
  | zero => intro v2 o h; cases h
  | succ m ih => exact fun v2 => tlp (
   .lI v2 v1 (fun c1 =>
    .na v2 fun i2 =>
    .ix0 e_u8 a0 i2 fun x3 =>
    .lI ((x3.toNat : Nat) : Int) 97 (fun c4 =>
     .ret (.inl false)) fun c4 =>
    .lI 122 ((x3.toNat : Nat) : Int) (fun c5 =>
     .ret (.inl false)) fun c5 =>
    .go (ih (w64 (v2 + 1)))) fun c1 =>
   .ret (.inr v2))
def T_q19 (n : Nat) (a0 : (List UInt8)) : Option Bool :=
 (L_q19_l0 a0 ((a0.length : Nat) : Int) n 0).bind fun o1 =>
 match o1 with
 | .inl o1_0 =>
  some o1_0
 | .inr (o1_1) =>
  (S_impl_in ((a0.length : Nat) : Int) 1 8).bind fun r2 =>
  some r2
theorem g_impl_isName (n : Nat) : K_q19 (T_q19 n) := fun a0 => tc (
 .le e_u8 a0 <|
 .l2 (gl_impl_isName_l0 a0 ((a0.length : Nat) : Int) n 0) (fun o1_0 =>
  .ret o1_0) fun o1_1 =>
 .le e_u8 a0 <|
 .cl (ok_impl_in ((a0.length : Nat) : Int) 1 8) fun r2 =>
 .ret r2) (fn_of Tryz.func158)
theorem impl_isName_loop {a : List UInt8} (ha : a.length <= 2 ^ 20) : ∀ (d i m : Nat), i + d = a.length → d < m → ∃ z, L_q19_l0 a (a.length : Int) m (i : Int) = some (if (a.drop i).all (inB 97 122) = true then .inr z else .inl false) := by
  intro d
  induction d with
  | zero =>
    intro i m hi hm
    obtain ⟨m, rfl, _⟩ := fuel hm
    exact ⟨_, by rw [L_q19_l0, if_neg (by omega), List.drop_eq_nil_of_le (by omega)]; rfl⟩
  | succ d ih =>
    intro i m hi hm
    obtain ⟨m, rfl, hm'⟩ := fuel hm
    have hil : i < a.length := by omega
    rw [L_q19_l0, if_pos (by omega), natO_nat, Option.bind_some, get_some hil, Option.bind_some, w64_succ (by omega), drop_cons hil, List.all_cons]
    by_cases h1 : ((a[i].toNat : Nat) : Int) < 97
    · exact ⟨0, by rw [if_pos h1, if_neg]; simp [inB]; omega⟩
    · rw [if_neg h1]
      by_cases h2 : (122 : Int) < ((a[i].toNat : Nat) : Int)
      · exact ⟨0, by rw [if_pos h2, if_neg]; simp [inB]; omega⟩
      · rw [if_neg h2, show inB 97 122 a[i] = true by simp [inB]; omega, Bool.true_and]
        exact ih (i + 1) m (by omega) (by omega)
theorem in_eq (a b c : Int) : S_impl_in a b c = some (decide (b <= a ∧ a <= c)) := by
  unfold S_impl_in
  by_cases h : b <= a
  · rw [if_pos h]; simp [h]
  · rw [if_neg h]; simp [h]
def S_q19 (a0 : (List UInt8)) : Option Bool := if a0.length <= 2 ^ 20 then some (nameB a0) else none
theorem spec_q19 (a0 : (List UInt8)) (r : Bool) (h : S_q19 a0 = some r) : ∃ n, T_q19 n a0 = some r := by
  unfold S_q19 at h
  obtain ⟨ha, h⟩ := need_c h
  refine ⟨a0.length + 1, ?_⟩
  obtain ⟨z, hz⟩ := impl_isName_loop ha a0.length 0 (a0.length + 1) (by omega) (by omega)
  rw [show ((0 : Nat) : Int) = 0 from rfl, List.drop_zero] at hz
  unfold T_q19
  rw [<- h, hz]
  unfold nameB
  have hd : decide (1 <= a0.length ∧ a0.length <= 8) = decide ((1 : Int) <= (a0.length : Int) ∧ (a0.length : Int) <= 8) := decide_eq_decide.2 (by omega)
  rw [hd]
  cases a0.all (inB 97 122)
  · rw [Bool.and_false]; rfl
  · rw [Bool.and_true]
    simp only [if_true, Option.bind_some, in_eq]
theorem ok_q19 : K_q19 S_q19 := fun a0 r h => (spec_q19 a0 r h).elim fun n hn => g_impl_isName n a0 r hn
def S_q2a (a0 : (List UInt8)) (a1 : (List UInt8)) : Option Bool :=
 if ((a1.length : Nat) : Int) <= ((a0.length : Nat) : Int) then
  (natO (w64 (((a0.length : Nat) : Int) - ((a1.length : Nat) : Int)))).bind fun i2 =>
  (cutO a0 (some i2) none).bind fun s3 =>
  (S_q1j s3 a1).bind fun r4 =>
  some r4
 else
 some false
theorem ok_q2a (a0 : (List UInt8)) (a1 : (List UInt8)) : Oc (S_q2a a0 a1) 197 [] [vq e_u8 a0, vq e_u8 a1] fun r => (vb r, []) := tc (
 .le e_u8 a0 <|
 .le e_u8 a1 <|
 .gI ((a1.length : Nat) : Int) ((a0.length : Nat) : Int) (fun c1 =>
  .le e_u8 a0 <|
  .le e_u8 a1 <|
  .na (w64 (((a0.length : Nat) : Int) - ((a1.length : Nat) : Int))) fun i2 =>
  .ct e_u8 a0 (some i2) none fun s3 =>
  .un E_u8 a0 <|
  .cl (ok_q1j s3 a1) fun r4 =>
  .ret r4) fun c1 =>
 .ret false) (fn_of Tryz.func197)
def S_q21 (a0 : (List UInt8)) (a1 : (List UInt8)) : Option ((List UInt8) × Bool) :=
 (S_q2a a0 a1).bind fun r1 =>
 match r1 with
 | true =>
  (natO (w64 (((a0.length : Nat) : Int) - ((a1.length : Nat) : Int)))).bind fun i2 =>
  (cutO a0 none (some i2)).bind fun s3 =>
  some (s3, true)
 | false =>
  some (a0, false)
theorem ok_q21 (a0 : (List UInt8)) (a1 : (List UInt8)) : Oc (S_q21 a0 a1) 171 [] [vq e_u8 a0, vq e_u8 a1] fun r => (.tup [(false, [cq e_u8 r.1]), (false, [.bool r.2])], []) := tc (
 .cl (ok_q2a a0 a1) fun r1 =>
 .vN 0 r1 (
  .le e_u8 a0 <|
  .le e_u8 a1 <|
  .na (w64 (((a0.length : Nat) : Int) - ((a1.length : Nat) : Int))) fun i2 =>
  .ct e_u8 a0 none (some i2) fun s3 =>
  .un E_u8 a0 <|
  .ret (s3, true)) <|
 .ret (a0, false)) (fn_of Tryz.func171)
def S_q2m (a0 : (List UInt8)) (a1 : (List UInt8)) : Option Bool :=
 if ((a1.length : Nat) : Int) <= ((a0.length : Nat) : Int) then
  (natO ((a1.length : Nat) : Int)).bind fun i2 =>
  (cutO a0 none (some i2)).bind fun s3 =>
  (S_q1j s3 a1).bind fun r4 =>
  some r4
 else
 some false
theorem ok_q2m (a0 : (List UInt8)) (a1 : (List UInt8)) : Oc (S_q2m a0 a1) 198 [] [vq e_u8 a0, vq e_u8 a1] fun r => (vb r, []) := tc (
 .le e_u8 a0 <|
 .le e_u8 a1 <|
 .gI ((a1.length : Nat) : Int) ((a0.length : Nat) : Int) (fun c1 =>
  .le e_u8 a1 <|
  .na ((a1.length : Nat) : Int) fun i2 =>
  .ct e_u8 a0 none (some i2) fun s3 =>
  .un E_u8 a0 <|
  .cl (ok_q1j s3 a1) fun r4 =>
  .ret r4) fun c1 =>
 .ret false) (fn_of Tryz.func198)
def S_q2b (a0 : (List UInt8)) (a1 : (List UInt8)) : Option ((List UInt8) × Bool) :=
 (S_q2m a0 a1).bind fun r1 =>
 match r1 with
 | true =>
  (natO ((a1.length : Nat) : Int)).bind fun i2 =>
  (cutO a0 (some i2) none).bind fun s3 =>
  some (s3, true)
 | false =>
  some (a0, false)
theorem ok_q2b (a0 : (List UInt8)) (a1 : (List UInt8)) : Oc (S_q2b a0 a1) 172 [] [vq e_u8 a0, vq e_u8 a1] fun r => (.tup [(false, [cq e_u8 r.1]), (false, [.bool r.2])], []) := tc (
 .cl (ok_q2m a0 a1) fun r1 =>
 .vN 0 r1 (
  .le e_u8 a1 <|
  .na ((a1.length : Nat) : Int) fun i2 =>
  .ct e_u8 a0 (some i2) none fun s3 =>
  .un E_u8 a0 <|
  .ret (s3, true)) <|
 .ret (a0, false)) (fn_of Tryz.func172)
def S_q22 (a0 : Int) : Option (List UInt8) :=
 if a0 < 10 then
  (natO a0).bind fun i2 =>
  (natO (w64 (a0 + 1))).bind fun i3 =>
  (cutO [48, 49, 50, 51, 52, 53, 54, 55, 56, 57, 97, 98, 99, 100, 101, 102, 103, 104, 105, 106, 107, 108, 109, 110, 111, 112, 113, 114, 115, 116, 117, 118, 119, 120, 121, 122] (some i2) (some i3)).bind fun s4 =>
  some s4
 else
 (natO (w64 (a0 * 2))).bind fun i2 =>
 (natO (w64 ((w64 (a0 * 2)) + 2))).bind fun i3 =>
 (cutO [48, 48, 48, 49, 48, 50, 48, 51, 48, 52, 48, 53, 48, 54, 48, 55, 48, 56, 48, 57, 49, 48, 49, 49, 49, 50, 49, 51, 49, 52, 49, 53, 49, 54, 49, 55, 49, 56, 49, 57, 50, 48, 50, 49, 50, 50, 50, 51, 50, 52, 50, 53, 50, 54, 50, 55, 50, 56, 50, 57, 51, 48, 51, 49, 51, 50, 51, 51, 51, 52, 51, 53, 51, 54, 51, 55, 51, 56, 51, 57, 52, 48, 52, 49, 52, 50, 52, 51, 52, 52, 52, 53, 52, 54, 52, 55, 52, 56, 52, 57, 53, 48, 53, 49, 53, 50, 53, 51, 53, 52, 53, 53, 53, 54, 53, 55, 53, 56, 53, 57, 54, 48, 54, 49, 54, 50, 54, 51, 54, 52, 54, 53, 54, 54, 54, 55, 54, 56, 54, 57, 55, 48, 55, 49, 55, 50, 55, 51, 55, 52, 55, 53, 55, 54, 55, 55, 55, 56, 55, 57, 56, 48, 56, 49, 56, 50, 56, 51, 56, 52, 56, 53, 56, 54, 56, 55, 56, 56, 56, 57, 57, 48, 57, 49, 57, 50, 57, 51, 57, 52, 57, 53, 57, 54, 57, 55, 57, 56, 57, 57] (some i2) (some i3)).bind fun s4 =>
 some s4
theorem ok_q22 (a0 : Int) : Oc (S_q22 a0) 232 [] [vi a0] fun r => (vs r, []) := tc (
 .lI a0 10 (fun c1 =>
  .na a0 fun i2 =>
  .na (w64 (a0 + 1)) fun i3 =>
  .cs [48, 49, 50, 51, 52, 53, 54, 55, 56, 57, 97, 98, 99, 100, 101, 102, 103, 104, 105, 106, 107, 108, 109, 110, 111, 112, 113, 114, 115, 116, 117, 118, 119, 120, 121, 122] (some i2) (some i3) fun s4 =>
  .ret s4) fun c1 =>
 .na (w64 (a0 * 2)) fun i2 =>
 .na (w64 ((w64 (a0 * 2)) + 2)) fun i3 =>
 .cs [48, 48, 48, 49, 48, 50, 48, 51, 48, 52, 48, 53, 48, 54, 48, 55, 48, 56, 48, 57, 49, 48, 49, 49, 49, 50, 49, 51, 49, 52, 49, 53, 49, 54, 49, 55, 49, 56, 49, 57, 50, 48, 50, 49, 50, 50, 50, 51, 50, 52, 50, 53, 50, 54, 50, 55, 50, 56, 50, 57, 51, 48, 51, 49, 51, 50, 51, 51, 51, 52, 51, 53, 51, 54, 51, 55, 51, 56, 51, 57, 52, 48, 52, 49, 52, 50, 52, 51, 52, 52, 52, 53, 52, 54, 52, 55, 52, 56, 52, 57, 53, 48, 53, 49, 53, 50, 53, 51, 53, 52, 53, 53, 53, 54, 53, 55, 53, 56, 53, 57, 54, 48, 54, 49, 54, 50, 54, 51, 54, 52, 54, 53, 54, 54, 54, 55, 54, 56, 54, 57, 55, 48, 55, 49, 55, 50, 55, 51, 55, 52, 55, 53, 55, 54, 55, 55, 55, 56, 55, 57, 56, 48, 56, 49, 56, 50, 56, 51, 56, 52, 56, 53, 56, 54, 56, 55, 56, 56, 56, 57, 57, 48, 57, 49, 57, 50, 57, 51, 57, 52, 57, 53, 57, 54, 57, 55, 57, 56, 57, 57] (some i2) (some i3) fun s4 =>
 .ret s4) (fn_of Tryz.func232)
def S_q20 (a0 : (List UInt8)) (a1 : Int) (a2 : Int) (a3 : Bool) (a4 : Bool) : Option ((List UInt8) × (List UInt8)) :=
 none
theorem ok_q20 (a0 : (List UInt8)) (a1 : Int) (a2 : Int) (a3 : Bool) (a4 : Bool) : Oc (S_q20 a0 a1 a2 a3 a4) 235 [] [vq e_u8 a0, .val false [.int .u64 a1], vi a2, vb a3, vb a4] fun r => (.tup [(false, [.own 1 (eL e_u8 r.1)]), (false, [.str r.2])], []) := tc (
 .no) (fn_of Tryz.func235)
def S_q1t (a0 : Int) (a1 : Int) : Option (List UInt8) :=
 if a1 = 10 then
  if 0 <= a0 then
   if a0 < 100 then
    (S_q22 a0).bind fun r4 =>
    some r4
   else
   none
  else
  none
 else
 (S_q20 [] (IntKind.u64.wrap a0) a1 (decide (a0 < 0)) false).bind fun ⟨r2_0, r2_1⟩ =>
 some r2_1
theorem ok_q1t (a0 : Int) (a1 : Int) : Oc (S_q1t a0 a1) 221 [] [vi a0, vi a1] fun r => (vs r, []) := tc (
 .eI a1 10 (fun c1 =>
  .gI 0 a0 (fun c2 =>
   .lI a0 100 (fun c3 =>
    .cl (ok_q22 a0) fun r4 =>
    .ret r4) fun c3 =>
   .no) fun c2 =>
  .no) fun c1 =>
 .lD a0 0 <|
 .cl (ok_q20 [] (IntKind.u64.wrap a0) a1 (decide (a0 < 0)) false) fun ⟨r2_0, r2_1⟩ =>
 .ret r2_1) (fn_of Tryz.func221)
def S_q23 (a0 : Int) : Option (List UInt8) :=
 (S_q1t a0 10).bind fun r1 =>
 some r1
theorem ok_q23 (a0 : Int) : Oc (S_q23 a0) 201 [] [vi a0] fun r => (vs r, []) := tc (
 .cl (ok_q1t a0 10) fun r1 =>
 .ret r1) (fn_of Tryz.func201)
def S_q2h (a0 : Int) : Option (List UInt8) :=
 (S_q23 a0).bind fun r1 =>
 some r1
theorem ok_q2h (a0 : Int) : Oc (S_q2h a0) 174 [] [vi a0] fun r => (vs r, []) := tc (
 .cl (ok_q23 a0) fun r1 =>
 .ret r1) (fn_of Tryz.func174)
def S_q1i (a0 : (List UInt8)) : Option Bool :=
 (S_bytes_Cut a0 [(91 : UInt8)]).bind fun ⟨r1_0, r1_1, r1_2⟩ =>
 (S_q19 r1_0).bind fun r2 =>
 match r2 with
 | true =>
  match r1_2 with
  | true =>
   (S_q21 r1_1 [(93 : UInt8)]).bind fun ⟨r3_0, r3_1⟩ =>
   (S_q2b r3_0 [(34 : UInt8)]).bind fun ⟨r4_0, r4_1⟩ =>
   (S_q21 r4_0 [(34 : UInt8)]).bind fun ⟨r5_0, r5_1⟩ =>
   match r4_1 with
   | true =>
    match r3_1 with
    | true =>
     match r5_1 with
     | true =>
      (S_q19 r5_0).bind fun r6 =>
      some r6
     | false =>
      some false
    | false =>
     some false
   | false =>
    match r5_1 with
    | true =>
     match r3_1 with
     | true =>
      some false
     | false =>
      some false
    | false =>
     (S_q28 r3_0).bind fun ⟨r6_0, r6_1⟩ =>
     match r6_1 with
     | true =>
      match r3_1 with
      | true =>
       some false
      | false =>
       some false
     | false =>
      match r3_1 with
      | true =>
       (S_impl_in r6_0 0 99).bind fun r7 =>
       match r7 with
       | true =>
        (S_q2h r6_0).bind fun r8 =>
        some (decide (r8 = r3_0))
       | false =>
        some false
      | false =>
       some false
  | false =>
   some true
 | false =>
  some false
theorem ok_q1i (a0 : (List UInt8)) : Oc (S_q1i a0) 133 [] [vq e_u8 a0] fun r => (vb r, []) := tc (
 .le e_u8 [(91 : UInt8)] <|
 .q (.lTo 0 (([(91 : UInt8)].length : Nat) : Int) (by decide)) <|
 .vw E_u8 [(91 : UInt8)] <|
 .cl (ok_bytes_Cut a0 [(91 : UInt8)]) fun ⟨r1_0, r1_1, r1_2⟩ =>
 .cl (ok_q19 r1_0) fun r2 =>
 .vN 0 r2 (
  .vN 0 r1_2 (
   .le e_u8 [(93 : UInt8)] <|
   .q (.lTo 0 (([(93 : UInt8)].length : Nat) : Int) (by decide)) <|
   .vw E_u8 [(93 : UInt8)] <|
   .cl (ok_q21 r1_1 [(93 : UInt8)]) fun ⟨r3_0, r3_1⟩ =>
   .le e_u8 [(34 : UInt8)] <|
   .q (.lTo 0 (([(34 : UInt8)].length : Nat) : Int) (by decide)) <|
   .vw E_u8 [(34 : UInt8)] <|
   .cl (ok_q2b r3_0 [(34 : UInt8)]) fun ⟨r4_0, r4_1⟩ =>
   .le e_u8 [(34 : UInt8)] <|
   .q (.lTo 0 (([(34 : UInt8)].length : Nat) : Int) (by decide)) <|
   .vw E_u8 [(34 : UInt8)] <|
   .cl (ok_q21 r4_0 [(34 : UInt8)]) fun ⟨r5_0, r5_1⟩ =>
   .vM 0 r4_1 (
    .az 0 0 <|
    .vM 1 r3_1 (
     .az 0 0 <|
     .az 0 1 <|
     .az 0 1 <|
     .vM 0 r5_1 (
      .az 0 0 <|
      .cl (ok_q19 r5_0) fun r6 =>
      .az 0 1 <|
      .ret r6) <|
     .az 0 0 <|
     .az 0 0 <|
     .ret false) <|
    .az 0 0 <|
    .ret false) <|
   .az 0 0 <|
   .vM 0 r5_1 (
    .vM 0 r3_1 (
     .az 0 0 <|
     .az 0 2 <|
     .az 0 2 <|
     .ret false) <|
    .az 0 0 <|
    .ret false) <|
   .bt r3_0 <|
   .ae (ok_q28 r3_0) (fun r6_0 =>
    .vM 0 r3_1 (
     .az 0 0 <|
     .az 0 0 <|
     .ret false) <|
    .az 0 0 <|
    .az 0 0 <|
    .ret false) fun r6_0 =>
   .vM 0 r3_1 (
    .az 0 0 <|
    .az 0 0 <|
    .cl (ok_impl_in r6_0 0 99) fun r7 =>
    .vM 1 r7 (
     .az 0 0 <|
     .cl (ok_q2h r6_0) fun r8 =>
     .az 0 1 <|
     .az 0 1 <|
     .bt r3_0 <|
     .az 0 1 <|
     .sD r8 r3_0 <|
     .az 0 1 <|
     .ret (decide (r8 = r3_0))) <|
    .az 0 0 <|
    .az 0 0 <|
    .az 0 0 <|
    .az 0 0 <|
    .az 0 0 <|
    .ret false) <|
   .az 0 0 <|
   .az 0 0 <|
   .ret false) <|
  .ret true) <|
 .ret false) (fn_of Tryz.func133)
def S_q1m (a0 : (List UInt8)) (a1 : (List UInt8)) : Option Int :=
 (S_q1q a0 a1).bind fun r1 =>
 some r1
theorem ok_q1m (a0 : (List UInt8)) (a1 : (List UInt8)) : Oc (S_q1m a0 a1) 121 [] [vq e_u8 a0, vq e_u8 a1] fun r => (vi r, []) := tc (
 .cl (ok_q1q a0 a1) fun r1 =>
 .ret r1) (fn_of Tryz.func121)
def K_q1g (F : (List UInt8) → Option Bool) : Prop := ∀ (a0 : (List UInt8)), Oc (F a0) 236 [] [vq e_u8 a0] fun r => (vb r, [])
def L_q1g_l0 (a0 : (List UInt8)) (v1 : Int) : Nat → Int → Option (Bool ⊕ Int)
  | 0, _ => none
  | m + 1, v2 =>
  if v2 < v1 then
   (natO v2).bind fun i2 =>
   (a0[i2]?).bind fun x3 =>
   if ((x3.toNat : Nat) : Int) < 32 then
    some (.inl false)
   else
   if 126 < ((x3.toNat : Nat) : Int) then
    some (.inl false)
   else
   L_q1g_l0 a0 v1 m (w64 (v2 + 1))
  else
  some (.inr v2)
theorem gl_impl_isText_l0 (a0 : (List UInt8)) (v1 : Int) (m : Nat) : ∀ (v2 : Int), Ol (L_q1g_l0 a0 v1 m v2) 236 (loopB Tryz.f236 0) ⟨[(0, vq e_u8 a0), (5, vq e_u8 a0), (6, vi v1), (7, vi v2)], [], 0⟩ fun o => match o with | .inl o_0 => (.ret, ⟨[(2, vb o_0)], [], 0⟩) | .inr (o_1) => (.exit 0, ⟨[(0, vq e_u8 a0), (5, vq e_u8 a0), (6, vi v1), (7, vi o_1), (8, vb false)], [], 0⟩) := by
  induction m with
  | zero => intro v2 o h; cases h
  | succ m ih => exact fun v2 => tlp (
   .lI v2 v1 (fun c1 =>
    .na v2 fun i2 =>
    .ix0 e_u8 a0 i2 fun x3 =>
    .lI ((x3.toNat : Nat) : Int) 32 (fun c4 =>
     .ret (.inl false)) fun c4 =>
    .lI 126 ((x3.toNat : Nat) : Int) (fun c5 =>
     .ret (.inl false)) fun c5 =>
    .go (ih (w64 (v2 + 1)))) fun c1 =>
   .ret (.inr v2))
def T_q1g (n : Nat) (a0 : (List UInt8)) : Option Bool :=
 (L_q1g_l0 a0 ((a0.length : Nat) : Int) n 0).bind fun o1 =>
 match o1 with
 | .inl o1_0 =>
  some o1_0
 | .inr (o1_1) =>
  some (decide (((a0.length : Nat) : Int) <= 20))
theorem g_impl_isText (n : Nat) : K_q1g (T_q1g n) := fun a0 => tc (
 .le e_u8 a0 <|
 .l2 (gl_impl_isText_l0 a0 ((a0.length : Nat) : Int) n 0) (fun o1_0 =>
  .ret o1_0) fun o1_1 =>
 .le e_u8 a0 <|
 .gD ((a0.length : Nat) : Int) 20 <|
 .ret (decide (((a0.length : Nat) : Int) <= 20))) (fn_of Tryz.func236)
theorem impl_isText_loop {a : List UInt8} (ha : a.length <= 2 ^ 20) : ∀ (d i m : Nat), i + d = a.length → d < m → ∃ z, L_q1g_l0 a (a.length : Int) m (i : Int) = some (if (a.drop i).all (inB 32 126) = true then .inr z else .inl false) := by
  intro d
  induction d with
  | zero =>
    intro i m hi hm
    obtain ⟨m, rfl, _⟩ := fuel hm
    exact ⟨_, by rw [L_q1g_l0, if_neg (by omega), List.drop_eq_nil_of_le (by omega)]; rfl⟩
  | succ d ih =>
    intro i m hi hm
    obtain ⟨m, rfl, hm'⟩ := fuel hm
    have hil : i < a.length := by omega
    rw [L_q1g_l0, if_pos (by omega), natO_nat, Option.bind_some, get_some hil, Option.bind_some, w64_succ (by omega), drop_cons hil, List.all_cons]
    by_cases h1 : ((a[i].toNat : Nat) : Int) < 32
    · exact ⟨0, by rw [if_pos h1, if_neg]; simp [inB]; omega⟩
    · rw [if_neg h1]
      by_cases h2 : (126 : Int) < ((a[i].toNat : Nat) : Int)
      · exact ⟨0, by rw [if_pos h2, if_neg]; simp [inB]; omega⟩
      · rw [if_neg h2, show inB 32 126 a[i] = true by simp [inB]; omega, Bool.true_and]
        exact ih (i + 1) m (by omega) (by omega)
def S_q1g (a0 : (List UInt8)) : Option Bool := if a0.length <= 2 ^ 20 then some (textB a0) else none
theorem spec_q1g (a0 : (List UInt8)) (r : Bool) (h : S_q1g a0 = some r) : ∃ n, T_q1g n a0 = some r := by
  unfold S_q1g at h
  obtain ⟨ha, h⟩ := need_c h
  refine ⟨a0.length + 1, ?_⟩
  obtain ⟨z, hz⟩ := impl_isText_loop ha a0.length 0 (a0.length + 1) (by omega) (by omega)
  rw [show ((0 : Nat) : Int) = 0 from rfl, List.drop_zero] at hz
  unfold T_q1g
  rw [<- h, hz]
  unfold textB
  by_cases hl : a0.length <= 20
  · rw [decide_eq_true hl]
    cases a0.all (inB 32 126)
    · rfl
    · show some (decide _) = _; rw [decide_eq_true (by omega)]; rfl
  · rw [decide_eq_false hl]
    cases a0.all (inB 32 126)
    · rfl
    · show some (decide _) = _; rw [decide_eq_false (by omega)]; rfl
theorem ok_q1g : K_q1g S_q1g := fun a0 r h => (spec_q1g a0 r h).elim fun n hn => g_impl_isText n a0 r hn
end
end Go.Am.Try
