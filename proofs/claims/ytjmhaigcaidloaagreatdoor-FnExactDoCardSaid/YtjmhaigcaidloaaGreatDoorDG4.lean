
/- The functions of the program in plain Lean, and that the machine answers as they do; conditions at each theorem. -/
import Derived.Test.YtjmhaigcaidloaaGreatDoorDG3
set_option linter.unusedVariables false
set_option linter.unusedSimpArgs false
namespace Go.Am.Try
open Go.Am Go.Proofs
set_option linter.unusedVariables false
set_option maxRecDepth 20000
set_option maxHeartbeats 2000000
noncomputable section
def S_q2e (a0 : GState) (a1 : GEvent) : Option (GState × Bool) :=
 (S_q11 a0).bind fun r1 =>
 (S_q2c a0 a1).bind fun r2 =>
 match r2 with
 | true =>
  (S_q1e (GState.mk (w64 (r1.Serial + 1)) r1.Open r1.Pending r1.Act r1.Entries) a1.Addr).bind fun ⟨r3_0, r3_1⟩ =>
  if a1.Kind = 0 then
   some ((GState.mk (w64 (r1.Serial + 1)) true r1.Pending r1.Act r1.Entries), true)
  else
  if a1.Kind = 1 then
   (S_q17 a1.Addr).bind fun r6 =>
   some ((GState.mk (w64 (r1.Serial + 1)) r1.Open r6 a1.Act r1.Entries), true)
  else
  if a1.Kind = 2 then
   (S_q17 a1.Addr).bind fun r7 =>
   (S_q7 a1.Val).bind fun r8 =>
   (S_qm a1.Deps).bind fun r9 =>
   match r3_1 with
   | true =>
    (natO r3_0).bind fun i10 =>
    (r1.Entries[i10]?).bind fun x11 =>
    some ((GState.mk (w64 (r1.Serial + 1)) r1.Open [] 0 (r1.Entries.set i10 (GEntry.mk r7 r8 r9 false (w64 (r1.Serial + 1))))), true)
   | false =>
    (S_q1p r3_0 r1.Entries [(GEntry.mk r7 r8 r9 false (w64 (r1.Serial + 1)))]).bind fun r10 =>
    some ((GState.mk (w64 (r1.Serial + 1)) r1.Open [] 0 r10), true)
  else
  if a1.Kind = 3 then
   (S_q1v r3_0 (w64 (r3_0 + 1)) r1.Entries).bind fun r8 =>
   some ((GState.mk (w64 (r1.Serial + 1)) r1.Open [] 0 r8), true)
  else
  if a1.Kind = 4 then
   (S_q1w false (w64 (r1.Serial + 1)) r1.Open r1.Act r1.Pending r1.Entries).bind fun r9 =>
   some ((GState.mk r9.Serial true [] 0 r9.Entries), true)
  else
  if a1.Kind = 6 then
   (S_q1w true (w64 (r1.Serial + 1)) r1.Open r1.Act r1.Pending r1.Entries).bind fun r10 =>
   some ((GState.mk r10.Serial false [] 0 r10.Entries), true)
  else
  if a1.Kind = 5 then
   some ((GState.mk (w64 (r1.Serial + 1)) false [] 0 r1.Entries), true)
  else
  some ((GState.mk (w64 (r1.Serial + 1)) r1.Open [] 0 r1.Entries), true)
 | false =>
  some (r1, false)
theorem ok_q2e (a0 : GState) (a1 : GEvent) : Oc (S_q2e a0 a1) 80 [] [.val true (x_GState a0), .val true (x_GEvent a1)] fun r => (.tup [(true, (y_GState r.1)), (false, [.bool r.2])], []) := tc (
 .cl (ok_q11 a0) fun r1 =>
 .cl (ok_q2c a0 a1) fun r2 =>
 .vN 0 r2 (
  .vw E_u8 r1.Pending <|
  .vo O_GEntry r1.Entries <|
  .cl (ok_q1e (GState.mk (w64 (r1.Serial + 1)) r1.Open r1.Pending r1.Act r1.Entries) a1.Addr) fun ⟨r3_0, r3_1⟩ =>
  .eI a1.Kind 0 (fun c4 =>
   .ret ((GState.mk (w64 (r1.Serial + 1)) true r1.Pending r1.Act r1.Entries), true)) fun c4 =>
  .eI a1.Kind 1 (fun c5 =>
   .cl (ok_q17 a1.Addr) fun r6 =>
   .ret ((GState.mk (w64 (r1.Serial + 1)) r1.Open r6 a1.Act r1.Entries), true)) fun c5 =>
  .eI a1.Kind 2 (fun c6 =>
   .cl (ok_q17 a1.Addr) fun r7 =>
   .cl (ok_q7 a1.Val) fun r8 =>
   .cl (ok_qm a1.Deps) fun r9 =>
   .vM 0 r3_1 (
    .na r3_0 fun i10 =>
    .ix oeq_GEntry r1.Entries i10 fun x11 =>
    .ag 0 <|
    .sl (oeq_GEntry (GEntry.mk r7 r8 r9 false (w64 (r1.Serial + 1)))) r1.Entries i10 <|
    .ret ((GState.mk (w64 (r1.Serial + 1)) r1.Open [] 0 (r1.Entries.set i10 (GEntry.mk r7 r8 r9 false (w64 (r1.Serial + 1))))), true)) <|
   .cl (ok_q1p r3_0 r1.Entries [(GEntry.mk r7 r8 r9 false (w64 (r1.Serial + 1)))]) fun r10 =>
   .ret ((GState.mk (w64 (r1.Serial + 1)) r1.Open [] 0 r10), true)) fun c6 =>
  .eI a1.Kind 3 (fun c7 =>
   .cl (ok_q1v r3_0 (w64 (r3_0 + 1)) r1.Entries) fun r8 =>
   .ret ((GState.mk (w64 (r1.Serial + 1)) r1.Open [] 0 r8), true)) fun c7 =>
  .eI a1.Kind 4 (fun c8 =>
   .q (.eFo a1.Kind 6 (by omega)) <|
   .cl (ok_q1w false (w64 (r1.Serial + 1)) r1.Open r1.Act r1.Pending r1.Entries) fun r9 =>
   .q (.eT c8) <|
   .ret ((GState.mk r9.Serial true [] 0 r9.Entries), true)) fun c8 =>
  .eI a1.Kind 6 (fun c9 =>
   .q (.eT c9) <|
   .cl (ok_q1w true (w64 (r1.Serial + 1)) r1.Open r1.Act r1.Pending r1.Entries) fun r10 =>
   .q (.eF c8) <|
   .ret ((GState.mk r10.Serial false [] 0 r10.Entries), true)) fun c9 =>
  .eI a1.Kind 5 (fun c10 =>
   .ret ((GState.mk (w64 (r1.Serial + 1)) false [] 0 r1.Entries), true)) fun c10 =>
  .ret ((GState.mk (w64 (r1.Serial + 1)) r1.Open [] 0 r1.Entries), true)) <|
 .ret (r1, false)) (fn_of Tryz.func80)
def S_impl_Do (a0 : GState) (a1 : GEvent) : Option (GState × Bool) :=
 (S_q1c a0).bind fun r1 =>
 match r1 with
 | true =>
  (S_q2p a1).bind fun r2 =>
  match r2 with
  | true =>
   (S_q2e a0 a1).bind fun ⟨r3_0, r3_1⟩ =>
   some (r3_0, r3_1)
  | false =>
   some ((GState.mk 0 false [] 0 []), false)
 | false =>
  some ((GState.mk 0 false [] 0 []), false)
theorem ok_impl_Do (a0 : GState) (a1 : GEvent) : Oc (S_impl_Do a0 a1) 20 [] [.val true (x_GState a0), .val true (x_GEvent a1)] fun r => (.tup [(true, (y_GState r.1)), (false, [.bool r.2])], []) := tc (
 .cl (ok_q1c a0) fun r1 =>
 .vN 0 r1 (
  .an 0 0 <|
  .cl (ok_q2p a1) fun r2 =>
  .an 0 1 <|
  .an 0 1 <|
  .vN 0 r2 (
   .cl (ok_q2e a0 a1) fun ⟨r3_0, r3_1⟩ =>
   .ret (r3_0, r3_1)) <|
  .ret ((GState.mk 0 false [] 0 []), false)) <|
 .an 0 0 <|
 .an 0 0 <|
 .an 0 0 <|
 .ret ((GState.mk 0 false [] 0 []), false)) (fn_of Tryz.func20)
def K_qf (F : (List UInt8) → (List UInt8) → Option Bool) : Prop := ∀ (a0 : (List UInt8)) (a1 : (List UInt8)), Oc (F a0 a1) 38 [] [vq e_u8 a0, vq e_u8 a1] fun r => (vb r, [])
def L_qf_l0 (a0 : (List UInt8)) (a1 : (List UInt8)) : Nat → Int → Option (Bool ⊕ Int)
  | 0, _ => none
  | m + 1, v2 =>
  if v2 < ((a0.length : Nat) : Int) then
   (natO v2).bind fun i2 =>
   (a0[i2]?).bind fun x3 =>
   (a1[i2]?).bind fun x4 =>
   if ((x3.toNat : Nat) : Int) = ((x4.toNat : Nat) : Int) then
    L_qf_l0 a0 a1 m (w64 (v2 + 1))
   else
   some (.inl false)
  else
  some (.inr v2)
theorem gl_laws_eqByteS_l0 (a0 : (List UInt8)) (a1 : (List UInt8)) (m : Nat) : ∀ (v2 : Int), Ol (L_qf_l0 a0 a1 m v2) 38 (loopB Tryz.f38 0) ⟨[(0, vq e_u8 a0), (1, vq e_u8 a1), (5, vi v2)], [], 0⟩ fun o => match o with | .inl o_0 => (.ret, ⟨[(4, vb o_0)], [], 0⟩) | .inr (o_1) => (.exit 0, ⟨[(0, vq e_u8 a0), (1, vq e_u8 a1), (5, vi o_1), (14, vb false)], [], 0⟩) := by
  induction m with
  | zero => intro v2 o h; cases h
  | succ m ih => exact fun v2 => tlp (
   .le e_u8 a0 <|
   .lI v2 ((a0.length : Nat) : Int) (fun c1 =>
    .na v2 fun i2 =>
    .ix0 e_u8 a0 i2 fun x3 =>
    .ag 1 <|
    .ix0 e_u8 a1 i2 fun x4 =>
    .eI ((x3.toNat : Nat) : Int) ((x4.toNat : Nat) : Int) (fun c5 =>
     .go (ih (w64 (v2 + 1)))) fun c5 =>
    .ret (.inl false)) fun c1 =>
   .ret (.inr v2))
def T_qf (n : Nat) (a0 : (List UInt8)) (a1 : (List UInt8)) : Option Bool :=
 if ((a0.length : Nat) : Int) = ((a1.length : Nat) : Int) then
  (L_qf_l0 a0 a1 n 0).bind fun o2 =>
  match o2 with
  | .inl o2_0 =>
   some o2_0
  | .inr (o2_1) =>
   some true
 else
 some false
theorem g_laws_eqByteS (n : Nat) : K_qf (T_qf n) := fun a0 a1 => tc (
 .le e_u8 a0 <|
 .le e_u8 a1 <|
 .eI ((a0.length : Nat) : Int) ((a1.length : Nat) : Int) (fun c1 =>
  .l2 (gl_laws_eqByteS_l0 a0 a1 n 0) (fun o2_0 =>
   .ret o2_0) fun o2_1 =>
  .ret true) fun c1 =>
 .ret false) (fn_of Tryz.func38)
theorem eqByteS_loop {a : List UInt8} (ha : a.length <= 2 ^ 40) : ∀ (d i m : Nat), i + d = a.length → d < m → ∃ z, L_qf_l0 a a m (i : Int) = some (.inr z) := by
  intro d
  induction d with
  | zero =>
    intro i m hi hm
    obtain ⟨m, rfl, _⟩ := fuel hm
    exact ⟨_, by rw [L_qf_l0, if_neg (by omega)]⟩
  | succ d ih =>
    intro i m hi hm
    obtain ⟨m, rfl, hm'⟩ := fuel hm
    have hil : i < a.length := by omega
    rw [L_qf_l0, if_pos (by omega), natO_nat, Option.bind_some, get_some hil, Option.bind_some, Option.bind_some, if_pos rfl, w64_succ (by omega)]
    exact ih (i + 1) m (by omega) (by omega)
def S_qf (a0 : (List UInt8)) (a1 : (List UInt8)) : Option Bool := if a0 = a1 ∧ a0.length <= 2 ^ 40 then some true else none
theorem spec_qf (a0 : (List UInt8)) (a1 : (List UInt8)) (r : Bool) (h : S_qf a0 a1 = some r) : ∃ n, T_qf n a0 a1 = some r := by
  unfold S_qf at h
  obtain ⟨⟨he, ha⟩, h2⟩ := need_c h
  clear h
  subst he
  refine ⟨a0.length + 1, ?_⟩
  obtain ⟨z, hz⟩ := eqByteS_loop ha a0.length 0 (a0.length + 1) (by omega) (by omega)
  rw [show ((0 : Nat) : Int) = 0 from rfl] at hz
  unfold T_qf
  rw [if_pos rfl, hz]; exact h2
theorem ok_qf : K_qf S_qf := fun a0 a1 r h => (spec_qf a0 a1 r h).elim fun n hn => g_laws_eqByteS n a0 a1 r hn
def K_qq (F : (List (List UInt8)) → (List (List UInt8)) → Option Bool) : Prop := ∀ (a0 : (List (List UInt8))) (a1 : (List (List UInt8))), Oc (F a0 a1) 63 [] [vq (e_sl e_u8) a0, vq (e_sl e_u8) a1] fun r => (vb r, [])
def L_qq_l0 (a0 : (List (List UInt8))) (a1 : (List (List UInt8))) : Nat → Int → Option (Bool ⊕ Int)
  | 0, _ => none
  | m + 1, v2 =>
  if v2 < ((a0.length : Nat) : Int) then
   (natO v2).bind fun i2 =>
   (a0[i2]?).bind fun x3 =>
   (a1[i2]?).bind fun x4 =>
   (S_qf x3 x4).bind fun r5 =>
   match r5 with
   | true =>
    L_qq_l0 a0 a1 m (w64 (v2 + 1))
   | false =>
    some (.inl false)
  else
  some (.inr v2)
theorem gl_laws_eqByteSS_l0 (a0 : (List (List UInt8))) (a1 : (List (List UInt8))) (m : Nat) : ∀ (v2 : Int), Ol (L_qq_l0 a0 a1 m v2) 63 (loopB Tryz.f63 0) ⟨[(0, vq (e_sl e_u8) a0), (1, vq (e_sl e_u8) a1), (5, vi v2)], [], 0⟩ fun o => match o with | .inl o_0 => (.ret, ⟨[(4, vb o_0)], [], 0⟩) | .inr (o_1) => (.exit 0, ⟨[(0, vq (e_sl e_u8) a0), (1, vq (e_sl e_u8) a1), (5, vi o_1), (14, vb false)], [], 0⟩) := by
  induction m with
  | zero => intro v2 o h; cases h
  | succ m ih => exact fun v2 => tlp (
   .le (e_sl e_u8) a0 <|
   .lI v2 ((a0.length : Nat) : Int) (fun c1 =>
    .na v2 fun i2 =>
    .ix0 (e_sl e_u8) a0 i2 fun x3 =>
    .ag 1 <|
    .ix0 (e_sl e_u8) a1 i2 fun x4 =>
    .cl (ok_qf x3 x4) fun r5 =>
    .vN 0 r5 (
     .go (ih (w64 (v2 + 1)))) <|
    .ret (.inl false)) fun c1 =>
   .ret (.inr v2))
def T_qq (n : Nat) (a0 : (List (List UInt8))) (a1 : (List (List UInt8))) : Option Bool :=
 if ((a0.length : Nat) : Int) = ((a1.length : Nat) : Int) then
  (L_qq_l0 a0 a1 n 0).bind fun o2 =>
  match o2 with
  | .inl o2_0 =>
   some o2_0
  | .inr (o2_1) =>
   some true
 else
 some false
theorem g_laws_eqByteSS (n : Nat) : K_qq (T_qq n) := fun a0 a1 => tc (
 .le (e_sl e_u8) a0 <|
 .le (e_sl e_u8) a1 <|
 .eI ((a0.length : Nat) : Int) ((a1.length : Nat) : Int) (fun c1 =>
  .l2 (gl_laws_eqByteSS_l0 a0 a1 n 0) (fun o2_0 =>
   .ret o2_0) fun o2_1 =>
  .ret true) fun c1 =>
 .ret false) (fn_of Tryz.func63)
theorem eqByteSS_loop {a : List (List UInt8)} (ha : bsz a <= 2 ^ 40) : ∀ (d i m : Nat), i + d = a.length → d < m → ∃ z, L_qq_l0 a a m (i : Int) = some (.inr z) := by
  have hl := bsz_len a
  intro d
  induction d with
  | zero =>
    intro i m hi hm
    obtain ⟨m, rfl, _⟩ := fuel hm
    exact ⟨_, by rw [L_qq_l0, if_neg (by omega)]⟩
  | succ d ih =>
    intro i m hi hm
    obtain ⟨m, rfl, hm'⟩ := fuel hm
    have hil : i < a.length := by omega
    have hx := bsz_mem (List.getElem_mem hil)
    rw [L_qq_l0, if_pos (by omega), natO_nat, Option.bind_some, get_some hil, Option.bind_some, Option.bind_some]
    unfold S_qf
    rw [if_pos ⟨rfl, by omega⟩, Option.bind_some, w64_succ (by omega)]
    exact ih (i + 1) m (by omega) (by omega)
def S_qq (a0 : (List (List UInt8))) (a1 : (List (List UInt8))) : Option Bool := if a0 = a1 ∧ bsz a0 <= 2 ^ 40 then some true else none
theorem spec_qq (a0 : (List (List UInt8))) (a1 : (List (List UInt8))) (r : Bool) (h : S_qq a0 a1 = some r) : ∃ n, T_qq n a0 a1 = some r := by
  unfold S_qq at h
  obtain ⟨⟨he, ha⟩, h2⟩ := need_c h
  clear h
  subst he
  have hl := bsz_len a0
  refine ⟨a0.length + 1, ?_⟩
  obtain ⟨z, hz⟩ := eqByteSS_loop ha a0.length 0 (a0.length + 1) (by omega) (by omega)
  rw [show ((0 : Nat) : Int) = 0 from rfl] at hz
  unfold T_qq
  rw [if_pos rfl, hz]; exact h2
theorem ok_qq : K_qq S_qq := fun a0 a1 r h => (spec_qq a0 a1 r h).elim fun n hn => g_laws_eqByteSS n a0 a1 r hn
def K_qj (F : (List GValue) → (List GValue) → Option Bool) : Prop := ∀ (a0 : (List GValue)) (a1 : (List GValue)), Oc (F a0 a1) 144 [] [vq e_GValue a0, vq e_GValue a1] fun r => (vb r, [])
def K_qu (F : GValue → GValue → Option Bool) : Prop := ∀ (a0 : GValue) (a1 : GValue), Oc (F a0 a1) 82 [] [.val true (x_GValue a0), .val true (x_GValue a1)] fun r => (vb r, [])
def L_qj_l0 (G_laws_eqValue : GValue → GValue → Option Bool) (a0 : (List GValue)) (a1 : (List GValue)) : Nat → Int → Option (Bool ⊕ Int)
  | 0, _ => none
  | m + 1, v2 =>
  if v2 < ((a0.length : Nat) : Int) then
   (natO v2).bind fun i2 =>
   (a0[i2]?).bind fun x3 =>
   (a1[i2]?).bind fun x4 =>
   (G_laws_eqValue x3 x4).bind fun r5 =>
   match r5 with
   | true =>
    L_qj_l0 G_laws_eqValue a0 a1 m (w64 (v2 + 1))
   | false =>
    some (.inl false)
  else
  some (.inr v2)
theorem gl_laws_eqValueS_l0 (G_laws_eqValue : GValue → GValue → Option Bool) (H_laws_eqValue : K_qu G_laws_eqValue) (a0 : (List GValue)) (a1 : (List GValue)) (m : Nat) : ∀ (v2 : Int), Ol (L_qj_l0 G_laws_eqValue a0 a1 m v2) 144 (loopB Tryz.f144 0) ⟨[(0, vq e_GValue a0), (1, vq e_GValue a1), (5, vi v2)], [], 0⟩ fun o => match o with | .inl o_0 => (.ret, ⟨[(4, vb o_0)], [], 0⟩) | .inr (o_1) => (.exit 0, ⟨[(0, vq e_GValue a0), (1, vq e_GValue a1), (5, vi o_1), (14, vb false)], [], 0⟩) := by
  induction m with
  | zero => intro v2 o h; cases h
  | succ m ih => exact fun v2 => tlp (
   .le e_GValue a0 <|
   .lI v2 ((a0.length : Nat) : Int) (fun c1 =>
    .na v2 fun i2 =>
    .ix eq_GValue a0 i2 fun x3 =>
    .ag 1 <|
    .ix eq_GValue a1 i2 fun x4 =>
    .cl (H_laws_eqValue x3 x4) fun r5 =>
    .vN 0 r5 (
     .go (ih (w64 (v2 + 1)))) <|
    .ret (.inl false)) fun c1 =>
   .ret (.inr v2))
def T_qj (G_laws_eqValue : GValue → GValue → Option Bool) (n : Nat) (a0 : (List GValue)) (a1 : (List GValue)) : Option Bool :=
 if ((a0.length : Nat) : Int) = ((a1.length : Nat) : Int) then
  (L_qj_l0 G_laws_eqValue a0 a1 n 0).bind fun o2 =>
  match o2 with
  | .inl o2_0 =>
   some o2_0
  | .inr (o2_1) =>
   some true
 else
 some false
theorem g_laws_eqValueS (G_laws_eqValue : GValue → GValue → Option Bool) (H_laws_eqValue : K_qu G_laws_eqValue) (n : Nat) : K_qj (T_qj G_laws_eqValue n) := fun a0 a1 => tc (
 .le e_GValue a0 <|
 .le e_GValue a1 <|
 .eI ((a0.length : Nat) : Int) ((a1.length : Nat) : Int) (fun c1 =>
  .l2 (gl_laws_eqValueS_l0 G_laws_eqValue H_laws_eqValue a0 a1 n 0) (fun o2_0 =>
   .ret o2_0) fun o2_1 =>
  .ret true) fun c1 =>
 .ret false) (fn_of Tryz.func144)
def T_qu (G_laws_eqValueS : (List GValue) → (List GValue) → Option Bool) (a0 : GValue) (a1 : GValue) : Option Bool :=
 if a0.Kind = a1.Kind then
  if a0.N = a1.N then
   (S_qf a0.S a1.S).bind fun r3 =>
   match r3 with
   | true =>
    (S_qq a0.K a1.K).bind fun r4 =>
    match r4 with
    | true =>
     (G_laws_eqValueS a0.L a1.L).bind fun r5 =>
     match r5 with
     | true =>
      some true
     | false =>
      some false
    | false =>
     some false
   | false =>
    some false
  else
  some false
 else
 some false
theorem g_laws_eqValue (G_laws_eqValueS : (List GValue) → (List GValue) → Option Bool) (H_laws_eqValueS : K_qj G_laws_eqValueS) : K_qu (T_qu G_laws_eqValueS) := fun a0 a1 => tc (
 .eI a0.Kind a1.Kind (fun c1 =>
  .eI a0.N a1.N (fun c2 =>
   .cl (ok_qf a0.S a1.S) fun r3 =>
   .vN 0 r3 (
    .cl (ok_qq a0.K a1.K) fun r4 =>
    .vN 0 r4 (
     .cl (H_laws_eqValueS a0.L a1.L) fun r5 =>
     .vN 0 r5 (
      .ret true) <|
     .ret false) <|
    .ret false) <|
   .ret false) fun c2 =>
  .ret false) fun c1 =>
 .ret false) (fn_of Tryz.func82)
mutual
def U_qj : Nat → (List GValue) → (List GValue) → Option Bool
  | 0, _, _ => none
  | n + 1, a0, a1 => T_qj (U_qu n) n a0 a1
def U_qu : Nat → GValue → GValue → Option Bool
  | 0, _, _ => none
  | n + 1, a0, a1 => T_qu (U_qj n) a0 a1
end
theorem rec_laws_eqValueS (n : Nat) : K_qj (U_qj n) ∧ K_qu (U_qu n) := by
  induction n with
  | zero => exact ⟨fun _ _ _ h => (by rw [U_qj] at h; cases h), fun _ _ _ h => (by rw [U_qu] at h; cases h)⟩
  | succ n ih =>
    obtain ⟨ih_laws_eqValueS, ih_laws_eqValue⟩ := ih
    exact ⟨fun a0 a1 r h => g_laws_eqValueS (U_qu n) ih_laws_eqValue n a0 a1 r (by rw [U_qj] at h; exact h),
      fun a0 a1 r h => g_laws_eqValue (U_qj n) ih_laws_eqValueS a0 a1 r (by rw [U_qu] at h; exact h)⟩
theorem eqValueS_T {G : GValue → GValue → Option Bool} {a : List GValue} {f : Nat} (ha : a.length <= 2 ^ 40) (hf : a.length < f) (hG : ∀ v ∈ a, G v v = some true) : T_qj G f a a = some true := by
  have loop : ∀ (d i m : Nat), i + d = a.length → d < m → ∃ z, L_qj_l0 G a a m (i : Int) = some (.inr z) := by
    intro d
    induction d with
    | zero =>
      intro i m hi hm
      obtain ⟨m, rfl, _⟩ := fuel hm
      exact ⟨_, by rw [L_qj_l0, if_neg (by omega)]⟩
    | succ d ih =>
      intro i m hi hm
      obtain ⟨m, rfl, hm'⟩ := fuel hm
      have hil : i < a.length := by omega
      rw [L_qj_l0, if_pos (by omega), natO_nat, Option.bind_some, get_some hil, Option.bind_some, Option.bind_some, hG _ (List.getElem_mem hil), Option.bind_some, w64_succ (by omega)]
      exact ih (i + 1) m (by omega) (by omega)
  obtain ⟨z, hz⟩ := loop a.length 0 f (by omega) (by omega)
  rw [show ((0 : Nat) : Int) = 0 from rfl] at hz
  unfold T_qj
  rw [if_pos rfl, hz]; rfl
theorem eqValue_U : ∀ (N : Nat) (v : GValue), vsz v < N → vsz v <= 2 ^ 40 → ∀ f : Nat, 2 * vsz v + 3 <= f → U_qu f v v = some true := by
  intro N
  induction N with
  | zero => intro v hv; omega
  | succ N ih =>
    intro v hv hs f hf
    obtain ⟨f, rfl, _⟩ := fuel (show 0 < f by omega)
    obtain ⟨f, rfl, _⟩ := fuel (show 0 < f by omega)
    have he := vsz_eq v
    have hl := vszs_len v.L
    rw [U_qu]
    unfold T_qu S_qf S_qq
    rw [if_pos rfl, if_pos rfl, if_pos (show v.S = v.S ∧ v.S.length <= 2 ^ 40 from ⟨rfl, by omega⟩), Option.bind_some]
    dsimp only
    rw [if_pos (show v.K = v.K ∧ bsz v.K <= 2 ^ 40 from ⟨rfl, by omega⟩), Option.bind_some]
    dsimp only
    rw [U_qj, eqValueS_T (by omega) (by omega) fun x hx => ?_]
    · rfl
    · have := vszs_mem hx
      exact ih x (by omega) (by omega) f (by omega)
open Classical in
noncomputable def S_qj (a0 : (List GValue)) (a1 : (List GValue)) : Option Bool := if a0 = a1 ∧ vszs a0 <= 2 ^ 40 then some true else none
theorem spec_qj (a0 : (List GValue)) (a1 : (List GValue)) (r : Bool) (h : S_qj a0 a1 = some r) : ∃ n, U_qj n a0 a1 = some r := by
  unfold S_qj at h
  obtain ⟨⟨he, ha⟩, h2⟩ := need_c h
  clear h
  subst he
  have hl := vszs_len a0
  refine ⟨2 * vszs a0 + 5, ?_⟩
  rw [U_qj, eqValueS_T (by omega) (by omega) fun x hx => ?_, h2]
  have := vszs_mem hx
  exact eqValue_U _ x (Nat.lt_succ_self _) (by omega) _ (by omega)
open Classical in
noncomputable def S_qu (a0 : GValue) (a1 : GValue) : Option Bool := if a0 = a1 ∧ vsz a0 <= 2 ^ 40 then some true else none
theorem spec_qu (a0 : GValue) (a1 : GValue) (r : Bool) (h : S_qu a0 a1 = some r) : ∃ n, U_qu n a0 a1 = some r := by
  unfold S_qu at h
  obtain ⟨⟨he, ha⟩, h2⟩ := need_c h
  clear h
  subst he
  exact ⟨2 * vsz a0 + 3, by rw [<- h2]; exact eqValue_U _ a0 (Nat.lt_succ_self _) ha _ (Nat.le_refl _)⟩
theorem ok_qj : K_qj S_qj := by
  intro a0 a1 r h
  obtain ⟨n, hn⟩ := spec_qj a0 a1 r h
  exact (rec_laws_eqValueS n).1 a0 a1 r hn
theorem ok_qu : K_qu S_qu := by
  intro a0 a1 r h
  obtain ⟨n, hn⟩ := spec_qu a0 a1 r h
  exact (rec_laws_eqValueS n).2 a0 a1 r hn
def S_q2k (a0 : GEntry) (a1 : GEntry) : Option Bool :=
 (S_qf a0.Addr a1.Addr).bind fun r1 =>
 match r1 with
 | true =>
  (S_qu a0.Val a1.Val).bind fun r2 =>
  match r2 with
  | true =>
   (S_qq a0.Deps a1.Deps).bind fun r3 =>
   match r3 with
   | true =>
    if a0.Taint = true then
     if a1.Taint = true then
      if a0.Turned = a1.Turned then
       some true
      else
      some false
     else
     some false
    else
    if a1.Taint = true then
     some false
    else
    if a0.Turned = a1.Turned then
     some true
    else
    some false
   | false =>
    some false
  | false =>
   some false
 | false =>
  some false
theorem ok_q2k (a0 : GEntry) (a1 : GEntry) : Oc (S_q2k a0 a1) 143 [] [.val true (x_GEntry a0), .val true (x_GEntry a1)] fun r => (vb r, []) := tc (
 .cl (ok_qf a0.Addr a1.Addr) fun r1 =>
 .vN 0 r1 (
  .cl (ok_qu a0.Val a1.Val) fun r2 =>
  .vN 0 r2 (
   .cl (ok_qq a0.Deps a1.Deps) fun r3 =>
   .vN 0 r3 (
    .sp (a0.Taint = true) (fun c4 =>
     .sp (a1.Taint = true) (fun c5 =>
      .eb c4 c5 <|
      .eI a0.Turned a1.Turned (fun c6 =>
       .ret true) fun c6 =>
      .ret false) fun c5 =>
     .eb c4 (bF c5) <|
     .ret false) fun c4 =>
    .sp (a1.Taint = true) (fun c5 =>
     .eb (bF c4) c5 <|
     .ret false) fun c5 =>
    .eb (bF c4) (bF c5) <|
    .eI a0.Turned a1.Turned (fun c6 =>
     .ret true) fun c6 =>
    .ret false) <|
   .ret false) <|
  .ret false) <|
 .ret false) (fn_of Tryz.func143)
def K_q13 (F : (List GEntry) → (List GEntry) → Option Bool) : Prop := ∀ (a0 : (List GEntry)) (a1 : (List GEntry)), Oc (F a0 a1) 81 [] [vq e_GEntry a0, vq e_GEntry a1] fun r => (vb r, [])
def L_q13_l0 (a0 : (List GEntry)) (a1 : (List GEntry)) : Nat → Int → Option (Bool ⊕ Int)
  | 0, _ => none
  | m + 1, v2 =>
  if v2 < ((a0.length : Nat) : Int) then
   (natO v2).bind fun i2 =>
   (a0[i2]?).bind fun x3 =>
   (a1[i2]?).bind fun x4 =>
   (S_q2k x3 x4).bind fun r5 =>
   match r5 with
   | true =>
    L_q13_l0 a0 a1 m (w64 (v2 + 1))
   | false =>
    some (.inl false)
  else
  some (.inr v2)
theorem gl_laws_eqEntryS_l0 (a0 : (List GEntry)) (a1 : (List GEntry)) (m : Nat) : ∀ (v2 : Int), Ol (L_q13_l0 a0 a1 m v2) 81 (loopB Tryz.f81 0) ⟨[(0, vq e_GEntry a0), (1, vq e_GEntry a1), (5, vi v2)], [], 0⟩ fun o => match o with | .inl o_0 => (.ret, ⟨[(4, vb o_0)], [], 0⟩) | .inr (o_1) => (.exit 0, ⟨[(0, vq e_GEntry a0), (1, vq e_GEntry a1), (5, vi o_1), (14, vb false)], [], 0⟩) := by
  induction m with
  | zero => intro v2 o h; cases h
  | succ m ih => exact fun v2 => tlp (
   .le e_GEntry a0 <|
   .lI v2 ((a0.length : Nat) : Int) (fun c1 =>
    .na v2 fun i2 =>
    .ix eq_GEntry a0 i2 fun x3 =>
    .ag 1 <|
    .ix eq_GEntry a1 i2 fun x4 =>
    .cl (ok_q2k x3 x4) fun r5 =>
    .vN 0 r5 (
     .go (ih (w64 (v2 + 1)))) <|
    .ret (.inl false)) fun c1 =>
   .ret (.inr v2))
def T_q13 (n : Nat) (a0 : (List GEntry)) (a1 : (List GEntry)) : Option Bool :=
 if ((a0.length : Nat) : Int) = ((a1.length : Nat) : Int) then
  (L_q13_l0 a0 a1 n 0).bind fun o2 =>
  match o2 with
  | .inl o2_0 =>
   some o2_0
  | .inr (o2_1) =>
   some true
 else
 some false
theorem g_laws_eqEntryS (n : Nat) : K_q13 (T_q13 n) := fun a0 a1 => tc (
 .le e_GEntry a0 <|
 .le e_GEntry a1 <|
 .eI ((a0.length : Nat) : Int) ((a1.length : Nat) : Int) (fun c1 =>
  .l2 (gl_laws_eqEntryS_l0 a0 a1 n 0) (fun o2_0 =>
   .ret o2_0) fun o2_1 =>
  .ret true) fun c1 =>
 .ret false) (fn_of Tryz.func81)
theorem eqEntryS_loop {a : List GEntry} (ha : a.length <= 2 ^ 40) (hG : ∀ v ∈ a, S_q2k v v = some true) : ∀ (d i m : Nat), i + d = a.length → d < m → ∃ z, L_q13_l0 a a m (i : Int) = some (.inr z) := by
  intro d
  induction d with
  | zero =>
    intro i m hi hm
    obtain ⟨m, rfl, _⟩ := fuel hm
    exact ⟨_, by rw [L_q13_l0, if_neg (by omega)]⟩
  | succ d ih =>
    intro i m hi hm
    obtain ⟨m, rfl, hm'⟩ := fuel hm
    have hil : i < a.length := by omega
    rw [L_q13_l0, if_pos (by omega), natO_nat, Option.bind_some, get_some hil, Option.bind_some, Option.bind_some, hG _ (List.getElem_mem hil), Option.bind_some, w64_succ (by omega)]
    exact ih (i + 1) m (by omega) (by omega)
theorem eqEntry_eq {v : GEntry} (h : esz v <= 2 ^ 39) : S_q2k v v = some true := by
  unfold esz at h
  unfold S_q2k S_qf S_qu S_qq
  rw [if_pos ⟨rfl, by omega⟩, Option.bind_some]
  dsimp only
  rw [if_pos ⟨rfl, by omega⟩, Option.bind_some]
  dsimp only
  rw [if_pos ⟨rfl, by omega⟩, Option.bind_some]
  dsimp only
  rw [if_pos rfl]
  cases v.Taint <;> rfl
open Classical in
noncomputable def S_q13 (a0 : (List GEntry)) (a1 : (List GEntry)) : Option Bool := if a0 = a1 ∧ eszs a0 <= 2 ^ 39 then some true else none
theorem eqEntryS_eq {s : List GEntry} (h : eszs s <= 2 ^ 39) : S_q13 s s = some true := if_pos ⟨rfl, h⟩
theorem spec_q13 (a0 : (List GEntry)) (a1 : (List GEntry)) (r : Bool) (h : S_q13 a0 a1 = some r) : ∃ n, T_q13 n a0 a1 = some r := by
  unfold S_q13 at h
  obtain ⟨⟨he, ha⟩, h2⟩ := need_c h
  clear h
  subst he
  have hl := eszs_len a0
  refine ⟨a0.length + 1, ?_⟩
  obtain ⟨z, hz⟩ := eqEntryS_loop (a := a0) (by omega) (fun v hv => eqEntry_eq (by have := eszs_mem hv; omega)) a0.length 0 (a0.length + 1) (by omega) (by omega)
  rw [show ((0 : Nat) : Int) = 0 from rfl] at hz
  unfold T_q13
  rw [if_pos rfl, hz]; exact h2
theorem ok_q13 : K_q13 S_q13 := fun a0 a1 r h => (spec_q13 a0 a1 r h).elim fun n hn => g_laws_eqEntryS n a0 a1 r hn
def S_q1x (a0 : GState) (a1 : GState) : Option Bool :=
 if a0.Serial = a1.Serial then
  if a0.Open = true then
   if a1.Open = true then
    (S_qf a0.Pending a1.Pending).bind fun r4 =>
    match r4 with
    | true =>
     if a0.Act = a1.Act then
      (S_q13 a0.Entries a1.Entries).bind fun r6 =>
      match r6 with
      | true =>
       some true
      | false =>
       some false
     else
     some false
    | false =>
     some false
   else
   some false
  else
  if a1.Open = true then
   some false
  else
  (S_qf a0.Pending a1.Pending).bind fun r4 =>
  match r4 with
  | true =>
   if a0.Act = a1.Act then
    (S_q13 a0.Entries a1.Entries).bind fun r6 =>
    match r6 with
    | true =>
     some true
    | false =>
     some false
   else
   some false
  | false =>
   some false
 else
 some false
theorem ok_q1x (a0 : GState) (a1 : GState) : Oc (S_q1x a0 a1) 21 [] [.val true (x_GState a0), .val true (x_GState a1)] fun r => (vb r, []) := tc (
 .eI a0.Serial a1.Serial (fun c1 =>
  .sp (a0.Open = true) (fun c2 =>
   .sp (a1.Open = true) (fun c3 =>
    .eb c2 c3 <|
    .cl (ok_qf a0.Pending a1.Pending) fun r4 =>
    .vN 0 r4 (
     .eI a0.Act a1.Act (fun c5 =>
      .cl (ok_q13 a0.Entries a1.Entries) fun r6 =>
      .vN 0 r6 (
       .ret true) <|
      .ret false) fun c5 =>
     .ret false) <|
    .ret false) fun c3 =>
   .eb c2 (bF c3) <|
   .ret false) fun c2 =>
  .sp (a1.Open = true) (fun c3 =>
   .eb (bF c2) c3 <|
   .ret false) fun c3 =>
  .eb (bF c2) (bF c3) <|
  .cl (ok_qf a0.Pending a1.Pending) fun r4 =>
  .vN 0 r4 (
   .eI a0.Act a1.Act (fun c5 =>
    .cl (ok_q13 a0.Entries a1.Entries) fun r6 =>
    .vN 0 r6 (
     .ret true) <|
    .ret false) fun c5 =>
   .ret false) <|
  .ret false) fun c1 =>
 .ret false) (fn_of Tryz.func21)
def S_q24 (a0 : GEvent) (a1 : GEvent) : Option Bool :=
 if a0.Kind = a1.Kind then
  (S_qf a0.Addr a1.Addr).bind fun r2 =>
  match r2 with
  | true =>
   if a0.Act = a1.Act then
    (S_qu a0.Val a1.Val).bind fun r4 =>
    match r4 with
    | true =>
     (S_qq a0.Deps a1.Deps).bind fun r5 =>
     match r5 with
     | true =>
      some true
     | false =>
      some false
    | false =>
     some false
   else
   some false
  | false =>
   some false
 else
 some false
theorem ok_q24 (a0 : GEvent) (a1 : GEvent) : Oc (S_q24 a0 a1) 22 [] [.val true (x_GEvent a0), .val true (x_GEvent a1)] fun r => (vb r, []) := tc (
 .eI a0.Kind a1.Kind (fun c1 =>
  .cl (ok_qf a0.Addr a1.Addr) fun r2 =>
  .vN 0 r2 (
   .eI a0.Act a1.Act (fun c3 =>
    .cl (ok_qu a0.Val a1.Val) fun r4 =>
    .vN 0 r4 (
     .cl (ok_qq a0.Deps a1.Deps) fun r5 =>
     .vN 0 r5 (
      .ret true) <|
     .ret false) <|
    .ret false) fun c3 =>
   .ret false) <|
  .ret false) fun c1 =>
 .ret false) (fn_of Tryz.func22)
def K_qa (F : Int → (List UInt8) → Option (Int × (List UInt8))) : Prop := ∀ (a0 : Int) (e0 : (List UInt8)), Oc (F a0 e0) 39 [.obj 1 (eL e_u8 e0)] [vr 0, vi a0] fun r => (vi r.1, [.obj 1 (eL e_u8 r.2)])
def L_qa_l0 : Nat → Int → Int → (List UInt8) → Option (Int × Int × (List UInt8))
  | 0, _, _, _ => none
  | m + 1, a0, v1, e0 =>
  if v1 < ((e0.length : Nat) : Int) then
   (natO v1).bind fun i2 =>
   (e0[i2]?).bind fun x3 =>
   L_qa_l0 m (w64 (a0 + 1)) (w64 (v1 + 1)) (e0.set i2 (b8 a0))
  else
  some (a0, v1, e0)
theorem gl_laws_markByteS_l0 (m : Nat) : ∀ (a0 : Int) (v1 : Int) (e0 : (List UInt8)), Ol (L_qa_l0 m a0 v1 e0) 39 (loopB Tryz.f39 0) ⟨[(0, vr 0), (1, vi a0), (5, vi v1)], [.obj 1 (eL e_u8 e0)], 1⟩ fun o => match o with | ⟨o_0, o_1, o_2⟩ => (.exit 0, ⟨[(0, vr 0), (1, vi o_0), (5, vi o_1), (9, vb false)], [.obj 1 (eL e_u8 o_2)], 1⟩) := by
  induction m with
  | zero => intro a0 v1 e0 o h; cases h
  | succ m ih => exact fun a0 v1 e0 => tlp (
   .le e_u8 e0 <|
   .lI v1 ((e0.length : Nat) : Int) (fun c1 =>
    .na v1 fun i2 =>
    .ix0 e_u8 e0 i2 fun x3 =>
    .ag 0 <|
    .sl (e := e_u8) (x := (b8 a0)) (c := [.int .u8 (((b8 a0).toNat : Nat) : Int)]) rfl e0 i2 <|
    .go (ih (w64 (a0 + 1)) (w64 (v1 + 1)) (e0.set i2 (b8 a0)))) fun c1 =>
   .ret (a0, v1, e0))
def T_qa (n : Nat) (a0 : Int) (e0 : (List UInt8)) : Option (Int × (List UInt8)) :=
 (L_qa_l0 n a0 0 e0).bind fun ⟨o1_0, o1_1, o1_2⟩ =>
 some (o1_0, o1_2)
theorem g_laws_markByteS (n : Nat) : K_qa (T_qa n) := fun a0 e0 => tc (
 .lp (gl_laws_markByteS_l0 n a0 0 e0) fun ⟨o1_0, o1_1, o1_2⟩ =>
 .ret (o1_0, o1_2)) (fn_of Tryz.func39)
theorem markByteS_loop : ∀ (l p : List UInt8) (k : Int) (m : Nat), 0 <= k → k + 2 * l.length <= 2 ^ 41 → p.length + l.length <= 2 ^ 41 → l.length < m → ∃ z, L_qa_l0 m k ((p.length : Nat) : Int) (p ++ l) = some (k + l.length, z, p ++ mB k l) := by
  intro l
  induction l with
  | nil =>
    intro p k m _ _ _ hm
    obtain ⟨m, rfl, _⟩ := fuel hm
    exact ⟨_, by rw [L_qa_l0, if_neg (nlt_end p)]; simp [mB]; rfl⟩
  | cons x l ih =>
    intro p k m h0 h1 h2 hm
    obtain ⟨m, rfl, hm'⟩ := fuel hm
    simp only [List.length_cons] at h1 h2 hm'
    obtain ⟨z, hz⟩ := ih (p ++ [b8 k]) (k + 1) m (by omega) (by omega) (by simp; omega) (by omega)
    rw [L_qa_l0, if_pos (lt_mid p x l), natO_nat, Option.bind_some, get_mid, Option.bind_some, set_mid, w64_len p (b8 k) (by omega), w64_id (x := k + 1) (by omega) (by omega), snoc_app p (b8 k) l, hz]
    refine ⟨z, ?_⟩
    rw [mB, snoc_app p (b8 k) (mB (k + 1) l)]
    simp only [List.length_cons]
    rw [show k + 1 + (l.length : Int) = k + ((l.length + 1 : Nat) : Int) by omega]
def S_qa (a0 : Int) (e0 : (List UInt8)) : Option (Int × (List UInt8)) := if 0 <= a0 ∧ a0 + 2 * e0.length <= 2 ^ 41 then some (a0 + e0.length, mB a0 e0) else none
theorem markByteS_eq {a : Int} {s : List UInt8} (h0 : 0 <= a) (h1 : a + 2 * s.length <= 2 ^ 41) : S_qa a s = some (a + s.length, mB a s) := if_pos ⟨h0, h1⟩
theorem spec_qa (a0 : Int) (e0 : (List UInt8)) (r : (Int × (List UInt8))) (h : S_qa a0 e0 = some r) : ∃ n, T_qa n a0 e0 = some r := by
  unfold S_qa at h
  obtain ⟨⟨h0, h1⟩, h⟩ := need_c h
  obtain ⟨z, hz⟩ := markByteS_loop e0 [] a0 (e0.length + 1) h0 h1 (by simp; omega) (by omega)
  refine ⟨e0.length + 1, ?_⟩
  unfold T_qa
  simp only [List.nil_append, List.length_nil, Int.natCast_zero] at hz
  rw [hz]
  exact h
theorem ok_qa : K_qa S_qa := fun a0 e0 r h => (spec_qa a0 e0 r h).elim fun n hn => g_laws_markByteS n a0 e0 r hn
def K_qb (F : Int → (List (List UInt8)) → Option (Int × (List (List UInt8)))) : Prop := ∀ (a0 : Int) (e0 : (List (List UInt8))), Oc (F a0 e0) 64 [.obj 1 (eL (o_sl 1 e_u8) e0)] [vr 0, vi a0] fun r => (vi r.1, [.obj 1 (eL (o_sl 1 e_u8) r.2)])
def L_qb_l0 : Nat → Int → Int → (List (List UInt8)) → Option (Int × Int × (List (List UInt8)))
  | 0, _, _, _ => none
  | m + 1, a0, v1, e0 =>
  if v1 < ((e0.length : Nat) : Int) then
   (natO v1).bind fun i2 =>
   (e0[i2]?).bind fun x3 =>
   (S_qa a0 x3).bind fun ⟨r4_0, r4_1⟩ =>
   L_qb_l0 m r4_0 (w64 (v1 + 1)) (e0.set i2 r4_1)
  else
  some (a0, v1, e0)
theorem gl_laws_markByteSS_l0 (m : Nat) : ∀ (a0 : Int) (v1 : Int) (e0 : (List (List UInt8))), Ol (L_qb_l0 m a0 v1 e0) 64 (loopB Tryz.f64 0) ⟨[(0, vr 0), (1, vi a0), (5, vi v1)], [.obj 1 (eL (o_sl 1 e_u8) e0)], 1⟩ fun o => match o with | ⟨o_0, o_1, o_2⟩ => (.exit 0, ⟨[(0, vr 0), (1, vi o_0), (5, vi o_1), (9, vb false)], [.obj 1 (eL (o_sl 1 e_u8) o_2)], 1⟩) := by
  induction m with
  | zero => intro a0 v1 e0 o h; cases h
  | succ m ih => exact fun a0 v1 e0 => tlp (
   .le (o_sl 1 e_u8) e0 <|
   .lI v1 ((e0.length : Nat) : Int) (fun c1 =>
    .na v1 fun i2 =>
    .ix0 (o_sl 1 e_u8) e0 i2 fun x3 =>
    .ag 0 <|
    .cl (ok_qa a0 x3) fun ⟨r4_0, r4_1⟩ =>
    .ag 1 <|
    .sl (e := (o_sl 1 e_u8)) (x := r4_1) (c := [.own 1 (eL e_u8 r4_1)]) rfl e0 i2 <|
    .go (ih r4_0 (w64 (v1 + 1)) (e0.set i2 r4_1))) fun c1 =>
   .ret (a0, v1, e0))
def T_qb (n : Nat) (a0 : Int) (e0 : (List (List UInt8))) : Option (Int × (List (List UInt8))) :=
 (L_qb_l0 n a0 0 e0).bind fun ⟨o1_0, o1_1, o1_2⟩ =>
 some (o1_0, o1_2)
theorem g_laws_markByteSS (n : Nat) : K_qb (T_qb n) := fun a0 e0 => tc (
 .lp (gl_laws_markByteSS_l0 n a0 0 e0) fun ⟨o1_0, o1_1, o1_2⟩ =>
 .ret (o1_0, o1_2)) (fn_of Tryz.func64)
theorem markByteSS_loop : ∀ (l p : List (List UInt8)) (k : Int) (m : Nat), 0 <= k → k + 2 * bsz l <= 2 ^ 41 → p.length + l.length <= 2 ^ 41 → l.length < m → ∃ z, L_qb_l0 m k ((p.length : Nat) : Int) (p ++ l) = some (k + cB l, z, p ++ mBB k l) := by
  intro l
  induction l with
  | nil =>
    intro p k m _ _ _ hm
    obtain ⟨m, rfl, _⟩ := fuel hm
    exact ⟨_, by rw [L_qb_l0, if_neg (nlt_end p)]; simp [mBB, cB]; rfl⟩
  | cons x l ih =>
    intro p k m h0 h1 h2 hm
    obtain ⟨m, rfl, hm'⟩ := fuel hm
    rw [bsz_cons] at h1
    simp only [List.length_cons] at h2 hm'
    obtain ⟨z, hz⟩ := ih (p ++ [mB k x]) (k + x.length) m (by omega) (by omega) (by simp; omega) (by omega)
    rw [L_qb_l0, if_pos (lt_mid p x l), natO_nat, Option.bind_some, get_mid, Option.bind_some, markByteS_eq (by omega) (by omega), Option.bind_some]
    dsimp only
    rw [set_mid, w64_len p (mB k x) (by omega), snoc_app p (mB k x) l, hz]
    refine ⟨z, ?_⟩
    rw [mBB, snoc_app p (mB k x) (mBB (k + x.length) l), cB_cons]
    rw [show k + (x.length : Int) + (cB l : Int) = k + ((x.length + cB l : Nat) : Int) by omega]
def S_qb (a0 : Int) (e0 : (List (List UInt8))) : Option (Int × (List (List UInt8))) := if 0 <= a0 ∧ a0 + 2 * bsz e0 <= 2 ^ 41 then some (a0 + cB e0, mBB a0 e0) else none
theorem markByteSS_eq {a : Int} {s : List (List UInt8)} (h0 : 0 <= a) (h1 : a + 2 * bsz s <= 2 ^ 41) : S_qb a s = some (a + cB s, mBB a s) := if_pos ⟨h0, h1⟩
theorem spec_qb (a0 : Int) (e0 : (List (List UInt8))) (r : (Int × (List (List UInt8)))) (h : S_qb a0 e0 = some r) : ∃ n, T_qb n a0 e0 = some r := by
  unfold S_qb at h
  obtain ⟨⟨h0, h1⟩, h⟩ := need_c h
  have := bsz_len e0
  obtain ⟨z, hz⟩ := markByteSS_loop e0 [] a0 (e0.length + 1) h0 h1 (by simp; omega) (by omega)
  refine ⟨e0.length + 1, ?_⟩
  unfold T_qb
  simp only [List.nil_append, List.length_nil, Int.natCast_zero] at hz
  rw [hz]
  exact h
theorem ok_qb : K_qb S_qb := fun a0 e0 r h => (spec_qb a0 e0 r h).elim fun n hn => g_laws_markByteSS n a0 e0 r hn
def K_q6 (F : Int → (List GValue) → Option (Int × (List GValue))) : Prop := ∀ (a0 : Int) (e0 : (List GValue)), Oc (F a0 e0) 145 [.obj 5 (eL o_GValue e0)] [vr 0, vi a0] fun r => (vi r.1, [.obj 5 (eL o_GValue r.2)])
def L_q6_l0 (G_laws_markValueS : Int → (List GValue) → Option (Int × (List GValue))) : Nat → Int → Int → (List GValue) → Option (Int × Int × (List GValue))
  | 0, _, _, _ => none
  | m + 1, a0, v1, e0 =>
  if v1 < ((e0.length : Nat) : Int) then
   (natO v1).bind fun i2 =>
   (e0[i2]?).bind fun x3 =>
   ((e0.set i2 (GValue.mk a0 x3.N x3.S x3.K x3.L))[i2]?).bind fun x4 =>
   (((e0.set i2 (GValue.mk a0 x3.N x3.S x3.K x3.L)).set i2 (GValue.mk x4.Kind (w64 (a0 + 1)) x4.S x4.K x4.L))[i2]?).bind fun x5 =>
   (S_qa (w64 ((w64 (a0 + 1)) + 1)) x5.S).bind fun ⟨r6_0, r6_1⟩ =>
   ((((e0.set i2 (GValue.mk a0 x3.N x3.S x3.K x3.L)).set i2 (GValue.mk x4.Kind (w64 (a0 + 1)) x4.S x4.K x4.L)).set i2 (GValue.mk x5.Kind x5.N r6_1 x5.K x5.L))[i2]?).bind fun x7 =>
   (S_qb r6_0 x7.K).bind fun ⟨r8_0, r8_1⟩ =>
   (((((e0.set i2 (GValue.mk a0 x3.N x3.S x3.K x3.L)).set i2 (GValue.mk x4.Kind (w64 (a0 + 1)) x4.S x4.K x4.L)).set i2 (GValue.mk x5.Kind x5.N r6_1 x5.K x5.L)).set i2 (GValue.mk x7.Kind x7.N x7.S r8_1 x7.L))[i2]?).bind fun x9 =>
   (G_laws_markValueS r8_0 x9.L).bind fun ⟨r10_0, r10_1⟩ =>
   L_q6_l0 G_laws_markValueS m r10_0 (w64 (v1 + 1)) (((((e0.set i2 (GValue.mk a0 x3.N x3.S x3.K x3.L)).set i2 (GValue.mk x4.Kind (w64 (a0 + 1)) x4.S x4.K x4.L)).set i2 (GValue.mk x5.Kind x5.N r6_1 x5.K x5.L)).set i2 (GValue.mk x7.Kind x7.N x7.S r8_1 x7.L)).set i2 (GValue.mk x9.Kind x9.N x9.S x9.K r10_1))
  else
  some (a0, v1, e0)
theorem gl_laws_markValueS_l0 (G_laws_markValueS : Int → (List GValue) → Option (Int × (List GValue))) (H_laws_markValueS : K_q6 G_laws_markValueS) (m : Nat) : ∀ (a0 : Int) (v1 : Int) (e0 : (List GValue)), Ol (L_q6_l0 G_laws_markValueS m a0 v1 e0) 145 (loopB Tryz.f145 0) ⟨[(0, vr 0), (1, vi a0), (5, vi v1)], [.obj 5 (eL o_GValue e0)], 1⟩ fun o => match o with | ⟨o_0, o_1, o_2⟩ => (.exit 0, ⟨[(0, vr 0), (1, vi o_0), (5, vi o_1), (9, vb false)], [.obj 5 (eL o_GValue o_2)], 1⟩) := by
  induction m with
  | zero => intro a0 v1 e0 o h; cases h
  | succ m ih => exact fun a0 v1 e0 => tlp (
   .le o_GValue e0 <|
   .lI v1 ((e0.length : Nat) : Int) (fun c1 =>
    .na v1 fun i2 =>
    .ix oeq_GValue e0 i2 fun x3 =>
    .ag 0 <|
    .sl (oeq_GValue (GValue.mk a0 x3.N x3.S x3.K x3.L)) e0 i2 <|
    .ag 1 <|
    .ix oeq_GValue (e0.set i2 (GValue.mk a0 x3.N x3.S x3.K x3.L)) i2 fun x4 =>
    .ag 0 <|
    .sl (oeq_GValue (GValue.mk x4.Kind (w64 (a0 + 1)) x4.S x4.K x4.L)) (e0.set i2 (GValue.mk a0 x3.N x3.S x3.K x3.L)) i2 <|
    .ag 2 <|
    .ix oeq_GValue ((e0.set i2 (GValue.mk a0 x3.N x3.S x3.K x3.L)).set i2 (GValue.mk x4.Kind (w64 (a0 + 1)) x4.S x4.K x4.L)) i2 fun x5 =>
    .ag 0 <|
    .cl (ok_qa (w64 ((w64 (a0 + 1)) + 1)) x5.S) fun ⟨r6_0, r6_1⟩ =>
    .ag 1 <|
    .sl (oeq_GValue (GValue.mk x5.Kind x5.N r6_1 x5.K x5.L)) ((e0.set i2 (GValue.mk a0 x3.N x3.S x3.K x3.L)).set i2 (GValue.mk x4.Kind (w64 (a0 + 1)) x4.S x4.K x4.L)) i2 <|
    .ag 4 <|
    .ix oeq_GValue (((e0.set i2 (GValue.mk a0 x3.N x3.S x3.K x3.L)).set i2 (GValue.mk x4.Kind (w64 (a0 + 1)) x4.S x4.K x4.L)).set i2 (GValue.mk x5.Kind x5.N r6_1 x5.K x5.L)) i2 fun x7 =>
    .ag 0 <|
    .cl (ok_qb r6_0 x7.K) fun ⟨r8_0, r8_1⟩ =>
    .ag 1 <|
    .sl (oeq_GValue (GValue.mk x7.Kind x7.N x7.S r8_1 x7.L)) (((e0.set i2 (GValue.mk a0 x3.N x3.S x3.K x3.L)).set i2 (GValue.mk x4.Kind (w64 (a0 + 1)) x4.S x4.K x4.L)).set i2 (GValue.mk x5.Kind x5.N r6_1 x5.K x5.L)) i2 <|
    .ag 6 <|
    .ix oeq_GValue ((((e0.set i2 (GValue.mk a0 x3.N x3.S x3.K x3.L)).set i2 (GValue.mk x4.Kind (w64 (a0 + 1)) x4.S x4.K x4.L)).set i2 (GValue.mk x5.Kind x5.N r6_1 x5.K x5.L)).set i2 (GValue.mk x7.Kind x7.N x7.S r8_1 x7.L)) i2 fun x9 =>
    .ag 0 <|
    .cl (H_laws_markValueS r8_0 x9.L) fun ⟨r10_0, r10_1⟩ =>
    .ag 1 <|
    .sl (oeq_GValue (GValue.mk x9.Kind x9.N x9.S x9.K r10_1)) ((((e0.set i2 (GValue.mk a0 x3.N x3.S x3.K x3.L)).set i2 (GValue.mk x4.Kind (w64 (a0 + 1)) x4.S x4.K x4.L)).set i2 (GValue.mk x5.Kind x5.N r6_1 x5.K x5.L)).set i2 (GValue.mk x7.Kind x7.N x7.S r8_1 x7.L)) i2 <|
    .go (ih r10_0 (w64 (v1 + 1)) (((((e0.set i2 (GValue.mk a0 x3.N x3.S x3.K x3.L)).set i2 (GValue.mk x4.Kind (w64 (a0 + 1)) x4.S x4.K x4.L)).set i2 (GValue.mk x5.Kind x5.N r6_1 x5.K x5.L)).set i2 (GValue.mk x7.Kind x7.N x7.S r8_1 x7.L)).set i2 (GValue.mk x9.Kind x9.N x9.S x9.K r10_1)))) fun c1 =>
   .ret (a0, v1, e0))
def T_q6 (G_laws_markValueS : Int → (List GValue) → Option (Int × (List GValue))) (n : Nat) (a0 : Int) (e0 : (List GValue)) : Option (Int × (List GValue)) :=
 (L_q6_l0 G_laws_markValueS n a0 0 e0).bind fun ⟨o1_0, o1_1, o1_2⟩ =>
 some (o1_0, o1_2)
theorem g_laws_markValueS (G_laws_markValueS : Int → (List GValue) → Option (Int × (List GValue))) (H_laws_markValueS : K_q6 G_laws_markValueS) (n : Nat) : K_q6 (T_q6 G_laws_markValueS n) := fun a0 e0 => tc (
 .lp (gl_laws_markValueS_l0 G_laws_markValueS H_laws_markValueS n a0 0 e0) fun ⟨o1_0, o1_1, o1_2⟩ =>
 .ret (o1_0, o1_2)) (fn_of Tryz.func145)
def U_q6 : Nat → Int → (List GValue) → Option (Int × (List GValue))
  | 0, _, _ => none
  | n + 1, a0, e0 => T_q6 (U_q6 n) n a0 e0
theorem rec_laws_markValueS (n : Nat) : K_q6 (U_q6 n) := by
  induction n with
  | zero => exact fun _ _ _ h => (by rw [U_q6] at h; cases h)
  | succ n ih =>
    have ih_laws_markValueS := ih
    exact fun a0 e0 r h => g_laws_markValueS (U_q6 n) ih_laws_markValueS n a0 e0 r (by rw [U_q6] at h; exact h)
theorem markValueS_loop {G : Int → List GValue → Option (Int × List GValue)} : ∀ (l p : List GValue) (k : Int) (m : Nat), (∀ v ∈ l, ∀ i : Int, 0 <= i → i + 2 * vszs v.L <= 2 ^ 41 → G i v.L = some (i + cVs v.L, mVs i v.L)) → 0 <= k → k + 2 * vszs l <= 2 ^ 41 → p.length + l.length <= 2 ^ 41 → l.length < m → ∃ z, L_q6_l0 G m k ((p.length : Nat) : Int) (p ++ l) = some (k + cVs l, z, p ++ mVs k l) := by
  intro l
  induction l with
  | nil =>
    intro p k m _ _ _ _ hm
    obtain ⟨m, rfl, _⟩ := fuel hm
    exact ⟨_, by rw [L_q6_l0, if_neg (nlt_end p)]; simp [mVs, cVs]; rfl⟩
  | cons x l ih =>
    intro p k m hG h0 h1 h2 hm
    obtain ⟨m, rfl, hm'⟩ := fuel hm
    simp only [List.length_cons] at h2 hm'
    have hx := hG x List.mem_cons_self
    have hc := cV_le x
    obtain ⟨kd, n, s, kk, ks⟩ := x
    have hb := bsz_cB kk
    have hd := cVs_le ks
    simp only [vszs, vsz] at h1
    simp only [cV, vsz] at hc
    simp only [GValue.L] at hx
    obtain ⟨z, hz⟩ := ih (p ++ [mV k (.mk kd n s kk ks)]) (k + cV (.mk kd n s kk ks)) m (fun v hv => hG v (List.mem_cons_of_mem _ hv)) (by omega) (by simp only [cV]; omega) (by simp; omega) (by omega)
    rw [L_q6_l0, if_pos (lt_mid p _ l), natO_nat, Option.bind_some, get_mid, Option.bind_some]
    simp only [set_mid, get_mid, Option.bind_some, GValue.Kind, GValue.N, GValue.S, GValue.K, GValue.L]
    rw [w64_id (x := k + 1) (by omega) (by omega), w64_id (x := k + 1 + 1) (by omega) (by omega), markByteS_eq (by omega) (by omega)]
    simp only [Option.bind_some, set_mid, get_mid, GValue.Kind, GValue.N, GValue.S, GValue.K, GValue.L]
    rw [markByteSS_eq (by omega) (by omega)]
    simp only [Option.bind_some, set_mid, get_mid, GValue.Kind, GValue.N, GValue.S, GValue.K, GValue.L]
    rw [hx _ (by omega) (by omega)]
    simp only [Option.bind_some, set_mid, get_mid, GValue.Kind, GValue.N, GValue.S, GValue.K, GValue.L]
    refine ⟨z, ?_⟩
    rw [w64_len p (mV k (.mk kd n s kk ks)) (by omega), show GValue.mk k (k + 1) (mB (k + 1 + 1) s) (mBB (k + 1 + 1 + s.length) kk) (mVs (k + 1 + 1 + s.length + cB kk) ks) = mV k (.mk kd n s kk ks) by simp only [mV], snoc_app p _ l,
      show k + 1 + 1 + (s.length : Int) + (cB kk : Int) + (cVs ks : Int) = k + ((cV (.mk kd n s kk ks) : Nat) : Int) by simp only [cV]; omega, hz]
    simp only [mVs, cVs, List.append_assoc, List.singleton_append]
    rw [show k + ((cV (.mk kd n s kk ks) : Nat) : Int) + (cVs l : Int) = k + ((cV (.mk kd n s kk ks) + cVs l : Nat) : Int) by omega]
theorem markValueS_U : ∀ (N : Nat) (l : List GValue), vszs l < N → ∀ (k : Int) (f : Nat), 0 <= k → k + 2 * vszs l <= 2 ^ 41 → vszs l + 2 <= f → U_q6 f k l = some (k + cVs l, mVs k l) := by
  intro N
  induction N with
  | zero => intro l hl; omega
  | succ N ih =>
    intro l hl k f h0 h1 hf
    obtain ⟨f, rfl, _⟩ := fuel (show 0 < f by omega)
    have hlen := vszs_len l
    rw [U_q6]
    unfold T_q6
    obtain ⟨z, hz⟩ := markValueS_loop (G := U_q6 f) l [] k f (fun v hv i g0 g1 => by
      have := vszs_mem hv
      have := vsz_eq v
      exact ih v.L (by omega) i f g0 g1 (by omega)) h0 h1 (by simp; omega) (by omega)
    simp only [List.nil_append, List.length_nil, Int.natCast_zero] at hz
    rw [hz]; rfl
def S_q6 (a0 : Int) (e0 : (List GValue)) : Option (Int × (List GValue)) := if 0 <= a0 ∧ a0 + 2 * vszs e0 <= 2 ^ 41 then some (a0 + cVs e0, mVs a0 e0) else none
theorem markValueS_eq {a : Int} {s : List GValue} (h0 : 0 <= a) (h1 : a + 2 * vszs s <= 2 ^ 41) : S_q6 a s = some (a + cVs s, mVs a s) := if_pos ⟨h0, h1⟩
theorem spec_q6 (a0 : Int) (e0 : (List GValue)) (r : (Int × (List GValue))) (h : S_q6 a0 e0 = some r) : ∃ n, U_q6 n a0 e0 = some r := by
  unfold S_q6 at h
  obtain ⟨⟨h0, h1⟩, h⟩ := need_c h
  exact ⟨vszs e0 + 2, by rw [markValueS_U _ e0 (Nat.lt_succ_self _) a0 _ h0 h1 (Nat.le_refl _), h]⟩
theorem ok_q6 : K_q6 S_q6 := by
  intro a0 e0 r h
  obtain ⟨n, hn⟩ := spec_q6 a0 e0 r h
  exact (rec_laws_markValueS n) a0 e0 r hn
def K_q10 (F : Int → (List GEntry) → Option (Int × (List GEntry))) : Prop := ∀ (a0 : Int) (e0 : (List GEntry)), Oc (F a0 e0) 83 [.obj 9 (eL o_GEntry e0)] [vr 0, vi a0] fun r => (vi r.1, [.obj 9 (eL o_GEntry r.2)])
def L_q10_l0 : Nat → Int → Int → (List GEntry) → Option (Int × Int × (List GEntry))
  | 0, _, _, _ => none
  | m + 1, a0, v1, e0 =>
  if v1 < ((e0.length : Nat) : Int) then
   (natO v1).bind fun i2 =>
   (e0[i2]?).bind fun x3 =>
   (S_qa a0 x3.Addr).bind fun ⟨r4_0, r4_1⟩ =>
   ((e0.set i2 (GEntry.mk r4_1 x3.Val x3.Deps x3.Taint x3.Turned))[i2]?).bind fun x5 =>
   (((e0.set i2 (GEntry.mk r4_1 x3.Val x3.Deps x3.Taint x3.Turned)).set i2 (GEntry.mk x5.Addr (GValue.mk r4_0 x5.Val.N x5.Val.S x5.Val.K x5.Val.L) x5.Deps x5.Taint x5.Turned))[i2]?).bind fun x6 =>
   ((((e0.set i2 (GEntry.mk r4_1 x3.Val x3.Deps x3.Taint x3.Turned)).set i2 (GEntry.mk x5.Addr (GValue.mk r4_0 x5.Val.N x5.Val.S x5.Val.K x5.Val.L) x5.Deps x5.Taint x5.Turned)).set i2 (GEntry.mk x6.Addr (GValue.mk x6.Val.Kind (w64 (r4_0 + 1)) x6.Val.S x6.Val.K x6.Val.L) x6.Deps x6.Taint x6.Turned))[i2]?).bind fun x7 =>
   (S_qa (w64 ((w64 (r4_0 + 1)) + 1)) x7.Val.S).bind fun ⟨r8_0, r8_1⟩ =>
   (((((e0.set i2 (GEntry.mk r4_1 x3.Val x3.Deps x3.Taint x3.Turned)).set i2 (GEntry.mk x5.Addr (GValue.mk r4_0 x5.Val.N x5.Val.S x5.Val.K x5.Val.L) x5.Deps x5.Taint x5.Turned)).set i2 (GEntry.mk x6.Addr (GValue.mk x6.Val.Kind (w64 (r4_0 + 1)) x6.Val.S x6.Val.K x6.Val.L) x6.Deps x6.Taint x6.Turned)).set i2 (GEntry.mk x7.Addr (GValue.mk x7.Val.Kind x7.Val.N r8_1 x7.Val.K x7.Val.L) x7.Deps x7.Taint x7.Turned))[i2]?).bind fun x9 =>
   (S_qb r8_0 x9.Val.K).bind fun ⟨r10_0, r10_1⟩ =>
   ((((((e0.set i2 (GEntry.mk r4_1 x3.Val x3.Deps x3.Taint x3.Turned)).set i2 (GEntry.mk x5.Addr (GValue.mk r4_0 x5.Val.N x5.Val.S x5.Val.K x5.Val.L) x5.Deps x5.Taint x5.Turned)).set i2 (GEntry.mk x6.Addr (GValue.mk x6.Val.Kind (w64 (r4_0 + 1)) x6.Val.S x6.Val.K x6.Val.L) x6.Deps x6.Taint x6.Turned)).set i2 (GEntry.mk x7.Addr (GValue.mk x7.Val.Kind x7.Val.N r8_1 x7.Val.K x7.Val.L) x7.Deps x7.Taint x7.Turned)).set i2 (GEntry.mk x9.Addr (GValue.mk x9.Val.Kind x9.Val.N x9.Val.S r10_1 x9.Val.L) x9.Deps x9.Taint x9.Turned))[i2]?).bind fun x11 =>
   (S_q6 r10_0 x11.Val.L).bind fun ⟨r12_0, r12_1⟩ =>
   (((((((e0.set i2 (GEntry.mk r4_1 x3.Val x3.Deps x3.Taint x3.Turned)).set i2 (GEntry.mk x5.Addr (GValue.mk r4_0 x5.Val.N x5.Val.S x5.Val.K x5.Val.L) x5.Deps x5.Taint x5.Turned)).set i2 (GEntry.mk x6.Addr (GValue.mk x6.Val.Kind (w64 (r4_0 + 1)) x6.Val.S x6.Val.K x6.Val.L) x6.Deps x6.Taint x6.Turned)).set i2 (GEntry.mk x7.Addr (GValue.mk x7.Val.Kind x7.Val.N r8_1 x7.Val.K x7.Val.L) x7.Deps x7.Taint x7.Turned)).set i2 (GEntry.mk x9.Addr (GValue.mk x9.Val.Kind x9.Val.N x9.Val.S r10_1 x9.Val.L) x9.Deps x9.Taint x9.Turned)).set i2 (GEntry.mk x11.Addr (GValue.mk x11.Val.Kind x11.Val.N x11.Val.S x11.Val.K r12_1) x11.Deps x11.Taint x11.Turned))[i2]?).bind fun x13 =>
   (S_qb r12_0 x13.Deps).bind fun ⟨r14_0, r14_1⟩ =>
   ((((((((e0.set i2 (GEntry.mk r4_1 x3.Val x3.Deps x3.Taint x3.Turned)).set i2 (GEntry.mk x5.Addr (GValue.mk r4_0 x5.Val.N x5.Val.S x5.Val.K x5.Val.L) x5.Deps x5.Taint x5.Turned)).set i2 (GEntry.mk x6.Addr (GValue.mk x6.Val.Kind (w64 (r4_0 + 1)) x6.Val.S x6.Val.K x6.Val.L) x6.Deps x6.Taint x6.Turned)).set i2 (GEntry.mk x7.Addr (GValue.mk x7.Val.Kind x7.Val.N r8_1 x7.Val.K x7.Val.L) x7.Deps x7.Taint x7.Turned)).set i2 (GEntry.mk x9.Addr (GValue.mk x9.Val.Kind x9.Val.N x9.Val.S r10_1 x9.Val.L) x9.Deps x9.Taint x9.Turned)).set i2 (GEntry.mk x11.Addr (GValue.mk x11.Val.Kind x11.Val.N x11.Val.S x11.Val.K r12_1) x11.Deps x11.Taint x11.Turned)).set i2 (GEntry.mk x13.Addr x13.Val r14_1 x13.Taint x13.Turned))[i2]?).bind fun x15 =>
   (((((((((e0.set i2 (GEntry.mk r4_1 x3.Val x3.Deps x3.Taint x3.Turned)).set i2 (GEntry.mk x5.Addr (GValue.mk r4_0 x5.Val.N x5.Val.S x5.Val.K x5.Val.L) x5.Deps x5.Taint x5.Turned)).set i2 (GEntry.mk x6.Addr (GValue.mk x6.Val.Kind (w64 (r4_0 + 1)) x6.Val.S x6.Val.K x6.Val.L) x6.Deps x6.Taint x6.Turned)).set i2 (GEntry.mk x7.Addr (GValue.mk x7.Val.Kind x7.Val.N r8_1 x7.Val.K x7.Val.L) x7.Deps x7.Taint x7.Turned)).set i2 (GEntry.mk x9.Addr (GValue.mk x9.Val.Kind x9.Val.N x9.Val.S r10_1 x9.Val.L) x9.Deps x9.Taint x9.Turned)).set i2 (GEntry.mk x11.Addr (GValue.mk x11.Val.Kind x11.Val.N x11.Val.S x11.Val.K r12_1) x11.Deps x11.Taint x11.Turned)).set i2 (GEntry.mk x13.Addr x13.Val r14_1 x13.Taint x13.Turned)).set i2 (GEntry.mk x15.Addr x15.Val x15.Deps (decide ((r14_0.tmod 3) = 0)) x15.Turned))[i2]?).bind fun x16 =>
   L_q10_l0 m (w64 ((w64 (r14_0 + 1)) + 1)) (w64 (v1 + 1)) (((((((((e0.set i2 (GEntry.mk r4_1 x3.Val x3.Deps x3.Taint x3.Turned)).set i2 (GEntry.mk x5.Addr (GValue.mk r4_0 x5.Val.N x5.Val.S x5.Val.K x5.Val.L) x5.Deps x5.Taint x5.Turned)).set i2 (GEntry.mk x6.Addr (GValue.mk x6.Val.Kind (w64 (r4_0 + 1)) x6.Val.S x6.Val.K x6.Val.L) x6.Deps x6.Taint x6.Turned)).set i2 (GEntry.mk x7.Addr (GValue.mk x7.Val.Kind x7.Val.N r8_1 x7.Val.K x7.Val.L) x7.Deps x7.Taint x7.Turned)).set i2 (GEntry.mk x9.Addr (GValue.mk x9.Val.Kind x9.Val.N x9.Val.S r10_1 x9.Val.L) x9.Deps x9.Taint x9.Turned)).set i2 (GEntry.mk x11.Addr (GValue.mk x11.Val.Kind x11.Val.N x11.Val.S x11.Val.K r12_1) x11.Deps x11.Taint x11.Turned)).set i2 (GEntry.mk x13.Addr x13.Val r14_1 x13.Taint x13.Turned)).set i2 (GEntry.mk x15.Addr x15.Val x15.Deps (decide ((r14_0.tmod 3) = 0)) x15.Turned)).set i2 (GEntry.mk x16.Addr x16.Val x16.Deps x16.Taint (w64 (r14_0 + 1))))
  else
  some (a0, v1, e0)
theorem gl_laws_markEntryS_l0 (m : Nat) : ∀ (a0 : Int) (v1 : Int) (e0 : (List GEntry)), Ol (L_q10_l0 m a0 v1 e0) 83 (loopB Tryz.f83 0) ⟨[(0, vr 0), (1, vi a0), (5, vi v1)], [.obj 9 (eL o_GEntry e0)], 1⟩ fun o => match o with | ⟨o_0, o_1, o_2⟩ => (.exit 0, ⟨[(0, vr 0), (1, vi o_0), (5, vi o_1), (9, vb false)], [.obj 9 (eL o_GEntry o_2)], 1⟩) := by
  induction m with
  | zero => intro a0 v1 e0 o h; cases h
  | succ m ih => exact fun a0 v1 e0 => tlp (
   .le o_GEntry e0 <|
   .lI v1 ((e0.length : Nat) : Int) (fun c1 =>
    .na v1 fun i2 =>
    .ix oeq_GEntry e0 i2 fun x3 =>
    .ag 0 <|
    .cl (ok_qa a0 x3.Addr) fun ⟨r4_0, r4_1⟩ =>
    .ag 1 <|
    .sl (oeq_GEntry (GEntry.mk r4_1 x3.Val x3.Deps x3.Taint x3.Turned)) e0 i2 <|
    .ag 2 <|
    .ix oeq_GEntry (e0.set i2 (GEntry.mk r4_1 x3.Val x3.Deps x3.Taint x3.Turned)) i2 fun x5 =>
    .ag 0 <|
    .sl (oeq_GEntry (GEntry.mk x5.Addr (GValue.mk r4_0 x5.Val.N x5.Val.S x5.Val.K x5.Val.L) x5.Deps x5.Taint x5.Turned)) (e0.set i2 (GEntry.mk r4_1 x3.Val x3.Deps x3.Taint x3.Turned)) i2 <|
    .ag 3 <|
    .ix oeq_GEntry ((e0.set i2 (GEntry.mk r4_1 x3.Val x3.Deps x3.Taint x3.Turned)).set i2 (GEntry.mk x5.Addr (GValue.mk r4_0 x5.Val.N x5.Val.S x5.Val.K x5.Val.L) x5.Deps x5.Taint x5.Turned)) i2 fun x6 =>
    .ag 0 <|
    .sl (oeq_GEntry (GEntry.mk x6.Addr (GValue.mk x6.Val.Kind (w64 (r4_0 + 1)) x6.Val.S x6.Val.K x6.Val.L) x6.Deps x6.Taint x6.Turned)) ((e0.set i2 (GEntry.mk r4_1 x3.Val x3.Deps x3.Taint x3.Turned)).set i2 (GEntry.mk x5.Addr (GValue.mk r4_0 x5.Val.N x5.Val.S x5.Val.K x5.Val.L) x5.Deps x5.Taint x5.Turned)) i2 <|
    .ag 4 <|
    .ix oeq_GEntry (((e0.set i2 (GEntry.mk r4_1 x3.Val x3.Deps x3.Taint x3.Turned)).set i2 (GEntry.mk x5.Addr (GValue.mk r4_0 x5.Val.N x5.Val.S x5.Val.K x5.Val.L) x5.Deps x5.Taint x5.Turned)).set i2 (GEntry.mk x6.Addr (GValue.mk x6.Val.Kind (w64 (r4_0 + 1)) x6.Val.S x6.Val.K x6.Val.L) x6.Deps x6.Taint x6.Turned)) i2 fun x7 =>
    .ag 0 <|
    .cl (ok_qa (w64 ((w64 (r4_0 + 1)) + 1)) x7.Val.S) fun ⟨r8_0, r8_1⟩ =>
    .ag 1 <|
    .sl (oeq_GEntry (GEntry.mk x7.Addr (GValue.mk x7.Val.Kind x7.Val.N r8_1 x7.Val.K x7.Val.L) x7.Deps x7.Taint x7.Turned)) (((e0.set i2 (GEntry.mk r4_1 x3.Val x3.Deps x3.Taint x3.Turned)).set i2 (GEntry.mk x5.Addr (GValue.mk r4_0 x5.Val.N x5.Val.S x5.Val.K x5.Val.L) x5.Deps x5.Taint x5.Turned)).set i2 (GEntry.mk x6.Addr (GValue.mk x6.Val.Kind (w64 (r4_0 + 1)) x6.Val.S x6.Val.K x6.Val.L) x6.Deps x6.Taint x6.Turned)) i2 <|
    .ag 6 <|
    .ix oeq_GEntry ((((e0.set i2 (GEntry.mk r4_1 x3.Val x3.Deps x3.Taint x3.Turned)).set i2 (GEntry.mk x5.Addr (GValue.mk r4_0 x5.Val.N x5.Val.S x5.Val.K x5.Val.L) x5.Deps x5.Taint x5.Turned)).set i2 (GEntry.mk x6.Addr (GValue.mk x6.Val.Kind (w64 (r4_0 + 1)) x6.Val.S x6.Val.K x6.Val.L) x6.Deps x6.Taint x6.Turned)).set i2 (GEntry.mk x7.Addr (GValue.mk x7.Val.Kind x7.Val.N r8_1 x7.Val.K x7.Val.L) x7.Deps x7.Taint x7.Turned)) i2 fun x9 =>
    .ag 0 <|
    .cl (ok_qb r8_0 x9.Val.K) fun ⟨r10_0, r10_1⟩ =>
    .ag 1 <|
    .sl (oeq_GEntry (GEntry.mk x9.Addr (GValue.mk x9.Val.Kind x9.Val.N x9.Val.S r10_1 x9.Val.L) x9.Deps x9.Taint x9.Turned)) ((((e0.set i2 (GEntry.mk r4_1 x3.Val x3.Deps x3.Taint x3.Turned)).set i2 (GEntry.mk x5.Addr (GValue.mk r4_0 x5.Val.N x5.Val.S x5.Val.K x5.Val.L) x5.Deps x5.Taint x5.Turned)).set i2 (GEntry.mk x6.Addr (GValue.mk x6.Val.Kind (w64 (r4_0 + 1)) x6.Val.S x6.Val.K x6.Val.L) x6.Deps x6.Taint x6.Turned)).set i2 (GEntry.mk x7.Addr (GValue.mk x7.Val.Kind x7.Val.N r8_1 x7.Val.K x7.Val.L) x7.Deps x7.Taint x7.Turned)) i2 <|
    .ag 8 <|
    .ix oeq_GEntry (((((e0.set i2 (GEntry.mk r4_1 x3.Val x3.Deps x3.Taint x3.Turned)).set i2 (GEntry.mk x5.Addr (GValue.mk r4_0 x5.Val.N x5.Val.S x5.Val.K x5.Val.L) x5.Deps x5.Taint x5.Turned)).set i2 (GEntry.mk x6.Addr (GValue.mk x6.Val.Kind (w64 (r4_0 + 1)) x6.Val.S x6.Val.K x6.Val.L) x6.Deps x6.Taint x6.Turned)).set i2 (GEntry.mk x7.Addr (GValue.mk x7.Val.Kind x7.Val.N r8_1 x7.Val.K x7.Val.L) x7.Deps x7.Taint x7.Turned)).set i2 (GEntry.mk x9.Addr (GValue.mk x9.Val.Kind x9.Val.N x9.Val.S r10_1 x9.Val.L) x9.Deps x9.Taint x9.Turned)) i2 fun x11 =>
    .ag 0 <|
    .cl (ok_q6 r10_0 x11.Val.L) fun ⟨r12_0, r12_1⟩ =>
    .ag 1 <|
    .sl (oeq_GEntry (GEntry.mk x11.Addr (GValue.mk x11.Val.Kind x11.Val.N x11.Val.S x11.Val.K r12_1) x11.Deps x11.Taint x11.Turned)) (((((e0.set i2 (GEntry.mk r4_1 x3.Val x3.Deps x3.Taint x3.Turned)).set i2 (GEntry.mk x5.Addr (GValue.mk r4_0 x5.Val.N x5.Val.S x5.Val.K x5.Val.L) x5.Deps x5.Taint x5.Turned)).set i2 (GEntry.mk x6.Addr (GValue.mk x6.Val.Kind (w64 (r4_0 + 1)) x6.Val.S x6.Val.K x6.Val.L) x6.Deps x6.Taint x6.Turned)).set i2 (GEntry.mk x7.Addr (GValue.mk x7.Val.Kind x7.Val.N r8_1 x7.Val.K x7.Val.L) x7.Deps x7.Taint x7.Turned)).set i2 (GEntry.mk x9.Addr (GValue.mk x9.Val.Kind x9.Val.N x9.Val.S r10_1 x9.Val.L) x9.Deps x9.Taint x9.Turned)) i2 <|
    .ag 10 <|
    .ix oeq_GEntry ((((((e0.set i2 (GEntry.mk r4_1 x3.Val x3.Deps x3.Taint x3.Turned)).set i2 (GEntry.mk x5.Addr (GValue.mk r4_0 x5.Val.N x5.Val.S x5.Val.K x5.Val.L) x5.Deps x5.Taint x5.Turned)).set i2 (GEntry.mk x6.Addr (GValue.mk x6.Val.Kind (w64 (r4_0 + 1)) x6.Val.S x6.Val.K x6.Val.L) x6.Deps x6.Taint x6.Turned)).set i2 (GEntry.mk x7.Addr (GValue.mk x7.Val.Kind x7.Val.N r8_1 x7.Val.K x7.Val.L) x7.Deps x7.Taint x7.Turned)).set i2 (GEntry.mk x9.Addr (GValue.mk x9.Val.Kind x9.Val.N x9.Val.S r10_1 x9.Val.L) x9.Deps x9.Taint x9.Turned)).set i2 (GEntry.mk x11.Addr (GValue.mk x11.Val.Kind x11.Val.N x11.Val.S x11.Val.K r12_1) x11.Deps x11.Taint x11.Turned)) i2 fun x13 =>
    .ag 0 <|
    .cl (ok_qb r12_0 x13.Deps) fun ⟨r14_0, r14_1⟩ =>
    .ag 1 <|
    .sl (oeq_GEntry (GEntry.mk x13.Addr x13.Val r14_1 x13.Taint x13.Turned)) ((((((e0.set i2 (GEntry.mk r4_1 x3.Val x3.Deps x3.Taint x3.Turned)).set i2 (GEntry.mk x5.Addr (GValue.mk r4_0 x5.Val.N x5.Val.S x5.Val.K x5.Val.L) x5.Deps x5.Taint x5.Turned)).set i2 (GEntry.mk x6.Addr (GValue.mk x6.Val.Kind (w64 (r4_0 + 1)) x6.Val.S x6.Val.K x6.Val.L) x6.Deps x6.Taint x6.Turned)).set i2 (GEntry.mk x7.Addr (GValue.mk x7.Val.Kind x7.Val.N r8_1 x7.Val.K x7.Val.L) x7.Deps x7.Taint x7.Turned)).set i2 (GEntry.mk x9.Addr (GValue.mk x9.Val.Kind x9.Val.N x9.Val.S r10_1 x9.Val.L) x9.Deps x9.Taint x9.Turned)).set i2 (GEntry.mk x11.Addr (GValue.mk x11.Val.Kind x11.Val.N x11.Val.S x11.Val.K r12_1) x11.Deps x11.Taint x11.Turned)) i2 <|
    .q ⟨.nz 3, .b true, rfl⟩ <|
    .eD (r14_0.tmod 3) 0 <|
    .ag 12 <|
    .ix oeq_GEntry (((((((e0.set i2 (GEntry.mk r4_1 x3.Val x3.Deps x3.Taint x3.Turned)).set i2 (GEntry.mk x5.Addr (GValue.mk r4_0 x5.Val.N x5.Val.S x5.Val.K x5.Val.L) x5.Deps x5.Taint x5.Turned)).set i2 (GEntry.mk x6.Addr (GValue.mk x6.Val.Kind (w64 (r4_0 + 1)) x6.Val.S x6.Val.K x6.Val.L) x6.Deps x6.Taint x6.Turned)).set i2 (GEntry.mk x7.Addr (GValue.mk x7.Val.Kind x7.Val.N r8_1 x7.Val.K x7.Val.L) x7.Deps x7.Taint x7.Turned)).set i2 (GEntry.mk x9.Addr (GValue.mk x9.Val.Kind x9.Val.N x9.Val.S r10_1 x9.Val.L) x9.Deps x9.Taint x9.Turned)).set i2 (GEntry.mk x11.Addr (GValue.mk x11.Val.Kind x11.Val.N x11.Val.S x11.Val.K r12_1) x11.Deps x11.Taint x11.Turned)).set i2 (GEntry.mk x13.Addr x13.Val r14_1 x13.Taint x13.Turned)) i2 fun x15 =>
    .ag 0 <|
    .sl (oeq_GEntry (GEntry.mk x15.Addr x15.Val x15.Deps (decide ((r14_0.tmod 3) = 0)) x15.Turned)) (((((((e0.set i2 (GEntry.mk r4_1 x3.Val x3.Deps x3.Taint x3.Turned)).set i2 (GEntry.mk x5.Addr (GValue.mk r4_0 x5.Val.N x5.Val.S x5.Val.K x5.Val.L) x5.Deps x5.Taint x5.Turned)).set i2 (GEntry.mk x6.Addr (GValue.mk x6.Val.Kind (w64 (r4_0 + 1)) x6.Val.S x6.Val.K x6.Val.L) x6.Deps x6.Taint x6.Turned)).set i2 (GEntry.mk x7.Addr (GValue.mk x7.Val.Kind x7.Val.N r8_1 x7.Val.K x7.Val.L) x7.Deps x7.Taint x7.Turned)).set i2 (GEntry.mk x9.Addr (GValue.mk x9.Val.Kind x9.Val.N x9.Val.S r10_1 x9.Val.L) x9.Deps x9.Taint x9.Turned)).set i2 (GEntry.mk x11.Addr (GValue.mk x11.Val.Kind x11.Val.N x11.Val.S x11.Val.K r12_1) x11.Deps x11.Taint x11.Turned)).set i2 (GEntry.mk x13.Addr x13.Val r14_1 x13.Taint x13.Turned)) i2 <|
    .ag 13 <|
    .ix oeq_GEntry ((((((((e0.set i2 (GEntry.mk r4_1 x3.Val x3.Deps x3.Taint x3.Turned)).set i2 (GEntry.mk x5.Addr (GValue.mk r4_0 x5.Val.N x5.Val.S x5.Val.K x5.Val.L) x5.Deps x5.Taint x5.Turned)).set i2 (GEntry.mk x6.Addr (GValue.mk x6.Val.Kind (w64 (r4_0 + 1)) x6.Val.S x6.Val.K x6.Val.L) x6.Deps x6.Taint x6.Turned)).set i2 (GEntry.mk x7.Addr (GValue.mk x7.Val.Kind x7.Val.N r8_1 x7.Val.K x7.Val.L) x7.Deps x7.Taint x7.Turned)).set i2 (GEntry.mk x9.Addr (GValue.mk x9.Val.Kind x9.Val.N x9.Val.S r10_1 x9.Val.L) x9.Deps x9.Taint x9.Turned)).set i2 (GEntry.mk x11.Addr (GValue.mk x11.Val.Kind x11.Val.N x11.Val.S x11.Val.K r12_1) x11.Deps x11.Taint x11.Turned)).set i2 (GEntry.mk x13.Addr x13.Val r14_1 x13.Taint x13.Turned)).set i2 (GEntry.mk x15.Addr x15.Val x15.Deps (decide ((r14_0.tmod 3) = 0)) x15.Turned)) i2 fun x16 =>
    .ag 0 <|
    .sl (oeq_GEntry (GEntry.mk x16.Addr x16.Val x16.Deps x16.Taint (w64 (r14_0 + 1)))) ((((((((e0.set i2 (GEntry.mk r4_1 x3.Val x3.Deps x3.Taint x3.Turned)).set i2 (GEntry.mk x5.Addr (GValue.mk r4_0 x5.Val.N x5.Val.S x5.Val.K x5.Val.L) x5.Deps x5.Taint x5.Turned)).set i2 (GEntry.mk x6.Addr (GValue.mk x6.Val.Kind (w64 (r4_0 + 1)) x6.Val.S x6.Val.K x6.Val.L) x6.Deps x6.Taint x6.Turned)).set i2 (GEntry.mk x7.Addr (GValue.mk x7.Val.Kind x7.Val.N r8_1 x7.Val.K x7.Val.L) x7.Deps x7.Taint x7.Turned)).set i2 (GEntry.mk x9.Addr (GValue.mk x9.Val.Kind x9.Val.N x9.Val.S r10_1 x9.Val.L) x9.Deps x9.Taint x9.Turned)).set i2 (GEntry.mk x11.Addr (GValue.mk x11.Val.Kind x11.Val.N x11.Val.S x11.Val.K r12_1) x11.Deps x11.Taint x11.Turned)).set i2 (GEntry.mk x13.Addr x13.Val r14_1 x13.Taint x13.Turned)).set i2 (GEntry.mk x15.Addr x15.Val x15.Deps (decide ((r14_0.tmod 3) = 0)) x15.Turned)) i2 <|
    .go (ih (w64 ((w64 (r14_0 + 1)) + 1)) (w64 (v1 + 1)) (((((((((e0.set i2 (GEntry.mk r4_1 x3.Val x3.Deps x3.Taint x3.Turned)).set i2 (GEntry.mk x5.Addr (GValue.mk r4_0 x5.Val.N x5.Val.S x5.Val.K x5.Val.L) x5.Deps x5.Taint x5.Turned)).set i2 (GEntry.mk x6.Addr (GValue.mk x6.Val.Kind (w64 (r4_0 + 1)) x6.Val.S x6.Val.K x6.Val.L) x6.Deps x6.Taint x6.Turned)).set i2 (GEntry.mk x7.Addr (GValue.mk x7.Val.Kind x7.Val.N r8_1 x7.Val.K x7.Val.L) x7.Deps x7.Taint x7.Turned)).set i2 (GEntry.mk x9.Addr (GValue.mk x9.Val.Kind x9.Val.N x9.Val.S r10_1 x9.Val.L) x9.Deps x9.Taint x9.Turned)).set i2 (GEntry.mk x11.Addr (GValue.mk x11.Val.Kind x11.Val.N x11.Val.S x11.Val.K r12_1) x11.Deps x11.Taint x11.Turned)).set i2 (GEntry.mk x13.Addr x13.Val r14_1 x13.Taint x13.Turned)).set i2 (GEntry.mk x15.Addr x15.Val x15.Deps (decide ((r14_0.tmod 3) = 0)) x15.Turned)).set i2 (GEntry.mk x16.Addr x16.Val x16.Deps x16.Taint (w64 (r14_0 + 1)))))) fun c1 =>
   .ret (a0, v1, e0))
def T_q10 (n : Nat) (a0 : Int) (e0 : (List GEntry)) : Option (Int × (List GEntry)) :=
 (L_q10_l0 n a0 0 e0).bind fun ⟨o1_0, o1_1, o1_2⟩ =>
 some (o1_0, o1_2)
theorem g_laws_markEntryS (n : Nat) : K_q10 (T_q10 n) := fun a0 e0 => tc (
 .lp (gl_laws_markEntryS_l0 n a0 0 e0) fun ⟨o1_0, o1_1, o1_2⟩ =>
 .ret (o1_0, o1_2)) (fn_of Tryz.func83)
theorem markEntryS_loop : ∀ (l p : List GEntry) (k : Int) (m : Nat), 0 <= k → k + 4 * eszs l <= 2 ^ 40 → p.length + l.length <= 2 ^ 40 → l.length < m → ∃ z, L_q10_l0 m k ((p.length : Nat) : Int) (p ++ l) = some (k + cEs l, z, p ++ mEs k l) := by
  intro l
  induction l with
  | nil =>
    intro p k m _ _ _ hm
    obtain ⟨m, rfl, _⟩ := fuel hm
    exact ⟨_, by rw [L_q10_l0, if_neg (nlt_end p)]; simp [mEs, cEs]; rfl⟩
  | cons x l ih =>
    intro p k m h0 h1 h2 hm
    obtain ⟨m, rfl, hm'⟩ := fuel hm
    simp only [List.length_cons] at h2 hm'
    have hc := cE_le x
    simp only [eszs] at h1
    obtain ⟨z, hz⟩ := ih (p ++ [mE k x]) (k + cE x) m (by omega) (by omega) (by simp; omega) (by omega)
    have hcv := cV_le x.Val
    have hcd := bsz_cB x.Deps
    have hve := vsz_eq x.Val
    have hcq := cV_eq x.Val
    have hmq := mV_eq (k + x.Addr.length) x.Val
    have hb := bsz_cB x.Val.K
    have hd := cVs_le x.Val.L
    have hmE : mE k x = .mk (mB k x.Addr) (mV (k + x.Addr.length) x.Val) (mBB (k + x.Addr.length + cV x.Val) x.Deps) (decide ((k + x.Addr.length + cV x.Val + cB x.Deps).tmod 3 = 0)) (k + x.Addr.length + cV x.Val + cB x.Deps + 1) := rfl
    have hcE : cE x = x.Addr.length + cV x.Val + cB x.Deps + 2 := rfl
    unfold esz at h1 hc
    obtain ⟨ad, v, dp, ta, tu⟩ := x
    obtain ⟨kd, n, s, kk, ks⟩ := v
    simp only [GEntry.Addr, GEntry.Val, GEntry.Deps, GValue.S, GValue.K, GValue.L] at *
    rw [L_q10_l0, if_pos (lt_mid p _ l), natO_nat, Option.bind_some, get_mid, Option.bind_some]
    simp only [GEntry.Addr, GEntry.Val, GEntry.Deps, GEntry.Taint, GEntry.Turned]
    rw [markByteS_eq (by omega) (by omega)]
    simp only [Option.bind_some, set_mid, get_mid, GValue.Kind, GValue.N, GValue.S, GValue.K, GValue.L, GEntry.Addr, GEntry.Val, GEntry.Deps, GEntry.Taint, GEntry.Turned]
    rw [w64_id (x := k + (ad.length : Int) + 1) (by omega) (by omega), w64_id (x := k + (ad.length : Int) + 1 + 1) (by omega) (by omega), markByteS_eq (by omega) (by omega)]
    simp only [Option.bind_some, set_mid, get_mid, GValue.Kind, GValue.N, GValue.S, GValue.K, GValue.L, GEntry.Addr, GEntry.Val, GEntry.Deps, GEntry.Taint, GEntry.Turned]
    rw [markByteSS_eq (by omega) (by omega)]
    simp only [Option.bind_some, set_mid, get_mid, GValue.Kind, GValue.N, GValue.S, GValue.K, GValue.L, GEntry.Addr, GEntry.Val, GEntry.Deps, GEntry.Taint, GEntry.Turned]
    rw [markValueS_eq (by omega) (by omega)]
    simp only [Option.bind_some, set_mid, get_mid, GValue.Kind, GValue.N, GValue.S, GValue.K, GValue.L, GEntry.Addr, GEntry.Val, GEntry.Deps, GEntry.Taint, GEntry.Turned]
    have e1 : k + (ad.length : Int) + 1 + 1 + (s.length : Int) + (cB kk : Int) + (cVs ks : Int) = k + (ad.length : Int) + (cV (.mk kd n s kk ks) : Int) := by omega
    rw [e1, markByteSS_eq (by omega) (by omega)]
    simp only [Option.bind_some, set_mid, get_mid, GValue.Kind, GValue.N, GValue.S, GValue.K, GValue.L, GEntry.Addr, GEntry.Val, GEntry.Deps, GEntry.Taint, GEntry.Turned]
    rw [w64_id (x := k + (ad.length : Int) + (cV (.mk kd n s kk ks) : Int) + (cB dp : Int) + 1) (by omega) (by omega), w64_id (x := k + (ad.length : Int) + (cV (.mk kd n s kk ks) : Int) + (cB dp : Int) + 1 + 1) (by omega) (by omega), <- hmq]
    refine ⟨z, Eq.trans ?_ (Eq.trans hz ?_)⟩
    · congr 1
      · omega
      · exact w64_len p (mE k _) (by omega)
      · rw [List.append_assoc, List.singleton_append, hmE]; congr
    simp only [mEs, cEs, List.append_assoc, List.singleton_append]
    rw [show k + ((cE (.mk ad (.mk kd n s kk ks) dp ta tu) : Nat) : Int) + (cEs l : Int) = k + ((cE (.mk ad (.mk kd n s kk ks) dp ta tu) + cEs l : Nat) : Int) by omega]
def S_q10 (a0 : Int) (e0 : (List GEntry)) : Option (Int × (List GEntry)) := if 0 <= a0 ∧ a0 + 4 * eszs e0 <= 2 ^ 40 then some (a0 + cEs e0, mEs a0 e0) else none
theorem markEntryS_eq {a : Int} {s : List GEntry} (h0 : 0 <= a) (h1 : a + 4 * eszs s <= 2 ^ 40) : S_q10 a s = some (a + cEs s, mEs a s) := if_pos ⟨h0, h1⟩
theorem spec_q10 (a0 : Int) (e0 : (List GEntry)) (r : (Int × (List GEntry))) (h : S_q10 a0 e0 = some r) : ∃ n, T_q10 n a0 e0 = some r := by
  unfold S_q10 at h
  obtain ⟨⟨h0, h1⟩, h⟩ := need_c h
  have := eszs_len e0
  obtain ⟨z, hz⟩ := markEntryS_loop e0 [] a0 (e0.length + 1) h0 h1 (by simp; omega) (by omega)
  refine ⟨e0.length + 1, ?_⟩
  unfold T_q10
  simp only [List.nil_append, List.length_nil, Int.natCast_zero] at hz
  rw [hz]
  exact h
theorem ok_q10 : K_q10 S_q10 := fun a0 e0 r h => (spec_q10 a0 e0 r h).elim fun n hn => g_laws_markEntryS n a0 e0 r hn
def S_q1h (a0_0 : Int) (a0_1 : Bool) (a0_3 : Int) (a1 : Int) (e0 : (List UInt8)) (e1 : (List GEntry)) : Option (Int × (List UInt8) × (List GEntry)) :=
 (S_qa a1 e0).bind fun ⟨r1_0, r1_1⟩ =>
 (S_q10 r1_0 e1).bind fun ⟨r2_0, r2_1⟩ =>
 some (r2_0, r1_1, r2_1)
theorem ok_q1h (a0_0 : Int) (a0_1 : Bool) (a0_3 : Int) (a1 : Int) (e0 : (List UInt8)) (e1 : (List GEntry)) : Oc (S_q1h a0_0 a0_1 a0_3 a1 e0 e1) 23 [.obj 1 (eL e_u8 e0), .obj 9 (eL o_GEntry e1)] [.val true [ci a0_0, .bool a0_1, .ref 0, ci a0_3, .ref 1], vi a1] fun r => (vi r.1, [.obj 1 (eL e_u8 r.2.1), .obj 9 (eL o_GEntry r.2.2)]) := tc (
 .cl (ok_qa a1 e0) fun ⟨r1_0, r1_1⟩ =>
 .cl (ok_q10 r1_0 e1) fun ⟨r2_0, r2_1⟩ =>
 .ret (r2_0, r1_1, r2_1)) (fn_of Tryz.func23)
def S_q2f (a0_0 : Int) (a0_1 : Int) (a1 : Int) (e0 : (List UInt8)) (e1 : (List (List UInt8))) (e2 : (List GValue)) : Option (Int × (List UInt8) × (List (List UInt8)) × (List GValue)) :=
 (S_qa a1 e0).bind fun ⟨r1_0, r1_1⟩ =>
 (S_qb r1_0 e1).bind fun ⟨r2_0, r2_1⟩ =>
 (S_q6 r2_0 e2).bind fun ⟨r3_0, r3_1⟩ =>
 some (r3_0, r1_1, r2_1, r3_1)
theorem ok_q2f (a0_0 : Int) (a0_1 : Int) (a1 : Int) (e0 : (List UInt8)) (e1 : (List (List UInt8))) (e2 : (List GValue)) : Oc (S_q2f a0_0 a0_1 a1 e0 e1 e2) 84 [.obj 1 (eL e_u8 e0), .obj 1 (eL (o_sl 1 e_u8) e1), .obj 5 (eL o_GValue e2)] [.val true [ci a0_0, ci a0_1, .ref 0, .ref 1, .ref 2], vi a1] fun r => (vi r.1, [.obj 1 (eL e_u8 r.2.1), .obj 1 (eL (o_sl 1 e_u8) r.2.2.1), .obj 5 (eL o_GValue r.2.2.2)]) := tc (
 .cl (ok_qa a1 e0) fun ⟨r1_0, r1_1⟩ =>
 .cl (ok_qb r1_0 e1) fun ⟨r2_0, r2_1⟩ =>
 .cl (ok_q6 r2_0 e2) fun ⟨r3_0, r3_1⟩ =>
 .ret (r3_0, r1_1, r2_1, r3_1)) (fn_of Tryz.func84)
def S_q1z (a0_0 : Int) (a0_2 : Int) (a0_3 : Int) (a0_4 : Int) (a1 : Int) (e0 : (List UInt8)) (e1 : (List UInt8)) (e2 : (List (List UInt8))) (e3 : (List GValue)) (e4 : (List (List UInt8))) : Option (Int × (List UInt8) × (List UInt8) × (List (List UInt8)) × (List GValue) × (List (List UInt8))) :=
 (S_qa a1 e0).bind fun ⟨r1_0, r1_1⟩ =>
 (S_q2f a0_3 a0_4 r1_0 e1 e2 e3).bind fun ⟨r2_0, r2_1, r2_2, r2_3⟩ =>
 (S_qb r2_0 e4).bind fun ⟨r3_0, r3_1⟩ =>
 some (r3_0, r1_1, r2_1, r2_2, r2_3, r3_1)
theorem ok_q1z (a0_0 : Int) (a0_2 : Int) (a0_3 : Int) (a0_4 : Int) (a1 : Int) (e0 : (List UInt8)) (e1 : (List UInt8)) (e2 : (List (List UInt8))) (e3 : (List GValue)) (e4 : (List (List UInt8))) : Oc (S_q1z a0_0 a0_2 a0_3 a0_4 a1 e0 e1 e2 e3 e4) 24 [.obj 1 (eL e_u8 e0), .obj 1 (eL e_u8 e1), .obj 1 (eL (o_sl 1 e_u8) e2), .obj 5 (eL o_GValue e3), .obj 1 (eL (o_sl 1 e_u8) e4)] [.val true [ci a0_0, .ref 0, ci a0_2, ci a0_3, ci a0_4, .ref 1, .ref 2, .ref 3, .ref 4], vi a1] fun r => (vi r.1, [.obj 1 (eL e_u8 r.2.1), .obj 1 (eL e_u8 r.2.2.1), .obj 1 (eL (o_sl 1 e_u8) r.2.2.2.1), .obj 5 (eL o_GValue r.2.2.2.2.1), .obj 1 (eL (o_sl 1 e_u8) r.2.2.2.2.2)]) := tc (
 .cl (ok_qa a1 e0) fun ⟨r1_0, r1_1⟩ =>
 .cl (ok_q2f a0_3 a0_4 r1_0 e1 e2 e3) fun ⟨r2_0, r2_1, r2_2, r2_3⟩ =>
 .cl (ok_qb r2_0 e4) fun ⟨r3_0, r3_1⟩ =>
 .ret (r3_0, r1_1, r2_1, r2_2, r2_3, r3_1)) (fn_of Tryz.func24)
def K_qh (F : (List UInt8) → Int → Option Int) : Prop := ∀ (a0 : (List UInt8)) (a1 : Int), Oc (F a0 a1) 40 [] [vq e_u8 a0, vi a1] fun r => (vi r, [])
def L_qh_l0 (a0 : (List UInt8)) : Nat → Int → Int → Option (Int ⊕ (Int × Int))
  | 0, _, _ => none
  | m + 1, a1, v2 =>
  if v2 < ((a0.length : Nat) : Int) then
   (natO v2).bind fun i2 =>
   (a0[i2]?).bind fun x3 =>
   if ((x3.toNat : Nat) : Int) = (((b8 a1).toNat : Nat) : Int) then
    L_qh_l0 a0 m (w64 (a1 + 1)) (w64 (v2 + 1))
   else
   some (.inl (-1))
  else
  some (.inr (a1, v2))
theorem gl_laws_heldByteS_l0 (a0 : (List UInt8)) (m : Nat) : ∀ (a1 : Int) (v2 : Int), Ol (L_qh_l0 a0 m a1 v2) 40 (loopB Tryz.f40 0) ⟨[(0, vq e_u8 a0), (1, vi a1), (5, vi v2)], [], 0⟩ fun o => match o with | .inl o_0 => (.ret, ⟨[(4, vi o_0)], [], 0⟩) | .inr (⟨o_1_0, o_1_1⟩) => (.exit 0, ⟨[(0, vq e_u8 a0), (1, vi o_1_0), (5, vi o_1_1), (9, vb false)], [], 0⟩) := by
  induction m with
  | zero => intro a1 v2 o h; cases h
  | succ m ih => exact fun a1 v2 => tlp (
   .le e_u8 a0 <|
   .lI v2 ((a0.length : Nat) : Int) (fun c1 =>
    .na v2 fun i2 =>
    .ix0 e_u8 a0 i2 fun x3 =>
    .eI ((x3.toNat : Nat) : Int) (((b8 a1).toNat : Nat) : Int) (fun c4 =>
     .go (ih (w64 (a1 + 1)) (w64 (v2 + 1)))) fun c4 =>
    .ret (.inl (-1))) fun c1 =>
   .ret (.inr (a1, v2)))
def T_qh (n : Nat) (a0 : (List UInt8)) (a1 : Int) : Option Int :=
 (L_qh_l0 a0 n a1 0).bind fun o1 =>
 match o1 with
 | .inl o1_0 =>
  some o1_0
 | .inr (⟨o1_1_0, o1_1_1⟩) =>
  some o1_1_0
theorem g_laws_heldByteS (n : Nat) : K_qh (T_qh n) := fun a0 a1 => tc (
 .l2 (gl_laws_heldByteS_l0 a0 n a1 0) (fun o1_0 =>
  .ret o1_0) fun ⟨o1_1_0, o1_1_1⟩ =>
 .ret o1_1_0) (fn_of Tryz.func40)
theorem heldByteS_loop {a : List UInt8} : ∀ (l p : List UInt8) (k : Int) (m : Nat), a = p ++ l → mB k l = l → 0 <= k → k + 2 * l.length <= 2 ^ 41 → p.length + l.length <= 2 ^ 41 → l.length < m → ∃ z, L_qh_l0 a m k ((p.length : Nat) : Int) = some (.inr (k + l.length, z)) := by
  intro l
  induction l with
  | nil =>
    intro p k m ha _ _ _ _ hm
    subst ha
    obtain ⟨m, rfl, _⟩ := fuel hm
    exact ⟨_, by rw [L_qh_l0, if_neg (nlt_end p)]; simp; rfl⟩
  | cons x l ih =>
    intro p k m ha hm0 h0 h1 h2 hm
    obtain ⟨m, rfl, hm'⟩ := fuel hm
    simp only [List.length_cons] at h1 h2 hm'
    rw [mB] at hm0
    obtain ⟨e1, e2⟩ := List.cons.inj hm0
    obtain ⟨z, hz⟩ := ih (p ++ [x]) (k + 1) m (by rw [ha]; simp) e2 (by omega) (by omega) (by simp; omega) (by omega)
    refine ⟨z, ?_⟩
    rw [L_qh_l0, if_pos (by rw [ha]; exact lt_mid p x l), natO_nat, Option.bind_some, show a[p.length]? = some x by rw [ha]; exact get_mid p x l, Option.bind_some, if_pos (by rw [e1]), w64_len p x (by omega), w64_id (x := k + 1) (by omega) (by omega), hz]
    simp only [List.length_cons]
    rw [show k + 1 + (l.length : Int) = k + ((l.length + 1 : Nat) : Int) by omega]
def S_qh (a0 : (List UInt8)) (a1 : Int) : Option Int := if mB a1 a0 = a0 ∧ 0 <= a1 ∧ a1 + 2 * a0.length <= 2 ^ 41 then some (a1 + a0.length) else none
theorem heldByteS_eq {a : Int} {s : List UInt8} (h : mB a s = s) (h0 : 0 <= a) (h1 : a + 2 * s.length <= 2 ^ 41) : S_qh s a = some (a + s.length) := if_pos ⟨h, h0, h1⟩
theorem spec_qh (a0 : (List UInt8)) (a1 : Int) (r : Int) (h : S_qh a0 a1 = some r) : ∃ n, T_qh n a0 a1 = some r := by
  unfold S_qh at h
  obtain ⟨⟨he, h0, h1⟩, h⟩ := need_c h
  obtain ⟨z, hz⟩ := heldByteS_loop (a := a0) a0 [] a1 (a0.length + 1) rfl he h0 h1 (by simp; omega) (by omega)
  refine ⟨a0.length + 1, ?_⟩
  unfold T_qh
  simp only [List.length_nil, Int.natCast_zero] at hz
  rw [hz]
  exact h
theorem ok_qh : K_qh S_qh := fun a0 a1 r h => (spec_qh a0 a1 r h).elim fun n hn => g_laws_heldByteS n a0 a1 r hn
def K_qn (F : (List (List UInt8)) → Int → Option Int) : Prop := ∀ (a0 : (List (List UInt8))) (a1 : Int), Oc (F a0 a1) 65 [] [vq (e_sl e_u8) a0, vi a1] fun r => (vi r, [])
def L_qn_l0 (a0 : (List (List UInt8))) : Nat → Int → Int → Option (Int ⊕ (Int × Int))
  | 0, _, _ => none
  | m + 1, a1, v2 =>
  if v2 < ((a0.length : Nat) : Int) then
   (natO v2).bind fun i2 =>
   (a0[i2]?).bind fun x3 =>
   (S_qh x3 a1).bind fun r4 =>
   if r4 < 0 then
    some (.inl (-1))
   else
   L_qn_l0 a0 m r4 (w64 (v2 + 1))
  else
  some (.inr (a1, v2))
theorem gl_laws_heldByteSS_l0 (a0 : (List (List UInt8))) (m : Nat) : ∀ (a1 : Int) (v2 : Int), Ol (L_qn_l0 a0 m a1 v2) 65 (loopB Tryz.f65 0) ⟨[(0, vq (e_sl e_u8) a0), (1, vi a1), (5, vi v2)], [], 0⟩ fun o => match o with | .inl o_0 => (.ret, ⟨[(4, vi o_0)], [], 0⟩) | .inr (⟨o_1_0, o_1_1⟩) => (.exit 0, ⟨[(0, vq (e_sl e_u8) a0), (1, vi o_1_0), (5, vi o_1_1), (9, vb false)], [], 0⟩) := by
  induction m with
  | zero => intro a1 v2 o h; cases h
  | succ m ih => exact fun a1 v2 => tlp (
   .le (e_sl e_u8) a0 <|
   .lI v2 ((a0.length : Nat) : Int) (fun c1 =>
    .na v2 fun i2 =>
    .ix0 (e_sl e_u8) a0 i2 fun x3 =>
    .cl (ok_qh x3 a1) fun r4 =>
    .lI r4 0 (fun c5 =>
     .ret (.inl (-1))) fun c5 =>
    .go (ih r4 (w64 (v2 + 1)))) fun c1 =>
   .ret (.inr (a1, v2)))
def T_qn (n : Nat) (a0 : (List (List UInt8))) (a1 : Int) : Option Int :=
 (L_qn_l0 a0 n a1 0).bind fun o1 =>
 match o1 with
 | .inl o1_0 =>
  some o1_0
 | .inr (⟨o1_1_0, o1_1_1⟩) =>
  some o1_1_0
theorem g_laws_heldByteSS (n : Nat) : K_qn (T_qn n) := fun a0 a1 => tc (
 .l2 (gl_laws_heldByteSS_l0 a0 n a1 0) (fun o1_0 =>
  .ret o1_0) fun ⟨o1_1_0, o1_1_1⟩ =>
 .ret o1_1_0) (fn_of Tryz.func65)
theorem heldByteSS_loop {a : List (List UInt8)} : ∀ (l p : List (List UInt8)) (k : Int) (m : Nat), a = p ++ l → mBB k l = l → 0 <= k → k + 2 * bsz l <= 2 ^ 41 → p.length + l.length <= 2 ^ 41 → l.length < m → ∃ z, L_qn_l0 a m k ((p.length : Nat) : Int) = some (.inr (k + cB l, z)) := by
  intro l
  induction l with
  | nil =>
    intro p k m ha _ _ _ _ hm
    subst ha
    obtain ⟨m, rfl, _⟩ := fuel hm
    exact ⟨_, by rw [L_qn_l0, if_neg (nlt_end p)]; simp [cB]; rfl⟩
  | cons x l ih =>
    intro p k m ha hm0 h0 h1 h2 hm
    obtain ⟨m, rfl, hm'⟩ := fuel hm
    rw [bsz_cons] at h1
    simp only [List.length_cons] at h2 hm'
    rw [mBB] at hm0
    obtain ⟨e1, e2⟩ := List.cons.inj hm0
    obtain ⟨z, hz⟩ := ih (p ++ [x]) (k + x.length) m (by rw [ha]; simp) e2 (by omega) (by omega) (by simp; omega) (by omega)
    refine ⟨z, ?_⟩
    rw [L_qn_l0, if_pos (by rw [ha]; exact lt_mid p x l), natO_nat, Option.bind_some, show a[p.length]? = some x by rw [ha]; exact get_mid p x l, Option.bind_some, heldByteS_eq e1 (by omega) (by omega), Option.bind_some, if_neg (by omega), w64_len p x (by omega), hz, cB_cons]
    rw [show k + (x.length : Int) + (cB l : Int) = k + ((x.length + cB l : Nat) : Int) by omega]
def S_qn (a0 : (List (List UInt8))) (a1 : Int) : Option Int := if mBB a1 a0 = a0 ∧ 0 <= a1 ∧ a1 + 2 * bsz a0 <= 2 ^ 41 then some (a1 + cB a0) else none
theorem heldByteSS_eq {a : Int} {s : List (List UInt8)} (h : mBB a s = s) (h0 : 0 <= a) (h1 : a + 2 * bsz s <= 2 ^ 41) : S_qn s a = some (a + cB s) := if_pos ⟨h, h0, h1⟩
theorem spec_qn (a0 : (List (List UInt8))) (a1 : Int) (r : Int) (h : S_qn a0 a1 = some r) : ∃ n, T_qn n a0 a1 = some r := by
  unfold S_qn at h
  obtain ⟨⟨he, h0, h1⟩, h⟩ := need_c h
  have := bsz_len a0
  obtain ⟨z, hz⟩ := heldByteSS_loop (a := a0) a0 [] a1 (a0.length + 1) rfl he h0 h1 (by simp; omega) (by omega)
  refine ⟨a0.length + 1, ?_⟩
  unfold T_qn
  simp only [List.length_nil, Int.natCast_zero] at hz
  rw [hz]
  exact h
theorem ok_qn : K_qn S_qn := fun a0 a1 r h => (spec_qn a0 a1 r h).elim fun n hn => g_laws_heldByteSS n a0 a1 r hn
def K_q8 (F : (List GValue) → Int → Option Int) : Prop := ∀ (a0 : (List GValue)) (a1 : Int), Oc (F a0 a1) 146 [] [vq e_GValue a0, vi a1] fun r => (vi r, [])
def L_q8_l0 (G_laws_heldValueS : (List GValue) → Int → Option Int) (a0 : (List GValue)) : Nat → Int → Int → Option (Int ⊕ (Int × Int))
  | 0, _, _ => none
  | m + 1, a1, v2 =>
  if v2 < ((a0.length : Nat) : Int) then
   (natO v2).bind fun i2 =>
   (a0[i2]?).bind fun x3 =>
   if x3.Kind = a1 then
    if x3.N = (w64 (a1 + 1)) then
     (S_qh x3.S (w64 ((w64 (a1 + 1)) + 1))).bind fun r6 =>
     if r6 < 0 then
      some (.inl (-1))
     else
     (S_qn x3.K r6).bind fun r8 =>
     if r8 < 0 then
      some (.inl (-1))
     else
     (G_laws_heldValueS x3.L r8).bind fun r10 =>
     if r10 < 0 then
      some (.inl (-1))
     else
     L_q8_l0 G_laws_heldValueS a0 m r10 (w64 (v2 + 1))
    else
    some (.inl (-1))
   else
   some (.inl (-1))
  else
  some (.inr (a1, v2))
theorem gl_laws_heldValueS_l0 (G_laws_heldValueS : (List GValue) → Int → Option Int) (H_laws_heldValueS : K_q8 G_laws_heldValueS) (a0 : (List GValue)) (m : Nat) : ∀ (a1 : Int) (v2 : Int), Ol (L_q8_l0 G_laws_heldValueS a0 m a1 v2) 146 (loopB Tryz.f146 0) ⟨[(0, vq e_GValue a0), (1, vi a1), (5, vi v2)], [], 0⟩ fun o => match o with | .inl o_0 => (.ret, ⟨[(4, vi o_0)], [], 0⟩) | .inr (⟨o_1_0, o_1_1⟩) => (.exit 0, ⟨[(0, vq e_GValue a0), (1, vi o_1_0), (5, vi o_1_1), (9, vb false)], [], 0⟩) := by
  induction m with
  | zero => intro a1 v2 o h; cases h
  | succ m ih => exact fun a1 v2 => tlp (
   .le e_GValue a0 <|
   .lI v2 ((a0.length : Nat) : Int) (fun c1 =>
    .na v2 fun i2 =>
    .ix eq_GValue a0 i2 fun x3 =>
    .eI x3.Kind a1 (fun c4 =>
     .ag 1 <|
     .ag 0 <|
     .eI x3.N (w64 (a1 + 1)) (fun c5 =>
      .ag 1 <|
      .ag 0 <|
      .cl (ok_qh x3.S (w64 ((w64 (a1 + 1)) + 1))) fun r6 =>
      .lI r6 0 (fun c7 =>
       .ret (.inl (-1))) fun c7 =>
      .ag 2 <|
      .ag 1 <|
      .cl (ok_qn x3.K r6) fun r8 =>
      .lI r8 0 (fun c9 =>
       .ret (.inl (-1))) fun c9 =>
      .ag 3 <|
      .ag 2 <|
      .cl (H_laws_heldValueS x3.L r8) fun r10 =>
      .lI r10 0 (fun c11 =>
       .ret (.inl (-1))) fun c11 =>
      .go (ih r10 (w64 (v2 + 1)))) fun c5 =>
     .ret (.inl (-1))) fun c4 =>
    .ret (.inl (-1))) fun c1 =>
   .ret (.inr (a1, v2)))
def T_q8 (G_laws_heldValueS : (List GValue) → Int → Option Int) (n : Nat) (a0 : (List GValue)) (a1 : Int) : Option Int :=
 (L_q8_l0 G_laws_heldValueS a0 n a1 0).bind fun o1 =>
 match o1 with
 | .inl o1_0 =>
  some o1_0
 | .inr (⟨o1_1_0, o1_1_1⟩) =>
  some o1_1_0
theorem g_laws_heldValueS (G_laws_heldValueS : (List GValue) → Int → Option Int) (H_laws_heldValueS : K_q8 G_laws_heldValueS) (n : Nat) : K_q8 (T_q8 G_laws_heldValueS n) := fun a0 a1 => tc (
 .l2 (gl_laws_heldValueS_l0 G_laws_heldValueS H_laws_heldValueS a0 n a1 0) (fun o1_0 =>
  .ret o1_0) fun ⟨o1_1_0, o1_1_1⟩ =>
 .ret o1_1_0) (fn_of Tryz.func146)
def U_q8 : Nat → (List GValue) → Int → Option Int
  | 0, _, _ => none
  | n + 1, a0, a1 => T_q8 (U_q8 n) n a0 a1
theorem rec_laws_heldValueS (n : Nat) : K_q8 (U_q8 n) := by
  induction n with
  | zero => exact fun _ _ _ h => (by rw [U_q8] at h; cases h)
  | succ n ih =>
    have ih_laws_heldValueS := ih
    exact fun a0 a1 r h => g_laws_heldValueS (U_q8 n) ih_laws_heldValueS n a0 a1 r (by rw [U_q8] at h; exact h)
theorem heldValueS_loop {G : List GValue → Int → Option Int} {a : List GValue} : ∀ (l p : List GValue) (k : Int) (m : Nat), a = p ++ l → mVs k l = l → (∀ v ∈ l, ∀ i : Int, mVs i v.L = v.L → 0 <= i → i + 2 * vszs v.L <= 2 ^ 41 → G v.L i = some (i + cVs v.L)) → 0 <= k → k + 2 * vszs l <= 2 ^ 41 → p.length + l.length <= 2 ^ 41 → l.length < m → ∃ z, L_q8_l0 G a m k ((p.length : Nat) : Int) = some (.inr (k + cVs l, z)) := by
  intro l
  induction l with
  | nil =>
    intro p k m ha _ _ _ _ _ hm
    subst ha
    obtain ⟨m, rfl, _⟩ := fuel hm
    exact ⟨_, by rw [L_q8_l0, if_neg (nlt_end p)]; simp [cVs]; rfl⟩
  | cons x l ih =>
    intro p k m ha hm0 hG h0 h1 h2 hm
    obtain ⟨m, rfl, hm'⟩ := fuel hm
    simp only [List.length_cons] at h2 hm'
    have hx := hG x List.mem_cons_self
    have hc := cV_le x
    rw [mVs] at hm0
    obtain ⟨e1, e2⟩ := List.cons.inj hm0
    simp only [vszs] at h1
    obtain ⟨z, hz⟩ := ih (p ++ [x]) (k + cV x) m (by rw [ha]; simp) e2 (fun v hv => hG v (List.mem_cons_of_mem _ hv)) (by omega) (by omega) (by simp; omega) (by omega)
    refine ⟨z, ?_⟩
    rw [L_q8_l0, if_pos (by rw [ha]; exact lt_mid p x l), natO_nat, Option.bind_some, show a[p.length]? = some x by rw [ha]; exact get_mid p x l, Option.bind_some, w64_len p x (by omega)]
    have hb := bsz_cB x.K
    have hd := cVs_le x.L
    have hq := vsz_eq x
    have hr := cV_eq x
    rw [mV_eq] at e1
    have f1 : x.Kind = k := (congrArg GValue.Kind e1).symm
    have f2 : x.N = k + 1 := (congrArg GValue.N e1).symm
    have f3 : mB (k + 1 + 1) x.S = x.S := congrArg GValue.S e1
    have f4 : mBB (k + 1 + 1 + x.S.length) x.K = x.K := congrArg GValue.K e1
    have f5 : mVs (k + 1 + 1 + x.S.length + cB x.K) x.L = x.L := congrArg GValue.L e1
    rw [w64_id (x := k + 1) (by omega) (by omega), w64_id (x := k + 1 + 1) (by omega) (by omega), if_pos f1, if_pos f2, heldByteS_eq f3 (by omega) (by omega), Option.bind_some, if_neg (by omega), heldByteSS_eq f4 (by omega) (by omega), Option.bind_some, if_neg (by omega), hx _ f5 (by omega) (by omega), Option.bind_some, if_neg (by omega),
      show k + 1 + 1 + (x.S.length : Int) + (cB x.K : Int) + (cVs x.L : Int) = k + ((cV x : Nat) : Int) by omega, hz]
    simp only [cVs]
    rw [show k + ((cV x : Nat) : Int) + (cVs l : Int) = k + ((cV x + cVs l : Nat) : Int) by omega]
theorem heldValueS_U : ∀ (N : Nat) (l : List GValue), vszs l < N → ∀ (k : Int) (f : Nat), mVs k l = l → 0 <= k → k + 2 * vszs l <= 2 ^ 41 → vszs l + 2 <= f → U_q8 f l k = some (k + cVs l) := by
  intro N
  induction N with
  | zero => intro l hl; omega
  | succ N ih =>
    intro l hl k f he h0 h1 hf
    obtain ⟨f, rfl, _⟩ := fuel (show 0 < f by omega)
    have hlen := vszs_len l
    rw [U_q8]
    unfold T_q8
    obtain ⟨z, hz⟩ := heldValueS_loop (G := U_q8 f) (a := l) l [] k f rfl he (fun v hv i ge g0 g1 => by
      have := vszs_mem hv
      have := vsz_eq v
      exact ih v.L (by omega) i f ge g0 g1 (by omega)) h0 h1 (by simp; omega) (by omega)
    simp only [List.length_nil, Int.natCast_zero] at hz
    rw [hz]; rfl
open Classical in
noncomputable def S_q8 (a0 : (List GValue)) (a1 : Int) : Option Int := if mVs a1 a0 = a0 ∧ 0 <= a1 ∧ a1 + 2 * vszs a0 <= 2 ^ 41 then some (a1 + cVs a0) else none
theorem heldValueS_eq {a : Int} {s : List GValue} (h : mVs a s = s) (h0 : 0 <= a) (h1 : a + 2 * vszs s <= 2 ^ 41) : S_q8 s a = some (a + cVs s) := if_pos ⟨h, h0, h1⟩
theorem spec_q8 (a0 : (List GValue)) (a1 : Int) (r : Int) (h : S_q8 a0 a1 = some r) : ∃ n, U_q8 n a0 a1 = some r := by
  unfold S_q8 at h
  obtain ⟨⟨he, h0, h1⟩, h⟩ := need_c h
  exact ⟨vszs a0 + 2, by rw [heldValueS_U _ a0 (Nat.lt_succ_self _) a1 _ he h0 h1 (Nat.le_refl _), h]⟩
theorem ok_q8 : K_q8 S_q8 := by
  intro a0 a1 r h
  obtain ⟨n, hn⟩ := spec_q8 a0 a1 r h
  exact (rec_laws_heldValueS n) a0 a1 r hn
def K_qx (F : (List GEntry) → Int → Option Int) : Prop := ∀ (a0 : (List GEntry)) (a1 : Int), Oc (F a0 a1) 85 [] [vq e_GEntry a0, vi a1] fun r => (vi r, [])
def L_qx_l0 (a0 : (List GEntry)) : Nat → Int → Int → Option (Int ⊕ (Int × Int))
  | 0, _, _ => none
  | m + 1, a1, v2 =>
  if v2 < ((a0.length : Nat) : Int) then
   (natO v2).bind fun i2 =>
   (a0[i2]?).bind fun x3 =>
   (S_qh x3.Addr a1).bind fun r4 =>
   if r4 < 0 then
    some (.inl (-1))
   else
   if x3.Val.Kind = r4 then
    if x3.Val.N = (w64 (r4 + 1)) then
     (S_qh x3.Val.S (w64 ((w64 (r4 + 1)) + 1))).bind fun r8 =>
     if r8 < 0 then
      some (.inl (-1))
     else
     (S_qn x3.Val.K r8).bind fun r10 =>
     if r10 < 0 then
      some (.inl (-1))
     else
     (S_q8 x3.Val.L r10).bind fun r12 =>
     if r12 < 0 then
      some (.inl (-1))
     else
     (S_qn x3.Deps r12).bind fun r14 =>
     if r14 < 0 then
      some (.inl (-1))
     else
     if x3.Taint = true then
      if (r14.tmod 3) = 0 then
       if x3.Turned = (w64 (r14 + 1)) then
        L_qx_l0 a0 m (w64 ((w64 (r14 + 1)) + 1)) (w64 (v2 + 1))
       else
       some (.inl (-1))
      else
      some (.inl (-1))
     else
     if (r14.tmod 3) = 0 then
      some (.inl (-1))
     else
     if x3.Turned = (w64 (r14 + 1)) then
      L_qx_l0 a0 m (w64 ((w64 (r14 + 1)) + 1)) (w64 (v2 + 1))
     else
     some (.inl (-1))
    else
    some (.inl (-1))
   else
   some (.inl (-1))
  else
  some (.inr (a1, v2))
theorem gl_laws_heldEntryS_l0 (a0 : (List GEntry)) (m : Nat) : ∀ (a1 : Int) (v2 : Int), Ol (L_qx_l0 a0 m a1 v2) 85 (loopB Tryz.f85 0) ⟨[(0, vq e_GEntry a0), (1, vi a1), (5, vi v2)], [], 0⟩ fun o => match o with | .inl o_0 => (.ret, ⟨[(4, vi o_0)], [], 0⟩) | .inr (⟨o_1_0, o_1_1⟩) => (.exit 0, ⟨[(0, vq e_GEntry a0), (1, vi o_1_0), (5, vi o_1_1), (9, vb false)], [], 0⟩) := by
  induction m with
  | zero => intro a1 v2 o h; cases h
  | succ m ih => exact fun a1 v2 => tlp (
   .le e_GEntry a0 <|
   .lI v2 ((a0.length : Nat) : Int) (fun c1 =>
    .na v2 fun i2 =>
    .ix eq_GEntry a0 i2 fun x3 =>
    .cl (ok_qh x3.Addr a1) fun r4 =>
    .lI r4 0 (fun c5 =>
     .ret (.inl (-1))) fun c5 =>
    .ag 2 <|
    .ag 1 <|
    .eI x3.Val.Kind r4 (fun c6 =>
     .ag 2 <|
     .ag 1 <|
     .eI x3.Val.N (w64 (r4 + 1)) (fun c7 =>
      .ag 2 <|
      .ag 1 <|
      .cl (ok_qh x3.Val.S (w64 ((w64 (r4 + 1)) + 1))) fun r8 =>
      .lI r8 0 (fun c9 =>
       .ret (.inl (-1))) fun c9 =>
      .ag 3 <|
      .ag 2 <|
      .cl (ok_qn x3.Val.K r8) fun r10 =>
      .lI r10 0 (fun c11 =>
       .ret (.inl (-1))) fun c11 =>
      .ag 4 <|
      .ag 3 <|
      .cl (ok_q8 x3.Val.L r10) fun r12 =>
      .lI r12 0 (fun c13 =>
       .ret (.inl (-1))) fun c13 =>
      .ag 5 <|
      .ag 4 <|
      .cl (ok_qn x3.Deps r12) fun r14 =>
      .lI r14 0 (fun c15 =>
       .ret (.inl (-1))) fun c15 =>
      .ag 6 <|
      .ag 5 <|
      .q ⟨.nz 3, .b true, rfl⟩ <|
      .eD (r14.tmod 3) 0 <|
      .sp (x3.Taint = true) (fun c16 =>
       .sp ((r14.tmod 3) = 0) (fun c17 =>
        .eb c16 (dT c17) <|
        .ag 6 <|
        .ag 5 <|
        .eI x3.Turned (w64 (r14 + 1)) (fun c18 =>
         .go (ih (w64 ((w64 (r14 + 1)) + 1)) (w64 (v2 + 1)))) fun c18 =>
        .ret (.inl (-1))) fun c17 =>
       .eb c16 (dF c17) <|
       .ret (.inl (-1))) fun c16 =>
      .sp ((r14.tmod 3) = 0) (fun c17 =>
       .eb (bF c16) (dT c17) <|
       .ret (.inl (-1))) fun c17 =>
      .eb (bF c16) (dF c17) <|
      .ag 6 <|
      .ag 5 <|
      .eI x3.Turned (w64 (r14 + 1)) (fun c18 =>
       .go (ih (w64 ((w64 (r14 + 1)) + 1)) (w64 (v2 + 1)))) fun c18 =>
      .ret (.inl (-1))) fun c7 =>
     .ret (.inl (-1))) fun c6 =>
    .ret (.inl (-1))) fun c1 =>
   .ret (.inr (a1, v2)))
def T_qx (n : Nat) (a0 : (List GEntry)) (a1 : Int) : Option Int :=
 (L_qx_l0 a0 n a1 0).bind fun o1 =>
 match o1 with
 | .inl o1_0 =>
  some o1_0
 | .inr (⟨o1_1_0, o1_1_1⟩) =>
  some o1_1_0
theorem g_laws_heldEntryS (n : Nat) : K_qx (T_qx n) := fun a0 a1 => tc (
 .l2 (gl_laws_heldEntryS_l0 a0 n a1 0) (fun o1_0 =>
  .ret o1_0) fun ⟨o1_1_0, o1_1_1⟩ =>
 .ret o1_1_0) (fn_of Tryz.func85)
theorem heldEntryS_loop {a : List GEntry} : ∀ (l p : List GEntry) (k : Int) (m : Nat), a = p ++ l → mEs k l = l → 0 <= k → k + 4 * eszs l <= 2 ^ 40 → p.length + l.length <= 2 ^ 40 → l.length < m → ∃ z, L_qx_l0 a m k ((p.length : Nat) : Int) = some (.inr (k + cEs l, z)) := by
  intro l
  induction l with
  | nil =>
    intro p k m ha _ _ _ _ hm
    subst ha
    obtain ⟨m, rfl, _⟩ := fuel hm
    exact ⟨_, by rw [L_qx_l0, if_neg (nlt_end p)]; simp [cEs]; rfl⟩
  | cons x l ih =>
    intro p k m ha hm0 h0 h1 h2 hm
    obtain ⟨m, rfl, hm'⟩ := fuel hm
    simp only [List.length_cons] at h2 hm'
    have hc := cE_le x
    rw [mEs] at hm0
    obtain ⟨e1, e2⟩ := List.cons.inj hm0
    simp only [eszs] at h1
    obtain ⟨z, hz⟩ := ih (p ++ [x]) (k + cE x) m (by rw [ha]; simp) e2 (by omega) (by omega) (by simp; omega) (by omega)
    refine ⟨z, ?_⟩
    rw [L_qx_l0, if_pos (by rw [ha]; exact lt_mid p x l), natO_nat, Option.bind_some, show a[p.length]? = some x by rw [ha]; exact get_mid p x l, Option.bind_some, w64_len p x (by omega)]
    have hcv := cV_le x.Val
    have hcd := bsz_cB x.Deps
    have hve := vsz_eq x.Val
    have hcq := cV_eq x.Val
    have hb := bsz_cB x.Val.K
    have hd := cVs_le x.Val.L
    have hcE : cE x = x.Addr.length + cV x.Val + cB x.Deps + 2 := rfl
    unfold esz at h1 hc
    have f0 : mB k x.Addr = x.Addr := congrArg GEntry.Addr e1
    have f1 : mV (k + x.Addr.length) x.Val = x.Val := congrArg GEntry.Val e1
    have f2 : mBB (k + x.Addr.length + cV x.Val) x.Deps = x.Deps := congrArg GEntry.Deps e1
    have f3 : decide ((k + x.Addr.length + cV x.Val + cB x.Deps).tmod 3 = 0) = x.Taint := congrArg GEntry.Taint e1
    have f4 : k + x.Addr.length + cV x.Val + cB x.Deps + 1 = x.Turned := congrArg GEntry.Turned e1
    rw [mV_eq] at f1
    have g1 : x.Val.Kind = k + x.Addr.length := (congrArg GValue.Kind f1).symm
    have g2 : x.Val.N = k + x.Addr.length + 1 := (congrArg GValue.N f1).symm
    have g3 : mB (k + x.Addr.length + 1 + 1) x.Val.S = x.Val.S := congrArg GValue.S f1
    have g4 : mBB (k + x.Addr.length + 1 + 1 + x.Val.S.length) x.Val.K = x.Val.K := congrArg GValue.K f1
    have g5 : mVs (k + x.Addr.length + 1 + 1 + x.Val.S.length + cB x.Val.K) x.Val.L = x.Val.L := congrArg GValue.L f1
    have e6 : k + (x.Addr.length : Int) + 1 + 1 + (x.Val.S.length : Int) + (cB x.Val.K : Int) + (cVs x.Val.L : Int) = k + (x.Addr.length : Int) + (cV x.Val : Int) := by omega
    rw [heldByteS_eq f0 (by omega) (by omega), Option.bind_some, if_neg (by omega), if_pos g1, w64_id (x := k + (x.Addr.length : Int) + 1) (by omega) (by omega), if_pos g2, w64_id (x := k + (x.Addr.length : Int) + 1 + 1) (by omega) (by omega), heldByteS_eq g3 (by omega) (by omega), Option.bind_some, if_neg (by omega), heldByteSS_eq g4 (by omega) (by omega), Option.bind_some, if_neg (by omega), heldValueS_eq g5 (by omega) (by omega), Option.bind_some, if_neg (by omega), e6, heldByteSS_eq f2 (by omega) (by omega), Option.bind_some, if_neg (by omega)]
    rw [w64_id (x := k + (x.Addr.length : Int) + (cV x.Val : Int) + (cB x.Deps : Int) + 1) (by omega) (by omega), w64_id (x := k + (x.Addr.length : Int) + (cV x.Val : Int) + (cB x.Deps : Int) + 1 + 1) (by omega) (by omega),
      show k + (x.Addr.length : Int) + (cV x.Val : Int) + (cB x.Deps : Int) + 1 + 1 = k + ((cE x : Nat) : Int) by omega, hz]
    simp only [cEs]
    rw [show k + ((cE x : Nat) : Int) + (cEs l : Int) = k + ((cE x + cEs l : Nat) : Int) by omega]
    by_cases ht : (k + (x.Addr.length : Int) + (cV x.Val : Int) + (cB x.Deps : Int)).tmod 3 = 0
    · rw [decide_eq_true ht] at f3
      rw [if_pos f3.symm, if_pos ht, if_pos f4.symm]
    · rw [decide_eq_false ht] at f3
      rw [if_neg (by rw [<- f3]; decide), if_neg ht, if_pos f4.symm]
open Classical in
noncomputable def S_qx (a0 : (List GEntry)) (a1 : Int) : Option Int := if mEs a1 a0 = a0 ∧ 0 <= a1 ∧ a1 + 4 * eszs a0 <= 2 ^ 40 then some (a1 + cEs a0) else none
theorem heldEntryS_eq {a : Int} {s : List GEntry} (h : mEs a s = s) (h0 : 0 <= a) (h1 : a + 4 * eszs s <= 2 ^ 40) : S_qx s a = some (a + cEs s) := if_pos ⟨h, h0, h1⟩
theorem spec_qx (a0 : (List GEntry)) (a1 : Int) (r : Int) (h : S_qx a0 a1 = some r) : ∃ n, T_qx n a0 a1 = some r := by
  unfold S_qx at h
  obtain ⟨⟨he, h0, h1⟩, h⟩ := need_c h
  have := eszs_len a0
  obtain ⟨z, hz⟩ := heldEntryS_loop (a := a0) a0 [] a1 (a0.length + 1) rfl he h0 h1 (by simp; omega) (by omega)
  refine ⟨a0.length + 1, ?_⟩
  unfold T_qx
  simp only [List.length_nil, Int.natCast_zero] at hz
  rw [hz]
  exact h
theorem ok_qx : K_qx S_qx := fun a0 a1 r h => (spec_qx a0 a1 r h).elim fun n hn => g_laws_heldEntryS n a0 a1 r hn
def S_q1y (a0 : GState) (a1 : Int) : Option Int :=
 (S_qh a0.Pending a1).bind fun r1 =>
 if r1 < 0 then
  some (-1)
 else
 (S_qx a0.Entries r1).bind fun r3 =>
 if r3 < 0 then
  some (-1)
 else
 some r3
theorem ok_q1y (a0 : GState) (a1 : Int) : Oc (S_q1y a0 a1) 25 [] [.val true (x_GState a0), vi a1] fun r => (vi r, []) := tc (
 .cl (ok_qh a0.Pending a1) fun r1 =>
 .lI r1 0 (fun c2 =>
  .ret (-1)) fun c2 =>
 .cl (ok_qx a0.Entries r1) fun r3 =>
 .lI r3 0 (fun c4 =>
  .ret (-1)) fun c4 =>
 .ret r3) (fn_of Tryz.func25)
def S_laws_FnExactDo (a0 : GState) (a1 : GEvent) : Option Bool :=
 (S_q2q a0 1048576).bind fun r1 =>
 if r1 < 0 then
  some true
 else
 (S_q2s a1 r1).bind fun r3 =>
 if r3 < 0 then
  some true
 else
 (S_q2o a0).bind fun r5 =>
 (S_q2t a1).bind fun r6 =>
 (S_spec_Do r5 r6).bind fun ⟨r7_0, r7_1⟩ =>
 (S_impl_Do r5 r6).bind fun ⟨r8_0, r8_1⟩ =>
 (S_q1x r8_0 r7_0).bind fun r9 =>
 match r9 with
 | true =>
  if r8_1 = true then
   if r7_1 = true then
    (S_q1x r5 r5).bind fun r12 =>
    match r12 with
    | true =>
     (S_q24 r6 r6).bind fun r13 =>
     match r13 with
     | true =>
      (S_q1h r5.Serial r5.Open r5.Act 1 r5.Pending r5.Entries).bind fun ⟨r14_0, r14_1, r14_2⟩ =>
      (S_q1z r6.Kind r6.Act r6.Val.Kind r6.Val.N r14_0 r6.Addr r6.Val.S r6.Val.K r6.Val.L r6.Deps).bind fun ⟨r15_0, r15_1, r15_2, r15_3, r15_4, r15_5⟩ =>
      if r15_0 < 0 then
       none
      else
      (S_q1h r8_0.Serial r8_0.Open r8_0.Act 1 r8_0.Pending r8_0.Entries).bind fun ⟨r17_0, r17_1, r17_2⟩ =>
      (S_q1y (GState.mk r8_0.Serial r8_0.Open r17_1 r8_0.Act r17_2) 1).bind fun r18 =>
      if r18 < 0 then
       none
      else
      if r18 = r17_0 then
       some true
      else
      none
     | false =>
      none
    | false =>
     none
   else
   none
  else
  if r7_1 = true then
   none
  else
  (S_q1x r5 r5).bind fun r12 =>
  match r12 with
  | true =>
   (S_q24 r6 r6).bind fun r13 =>
   match r13 with
   | true =>
    (S_q1h r5.Serial r5.Open r5.Act 1 r5.Pending r5.Entries).bind fun ⟨r14_0, r14_1, r14_2⟩ =>
    (S_q1z r6.Kind r6.Act r6.Val.Kind r6.Val.N r14_0 r6.Addr r6.Val.S r6.Val.K r6.Val.L r6.Deps).bind fun ⟨r15_0, r15_1, r15_2, r15_3, r15_4, r15_5⟩ =>
    if r15_0 < 0 then
     none
    else
    (S_q1h r8_0.Serial r8_0.Open r8_0.Act 1 r8_0.Pending r8_0.Entries).bind fun ⟨r17_0, r17_1, r17_2⟩ =>
    (S_q1y (GState.mk r8_0.Serial r8_0.Open r17_1 r8_0.Act r17_2) 1).bind fun r18 =>
    if r18 < 0 then
     none
    else
    if r18 = r17_0 then
     some true
    else
    none
   | false =>
    none
  | false =>
   none
 | false =>
  none
theorem ok_laws_FnExactDo (a0 : GState) (a1 : GEvent) : Oc (S_laws_FnExactDo a0 a1) 3 [] [.val true (x_GState a0), .val true (x_GEvent a1)] fun r => (vb r, []) := tc (
 .cl (ok_q2q a0 1048576) fun r1 =>
 .lI r1 0 (fun c2 =>
  .ret true) fun c2 =>
 .cl (ok_q2s a1 r1) fun r3 =>
 .lI r3 0 (fun c4 =>
  .ret true) fun c4 =>
 .cl (ok_q2o a0) fun r5 =>
 .cl (ok_q2t a1) fun r6 =>
 .vw E_u8 r5.Pending <|
 .vo O_GEntry r5.Entries <|
 .vw E_u8 r6.Addr <|
 .vw E_u8 r6.Val.S <|
 .vo (O_sl 1 O_u8) r6.Val.K <|
 .vo O_GValue r6.Val.L <|
 .vo (O_sl 1 O_u8) r6.Deps <|
 .cl (ok_spec_Do r5 r6) fun ⟨r7_0, r7_1⟩ =>
 .ag 2 <|
 .ag 1 <|
 .vw E_u8 r5.Pending <|
 .vo O_GEntry r5.Entries <|
 .vw E_u8 r6.Addr <|
 .vw E_u8 r6.Val.S <|
 .vo (O_sl 1 O_u8) r6.Val.K <|
 .vo O_GValue r6.Val.L <|
 .vo (O_sl 1 O_u8) r6.Deps <|
 .cl (ok_impl_Do r5 r6) fun ⟨r8_0, r8_1⟩ =>
 .cn O_u8 r8_0.Pending <|
 .cn O_GEntry r8_0.Entries <|
 .vw E_u8 r8_0.Pending <|
 .vo O_GEntry r8_0.Entries <|
 .cl (ok_q1x r8_0 r7_0) fun r9 =>
 .vN 0 r9 (
  .an 0 0 <|
  .an 0 0 <|
  .sp (r8_1 = true) (fun c10 =>
   .sp (r7_1 = true) (fun c11 =>
    .eb c10 c11 <|
    .an 0 0 <|
    .ag 5 <|
    .vw E_u8 r5.Pending <|
    .vo O_GEntry r5.Entries <|
    .vw E_u8 r5.Pending <|
    .vo O_GEntry r5.Entries <|
    .cl (ok_q1x r5 r5) fun r12 =>
    .vN 0 r12 (
     .ag 6 <|
     .vw E_u8 r6.Addr <|
     .vw E_u8 r6.Val.S <|
     .vo (O_sl 1 O_u8) r6.Val.K <|
     .vo O_GValue r6.Val.L <|
     .vo (O_sl 1 O_u8) r6.Deps <|
     .vw E_u8 r6.Addr <|
     .vw E_u8 r6.Val.S <|
     .vo (O_sl 1 O_u8) r6.Val.K <|
     .vo O_GValue r6.Val.L <|
     .vo (O_sl 1 O_u8) r6.Deps <|
     .cl (ok_q24 r6 r6) fun r13 =>
     .vN 0 r13 (
      .cl (ok_q1h r5.Serial r5.Open r5.Act 1 r5.Pending r5.Entries) fun ⟨r14_0, r14_1, r14_2⟩ =>
      .cl (ok_q1z r6.Kind r6.Act r6.Val.Kind r6.Val.N r14_0 r6.Addr r6.Val.S r6.Val.K r6.Val.L r6.Deps) fun ⟨r15_0, r15_1, r15_2, r15_3, r15_4, r15_5⟩ =>
      .lI r15_0 0 (fun c16 =>
       .no) fun c16 =>
      .vw E_u8 r8_0.Pending <|
      .vo O_GEntry r8_0.Entries <|
      .ag 7 <|
      .an 2 6 <|
      .an 0 6 <|
      .an 0 6 <|
      .eb c10 c11 <|
      .an 0 6 <|
      .cl (ok_q1h r8_0.Serial r8_0.Open r8_0.Act 1 r8_0.Pending r8_0.Entries) fun ⟨r17_0, r17_1, r17_2⟩ =>
      .vw E_u8 r17_1 <|
      .vo O_GEntry r17_2 <|
      .cl (ok_q1y (GState.mk r8_0.Serial r8_0.Open r17_1 r8_0.Act r17_2) 1) fun r18 =>
      .lI r18 0 (fun c19 =>
       .no) fun c19 =>
      .eI r18 r17_0 (fun c20 =>
       .ag 13 <|
       .ag 12 <|
       .vw E_u8 r5.Pending <|
       .vo O_GEntry r5.Entries <|
       .vw E_u8 r6.Addr <|
       .vw E_u8 r6.Val.S <|
       .vo (O_sl 1 O_u8) r6.Val.K <|
       .vo O_GValue r6.Val.L <|
       .vo (O_sl 1 O_u8) r6.Deps <|
       .ag 10 <|
       .cn O_u8 r8_0.Pending <|
       .cn O_GEntry r8_0.Entries <|
       .vw E_u8 r8_0.Pending <|
       .vo O_GEntry r8_0.Entries <|
       .ag 9 <|
       .an 0 8 <|
       .an 0 8 <|
       .an 0 8 <|
       .eb c10 c11 <|
       .an 0 8 <|
       .vw E_u8 r17_1 <|
       .vo O_GEntry r17_2 <|
       .ag 0 <|
       .q (.lF c19) <|
       .q (.eT c20) <|
       .ret true) fun c20 =>
      .no) <|
     .no) <|
    .no) fun c11 =>
   .no) fun c10 =>
  .sp (r7_1 = true) (fun c11 =>
   .no) fun c11 =>
  .eb (bF c10) (bF c11) <|
  .an 0 0 <|
  .ag 5 <|
  .vw E_u8 r5.Pending <|
  .vo O_GEntry r5.Entries <|
  .vw E_u8 r5.Pending <|
  .vo O_GEntry r5.Entries <|
  .cl (ok_q1x r5 r5) fun r12 =>
  .vN 0 r12 (
   .ag 6 <|
   .vw E_u8 r6.Addr <|
   .vw E_u8 r6.Val.S <|
   .vo (O_sl 1 O_u8) r6.Val.K <|
   .vo O_GValue r6.Val.L <|
   .vo (O_sl 1 O_u8) r6.Deps <|
   .vw E_u8 r6.Addr <|
   .vw E_u8 r6.Val.S <|
   .vo (O_sl 1 O_u8) r6.Val.K <|
   .vo O_GValue r6.Val.L <|
   .vo (O_sl 1 O_u8) r6.Deps <|
   .cl (ok_q24 r6 r6) fun r13 =>
   .vN 0 r13 (
    .cl (ok_q1h r5.Serial r5.Open r5.Act 1 r5.Pending r5.Entries) fun ⟨r14_0, r14_1, r14_2⟩ =>
    .cl (ok_q1z r6.Kind r6.Act r6.Val.Kind r6.Val.N r14_0 r6.Addr r6.Val.S r6.Val.K r6.Val.L r6.Deps) fun ⟨r15_0, r15_1, r15_2, r15_3, r15_4, r15_5⟩ =>
    .lI r15_0 0 (fun c16 =>
     .no) fun c16 =>
    .vw E_u8 r8_0.Pending <|
    .vo O_GEntry r8_0.Entries <|
    .ag 7 <|
    .an 2 6 <|
    .an 0 6 <|
    .an 0 6 <|
    .eb (bF c10) (bF c11) <|
    .an 0 6 <|
    .cl (ok_q1h r8_0.Serial r8_0.Open r8_0.Act 1 r8_0.Pending r8_0.Entries) fun ⟨r17_0, r17_1, r17_2⟩ =>
    .vw E_u8 r17_1 <|
    .vo O_GEntry r17_2 <|
    .cl (ok_q1y (GState.mk r8_0.Serial r8_0.Open r17_1 r8_0.Act r17_2) 1) fun r18 =>
    .lI r18 0 (fun c19 =>
     .no) fun c19 =>
    .eI r18 r17_0 (fun c20 =>
     .ag 13 <|
     .ag 12 <|
     .vw E_u8 r5.Pending <|
     .vo O_GEntry r5.Entries <|
     .vw E_u8 r6.Addr <|
     .vw E_u8 r6.Val.S <|
     .vo (O_sl 1 O_u8) r6.Val.K <|
     .vo O_GValue r6.Val.L <|
     .vo (O_sl 1 O_u8) r6.Deps <|
     .ag 10 <|
     .cn O_u8 r8_0.Pending <|
     .cn O_GEntry r8_0.Entries <|
     .vw E_u8 r8_0.Pending <|
     .vo O_GEntry r8_0.Entries <|
     .ag 9 <|
     .an 0 8 <|
     .an 0 8 <|
     .an 0 8 <|
     .eb (bF c10) (bF c11) <|
     .an 0 8 <|
     .vw E_u8 r17_1 <|
     .vo O_GEntry r17_2 <|
     .ag 0 <|
     .q (.lF c19) <|
     .q (.eT c20) <|
     .ret true) fun c20 =>
    .no) <|
   .no) <|
  .no) <|
 .no) (fn_of Tryz.func3)
end
end Go.Am.Try
