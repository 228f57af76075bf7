
/- The functions of the program in plain Lean, and that the machine answers as they do; conditions at each theorem. -/
import Derived.Test.YtjmhaigcaidloaaGreatDoorOG2
set_option linter.unusedVariables false
set_option linter.unusedSimpArgs false
namespace Go.Am.Try
open Go.Am Go.Proofs
set_option linter.unusedVariables false
set_option maxRecDepth 20000
set_option maxHeartbeats 2000000
noncomputable section
def K_impl_Value_known_1 (F : GValue → Option Bool) : Prop := ∀ (a0 : GValue), Oc (F a0) 204 [] [.val true (x_GValue a0)] fun r => (vb r, [])
def K_slices_IndexFunc_Value_Value_known_1 (F : (List GValue) → Option Int) : Prop := ∀ (a0 : (List GValue)), Oc (F a0) 224 [] [vq e_GValue a0, .val false [.fn 204 []]] fun r => (vi r, [])
def K_slices_ContainsFunc_Value_Value_known_1 (F : (List GValue) → Option Bool) : Prop := ∀ (a0 : (List GValue)), Oc (F a0) 203 [] [vq e_GValue a0, .val false [.fn 204 []]] fun r => (vb r, [])
def K_impl_Value_known (F : GValue → Option Bool) : Prop := ∀ (a0 : GValue), Oc (F a0) 176 [] [.val true (x_GValue a0)] fun r => (vb r, [])
def T_impl_Value_known_1 (G_impl_Value_known : GValue → Option Bool) (a0 : GValue) : Option Bool :=
 (G_impl_Value_known a0).bind fun r1 =>
 some (!r1)
theorem g_impl_Value_known_1 (G_impl_Value_known : GValue → Option Bool) (H_impl_Value_known : K_impl_Value_known G_impl_Value_known) : K_impl_Value_known_1 (T_impl_Value_known_1 G_impl_Value_known) := fun a0 => tc (
 .cl (H_impl_Value_known a0) fun r1 =>
 .ret (!r1)) (fn_of Tryz.func204)
def L_slices_IndexFunc_Value_Value_known_1_l0 (G_impl_Value_known_1 : GValue → Option Bool) (a0 : (List GValue)) (v1 : Int) : Nat → Int → Option (Int ⊕ Int)
  | 0, _ => none
  | m + 1, v2 =>
  if v2 < v1 then
   (natO v2).bind fun i2 =>
   (a0[i2]?).bind fun x3 =>
   (G_impl_Value_known_1 x3).bind fun r4 =>
   match r4 with
   | true =>
    some (.inl v2)
   | false =>
    L_slices_IndexFunc_Value_Value_known_1_l0 G_impl_Value_known_1 a0 v1 m (w64 (v2 + 1))
  else
  some (.inr v2)
theorem gl_slices_IndexFunc_Value_Value_known_1_l0 (G_impl_Value_known_1 : GValue → Option Bool) (H_impl_Value_known_1 : K_impl_Value_known_1 G_impl_Value_known_1) (a0 : (List GValue)) (v1 : Int) (m : Nat) : ∀ (v2 : Int), Ol (L_slices_IndexFunc_Value_Value_known_1_l0 G_impl_Value_known_1 a0 v1 m v2) 224 (loopB Tryz.f224 0) ⟨[(0, vq e_GValue a0), (1, .val false [.fn 204 []]), (7, vi v1), (8, vi v2)], [], 0⟩ fun o => match o with | .inl o_0 => (.ret, ⟨[(4, vi o_0)], [], 0⟩) | .inr (o_1) => (.exit 0, ⟨[(0, vq e_GValue a0), (1, .val false [.fn 204 []]), (7, vi v1), (8, vi o_1), (9, vb false)], [], 0⟩) := by
  induction m with
  | zero => intro v2 o h; cases h
  | succ m ih => exact fun v2 => tlp (
   .lI v2 v1 (fun c1 =>
    .na v2 fun i2 =>
    .ix eq_GValue a0 i2 fun x3 =>
    .cl (H_impl_Value_known_1 x3) fun r4 =>
    .vM 0 r4 (
     .ret (.inl v2)) <|
    .go (ih (w64 (v2 + 1)))) fun c1 =>
   .ret (.inr v2))
def T_slices_IndexFunc_Value_Value_known_1 (G_impl_Value_known_1 : GValue → Option Bool) (n : Nat) (a0 : (List GValue)) : Option Int :=
 (L_slices_IndexFunc_Value_Value_known_1_l0 G_impl_Value_known_1 a0 ((a0.length : Nat) : Int) n 0).bind fun o1 =>
 match o1 with
 | .inl o1_0 =>
  some o1_0
 | .inr (o1_1) =>
  some (-1)
theorem g_slices_IndexFunc_Value_Value_known_1 (G_impl_Value_known_1 : GValue → Option Bool) (H_impl_Value_known_1 : K_impl_Value_known_1 G_impl_Value_known_1) (n : Nat) : K_slices_IndexFunc_Value_Value_known_1 (T_slices_IndexFunc_Value_Value_known_1 G_impl_Value_known_1 n) := fun a0 => tc (
 .le e_GValue a0 <|
 .l2 (gl_slices_IndexFunc_Value_Value_known_1_l0 G_impl_Value_known_1 H_impl_Value_known_1 a0 ((a0.length : Nat) : Int) n 0) (fun o1_0 =>
  .ret o1_0) fun o1_1 =>
 .ret (-1)) (fn_of Tryz.func224)
def T_slices_ContainsFunc_Value_Value_known_1 (G_slices_IndexFunc_Value_Value_known_1 : (List GValue) → Option Int) (a0 : (List GValue)) : Option Bool :=
 (G_slices_IndexFunc_Value_Value_known_1 a0).bind fun r1 =>
 some (decide (0 <= r1))
theorem g_slices_ContainsFunc_Value_Value_known_1 (G_slices_IndexFunc_Value_Value_known_1 : (List GValue) → Option Int) (H_slices_IndexFunc_Value_Value_known_1 : K_slices_IndexFunc_Value_Value_known_1 G_slices_IndexFunc_Value_Value_known_1) : K_slices_ContainsFunc_Value_Value_known_1 (T_slices_ContainsFunc_Value_Value_known_1 G_slices_IndexFunc_Value_Value_known_1) := fun a0 => tc (
 .cl (H_slices_IndexFunc_Value_Value_known_1 a0) fun r1 =>
 .gD 0 r1 <|
 .ret (decide (0 <= r1))) (fn_of Tryz.func203)
def T_impl_Value_known (G_slices_ContainsFunc_Value_Value_known_1 : (List GValue) → Option Bool) (a0 : GValue) : Option Bool :=
 if a0.Kind = 6 then
  some false
 else
 (G_slices_ContainsFunc_Value_Value_known_1 a0.L).bind fun r2 =>
 some (!r2)
theorem g_impl_Value_known (G_slices_ContainsFunc_Value_Value_known_1 : (List GValue) → Option Bool) (H_slices_ContainsFunc_Value_Value_known_1 : K_slices_ContainsFunc_Value_Value_known_1 G_slices_ContainsFunc_Value_Value_known_1) : K_impl_Value_known (T_impl_Value_known G_slices_ContainsFunc_Value_Value_known_1) := fun a0 => tc (
 .eI a0.Kind 6 (fun c1 =>
  .ret false) fun c1 =>
 .cl (H_slices_ContainsFunc_Value_Value_known_1 a0.L) fun r2 =>
 .ret (!r2)) (fn_of Tryz.func176)
mutual
def U_impl_Value_known_1 : Nat → GValue → Option Bool
  | 0, _ => none
  | n + 1, a0 => T_impl_Value_known_1 (U_impl_Value_known n) a0
def U_slices_IndexFunc_Value_Value_known_1 : Nat → (List GValue) → Option Int
  | 0, _ => none
  | n + 1, a0 => T_slices_IndexFunc_Value_Value_known_1 (U_impl_Value_known_1 n) n a0
def U_slices_ContainsFunc_Value_Value_known_1 : Nat → (List GValue) → Option Bool
  | 0, _ => none
  | n + 1, a0 => T_slices_ContainsFunc_Value_Value_known_1 (U_slices_IndexFunc_Value_Value_known_1 n) a0
def U_impl_Value_known : Nat → GValue → Option Bool
  | 0, _ => none
  | n + 1, a0 => T_impl_Value_known (U_slices_ContainsFunc_Value_Value_known_1 n) a0
end
theorem rec_impl_Value_known_1 (n : Nat) : K_impl_Value_known_1 (U_impl_Value_known_1 n) ∧ K_slices_IndexFunc_Value_Value_known_1 (U_slices_IndexFunc_Value_Value_known_1 n) ∧ K_slices_ContainsFunc_Value_Value_known_1 (U_slices_ContainsFunc_Value_Value_known_1 n) ∧ K_impl_Value_known (U_impl_Value_known n) := by
  induction n with
  | zero => exact ⟨fun _ _ h => (by rw [U_impl_Value_known_1] at h; cases h), fun _ _ h => (by rw [U_slices_IndexFunc_Value_Value_known_1] at h; cases h), fun _ _ h => (by rw [U_slices_ContainsFunc_Value_Value_known_1] at h; cases h), fun _ _ h => (by rw [U_impl_Value_known] at h; cases h)⟩
  | succ n ih =>
    obtain ⟨ih_impl_Value_known_1, ih_slices_IndexFunc_Value_Value_known_1, ih_slices_ContainsFunc_Value_Value_known_1, ih_impl_Value_known⟩ := ih
    exact ⟨fun a0 r h => g_impl_Value_known_1 (U_impl_Value_known n) ih_impl_Value_known a0 r (by rw [U_impl_Value_known_1] at h; exact h),
      fun a0 r h => g_slices_IndexFunc_Value_Value_known_1 (U_impl_Value_known_1 n) ih_impl_Value_known_1 n a0 r (by rw [U_slices_IndexFunc_Value_Value_known_1] at h; exact h),
      fun a0 r h => g_slices_ContainsFunc_Value_Value_known_1 (U_slices_IndexFunc_Value_Value_known_1 n) ih_slices_IndexFunc_Value_Value_known_1 a0 r (by rw [U_slices_ContainsFunc_Value_Value_known_1] at h; exact h),
      fun a0 r h => g_impl_Value_known (U_slices_ContainsFunc_Value_Value_known_1 n) ih_slices_ContainsFunc_Value_Value_known_1 a0 r (by rw [U_impl_Value_known] at h; exact h)⟩
def S_impl_Value_known_1 (a0 : GValue) : Option Bool := none
theorem spec_impl_Value_known_1 (a0 : GValue) (r : Bool) (h : S_impl_Value_known_1 a0 = some r) : ∃ n, U_impl_Value_known_1 n a0 = some r := by cases h
def S_slices_IndexFunc_Value_Value_known_1 (a0 : (List GValue)) : Option Int := none
theorem spec_slices_IndexFunc_Value_Value_known_1 (a0 : (List GValue)) (r : Int) (h : S_slices_IndexFunc_Value_Value_known_1 a0 = some r) : ∃ n, U_slices_IndexFunc_Value_Value_known_1 n a0 = some r := by cases h
def S_slices_ContainsFunc_Value_Value_known_1 (a0 : (List GValue)) : Option Bool := none
theorem spec_slices_ContainsFunc_Value_Value_known_1 (a0 : (List GValue)) (r : Bool) (h : S_slices_ContainsFunc_Value_Value_known_1 a0 = some r) : ∃ n, U_slices_ContainsFunc_Value_Value_known_1 n a0 = some r := by cases h
theorem known_ix {G : GValue → Option Bool} {a : List GValue} {f : Nat} (ha : a.length <= 2 ^ 40) (hf : a.length < f) (hG : ∀ x ∈ a, G x = some (!knV x)) : ∃ r : Int, T_slices_IndexFunc_Value_Value_known_1 G f a = some r ∧ decide (0 <= r) = !(knVs a) := by
  have loop : ∀ (l p : List GValue) (m : Nat), a = p ++ l → l.length < m → ∃ (q : Nat) (z : Int), L_slices_IndexFunc_Value_Value_known_1_l0 G a ((a.length : Nat) : Int) m ((p.length : Nat) : Int) = some (if knVs l = true then .inr z else .inl (q : Int)) := by
    intro l
    induction l with
    | nil =>
      intro p m he hm
      subst he
      obtain ⟨m, rfl, _⟩ := fuel hm
      exact ⟨0, _, by rw [L_slices_IndexFunc_Value_Value_known_1_l0, if_neg (nlt_end p)]; rfl⟩
    | cons x l ih =>
      intro p m he hm
      obtain ⟨m, rfl, hm'⟩ := fuel hm
      have hlen : a.length = p.length + (l.length + 1) := by rw [he]; simp
      rw [L_slices_IndexFunc_Value_Value_known_1_l0, if_pos (by omega), natO_nat, Option.bind_some, show a[p.length]? = some x by rw [he]; exact get_mid p x l, Option.bind_some, hG x (by rw [he]; simp), Option.bind_some, w64_len p x (by omega)]
      rw [show knVs (x :: l) = (knV x && knVs l) by simp only [knVs]]
      by_cases hp : knV x = true
      · obtain ⟨q, z, hz⟩ := ih (p ++ [x]) m (by rw [he]; simp) (by simp only [List.length_cons] at hm'; omega)
        exact ⟨q, z, by rw [hp, Bool.true_and]; exact hz⟩
      · rw [Bool.eq_false_iff.2 hp]
        exact ⟨p.length, 0, rfl⟩
  obtain ⟨q, z, hz⟩ := loop a [] f rfl (by omega)
  simp only [List.length_nil, Int.natCast_zero] at hz
  unfold T_slices_IndexFunc_Value_Value_known_1
  rw [hz, Option.bind_some]
  cases hp : knVs a with
  | true => exact ⟨-1, rfl, rfl⟩
  | false => exact ⟨(q : Int), rfl, by simp⟩
theorem known_U : ∀ (N : Nat) (v : GValue), vsz v < N → vsz v <= 2 ^ 39 → ∀ f : Nat, 4 * vsz v + 5 <= f → U_impl_Value_known f v = some (knV v) := by
  intro N
  induction N with
  | zero => intro v hv; omega
  | succ N ih =>
    intro v hv hs f hf
    have he := vsz_eq v
    have hl := vszs_len v.L
    obtain ⟨f, rfl, _⟩ := fuel (show 0 < f by omega)
    obtain ⟨f, rfl, _⟩ := fuel (show 0 < f by omega)
    obtain ⟨f, rfl, _⟩ := fuel (show 0 < f by omega)
    obtain ⟨f, rfl, _⟩ := fuel (show 0 < f by omega)
    obtain ⟨r, hr, hd⟩ := known_ix (G := U_impl_Value_known_1 (f + 1)) (a := v.L) (f := f + 1) (by omega) (by omega) (fun x hx => by
      have := vszs_mem hx
      rw [U_impl_Value_known_1]
      unfold T_impl_Value_known_1
      rw [ih x (by omega) (by omega) f (by omega), Option.bind_some])
    rw [U_impl_Value_known]
    unfold T_impl_Value_known
    rw [U_slices_ContainsFunc_Value_Value_known_1]
    unfold T_slices_ContainsFunc_Value_Value_known_1
    rw [U_slices_IndexFunc_Value_Value_known_1, hr, Option.bind_some, Option.bind_some, hd, knV_eq]
    by_cases h6 : v.Kind = 6
    · rw [if_pos h6, h6]; rfl
    · rw [if_neg h6]; simp [h6]
def S_impl_Value_known (a0 : GValue) : Option Bool := if vsz a0 <= 2 ^ 39 then some (knV a0) else none
theorem spec_impl_Value_known (a0 : GValue) (r : Bool) (h : S_impl_Value_known a0 = some r) : ∃ n, U_impl_Value_known n a0 = some r := by
  unfold S_impl_Value_known at h
  obtain ⟨ha, h⟩ := need_c h
  exact ⟨4 * vsz a0 + 5, by rw [<- h]; exact known_U _ a0 (Nat.lt_succ_self _) ha _ (Nat.le_refl _)⟩
theorem ok_impl_Value_known_1 : K_impl_Value_known_1 S_impl_Value_known_1 := by
  intro a0 r h
  obtain ⟨n, hn⟩ := spec_impl_Value_known_1 a0 r h
  exact (rec_impl_Value_known_1 n).1 a0 r hn
theorem ok_slices_IndexFunc_Value_Value_known_1 : K_slices_IndexFunc_Value_Value_known_1 S_slices_IndexFunc_Value_Value_known_1 := by
  intro a0 r h
  obtain ⟨n, hn⟩ := spec_slices_IndexFunc_Value_Value_known_1 a0 r h
  exact (rec_impl_Value_known_1 n).2.1 a0 r hn
theorem ok_slices_ContainsFunc_Value_Value_known_1 : K_slices_ContainsFunc_Value_Value_known_1 S_slices_ContainsFunc_Value_Value_known_1 := by
  intro a0 r h
  obtain ⟨n, hn⟩ := spec_slices_ContainsFunc_Value_Value_known_1 a0 r h
  exact (rec_impl_Value_known_1 n).2.2.1 a0 r hn
theorem ok_impl_Value_known : K_impl_Value_known S_impl_Value_known := by
  intro a0 r h
  obtain ⟨n, hn⟩ := spec_impl_Value_known a0 r h
  exact (rec_impl_Value_known_1 n).2.2.2 a0 r hn
def S_impl_isKnownMap (a0 : GValue) : Option Bool :=
 (S_impl_isMap a0).bind fun r1 =>
 match r1 with
 | true =>
  (S_impl_Value_known a0).bind fun r2 =>
  some r2
 | false =>
  some false
theorem ok_impl_isKnownMap (a0 : GValue) : Oc (S_impl_isKnownMap a0) 134 [] [.val true (x_GValue a0)] fun r => (vb r, []) := tc (
 .cl (ok_impl_isMap a0) fun r1 =>
 .vM 0 r1 (
  .az 0 0 <|
  .cl (ok_impl_Value_known a0) fun r2 =>
  .az 0 1 <|
  .ret r2) <|
 .az 0 0 <|
 .az 0 0 <|
 .ret false) (fn_of Tryz.func134)
def K_impl_areAddrs (F : (List (List UInt8)) → Option Bool) : Prop := ∀ (a0 : (List (List UInt8))), Oc (F a0) 135 [] [vq (e_sl e_u8) a0] fun r => (vb r, [])
def L_impl_areAddrs_l0 (a0 : (List (List UInt8))) (v1 : Int) : Nat → Int → Option (Bool ⊕ Int)
  | 0, _ => none
  | m + 1, v2 =>
  if v2 < v1 then
   (natO v2).bind fun i2 =>
   (a0[i2]?).bind fun x3 =>
   (S_impl_isAddr x3).bind fun r4 =>
   match r4 with
   | true =>
    if 0 < v2 then
     (natO (w64 (v2 - 1))).bind fun i6 =>
     (a0[i6]?).bind fun x7 =>
     (S_bytes_Compare x7 x3).bind fun r8 =>
     if 0 <= r8 then
      some (.inl false)
     else
     L_impl_areAddrs_l0 a0 v1 m (w64 (v2 + 1))
    else
    L_impl_areAddrs_l0 a0 v1 m (w64 (v2 + 1))
   | false =>
    some (.inl false)
  else
  some (.inr v2)
theorem gl_impl_areAddrs_l0 (a0 : (List (List UInt8))) (v1 : Int) (m : Nat) : ∀ (v2 : Int), Ol (L_impl_areAddrs_l0 a0 v1 m v2) 135 (loopB Tryz.f135 0) ⟨[(0, vq (e_sl e_u8) a0), (5, vq (e_sl e_u8) a0), (6, vi v1), (7, vi v2)], [], 0⟩ fun o => match o with | .inl o_0 => (.ret, ⟨[(2, vb o_0)], [], 0⟩) | .inr (o_1) => (.exit 0, ⟨[(0, vq (e_sl e_u8) a0), (5, vq (e_sl e_u8) a0), (6, vi v1), (7, vi o_1), (8, vb false)], [], 0⟩) := by
  induction m with
  | zero => intro v2 o h; cases h
  | succ m ih => exact fun v2 => tlp (
   .lI v2 v1 (fun c1 =>
    .na v2 fun i2 =>
    .ix0 (e_sl e_u8) a0 i2 fun x3 =>
    .cl (ok_impl_isAddr x3) fun r4 =>
    .vN 0 r4 (
     .an 0 0 <|
     .lI 0 v2 (fun c5 =>
      .an 0 0 <|
      .na (w64 (v2 - 1)) fun i6 =>
      .ix0 (e_sl e_u8) a0 i6 fun x7 =>
      .cl (ok_bytes_Compare x7 x3) fun r8 =>
      .gI 0 r8 (fun c9 =>
       .an 0 3 <|
       .an 1 3 <|
       .ret (.inl false)) fun c9 =>
      .an 0 3 <|
      .an 1 3 <|
      .go (ih (w64 (v2 + 1)))) fun c5 =>
     .an 0 0 <|
     .an 8 0 <|
     .an 1 0 <|
     .go (ih (w64 (v2 + 1)))) <|
    .an 0 0 <|
    .an 0 0 <|
    .an 0 0 <|
    .an 0 0 <|
    .ret (.inl false)) fun c1 =>
   .ret (.inr v2))
def T_impl_areAddrs (n : Nat) (a0 : (List (List UInt8))) : Option Bool :=
 (L_impl_areAddrs_l0 a0 ((a0.length : Nat) : Int) n 0).bind fun o1 =>
 match o1 with
 | .inl o1_0 =>
  some o1_0
 | .inr (o1_1) =>
  some (decide (((a0.length : Nat) : Int) <= 8))
theorem g_impl_areAddrs (n : Nat) : K_impl_areAddrs (T_impl_areAddrs n) := fun a0 => tc (
 .le (e_sl e_u8) a0 <|
 .l2 (gl_impl_areAddrs_l0 a0 ((a0.length : Nat) : Int) n 0) (fun o1_0 =>
  .ret o1_0) fun o1_1 =>
 .le (e_sl e_u8) a0 <|
 .gD ((a0.length : Nat) : Int) 8 <|
 .ret (decide (((a0.length : Nat) : Int) <= 8))) (fn_of Tryz.func135)
theorem idx_tw (c : UInt8) : ∀ b : List UInt8, Lib.indexByte b c = if b.dropWhile (fun x => decide (x ≠ c)) = [] then -1 else (((b.takeWhile fun x => decide (x ≠ c)).length : Nat) : Int)
  | [] => rfl
  | x :: b => by
    have ih := idx_tw c b
    rw [Lib.indexByte, List.dropWhile_cons, List.takeWhile_cons]
    by_cases h : x = c
    · subst h; simp
    · have hb : (x == c) = false := by simpa using h
      have hd : decide (x ≠ c) = true := decide_eq_true h
      rw [hb, if_neg (by simp), if_pos hd, if_pos hd, ih]
      by_cases hd : b.dropWhile (fun x => decide (x ≠ c)) = []
      · rw [if_pos hd, if_pos hd]; rfl
      · rw [if_neg hd, if_neg hd, if_neg (by simp), List.length_cons]; omega
theorem bIndex_eq (a : List UInt8) (c : UInt8) : S_bytes_Index a [c] = some (Lib.indexByte a c) := by
  unfold S_bytes_Index S_bytes_IndexByte S_internal_bytealg_IndexByte
  rw [if_neg (by simp), if_pos (by simp)]
  rfl
theorem cut91 {a : List UInt8} (h : a.length <= 2 ^ 20) : S_bytes_Cut a [91] = some (nm91 a, (rs91 a).drop 1, decide (rs91 a ≠ [])) := by
  have hix : S_bytes_Index a [91] = some (if rs91 a = [] then -1 else (((nm91 a).length : Nat) : Int)) := by rw [bIndex_eq, idx_tw]; rfl
  unfold S_bytes_Cut
  have hlen := nm_len a
  by_cases hr : rs91 a = []
  · have hn := nm_rs a
    rw [hr, List.append_nil] at hn
    rw [hix, if_pos hr, Option.bind_some, if_neg (by omega), hr, hn]; rfl
  · obtain ⟨t, ht⟩ := rs_head hr
    have e : w64 ((((nm91 a).length : Nat) : Int) + ((([91] : List UInt8).length : Nat) : Int)) = (((nm91 a).length + 1 : Nat) : Int) := by
      show w64 ((((nm91 a).length : Nat) : Int) + 1) = _
      exact w64_succ (by omega)
    have hl2 := hlen
    rw [ht, List.length_cons] at hl2
    rw [hix, if_neg hr, Option.bind_some, if_pos (by omega), natO_nat, Option.bind_some, cut_to (by omega), Option.bind_some, nm_take, e, natO_nat, Option.bind_some, cut_from (by omega), Option.bind_some, decide_eq_true hr, <- List.drop_drop, nm_drop]
theorem hasSuf (s : List UInt8) (c : UInt8) (h : s.length <= 2 ^ 20) : S_bytes_HasSuffix s [c] = some (decide (s.getLast? = some c)) := by
  unfold S_bytes_HasSuffix
  rw [show ((([c] : List UInt8).length : Nat) : Int) = 1 from rfl]
  rcases List.eq_nil_or_concat s with rfl | ⟨l, x, rfl⟩
  · rw [if_neg (by simp)]; rfl
  · simp only [List.concat_eq_append, List.length_append, List.length_cons, List.length_nil] at h ⊢
    rw [if_pos (by omega), show w64 (((l.length + (0 + 1) : Nat) : Int) - 1) = ((l.length : Nat) : Int) by rw [w64_id (by omega) (by omega)]; omega, natO_nat, Option.bind_some, cut_from (by simp), Option.bind_some, List.drop_left]
    unfold S_bytes_Equal
    rw [Option.bind_some, List.getLast?_concat]
    congr 1
    exact decide_eq_decide.2 (by simp)
theorem cutSuf (s : List UInt8) (c : UInt8) (h : s.length <= 2 ^ 20) : S_bytes_CutSuffix s [c] = some (if s.getLast? = some c then (s.dropLast, true) else (s, false)) := by
  unfold S_bytes_CutSuffix
  rw [hasSuf s c h, Option.bind_some]
  by_cases hc : s.getLast? = some c
  · rw [decide_eq_true hc, if_pos hc]
    dsimp only
    have h0 : 0 < s.length := by
      cases s with
      | nil => simp at hc
      | cons x s => simp
    rw [show ((([c] : List UInt8).length : Nat) : Int) = 1 from rfl, w64_pred (by omega) h0, natO_nat, Option.bind_some, cut_to (by omega), Option.bind_some, List.dropLast_eq_take]
  · rw [decide_eq_false hc, if_neg hc]
theorem cutPre (s : List UInt8) (c : UInt8) : S_bytes_CutPrefix s [c] = some (if s[0]? = some c then (s.drop 1, true) else (s, false)) := by
  unfold S_bytes_CutPrefix S_bytes_HasPrefix S_bytes_Equal
  rw [show ((([c] : List UInt8).length : Nat) : Int) = ((1 : Nat) : Int) from rfl]
  cases s with
  | nil => rw [if_neg (by simp)]; rfl
  | cons x s =>
    rw [if_pos (by simp; omega), natO_nat, Option.bind_some, cut_to (by simp), Option.bind_some, Option.bind_some, Option.bind_some]
    show (match decide ([x] = [c]) with | true => _ | false => _) = _
    by_cases hc : x = c
    · subst hc
      rw [decide_eq_true rfl]
      dsimp only
      rw [Option.bind_some, cut_from (by simp), Option.bind_some]
      simp
    · rw [decide_eq_false (by simpa using hc), if_neg (by simpa using hc)]
theorem itoa_ok : ∀ n : Fin 100, S_strconv_Itoa ((n.val : Nat) : Int) = some (itoaL n.val) := by
  have h1 : ∀ n : Fin 100, S_internal_strconv_small ((n.val : Nat) : Int) = some (itoaL n.val) := by decide +kernel
  intro n
  unfold S_strconv_Itoa S_internal_strconv_Itoa S_internal_strconv_FormatInt
  rw [if_pos rfl, if_pos (by omega), if_pos (by omega), h1]; rfl
theorem atoi_itoa : ∀ n : Fin 100, Lib.atoiAll (itoaL n.val) = .ok ((n.val : Nat) : Int) := by decide +kernel
theorem dig_itoa : ∀ n : Fin 100, digB (itoaL n.val) = true := by decide +kernel
theorem digB_itoa {l : List UInt8} (h : digB l = true) : ∃ n : Fin 100, l = itoaL n.val := by
  unfold digB at h
  simp only [Bool.and_eq_true, Bool.not_eq_true', decide_eq_true_eq] at h
  obtain ⟨⟨⟨h1, h2⟩, h3⟩, h4⟩ := h
  match l, h1, h2 with
  | [x], _, _ =>
    simp only [List.all_cons, List.all_nil, Bool.and_true, inB, Bool.and_eq_true, decide_eq_true_eq] at h4
    refine ⟨⟨x.toNat - 48, by omega⟩, ?_⟩
    unfold itoaL
    rw [if_pos (by simp only; omega)]
    simp only [List.cons.injEq, and_true]
    refine UInt8.toNat_inj.1 ?_
    rw [UInt8.toNat_ofNat_of_lt' (by show _ < 256; omega)]; omega
  | [x, y], _, _ =>
    simp only [List.all_cons, List.all_nil, Bool.and_true, inB, Bool.and_eq_true, decide_eq_true_eq] at h4
    have hx : x.toNat ≠ 48 := fun e => by
      have : x = 48 := UInt8.toNat_inj.1 e
      subst this
      simp at h3
    refine ⟨⟨(x.toNat - 48) * 10 + (y.toNat - 48), by omega⟩, ?_⟩
    unfold itoaL
    rw [if_neg (by simp only; omega)]
    simp only [List.cons.injEq, and_true]
    constructor
    · refine UInt8.toNat_inj.1 ?_
      rw [UInt8.toNat_ofNat_of_lt' (by show _ < 256; omega)]; omega
    · refine UInt8.toNat_inj.1 ?_
      rw [UInt8.toNat_ofNat_of_lt' (by show _ < 256; omega)]; omega
theorem isNm_eq {a : List UInt8} (h : a.length <= 2 ^ 20) : S_impl_isName a = some (nameB a) := if_pos h
theorem isAddr_num {l : List UInt8} (hl : l.length <= 2 ^ 20) : ((S_strconv_Atoi l).bind fun ⟨n, e⟩ =>
    match e with
    | true => some false
    | false => (S_impl_in n 0 99).bind fun r13 =>
      match r13 with
      | true => (S_strconv_Itoa n).bind fun r15 => some (decide (r15 = l))
      | false => some false) = some (digB l) := by
  unfold S_strconv_Atoi
  rw [if_pos (by omega), Option.bind_some]
  cases hd : digB l with
  | true =>
    obtain ⟨n, rfl⟩ := digB_itoa hd
    have hr : atoiR (itoaL n.val) = (((n.val : Nat) : Int), false) := by unfold atoiR; rw [atoi_itoa n]
    have hn := n.isLt
    rw [hr]
    dsimp only
    rw [in_eq, Option.bind_some, decide_eq_true (show (0 : Int) <= ((n.val : Nat) : Int) ∧ ((n.val : Nat) : Int) <= 99 by omega)]
    dsimp only
    rw [itoa_ok n, Option.bind_some, decide_eq_true rfl]
  | false =>
    obtain ⟨n, e⟩ := atoiR l
    cases e with
    | true => rfl
    | false =>
      dsimp only
      rw [in_eq, Option.bind_some]
      by_cases hn : (0 : Int) <= n ∧ n <= 99
      · rw [decide_eq_true hn]
        dsimp only
        have := itoa_ok ⟨n.toNat, by omega⟩
        rw [show (((⟨n.toNat, by omega⟩ : Fin 100).val : Nat) : Int) = n by simp only; omega] at this
        rw [this, Option.bind_some]
        congr 1
        refine decide_eq_false fun e => ?_
        rw [<- e, dig_itoa] at hd; cases hd
      · rw [decide_eq_false hn]
theorem implAd_eq {a : List UInt8} (h : a.length <= 2 ^ 20) : S_impl_isAddr a = some (addrB a) := by
  unfold S_impl_isAddr
  have hlen := nm_len a
  rw [cut91 h, Option.bind_some]
  dsimp only
  rw [isNm_eq (by omega), Option.bind_some]
  unfold addrB
  cases hn : nameB (nm91 a) with
  | false => rfl
  | true =>
    dsimp only
    by_cases hr : rs91 a = []
    · rw [decide_eq_false (fun h => h hr), if_pos hr]; rfl
    rw [decide_eq_true hr, if_neg hr]
    dsimp only
    have ht : ((rs91 a).drop 1).length <= 2 ^ 20 := by rw [List.length_drop]; omega
    generalize (rs91 a).drop 1 = t at ht ⊢
    rw [cutSuf t 93 ht, Option.bind_some]
    by_cases h93 : t.getLast? = some 93
    · rw [if_pos h93, if_pos h93]
      dsimp only
      have hl : t.dropLast.length <= 2 ^ 20 := by rw [List.length_dropLast]; omega
      generalize t.dropLast = l at hl ⊢
      rw [cutPre, Option.bind_some]
      unfold insB
      by_cases h34 : l[0]? = some 34
      · rw [if_pos h34, if_pos h34]
        dsimp only
        rw [cutSuf _ 34 (by rw [List.length_drop]; omega), Option.bind_some]
        by_cases h2 : (l.drop 1).getLast? = some 34
        · rw [if_pos h2, if_pos h2]
          dsimp only
          rw [isNm_eq (by rw [List.length_dropLast, List.length_drop]; omega), Option.bind_some]; rfl
        · rw [if_neg h2, if_neg h2]; rfl
      · rw [if_neg h34, if_neg h34]
        dsimp only
        rw [cutSuf _ 34 hl, Option.bind_some]
        by_cases h2 : l.getLast? = some 34
        · rw [if_pos h2]
          dsimp only
          have hd : digB l = false := by
            unfold digB
            have : l.all (inB 48 57) = false := by
              rcases List.eq_nil_or_concat l with rfl | ⟨k, x, rfl⟩
              · simp at h2
              · rw [List.concat_eq_append, List.getLast?_concat] at h2
                injection h2 with h2
                subst h2
                simp [inB]
            rw [this, Bool.and_false]
          rw [hd]; rfl
        · rw [if_neg h2]
          dsimp only
          exact isAddr_num hl
    · rw [if_neg h93, if_neg h93]
      dsimp only
      rw [cutPre, Option.bind_some]
      by_cases h34 : t[0]? = some 34
      · rw [if_pos h34]
        dsimp only
        rw [cutSuf _ 34 (by rw [List.length_drop]; omega), Option.bind_some]
        rfl
      · rw [if_neg h34]
        dsimp only
        rw [cutSuf _ 34 ht, Option.bind_some]
        by_cases h2 : t.getLast? = some 34
        · rw [if_pos h2]; rfl
        · rw [if_neg h2]
          dsimp only
          unfold S_strconv_Atoi
          rw [if_pos (by omega), Option.bind_some]
          obtain ⟨n, e⟩ := atoiR t
          cases e <;> rfl
theorem areAddrs_loop {a : List (List UInt8)} (hs : ∀ x ∈ a, x.length <= 2 ^ 20) (ha : a.length <= 2 ^ 40) : ∀ (d i m : Nat), i + d = a.length → d < m → ∃ z, L_impl_areAddrs_l0 a ((a.length : Nat) : Int) m (i : Int) = some (if gAll addrB id a i d = true then .inr z else .inl false) := by
  intro d
  induction d with
  | zero =>
    intro i m hi hm
    obtain ⟨m, rfl, _⟩ := fuel hm
    exact ⟨_, by rw [L_impl_areAddrs_l0, if_neg (by omega)]; rfl⟩
  | succ d ih =>
    intro i m hi hm
    obtain ⟨m, rfl, hm'⟩ := fuel hm
    have hil : i < a.length := by omega
    rw [L_impl_areAddrs_l0, if_pos (by omega), natO_nat, Option.bind_some, get_some hil, Option.bind_some, implAd_eq (hs _ (List.getElem_mem hil)), Option.bind_some, gAll_succ]
    obtain ⟨z, hz⟩ := ih (i + 1) m (by omega) (by omega)
    cases hx : addrB a[i] with
    | false =>
      refine ⟨0, ?_⟩
      have : gOk addrB id a i = false := by
        unfold gOk; rw [get_some hil]; simp [hx]
      rw [this]; rfl
    | true =>
      dsimp only
      by_cases h0 : 0 < i
      · rw [if_pos (by omega), w64_pred (by omega) h0, natO_nat, Option.bind_some, get_some (show i - 1 < a.length by omega), Option.bind_some, gOk_eq hil h0, hx, Bool.true_and, w64_succ (by omega), hz]
        unfold S_bytes_Compare S_internal_bytealg_Compare
        simp only [Option.bind_some]
        by_cases hl : Op.bytesLess a[i - 1] a[i] = true
        · rw [if_neg (by rw [less_cmp]; exact fun h => h hl), show Op.bytesLess (id a[i - 1]) (id a[i]) = true from hl, Bool.true_and]; exact ⟨z, rfl⟩
        · rw [if_pos (by rw [less_cmp]; exact hl), show Op.bytesLess (id a[i - 1]) (id a[i]) = false from Bool.eq_false_iff.2 hl]; exact ⟨z, rfl⟩
      · obtain rfl : i = 0 := by omega
        rw [if_neg (by omega), gOk_zero hil, hx, Bool.true_and, w64_succ (by omega), hz]
        exact ⟨z, rfl⟩
def S_impl_areAddrs (a0 : (List (List UInt8))) : Option Bool := if bsz a0 <= 2 ^ 20 then some (addrsB a0) else none
theorem spec_impl_areAddrs (a0 : (List (List UInt8))) (r : Bool) (h : S_impl_areAddrs a0 = some r) : ∃ n, T_impl_areAddrs n a0 = some r := by
  unfold S_impl_areAddrs at h
  obtain ⟨ha, h⟩ := need_c h
  have hl := bsz_len a0
  obtain ⟨z, hz⟩ := areAddrs_loop (a := a0) (fun x hx => by have := bsz_mem hx; omega) (by omega) a0.length 0 (a0.length + 1) (by omega) (by omega)
  refine ⟨a0.length + 1, ?_⟩
  unfold T_impl_areAddrs
  rw [show ((0 : Nat) : Int) = 0 from rfl] at hz
  rw [<- h, hz, Option.bind_some]
  unfold addrsB
  cases gAll addrB id a0 0 a0.length
  · rw [Bool.and_false]; rfl
  · rw [Bool.and_true]
    show some (decide (((a0.length : Nat) : Int) <= 8)) = _
    congr 1
    exact decide_eq_decide.2 (by omega)
theorem ok_impl_areAddrs : K_impl_areAddrs S_impl_areAddrs := fun a0 r h => (spec_impl_areAddrs a0 r h).elim fun n hn => g_impl_areAddrs n a0 r hn
def S_impl_State_entryAt_1 (a0 : GEntry) (a1 : (List UInt8)) : Option Int :=
 (S_bytes_Compare a0.Addr a1).bind fun r1 =>
 some r1
theorem ok_impl_State_entryAt_1 (a0 : GEntry) (a1 : (List UInt8)) : Oc (S_impl_State_entryAt_1 a0 a1) 163 [] [.val true (x_GEntry a0), vq e_u8 a1] fun r => (vi r, []) := tc (
 .cl (ok_bytes_Compare a0.Addr a1) fun r1 =>
 .ret r1) (fn_of Tryz.func163)
def K_slices_BinarySearchFunc_byte_State_entryAt_1 (F : (List GEntry) → (List UInt8) → Option (Int × Bool)) : Prop := ∀ (a0 : (List GEntry)) (a1 : (List UInt8)), Oc (F a0 a1) 162 [] [vq e_GEntry a0, vq e_u8 a1, .val false [.fn 163 []]] fun r => (.tup [(false, [ci r.1]), (false, [.bool r.2])], [])
def L_slices_BinarySearchFunc_byte_State_entryAt_1_l0 (a0 : (List GEntry)) (a1 : (List UInt8)) (v2 : Int) : Nat → Int → Int → Option (Int × Int)
  | 0, _, _ => none
  | m + 1, v3, v4 =>
  if v3 < v4 then
   (natO (w64 (bitI .shr .u64 (IntKind.u64.wrap (w64 (v3 + v4))) 1))).bind fun i2 =>
   (a0[i2]?).bind fun x3 =>
   (S_impl_State_entryAt_1 x3 a1).bind fun r4 =>
   if r4 < 0 then
    L_slices_BinarySearchFunc_byte_State_entryAt_1_l0 a0 a1 v2 m (w64 ((w64 (bitI .shr .u64 (IntKind.u64.wrap (w64 (v3 + v4))) 1)) + 1)) v4
   else
   L_slices_BinarySearchFunc_byte_State_entryAt_1_l0 a0 a1 v2 m v3 (w64 (bitI .shr .u64 (IntKind.u64.wrap (w64 (v3 + v4))) 1))
  else
  some (v3, v4)
theorem gl_slices_BinarySearchFunc_byte_State_entryAt_1_l0 (a0 : (List GEntry)) (a1 : (List UInt8)) (v2 : Int) (m : Nat) : ∀ (v3 : Int) (v4 : Int), Ol (L_slices_BinarySearchFunc_byte_State_entryAt_1_l0 a0 a1 v2 m v3 v4) 162 (loopB Tryz.f162 0) ⟨[(0, vq e_GEntry a0), (1, vq e_u8 a1), (2, .val false [.fn 163 []]), (8, vi v2), (9, vi v3), (10, vi v4)], [], 0⟩ fun o => match o with | ⟨o_0, o_1⟩ => (.exit 0, ⟨[(0, vq e_GEntry a0), (1, vq e_u8 a1), (2, .val false [.fn 163 []]), (8, vi v2), (9, vi o_0), (10, vi o_1), (17, vb false)], [], 0⟩) := by
  induction m with
  | zero => intro v3 v4 o h; cases h
  | succ m ih => exact fun v3 v4 => tlp (
   .lI v3 v4 (fun c1 =>
    .q (.gTo 0 1 (by decide)) <|
    .cw (bitI .shr .u64 (IntKind.u64.wrap (w64 (v3 + v4))) 1) <|
    .na (w64 (bitI .shr .u64 (IntKind.u64.wrap (w64 (v3 + v4))) 1)) fun i2 =>
    .ix eq_GEntry a0 i2 fun x3 =>
    .cl (ok_impl_State_entryAt_1 x3 a1) fun r4 =>
    .lI r4 0 (fun c5 =>
     .go (ih (w64 ((w64 (bitI .shr .u64 (IntKind.u64.wrap (w64 (v3 + v4))) 1)) + 1)) v4)) fun c5 =>
    .go (ih v3 (w64 (bitI .shr .u64 (IntKind.u64.wrap (w64 (v3 + v4))) 1)))) fun c1 =>
   .ret (v3, v4))
def T_slices_BinarySearchFunc_byte_State_entryAt_1 (n : Nat) (a0 : (List GEntry)) (a1 : (List UInt8)) : Option (Int × Bool) :=
 (L_slices_BinarySearchFunc_byte_State_entryAt_1_l0 a0 a1 ((a0.length : Nat) : Int) n 0 ((a0.length : Nat) : Int)).bind fun ⟨o1_0, o1_1⟩ =>
 if o1_0 < ((a0.length : Nat) : Int) then
  (natO o1_0).bind fun i3 =>
  (a0[i3]?).bind fun x4 =>
  (S_impl_State_entryAt_1 x4 a1).bind fun r5 =>
  some (o1_0, (decide (r5 = 0)))
 else
 some (o1_0, false)
theorem g_slices_BinarySearchFunc_byte_State_entryAt_1 (n : Nat) : K_slices_BinarySearchFunc_byte_State_entryAt_1 (T_slices_BinarySearchFunc_byte_State_entryAt_1 n) := fun a0 a1 => tc (
 .le e_GEntry a0 <|
 .lp (gl_slices_BinarySearchFunc_byte_State_entryAt_1_l0 a0 a1 ((a0.length : Nat) : Int) n 0 ((a0.length : Nat) : Int)) fun ⟨o1_0, o1_1⟩ =>
 .lI o1_0 ((a0.length : Nat) : Int) (fun c2 =>
  .na o1_0 fun i3 =>
  .ix eq_GEntry a0 i3 fun x4 =>
  .cl (ok_impl_State_entryAt_1 x4 a1) fun r5 =>
  .eD r5 0 <|
  .ret (o1_0, (decide (r5 = 0)))) fun c2 =>
 .ret (o1_0, false)) (fn_of Tryz.func162)
theorem eat_cmp (e : GEntry) (x : List UInt8) : S_impl_State_entryAt_1 e x = some (Lib.compareBytes e.Addr x) := rfl
theorem eat_any {a : List GEntry} {x : List UInt8} {v2 : Int} (ha : a.length <= 2 ^ 40) : ∀ (d i j m : Nat), j - i <= d → i <= j → j <= a.length → d < m → ∃ c c' : Nat, c <= a.length ∧ L_slices_BinarySearchFunc_byte_State_entryAt_1_l0 a x v2 m (i : Int) (j : Int) = some ((c : Int), (c' : Int)) := by
  intro d
  induction d with
  | zero =>
    intro i j m hd h1 h3 hm
    obtain ⟨m, rfl, _⟩ := fuel hm
    exact ⟨i, j, by omega, by rw [L_slices_BinarySearchFunc_byte_State_entryAt_1_l0, if_neg (by omega)]⟩
  | succ d ih =>
    intro i j m hd h1 h3 hm
    obtain ⟨m, rfl, hm'⟩ := fuel hm
    by_cases hij : i < j
    · have hk : (i + j) / 2 < a.length := by omega
      rw [L_slices_BinarySearchFunc_byte_State_entryAt_1_l0, if_pos (by omega), mid_eq (by omega), natO_nat, Option.bind_some, get_some hk, Option.bind_some, eat_cmp, Option.bind_some]
      split
      · rw [w64_succ (by omega)]
        exact ih _ _ m (by omega) (by omega) h3 (by omega)
      · exact ih _ _ m (by omega) (by omega) (by omega) (by omega)
    · exact ⟨i, j, by omega, by rw [L_slices_BinarySearchFunc_byte_State_entryAt_1_l0, if_neg (by omega)]⟩
theorem eat_loop {a : List GEntry} {x : List UInt8} {c : Nat} {v2 : Int} (hp : Part (a.map GEntry.Addr) x c) (ha : a.length <= 2 ^ 40) : ∀ (d i j m : Nat), j - i <= d → i <= c → c <= j → j <= a.length → d < m → L_slices_BinarySearchFunc_byte_State_entryAt_1_l0 a x v2 m (i : Int) (j : Int) = some ((c : Int), (c : Int)) := by
  intro d
  induction d with
  | zero =>
    intro i j m hd h1 h2 h3 hm
    obtain ⟨m, rfl, _⟩ := fuel hm
    rw [L_slices_BinarySearchFunc_byte_State_entryAt_1_l0, if_neg (by omega), show i = c by omega, show j = c by omega]
  | succ d ih =>
    intro i j m hd h1 h2 h3 hm
    obtain ⟨m, rfl, hm'⟩ := fuel hm
    by_cases hij : i < j
    · have hk : (i + j) / 2 < a.length := by omega
      rw [L_slices_BinarySearchFunc_byte_State_entryAt_1_l0, if_pos (by omega), mid_eq (by omega), natO_nat, Option.bind_some, get_some hk, Option.bind_some, eat_cmp, Option.bind_some]
      have hq := hp.2 ((i + j) / 2) (by rw [List.length_map]; exact hk)
      rw [List.getElem_map] at hq
      by_cases hl : Op.bytesLess a[(i + j) / 2].Addr x = true
      · rw [if_pos (by rw [cmp_neg]; exact hl), w64_succ (by omega)]
        have := hq.2 hl
        exact ih _ _ m (by omega) (by omega) h2 h3 (by omega)
      · rw [if_neg (by rw [cmp_neg]; exact hl)]
        have : ¬ (i + j) / 2 < c := fun h => hl (hq.1 h)
        exact ih _ _ m (by omega) h1 (by omega) (by omega) (by omega)
    · rw [L_slices_BinarySearchFunc_byte_State_entryAt_1_l0, if_neg (by omega), show i = c by omega, show j = c by omega]
def S_slices_BinarySearchFunc_byte_State_entryAt_1 (a0 : (List GEntry)) (a1 : (List UInt8)) : Option (Int × Bool) := T_slices_BinarySearchFunc_byte_State_entryAt_1 (a0.length + 5) a0 a1
theorem spec_slices_BinarySearchFunc_byte_State_entryAt_1 (a0 : (List GEntry)) (a1 : (List UInt8)) (r : (Int × Bool)) (h : S_slices_BinarySearchFunc_byte_State_entryAt_1 a0 a1 = some r) : ∃ n, T_slices_BinarySearchFunc_byte_State_entryAt_1 n a0 a1 = some r := ⟨_, h⟩
theorem eat_some {a : List GEntry} {x : List UInt8} (ha : a.length <= 2 ^ 40) : ∃ (c : Nat) (b : Bool), S_slices_BinarySearchFunc_byte_State_entryAt_1 a x = some ((c : Int), b) := by
  unfold S_slices_BinarySearchFunc_byte_State_entryAt_1 T_slices_BinarySearchFunc_byte_State_entryAt_1
  obtain ⟨c, c', hc, hl⟩ := eat_any (x := x) (v2 := ((a.length : Nat) : Int)) ha a.length 0 a.length (a.length + 5) (by omega) (by omega) (Nat.le_refl _) (by omega)
  rw [show ((0 : Nat) : Int) = 0 from rfl] at hl
  rw [hl, Option.bind_some]
  dsimp only
  by_cases h : c < a.length
  · rw [if_pos (by omega), natO_nat, Option.bind_some, get_some h, Option.bind_some, eat_cmp, Option.bind_some]
    exact ⟨c, _, rfl⟩
  · rw [if_neg (by omega)]
    exact ⟨c, _, rfl⟩
theorem hasB_iff {l : List GEntry} {a : List UInt8} : hasB l a = true ↔ a ∈ l.map GEntry.Addr := by
  unfold hasB
  rw [List.any_eq_true, List.mem_map]
  constructor
  · rintro ⟨e, he, h⟩; exact ⟨e, he, of_decide_eq_true h⟩
  · rintro ⟨e, he, rfl⟩; exact ⟨e, he, decide_eq_true rfl⟩
theorem eat_eq {a : List GEntry} {x : List UInt8} (ha : a.length <= 2 ^ 40) (h : Asc (a.map GEntry.Addr)) : ∃ c : Nat, Part (a.map GEntry.Addr) x c ∧ S_slices_BinarySearchFunc_byte_State_entryAt_1 a x = some ((c : Int), hasB a x) := by
  obtain ⟨c, hp⟩ := Part.of h x
  refine ⟨c, hp, ?_⟩
  have hm := Part.mem h hp
  have hcl : c <= a.length := by have := hp.1; rwa [List.length_map] at this
  unfold S_slices_BinarySearchFunc_byte_State_entryAt_1 T_slices_BinarySearchFunc_byte_State_entryAt_1
  have hl := eat_loop (v2 := ((a.length : Nat) : Int)) hp ha a.length 0 a.length (a.length + 5) (by omega) (by omega) hcl (Nat.le_refl _) (by omega)
  rw [show ((0 : Nat) : Int) = 0 from rfl] at hl
  rw [hl, Option.bind_some]
  dsimp only
  have hb : hasB a x = decide ((a.map GEntry.Addr)[c]? = some x) := by
    cases hx : hasB a x with
    | true => exact (decide_eq_true (hm.2 (hasB_iff.1 hx))).symm
    | false => exact (decide_eq_false fun h' => by rw [hasB_iff.2 (hm.1 h')] at hx; cases hx).symm
  rw [hb, List.getElem?_map]
  by_cases hc : c < a.length
  · rw [if_pos (by omega), natO_nat, Option.bind_some, get_some hc, Option.bind_some, eat_cmp, Option.bind_some]
    congr 2
    exact decide_eq_decide.2 ((cmp_zero _ _).trans (by simp))
  · rw [if_neg (by omega), List.getElem?_eq_none (by omega)]
    simp
theorem ok_slices_BinarySearchFunc_byte_State_entryAt_1 : K_slices_BinarySearchFunc_byte_State_entryAt_1 S_slices_BinarySearchFunc_byte_State_entryAt_1 := fun a0 a1 r h => (spec_slices_BinarySearchFunc_byte_State_entryAt_1 a0 a1 r h).elim fun n hn => g_slices_BinarySearchFunc_byte_State_entryAt_1 n a0 a1 r hn
def S_impl_State_entryAt (a0 : GState) (a1 : (List UInt8)) : Option (Int × Bool) :=
 (S_slices_BinarySearchFunc_byte_State_entryAt_1 a0.Entries a1).bind fun ⟨r1_0, r1_1⟩ =>
 some (r1_0, r1_1)
theorem ok_impl_State_entryAt (a0 : GState) (a1 : (List UInt8)) : Oc (S_impl_State_entryAt a0 a1) 118 [] [.val true (x_GState a0), vq e_u8 a1] fun r => (.tup [(false, [ci r.1]), (false, [.bool r.2])], []) := tc (
 .cl (ok_slices_BinarySearchFunc_byte_State_entryAt_1 a0.Entries a1) fun ⟨r1_0, r1_1⟩ =>
 .ret (r1_0, r1_1)) (fn_of Tryz.func118)
def K_impl_isState (F : GState → Option Bool) : Prop := ∀ (a0 : GState), Oc (F a0) 78 [] [.val true (x_GState a0)] fun r => (vb r, [])
def L_impl_isState_l0 (v0 : (List GEntry)) (v1 : Int) (a0 : GState) : Nat → Int → Option (Bool ⊕ Int)
  | 0, _ => none
  | m + 1, v2 =>
  if v2 < v1 then
   (natO v2).bind fun i2 =>
   (v0[i2]?).bind fun x3 =>
   (S_impl_isAddr x3.Addr).bind fun r4 =>
   match r4 with
   | true =>
    if 0 < v2 then
     (natO (w64 (v2 - 1))).bind fun i6 =>
     (a0.Entries[i6]?).bind fun x7 =>
     (S_bytes_Compare x7.Addr x3.Addr).bind fun r8 =>
     if 0 <= r8 then
      some (.inl false)
     else
     (S_impl_isKnownMap x3.Val).bind fun r10 =>
     match r10 with
     | true =>
      (S_impl_areAddrs x3.Deps).bind fun r11 =>
      match r11 with
      | true =>
       (S_impl_in x3.Turned 1 a0.Serial).bind fun r12 =>
       match r12 with
       | true =>
        L_impl_isState_l0 v0 v1 a0 m (w64 (v2 + 1))
       | false =>
        some (.inl false)
      | false =>
       some (.inl false)
     | false =>
      some (.inl false)
    else
    (S_impl_isKnownMap x3.Val).bind fun r6 =>
    match r6 with
    | true =>
     (S_impl_areAddrs x3.Deps).bind fun r7 =>
     match r7 with
     | true =>
      (S_impl_in x3.Turned 1 a0.Serial).bind fun r8 =>
      match r8 with
      | true =>
       L_impl_isState_l0 v0 v1 a0 m (w64 (v2 + 1))
      | false =>
       some (.inl false)
     | false =>
      some (.inl false)
    | false =>
     some (.inl false)
   | false =>
    some (.inl false)
  else
  some (.inr v2)
theorem gl_impl_isState_l0 (v0 : (List GEntry)) (v1 : Int) (a0 : GState) (m : Nat) : ∀ (v2 : Int), Ol (L_impl_isState_l0 v0 v1 a0 m v2) 78 (loopB Tryz.f78 0) ⟨[(1, vp 0 0), (18, vq e_GEntry v0), (19, vi v1), (20, vi v2)], [.var (x_GState a0)], 0⟩ fun o => match o with | .inl o_0 => (.ret, ⟨[(2, vb o_0)], [], 0⟩) | .inr (o_1) => (.exit 0, ⟨[(1, vp 0 0), (18, vq e_GEntry v0), (19, vi v1), (20, vi o_1), (21, vb false)], [.var (x_GState a0)], 0⟩) := by
  induction m with
  | zero => intro v2 o h; cases h
  | succ m ih => exact fun v2 => tlp (
   .lI v2 v1 (fun c1 =>
    .na v2 fun i2 =>
    .ix eq_GEntry v0 i2 fun x3 =>
    .cl (ok_impl_isAddr x3.Addr) fun r4 =>
    .vN 0 r4 (
     .an 0 0 <|
     .lI 0 v2 (fun c5 =>
      .an 0 0 <|
      .na (w64 (v2 - 1)) fun i6 =>
      .ix eq_GEntry a0.Entries i6 fun x7 =>
      .cl (ok_bytes_Compare x7.Addr x3.Addr) fun r8 =>
      .gI 0 r8 (fun c9 =>
       .an 0 3 <|
       .an 1 3 <|
       .ret (.inl false)) fun c9 =>
      .an 0 3 <|
      .an 1 3 <|
      .cl (ok_impl_isKnownMap x3.Val) fun r10 =>
      .vN 2 r10 (
       .an 0 0 <|
       .an 0 0 <|
       .cl (ok_impl_areAddrs x3.Deps) fun r11 =>
       .an 0 1 <|
       .an 0 1 <|
       .vN 0 r11 (
        .an 0 0 <|
        .an 0 0 <|
        .an 0 0 <|
        .an 0 0 <|
        .cl (ok_impl_in x3.Turned 1 a0.Serial) fun r12 =>
        .an 0 1 <|
        .an 0 1 <|
        .vN 0 r12 (
         .go (ih (w64 (v2 + 1)))) <|
        .ret (.inl false)) <|
       .an 0 0 <|
       .an 0 0 <|
       .an 0 0 <|
       .an 0 0 <|
       .an 0 0 <|
       .an 0 0 <|
       .ret (.inl false)) <|
      .an 0 0 <|
      .an 0 0 <|
      .an 0 0 <|
      .an 0 0 <|
      .ret (.inl false)) fun c5 =>
     .an 0 0 <|
     .an 11 0 <|
     .an 1 0 <|
     .cl (ok_impl_isKnownMap x3.Val) fun r6 =>
     .vN 2 r6 (
      .an 0 0 <|
      .an 0 0 <|
      .cl (ok_impl_areAddrs x3.Deps) fun r7 =>
      .an 0 1 <|
      .an 0 1 <|
      .vN 0 r7 (
       .an 0 0 <|
       .an 0 0 <|
       .an 0 0 <|
       .an 0 0 <|
       .cl (ok_impl_in x3.Turned 1 a0.Serial) fun r8 =>
       .an 0 1 <|
       .an 0 1 <|
       .vN 0 r8 (
        .go (ih (w64 (v2 + 1)))) <|
       .ret (.inl false)) <|
      .an 0 0 <|
      .an 0 0 <|
      .an 0 0 <|
      .an 0 0 <|
      .an 0 0 <|
      .an 0 0 <|
      .ret (.inl false)) <|
     .an 0 0 <|
     .an 0 0 <|
     .an 0 0 <|
     .an 0 0 <|
     .ret (.inl false)) <|
    .an 0 0 <|
    .an 0 0 <|
    .an 0 0 <|
    .an 0 0 <|
    .ret (.inl false)) fun c1 =>
   .ret (.inr v2))
def T_impl_isState (n : Nat) (a0 : GState) : Option Bool :=
 (S_impl_in a0.Serial 0 1000000).bind fun r1 =>
 match r1 with
 | true =>
  if 16 < ((a0.Entries.length : Nat) : Int) then
   some false
  else
  (L_impl_isState_l0 a0.Entries ((a0.Entries.length : Nat) : Int) a0 n 0).bind fun o3 =>
  match o3 with
  | .inl o3_0 =>
   some o3_0
  | .inr (o3_1) =>
   if ((a0.Pending.length : Nat) : Int) = 0 then
    some (decide (a0.Act = 0))
   else
   (S_impl_State_entryAt a0 a0.Pending).bind fun ⟨r5_0, r5_1⟩ =>
   match a0.Open with
   | true =>
    (S_impl_isAddr a0.Pending).bind fun r6 =>
    match r6 with
    | true =>
     (S_impl_in a0.Act 1 4).bind fun r7 =>
     match r7 with
     | true =>
      if r5_1 = true then
       if a0.Act = 1 then
        some false
       else
       some true
      else
      if a0.Act = 1 then
       some true
      else
      some false
     | false =>
      some false
    | false =>
     some false
   | false =>
    some false
 | false =>
  some false
theorem g_impl_isState (n : Nat) : K_impl_isState (T_impl_isState n) := fun a0 => tc (
 .cl (ok_impl_in a0.Serial 0 1000000) fun r1 =>
 .vN 0 r1 (
  .an 0 0 <|
  .an 0 0 <|
  .le e_GEntry a0.Entries <|
  .an 0 0 <|
  .lI 16 ((a0.Entries.length : Nat) : Int) (fun c2 =>
   .an 0 0 <|
   .ret false) fun c2 =>
  .an 0 0 <|
  .le e_GEntry a0.Entries <|
  .l2 (gl_impl_isState_l0 a0.Entries ((a0.Entries.length : Nat) : Int) a0 n 0) (fun o3_0 =>
   .ret o3_0) fun o3_1 =>
  .le e_u8 a0.Pending <|
  .eI ((a0.Pending.length : Nat) : Int) 0 (fun c4 =>
   .eD a0.Act 0 <|
   .ret (decide (a0.Act = 0))) fun c4 =>
  .cl (ok_impl_State_entryAt a0 a0.Pending) fun ⟨r5_0, r5_1⟩ =>
  .vM 0 a0.Open (
   .az 0 0 <|
   .az 0 0 <|
   .cl (ok_impl_isAddr a0.Pending) fun r6 =>
   .az 0 1 <|
   .vM 0 r6 (
    .az 0 0 <|
    .az 0 0 <|
    .cl (ok_impl_in a0.Act 1 4) fun r7 =>
    .az 0 1 <|
    .vM 0 r7 (
     .az 0 0 <|
     .az 0 0 <|
     .az 0 0 <|
     .eD a0.Act 1 <|
     .az 0 0 <|
     .sp (r5_1 = true) (fun c8 =>
      .sp (a0.Act = 1) (fun c9 =>
       .eb c8 (nT (dT c9)) <|
       .az 0 0 <|
       .ret false) fun c9 =>
      .eb c8 (nF (dF c9)) <|
      .az 0 0 <|
      .ret true) fun c8 =>
     .sp (a0.Act = 1) (fun c9 =>
      .eb (bF c8) (nT (dT c9)) <|
      .az 0 0 <|
      .ret true) fun c9 =>
     .eb (bF c8) (nF (dF c9)) <|
     .az 0 0 <|
     .ret false) <|
    .az 0 0 <|
    .az 0 0 <|
    .az 0 0 <|
    .az 0 0 <|
    .az 0 0 <|
    .ret false) <|
   .az 0 0 <|
   .az 0 0 <|
   .az 0 0 <|
   .ret false) <|
  .az 0 0 <|
  .az 0 0 <|
  .az 0 0 <|
  .ret false) <|
 .an 0 0 <|
 .an 0 0 <|
 .an 0 0 <|
 .an 0 0 <|
 .ret false) (fn_of Tryz.func78)
theorem kV_eq {v : GValue} (h : vsz v <= 2 ^ 20) : S_impl_isValue v = some (valB v) := by
  unfold S_impl_isValue S_impl_isShaped S_impl_Value_parts valB
  rw [if_pos ⟨h, by decide, by decide⟩, Option.bind_some]
  rw [show (5 : Int).toNat = 5 from rfl]
  cases hs : shV 5 v
  · simp
  · dsimp only
    rw [if_pos h, Option.bind_some]
    simp
theorem implKm_eq {v : GValue} (h : vsz v <= 2 ^ 20) : S_impl_isKnownMap v = some (kmapB v) := by
  unfold S_impl_isKnownMap S_impl_isMap kmapB
  by_cases h5 : v.Kind = 5
  · rw [if_pos h5, kV_eq h, Option.bind_some, decide_eq_true h5, Bool.true_and]
    cases hv : valB v with
    | false => rfl
    | true =>
      simp only [Bool.true_and]
      unfold S_impl_Value_known
      rw [if_pos (by omega)]; rfl
  · rw [if_neg h5, decide_eq_false h5]; rfl
theorem implAds_eq {l : List (List UInt8)} (h : bsz l <= 2 ^ 20) : S_impl_areAddrs l = some (addrsB l) := if_pos h
theorem isState_loop {s : GState} (hs : eszs s.Entries <= 2 ^ 20) : ∀ (d i m : Nat), i + d = s.Entries.length → d < m → ∃ z, L_impl_isState_l0 s.Entries ((s.Entries.length : Nat) : Int) s m (i : Int) = some (if gAll (entB s.Serial) GEntry.Addr s.Entries i d = true then .inr z else .inl false) := by
  have hlen := eszs_len s.Entries
  intro d
  induction d with
  | zero =>
    intro i m hi hm
    obtain ⟨m, rfl, _⟩ := fuel hm
    exact ⟨_, by rw [L_impl_isState_l0, if_neg (by omega)]; rfl⟩
  | succ d ih =>
    intro i m hi hm
    obtain ⟨m, rfl, hm'⟩ := fuel hm
    have hil : i < s.Entries.length := by omega
    have hz0 := eszs_mem (List.getElem_mem hil)
    obtain ⟨z, hz⟩ := ih (i + 1) m (by omega) (by omega)
    rw [L_impl_isState_l0, if_pos (by omega), natO_nat, Option.bind_some, get_some hil, Option.bind_some, gAll_succ]
    unfold esz at hz0
    rw [implAd_eq (by omega), Option.bind_some, implKm_eq (by omega), Option.bind_some, implAds_eq (by omega), Option.bind_some, in_eq, Option.bind_some, w64_succ (by omega), hz]
    generalize gAll _ GEntry.Addr s.Entries (i + 1) d = g
    by_cases h0 : 0 < i
    · rw [gOk_eq hil h0]
      unfold entB
      cases addrB s.Entries[i].Addr with
      | false => exact ⟨0, rfl⟩
      | true =>
        dsimp only
        rw [if_pos (by omega), w64_pred (by omega) h0, natO_nat, Option.bind_some, get_some (show i - 1 < s.Entries.length by omega), Option.bind_some]
        unfold S_bytes_Compare S_internal_bytealg_Compare
        simp only [Option.bind_some]
        have hc := less_cmp s.Entries[i - 1].Addr s.Entries[i].Addr
        generalize Lib.compareBytes s.Entries[i - 1].Addr s.Entries[i].Addr = q at hc ⊢
        generalize Op.bytesLess s.Entries[i - 1].Addr s.Entries[i].Addr = b at hc ⊢
        refine ⟨z, ?_⟩
        cases b with
        | true =>
          rw [if_neg (by rw [hc]; exact fun h => h rfl)]
          cases kmapB s.Entries[i].Val <;> cases addrsB s.Entries[i].Deps <;> cases decide (1 <= s.Entries[i].Turned ∧ s.Entries[i].Turned <= s.Serial) <;> simp
        | false =>
          rw [if_pos (by rw [hc]; simp)]
          simp
    · obtain rfl : i = 0 := by omega
      rw [gOk_zero hil]
      unfold entB
      cases addrB s.Entries[0].Addr with
      | false => exact ⟨0, rfl⟩
      | true =>
        dsimp only
        rw [if_neg (by omega)]
        refine ⟨z, ?_⟩
        cases kmapB s.Entries[0].Val <;> cases addrsB s.Entries[0].Deps <;> cases decide (1 <= s.Entries[0].Turned ∧ s.Entries[0].Turned <= s.Serial) <;> simp
def S_impl_isState (a0 : GState) : Option Bool := if ssz a0 <= 2 ^ 20 then some (stB a0) else none
theorem implSt_eq {s : GState} (h : ssz s <= 2 ^ 20) : S_impl_isState s = some (stB s) := if_pos h
theorem isState_val {s : GState} (h : ssz s <= 2 ^ 20) : T_impl_isState (s.Entries.length + 1) s = some (stB s) := by
  have hlen := eszs_len s.Entries
  unfold ssz at h
  obtain ⟨z, hz⟩ := isState_loop (s := s) (by omega) s.Entries.length 0 (s.Entries.length + 1) (by omega) (by omega)
  rw [show ((0 : Nat) : Int) = 0 from rfl] at hz
  unfold T_impl_isState
  rw [in_eq, Option.bind_some]
  unfold stB
  by_cases h1 : (0 : Int) <= s.Serial ∧ s.Serial <= 1000000
  · rw [decide_eq_true h1]
    dsimp only
    by_cases h2 : (16 : Int) < ((s.Entries.length : Nat) : Int)
    · rw [if_pos h2, decide_eq_false (p := 0 <= s.Serial ∧ s.Serial <= 1000000 ∧ s.Entries.length <= 16) (by omega)]; rfl
    rw [if_neg h2, hz, decide_eq_true (p := 0 <= s.Serial ∧ s.Serial <= 1000000 ∧ s.Entries.length <= 16) (by omega), Bool.true_and]
    have he : entsB s = gAll (entB s.Serial) GEntry.Addr s.Entries 0 s.Entries.length := rfl
    cases hg : gAll (entB s.Serial) GEntry.Addr s.Entries 0 s.Entries.length with
    | false => rw [he, hg]; rfl
    | true =>
      rw [he, hg, Bool.true_and]
      simp only [if_true, Option.bind_some]
      unfold pendB
      by_cases hp : s.Pending = []
      · rw [if_pos (by rw [hp]; rfl), if_pos hp]
      · have hp0 : ¬ ((s.Pending.length : Nat) : Int) = 0 := fun e => hp (List.eq_nil_of_length_eq_zero (by omega))
        rw [if_neg hp0, if_neg hp]
        unfold S_impl_State_entryAt
        obtain ⟨c, _, hc⟩ := eat_eq (x := s.Pending) (a := s.Entries) (by omega) (gAll_asc hg)
        rw [hc, Option.bind_some, Option.bind_some]
        dsimp only
        rw [implAd_eq (by omega), Option.bind_some, in_eq, Option.bind_some]
        cases s.Open
        · rfl
        cases addrB s.Pending
        · rfl
        by_cases ha : (1 : Int) <= s.Act ∧ s.Act <= 4
        · rw [decide_eq_true ha]
          by_cases h1 : s.Act = 1 <;> cases hasB s.Entries s.Pending <;> simp [h1]
        · rw [decide_eq_false ha]; rfl
  · rw [decide_eq_false h1, decide_eq_false (p := 0 <= s.Serial ∧ s.Serial <= 1000000 ∧ s.Entries.length <= 16) (fun h => h1 ⟨h.1, h.2.1⟩)]; rfl
theorem spec_impl_isState (a0 : GState) (r : Bool) (h : S_impl_isState a0 = some r) : ∃ n, T_impl_isState n a0 = some r := by
  unfold S_impl_isState at h
  obtain ⟨ha, h⟩ := need_c h
  exact ⟨_, by rw [<- h]; exact isState_val ha⟩
theorem ok_impl_isState : K_impl_isState S_impl_isState := fun a0 r h => (spec_impl_isState a0 r h).elim fun n hn => g_impl_isState n a0 r hn
def S_impl_copyBytes (a0 : (List UInt8)) : Option (List UInt8) :=
 if roomP 1 (0 + a0.length) then
 some a0
 else none
theorem ok_impl_copyBytes (a0 : (List UInt8)) : Oc (S_impl_copyBytes a0) 119 [] [vq e_u8 a0] fun r => (.val false [.own 1 (eL e_u8 r)], []) := tc (
 .ap 1 E_u8 [] a0 fun n1 =>
 .ret a0) (fn_of Tryz.func119)
def K_impl_copyTexts (F : (List (List UInt8)) → Option (List (List UInt8))) : Prop := ∀ (a0 : (List (List UInt8))), Oc (F a0) 139 [] [vq (e_sl e_u8) a0] fun r => (.val false [.own 1 (eL (o_sl 1 e_u8) r)], [])
def L_impl_copyTexts_l0 (a0 : (List (List UInt8))) (v1 : Int) : Nat → Int → (List (List UInt8)) → Option (Int × (List (List UInt8)))
  | 0, _, _ => none
  | m + 1, v2, v3 =>
  if v2 < v1 then
   (natO v2).bind fun i2 =>
   (a0[i2]?).bind fun x3 =>
   (S_impl_copyBytes x3).bind fun r4 =>
   if roomP 24 (v3.length + [r4].length) then
   L_impl_copyTexts_l0 a0 v1 m (w64 (v2 + 1)) (v3 ++ [r4])
   else none
  else
  some (v2, v3)
theorem gl_impl_copyTexts_l0 (a0 : (List (List UInt8))) (v1 : Int) (m : Nat) : ∀ (v2 : Int) (v3 : (List (List UInt8))), Ol (L_impl_copyTexts_l0 a0 v1 m v2 v3) 139 (loopB Tryz.f139 0) ⟨[(3, vr 0), (7, vq (e_sl e_u8) a0), (8, vi v1), (9, vi v2)], [.obj 1 (eL (o_sl 1 e_u8) v3)], 0⟩ fun o => match o with | ⟨o_0, o_1⟩ => (.exit 0, ⟨[(3, vr 0), (7, vq (e_sl e_u8) a0), (8, vi v1), (9, vi o_0), (10, vb false)], [.obj 1 (eL (o_sl 1 e_u8) o_1)], 0⟩) := by
  induction m with
  | zero => intro v2 v3 o h; cases h
  | succ m ih => exact fun v2 v3 => tlp (
   .lI v2 v1 (fun c1 =>
    .na v2 fun i2 =>
    .ix0 (e_sl e_u8) a0 i2 fun x3 =>
    .cl (ok_impl_copyBytes x3) fun r4 =>
    .ao 24 (O_sl 1 O_u8) v3 [r4] fun n5 =>
    .go (ih (w64 (v2 + 1)) (v3 ++ [r4]))) fun c1 =>
   .ret (v2, v3))
def T_impl_copyTexts (n : Nat) (a0 : (List (List UInt8))) : Option (List (List UInt8)) :=
 (L_impl_copyTexts_l0 a0 ((a0.length : Nat) : Int) n 0 []).bind fun ⟨o1_0, o1_1⟩ =>
 some o1_1
theorem g_impl_copyTexts (n : Nat) : K_impl_copyTexts (T_impl_copyTexts n) := fun a0 => tc (
 .le (e_sl e_u8) a0 <|
 .lp (gl_impl_copyTexts_l0 a0 ((a0.length : Nat) : Int) n 0 []) fun ⟨o1_0, o1_1⟩ =>
 .ret o1_1) (fn_of Tryz.func139)
theorem copyBytes_eq {a : List UInt8} (h : a.length <= 2 ^ 39) : S_impl_copyBytes a = some a := if_pos (room_ok (by decide) (by omega))
theorem copyTexts_loop {a : List (List UInt8)} (ha : bsz a <= 2 ^ 39) : ∀ (l p : List (List UInt8)) (m : Nat), a = p ++ l → l.length < m → ∃ z, L_impl_copyTexts_l0 a ((a.length : Nat) : Int) m ((p.length : Nat) : Int) p = some (z, a) := by
  have hl := bsz_len a
  intro l
  induction l with
  | nil =>
    intro p m he hm
    subst he
    obtain ⟨m, rfl, _⟩ := fuel hm
    exact ⟨_, by rw [L_impl_copyTexts_l0, if_neg (nlt_end p)]; simp; rfl⟩
  | cons x l ih =>
    intro p m he hm
    obtain ⟨m, rfl, hm'⟩ := fuel hm
    have hx : 1 + x.length <= bsz a := bsz_mem (by rw [he]; simp)
    have hlen : a.length = p.length + (l.length + 1) := by rw [he]; simp
    obtain ⟨z, hz⟩ := ih (p ++ [x]) m (by rw [he]; simp) (by simp only [List.length_cons] at hm'; omega)
    refine ⟨z, ?_⟩
    rw [L_impl_copyTexts_l0, if_pos (by omega), natO_nat, Option.bind_some, show a[p.length]? = some x by rw [he]; exact get_mid p x l, Option.bind_some, copyBytes_eq (by omega), Option.bind_some, if_pos (room_ok (by decide) (by simp only [List.length_cons, List.length_nil]; omega)), w64_len p x (by omega), hz]
def S_impl_copyTexts (a0 : (List (List UInt8))) : Option (List (List UInt8)) := if bsz a0 <= 2 ^ 39 then some a0 else none
theorem copyTexts_eq {a : List (List UInt8)} (h : bsz a <= 2 ^ 39) : S_impl_copyTexts a = some a := if_pos h
theorem spec_impl_copyTexts (a0 : (List (List UInt8))) (r : (List (List UInt8))) (h : S_impl_copyTexts a0 = some r) : ∃ n, T_impl_copyTexts n a0 = some r := by
  unfold S_impl_copyTexts at h
  obtain ⟨ha, h⟩ := need_c h
  obtain ⟨z, hz⟩ := copyTexts_loop ha a0 [] (a0.length + 1) rfl (by omega)
  refine ⟨a0.length + 1, ?_⟩
  unfold T_impl_copyTexts
  simp only [List.length_nil, Int.natCast_zero] at hz
  rw [hz]; exact h
theorem ok_impl_copyTexts : K_impl_copyTexts S_impl_copyTexts := fun a0 r h => (spec_impl_copyTexts a0 r h).elim fun n hn => g_impl_copyTexts n a0 r hn
def K_impl_copyValue (F : GValue → Option GValue) : Prop := ∀ (a0 : GValue), Oc (F a0) 138 [] [.val true (x_GValue a0)] fun r => (.val true (y_GValue r), [])
def L_impl_copyValue_l0 (G_impl_copyValue : GValue → Option GValue) (v0 : (List GValue)) (v1 : Int) (v3 : Int) (v4 : Int) (v5 : Int) (v6 : Int) (v7 : (List UInt8)) (v8 : (List (List UInt8))) (v9 : (List GValue)) (v10 : (List UInt8)) (v11 : (List (List UInt8))) : Nat → Int → (List GValue) → Option (Int × (List GValue))
  | 0, _, _ => none
  | m + 1, v2, v12 =>
  if v2 < v1 then
   (natO v2).bind fun i2 =>
   (v0[i2]?).bind fun x3 =>
   (G_impl_copyValue x3).bind fun r4 =>
   if roomP 88 (v12.length + [r4].length) then
   L_impl_copyValue_l0 G_impl_copyValue v0 v1 v3 v4 v5 v6 v7 v8 v9 v10 v11 m (w64 (v2 + 1)) (v12 ++ [r4])
   else none
  else
  some (v2, v12)
theorem gl_impl_copyValue_l0 (G_impl_copyValue : GValue → Option GValue) (H_impl_copyValue : K_impl_copyValue G_impl_copyValue) (v0 : (List GValue)) (v1 : Int) (v3 : Int) (v4 : Int) (v5 : Int) (v6 : Int) (v7 : (List UInt8)) (v8 : (List (List UInt8))) (v9 : (List GValue)) (v10 : (List UInt8)) (v11 : (List (List UInt8))) (m : Nat) : ∀ (v2 : Int) (v12 : (List GValue)), Ol (L_impl_copyValue_l0 G_impl_copyValue v0 v1 v3 v4 v5 v6 v7 v8 v9 v10 v11 m v2 v12) 138 (loopB Tryz.f138 0) ⟨[(2, vp 0 0), (3, vp 1 0), (18, vq e_GValue v0), (19, vi v1), (20, vi v2)], [.var [ci v3, ci v4, .ref 2, .ref 3, .ref 4], .var [ci v5, ci v6, .ref 5, .ref 6, .ref 7], .obj 1 (eL e_u8 v7), .obj 1 (eL (o_sl 1 e_u8) v8), .obj 5 (eL o_GValue v9), .obj 1 (eL e_u8 v10), .obj 1 (eL (o_sl 1 e_u8) v11), .obj 5 (eL o_GValue v12)], 0⟩ fun o => match o with | ⟨o_0, o_1⟩ => (.exit 0, ⟨[(2, vp 0 0), (3, vp 1 0), (18, vq e_GValue v0), (19, vi v1), (20, vi o_0), (21, vb false)], [.var [ci v3, ci v4, .ref 2, .ref 3, .ref 4], .var [ci v5, ci v6, .ref 5, .ref 6, .ref 7], .obj 1 (eL e_u8 v7), .obj 1 (eL (o_sl 1 e_u8) v8), .obj 5 (eL o_GValue v9), .obj 1 (eL e_u8 v10), .obj 1 (eL (o_sl 1 e_u8) v11), .obj 5 (eL o_GValue o_1)], 0⟩) := by
  induction m with
  | zero => intro v2 v12 o h; cases h
  | succ m ih => exact fun v2 v12 => tlp (
   .lI v2 v1 (fun c1 =>
    .na v2 fun i2 =>
    .ix eq_GValue v0 i2 fun x3 =>
    .cl (H_impl_copyValue x3) fun r4 =>
    .nd (roomP 88 (v12.length + [r4].length)) fun n5 =>
    .q ⟨.room 88 (eL o_GValue v12) ([(y_GValue r4)] : List (List C)), .b true, by rw [(show ([(y_GValue r4)] : List (List C)) = eL o_GValue [r4] from (raw_cons (oeq_GValue r4) raw_nil))]; exact (A.room n5)⟩ <|
    .q ⟨.uni 5 ([(y_GValue r4)] : List (List C)), .b true, by rw [(show ([(y_GValue r4)] : List (List C)) = eL o_GValue [r4] from (raw_cons (oeq_GValue r4) raw_nil))]; exact (A.uniO O_GValue)⟩ <|
    .q ⟨.app (eL o_GValue v12) ([(y_GValue r4)] : List (List C)), .l (eL o_GValue (v12 ++ [r4])), by rw [(show ([(y_GValue r4)] : List (List C)) = eL o_GValue [r4] from (raw_cons (oeq_GValue r4) raw_nil))]; exact A.app⟩ <|
    .go (ih (w64 (v2 + 1)) (v12 ++ [r4]))) fun c1 =>
   .ret (v2, v12))
def T_impl_copyValue (G_impl_copyValue : GValue → Option GValue) (n : Nat) (a0 : GValue) : Option GValue :=
 (S_impl_copyBytes a0.S).bind fun r1 =>
 (S_impl_copyTexts a0.K).bind fun r2 =>
 (L_impl_copyValue_l0 G_impl_copyValue a0.L ((a0.L.length : Nat) : Int) 0 0 a0.Kind a0.N [] [] [] r1 r2 n 0 []).bind fun ⟨o3_0, o3_1⟩ =>
 some (GValue.mk a0.Kind a0.N r1 r2 o3_1)
theorem g_impl_copyValue (G_impl_copyValue : GValue → Option GValue) (H_impl_copyValue : K_impl_copyValue G_impl_copyValue) (n : Nat) : K_impl_copyValue (T_impl_copyValue G_impl_copyValue n) := fun a0 => tc (
 .cl (ok_impl_copyBytes a0.S) fun r1 =>
 .cl (ok_impl_copyTexts a0.K) fun r2 =>
 .le e_GValue a0.L <|
 .lp (gl_impl_copyValue_l0 G_impl_copyValue H_impl_copyValue a0.L ((a0.L.length : Nat) : Int) 0 0 a0.Kind a0.N [] [] [] r1 r2 n 0 []) fun ⟨o3_0, o3_1⟩ =>
 .ret (GValue.mk a0.Kind a0.N r1 r2 o3_1)) (fn_of Tryz.func138)
def U_impl_copyValue : Nat → GValue → Option GValue
  | 0, _ => none
  | n + 1, a0 => T_impl_copyValue (U_impl_copyValue n) n a0
theorem rec_impl_copyValue (n : Nat) : K_impl_copyValue (U_impl_copyValue n) := by
  induction n with
  | zero => exact fun _ _ h => (by rw [U_impl_copyValue] at h; cases h)
  | succ n ih =>
    have ih_impl_copyValue := ih
    exact fun a0 r h => g_impl_copyValue (U_impl_copyValue n) ih_impl_copyValue n a0 r (by rw [U_impl_copyValue] at h; exact h)
theorem copyValue_loop {G : GValue → Option GValue} {a : List GValue} {v3 v4 v5 v6 : Int} {v7 : List UInt8} {v8 : List (List UInt8)} {v9 : List GValue} {v10 : List UInt8} {v11 : List (List UInt8)} (ha : a.length <= 2 ^ 39) : ∀ (l p : List GValue) (m : Nat), a = p ++ l → (∀ x ∈ l, G x = some x) → l.length < m → ∃ z, L_impl_copyValue_l0 G a ((a.length : Nat) : Int) v3 v4 v5 v6 v7 v8 v9 v10 v11 m ((p.length : Nat) : Int) p = some (z, a) := by
  intro l
  induction l with
  | nil =>
    intro p m he _ hm
    subst he
    obtain ⟨m, rfl, _⟩ := fuel hm
    exact ⟨_, by rw [L_impl_copyValue_l0, if_neg (nlt_end p)]; simp; rfl⟩
  | cons x l ih =>
    intro p m he hG hm
    obtain ⟨m, rfl, hm'⟩ := fuel hm
    have hlen : a.length = p.length + (l.length + 1) := by rw [he]; simp
    obtain ⟨z, hz⟩ := ih (p ++ [x]) m (by rw [he]; simp) (fun y hy => hG y (List.mem_cons_of_mem _ hy)) (by simp only [List.length_cons] at hm'; omega)
    refine ⟨z, ?_⟩
    rw [L_impl_copyValue_l0, if_pos (by omega), natO_nat, Option.bind_some, show a[p.length]? = some x by rw [he]; exact get_mid p x l, Option.bind_some, hG x List.mem_cons_self, Option.bind_some, if_pos (room_ok (by decide) (by simp only [List.length_cons, List.length_nil]; omega)), w64_len p x (by omega), hz]
theorem copyValue_U : ∀ (N : Nat) (v : GValue), vsz v < N → vsz v <= 2 ^ 39 → ∀ f : Nat, vsz v + 2 <= f → U_impl_copyValue f v = some v := by
  intro N
  induction N with
  | zero => intro v hv; omega
  | succ N ih =>
    intro v hv hs f hf
    obtain ⟨f, rfl, _⟩ := fuel (show 0 < f by omega)
    have he := vsz_eq v
    have hl := vszs_len v.L
    rw [U_impl_copyValue]
    unfold T_impl_copyValue
    rw [copyBytes_eq (by omega), copyTexts_eq (by omega)]
    simp only [Option.bind_some]
    obtain ⟨z, hz⟩ := copyValue_loop (G := U_impl_copyValue f) (a := v.L) (v3 := 0) (v4 := 0) (v5 := v.Kind) (v6 := v.N) (v7 := []) (v8 := []) (v9 := []) (v10 := v.S) (v11 := v.K) (by omega) v.L [] f rfl (fun x hx => by
      have := vszs_mem hx
      exact ih x (by omega) (by omega) f (by omega)) (by omega)
    simp only [List.length_nil, Int.natCast_zero] at hz
    rw [hz]
    exact congrArg some (GValue.eta v)
def S_impl_copyValue (a0 : GValue) : Option GValue := if vsz a0 <= 2 ^ 39 then some a0 else none
theorem spec_impl_copyValue (a0 : GValue) (r : GValue) (h : S_impl_copyValue a0 = some r) : ∃ n, U_impl_copyValue n a0 = some r := by
  unfold S_impl_copyValue at h
  obtain ⟨ha, h⟩ := need_c h
  exact ⟨vsz a0 + 2, by rw [<- h]; exact copyValue_U _ a0 (Nat.lt_succ_self _) ha _ (Nat.le_refl _)⟩
theorem ok_impl_copyValue : K_impl_copyValue S_impl_copyValue := by
  intro a0 r h
  obtain ⟨n, hn⟩ := spec_impl_copyValue a0 r h
  exact (rec_impl_copyValue n) a0 r hn
def S_impl_copyEntry (a0 : GEntry) : Option GEntry :=
 (S_impl_copyBytes a0.Addr).bind fun r1 =>
 (S_impl_copyValue a0.Val).bind fun r2 =>
 (S_impl_copyTexts a0.Deps).bind fun r3 =>
 some (GEntry.mk r1 r2 r3 a0.Taint a0.Turned)
theorem ok_impl_copyEntry (a0 : GEntry) : Oc (S_impl_copyEntry a0) 177 [] [.val true (x_GEntry a0)] fun r => (.val true (y_GEntry r), []) := tc (
 .cl (ok_impl_copyBytes a0.Addr) fun r1 =>
 .cl (ok_impl_copyValue a0.Val) fun r2 =>
 .cl (ok_impl_copyTexts a0.Deps) fun r3 =>
 .ret (GEntry.mk r1 r2 r3 a0.Taint a0.Turned)) (fn_of Tryz.func177)
def K_impl_copyState (F : GState → Option GState) : Prop := ∀ (a0 : GState), Oc (F a0) 137 [] [.val true (x_GState a0)] fun r => (.val true (y_GState r), [])
def L_impl_copyState_l0 (v0 : (List GEntry)) (v1 : Int) (v3 : Int) (v4 : Bool) (v5 : Int) (v6 : Int) (v7 : Bool) (v8 : Int) (v9 : (List UInt8)) (v10 : (List GEntry)) (v11 : (List UInt8)) : Nat → Int → (List GEntry) → Option (Int × (List GEntry))
  | 0, _, _ => none
  | m + 1, v2, v12 =>
  if v2 < v1 then
   (natO v2).bind fun i2 =>
   (v0[i2]?).bind fun x3 =>
   (S_impl_copyEntry x3).bind fun r4 =>
   if roomP 152 (v12.length + [r4].length) then
   L_impl_copyState_l0 v0 v1 v3 v4 v5 v6 v7 v8 v9 v10 v11 m (w64 (v2 + 1)) (v12 ++ [r4])
   else none
  else
  some (v2, v12)
theorem gl_impl_copyState_l0 (v0 : (List GEntry)) (v1 : Int) (v3 : Int) (v4 : Bool) (v5 : Int) (v6 : Int) (v7 : Bool) (v8 : Int) (v9 : (List UInt8)) (v10 : (List GEntry)) (v11 : (List UInt8)) (m : Nat) : ∀ (v2 : Int) (v12 : (List GEntry)), Ol (L_impl_copyState_l0 v0 v1 v3 v4 v5 v6 v7 v8 v9 v10 v11 m v2 v12) 137 (loopB Tryz.f137 0) ⟨[(2, vp 0 0), (3, vp 1 0), (17, vq e_GEntry v0), (18, vi v1), (19, vi v2)], [.var [ci v3, .bool v4, .ref 2, ci v5, .ref 3], .var [ci v6, .bool v7, .ref 4, ci v8, .ref 5], .obj 1 (eL e_u8 v9), .obj 9 (eL o_GEntry v10), .obj 1 (eL e_u8 v11), .obj 9 (eL o_GEntry v12)], 0⟩ fun o => match o with | ⟨o_0, o_1⟩ => (.exit 0, ⟨[(2, vp 0 0), (3, vp 1 0), (17, vq e_GEntry v0), (18, vi v1), (19, vi o_0), (20, vb false)], [.var [ci v3, .bool v4, .ref 2, ci v5, .ref 3], .var [ci v6, .bool v7, .ref 4, ci v8, .ref 5], .obj 1 (eL e_u8 v9), .obj 9 (eL o_GEntry v10), .obj 1 (eL e_u8 v11), .obj 9 (eL o_GEntry o_1)], 0⟩) := by
  induction m with
  | zero => intro v2 v12 o h; cases h
  | succ m ih => exact fun v2 v12 => tlp (
   .lI v2 v1 (fun c1 =>
    .na v2 fun i2 =>
    .ix eq_GEntry v0 i2 fun x3 =>
    .cl (ok_impl_copyEntry x3) fun r4 =>
    .ao 152 O_GEntry v12 [r4] fun n5 =>
    .go (ih (w64 (v2 + 1)) (v12 ++ [r4]))) fun c1 =>
   .ret (v2, v12))
def T_impl_copyState (n : Nat) (a0 : GState) : Option GState :=
 (S_impl_copyBytes a0.Pending).bind fun r1 =>
 (L_impl_copyState_l0 a0.Entries ((a0.Entries.length : Nat) : Int) 0 false 0 a0.Serial a0.Open a0.Act [] [] r1 n 0 []).bind fun ⟨o2_0, o2_1⟩ =>
 some (GState.mk a0.Serial a0.Open r1 a0.Act o2_1)
theorem g_impl_copyState (n : Nat) : K_impl_copyState (T_impl_copyState n) := fun a0 => tc (
 .cl (ok_impl_copyBytes a0.Pending) fun r1 =>
 .le e_GEntry a0.Entries <|
 .lp (gl_impl_copyState_l0 a0.Entries ((a0.Entries.length : Nat) : Int) 0 false 0 a0.Serial a0.Open a0.Act [] [] r1 n 0 []) fun ⟨o2_0, o2_1⟩ =>
 .ret (GState.mk a0.Serial a0.Open r1 a0.Act o2_1)) (fn_of Tryz.func137)
theorem copyE_eq0 {e : GEntry} (h : esz e <= 2 ^ 38) : S_impl_copyEntry e = some e := by
  unfold esz at h
  unfold S_impl_copyEntry S_impl_copyBytes S_impl_copyValue S_impl_copyTexts
  rw [if_pos (room_ok (by decide) (by omega)), Option.bind_some, if_pos (by omega), Option.bind_some, if_pos (by omega), Option.bind_some]
  cases e; rfl
theorem copyS_loop {a : List GEntry} {v3 : Int} {v4 : Bool} {v5 v6 : Int} {v7 : Bool} {v8 : Int} {v9 : List UInt8} {v10 : List GEntry} {v11 : List UInt8} (ha : eszs a <= 2 ^ 38) : ∀ (l p : List GEntry) (m : Nat), a = p ++ l → l.length < m → ∃ z, L_impl_copyState_l0 a ((a.length : Nat) : Int) v3 v4 v5 v6 v7 v8 v9 v10 v11 m ((p.length : Nat) : Int) p = some (z, a) := by
  have hl := eszs_len a
  intro l
  induction l with
  | nil =>
    intro p m he hm
    obtain ⟨m, rfl, _⟩ := fuel hm
    exact ⟨_, by rw [L_impl_copyState_l0, he, List.append_nil, if_neg (by omega)]⟩
  | cons x l ih =>
    intro p m he hm
    obtain ⟨m, rfl, hm'⟩ := fuel hm
    have hx : 1 + esz x <= eszs a := eszs_mem (by rw [he]; simp)
    have hlen : a.length = p.length + (l.length + 1) := by rw [he]; simp
    obtain ⟨z, hz⟩ := ih (p ++ [x]) m (by rw [he]; simp) (by simp only [List.length_cons] at hm'; omega)
    refine ⟨z, ?_⟩
    rw [L_impl_copyState_l0, if_pos (by omega), natO_nat, Option.bind_some, show a[p.length]? = some x by rw [he]; exact get_mid p x l, Option.bind_some, copyE_eq0 (by omega), Option.bind_some, if_pos (room152 (by simp only [List.length_cons, List.length_nil]; omega)), w64_len p x (by omega), hz]
def S_impl_copyState (a0 : GState) : Option GState := if ssz a0 <= 2 ^ 38 then some a0 else none
theorem spec_impl_copyState (a0 : GState) (r : GState) (h : S_impl_copyState a0 = some r) : ∃ n, T_impl_copyState n a0 = some r := by
  unfold S_impl_copyState at h
  obtain ⟨ha, h⟩ := need_c h
  unfold ssz at ha
  refine ⟨a0.Entries.length + 1, ?_⟩
  unfold T_impl_copyState S_impl_copyBytes
  obtain ⟨z, hz⟩ := copyS_loop (a := a0.Entries) (v3 := 0) (v4 := false) (v5 := 0) (v6 := a0.Serial) (v7 := a0.Open) (v8 := a0.Act) (v9 := []) (v10 := []) (v11 := a0.Pending) (by omega) a0.Entries [] (a0.Entries.length + 1) rfl (by omega)
  simp only [List.length_nil, Int.natCast_zero] at hz
  rw [if_pos (room_ok (by decide) (by omega)), Option.bind_some, hz, <- h]
  cases a0; rfl
theorem ok_impl_copyState : K_impl_copyState S_impl_copyState := fun a0 r h => (spec_impl_copyState a0 r h).elim fun n hn => g_impl_copyState n a0 r hn
def S_impl_isZero (a0 : GValue) : Option Bool :=
 if a0.Kind = 0 then
  if a0.N = 0 then
   if ((a0.S.length : Nat) : Int) = 0 then
    if ((a0.K.length : Nat) : Int) = 0 then
     some (decide (((a0.L.length : Nat) : Int) = 0))
    else
    some false
   else
   some false
  else
  some false
 else
 some false
theorem ok_impl_isZero (a0 : GValue) : Oc (S_impl_isZero a0) 136 [] [.val true (x_GValue a0)] fun r => (vb r, []) := tc (
 .eI a0.Kind 0 (fun c1 =>
  .eI a0.N 0 (fun c2 =>
   .le e_u8 a0.S <|
   .eI ((a0.S.length : Nat) : Int) 0 (fun c3 =>
    .le (e_sl e_u8) a0.K <|
    .eI ((a0.K.length : Nat) : Int) 0 (fun c4 =>
     .le e_GValue a0.L <|
     .eD ((a0.L.length : Nat) : Int) 0 <|
     .ret (decide (((a0.L.length : Nat) : Int) = 0))) fun c4 =>
    .ret false) fun c3 =>
   .ret false) fun c2 =>
  .ret false) fun c1 =>
 .ret false) (fn_of Tryz.func136)
def S_impl_isEvent (a0 : GEvent) : Option Bool :=
 if a0.Kind = 2 then
  (S_impl_isAddr a0.Addr).bind fun r2 =>
  match r2 with
  | true =>
   if a0.Act = 0 then
    (S_impl_isKnownMap a0.Val).bind fun r4 =>
    match r4 with
    | true =>
     (S_impl_areAddrs a0.Deps).bind fun r5 =>
     some r5
    | false =>
     some false
   else
   some false
  | false =>
   some false
 else
 (S_impl_isZero a0.Val).bind fun r2 =>
 match r2 with
 | true =>
  if 0 < ((a0.Deps.length : Nat) : Int) then
   some false
  else
  if a0.Kind = 0 then
   if ((a0.Addr.length : Nat) : Int) = 0 then
    some (decide (a0.Act = 0))
   else
   some false
  else
  if a0.Kind = 5 then
   if ((a0.Addr.length : Nat) : Int) = 0 then
    some (decide (a0.Act = 0))
   else
   some false
  else
  if a0.Kind = 6 then
   if ((a0.Addr.length : Nat) : Int) = 0 then
    some (decide (a0.Act = 0))
   else
   some false
  else
  if a0.Kind = 1 then
   (S_impl_isAddr a0.Addr).bind fun r8 =>
   match r8 with
   | true =>
    (S_impl_in a0.Act 1 4).bind fun r9 =>
    some r9
   | false =>
    some false
  else
  if a0.Kind = 3 then
   (S_impl_isAddr a0.Addr).bind fun r9 =>
   match r9 with
   | true =>
    some (decide (a0.Act = 0))
   | false =>
    some false
  else
  if a0.Kind = 4 then
   (S_impl_isAddr a0.Addr).bind fun r10 =>
   match r10 with
   | true =>
    some (decide (a0.Act = 0))
   | false =>
    some false
  else
  some false
 | false =>
  some false
theorem ok_impl_isEvent (a0 : GEvent) : Oc (S_impl_isEvent a0) 79 [] [.val true (x_GEvent a0)] fun r => (vb r, []) := tc (
 .eI a0.Kind 2 (fun c1 =>
  .cl (ok_impl_isAddr a0.Addr) fun r2 =>
  .vM 0 r2 (
   .az 0 0 <|
   .az 0 0 <|
   .eD a0.Act 0 <|
   .az 0 0 <|
   .cI 0 (a0.Act = 0) (fun c3 =>
    .kT 0 (dT c3) <|
    .kT 0 (dT c3) <|
    .cl (ok_impl_isKnownMap a0.Val) fun r4 =>
    .kT 0 (dT c3) <|
    .vM 0 r4 (
     .az 0 0 <|
     .az 0 0 <|
     .cl (ok_impl_areAddrs a0.Deps) fun r5 =>
     .az 0 1 <|
     .ret r5) <|
    .az 0 0 <|
    .az 0 0 <|
    .az 0 0 <|
    .ret false) fun c3 =>
   .kF 0 (dF c3) <|
   .kF 0 (dF c3) <|
   .kF 0 (dF c3) <|
   .ret false) <|
  .az 0 0 <|
  .az 0 0 <|
  .az 0 0 <|
  .ret false) fun c1 =>
 .cl (ok_impl_isZero a0.Val) fun r2 =>
 .vN 0 r2 (
  .an 0 0 <|
  .an 0 0 <|
  .le (e_sl e_u8) a0.Deps <|
  .an 0 0 <|
  .lI 0 ((a0.Deps.length : Nat) : Int) (fun c3 =>
   .an 0 0 <|
   .ret false) fun c3 =>
  .an 0 0 <|
  .eI a0.Kind 0 (fun c4 =>
   .le e_u8 a0.Addr <|
   .eI ((a0.Addr.length : Nat) : Int) 0 (fun c5 =>
    .eD a0.Act 0 <|
    .ret (decide (a0.Act = 0))) fun c5 =>
   .ret false) fun c4 =>
  .eI a0.Kind 5 (fun c5 =>
   .le e_u8 a0.Addr <|
   .eI ((a0.Addr.length : Nat) : Int) 0 (fun c6 =>
    .eD a0.Act 0 <|
    .ret (decide (a0.Act = 0))) fun c6 =>
   .ret false) fun c5 =>
  .eI a0.Kind 6 (fun c6 =>
   .le e_u8 a0.Addr <|
   .eI ((a0.Addr.length : Nat) : Int) 0 (fun c7 =>
    .eD a0.Act 0 <|
    .ret (decide (a0.Act = 0))) fun c7 =>
   .ret false) fun c6 =>
  .eI a0.Kind 1 (fun c7 =>
   .cl (ok_impl_isAddr a0.Addr) fun r8 =>
   .vM 0 r8 (
    .az 0 0 <|
    .az 0 0 <|
    .cl (ok_impl_in a0.Act 1 4) fun r9 =>
    .az 0 1 <|
    .ret r9) <|
   .az 0 0 <|
   .az 0 0 <|
   .az 0 0 <|
   .ret false) fun c7 =>
  .eI a0.Kind 3 (fun c8 =>
   .cl (ok_impl_isAddr a0.Addr) fun r9 =>
   .vM 0 r9 (
    .az 0 0 <|
    .az 0 0 <|
    .eD a0.Act 0 <|
    .az 0 0 <|
    .ret (decide (a0.Act = 0))) <|
   .az 0 0 <|
   .az 0 0 <|
   .az 0 0 <|
   .ret false) fun c8 =>
  .eI a0.Kind 4 (fun c9 =>
   .cl (ok_impl_isAddr a0.Addr) fun r10 =>
   .vM 0 r10 (
    .az 0 0 <|
    .az 0 0 <|
    .eD a0.Act 0 <|
    .az 0 0 <|
    .ret (decide (a0.Act = 0))) <|
   .az 0 0 <|
   .az 0 0 <|
   .az 0 0 <|
   .ret false) fun c9 =>
  .ret false) <|
 .an 0 0 <|
 .an 0 0 <|
 .an 0 0 <|
 .an 0 0 <|
 .ret false) (fn_of Tryz.func79)
def S_impl_State_fits (a0 : GState) (a1 : GEvent) : Option Bool :=
 (S_impl_State_entryAt a0 a1.Addr).bind fun ⟨r1_0, r1_1⟩ =>
 if a0.Serial = 1000000 then
  some false
 else
 if a1.Kind = 0 then
  some (!a0.Open)
 else
 if a1.Kind = 1 then
  match a0.Open with
  | true =>
   if ((a0.Pending.length : Nat) : Int) = 0 then
    if r1_1 = true then
     if a1.Act = 1 then
      some false
     else
     some true
    else
    if a1.Act = 1 then
     some (decide (((a0.Entries.length : Nat) : Int) < 16))
    else
    some false
   else
   some false
  | false =>
   some false
 else
 if a1.Kind = 2 then
  (S_bytes_Equal a0.Pending a1.Addr).bind fun r6 =>
  match r6 with
  | true =>
   some (!(decide (a0.Act = 4)))
  | false =>
   some false
 else
 if a1.Kind = 3 then
  (S_bytes_Equal a0.Pending a1.Addr).bind fun r7 =>
  match r7 with
  | true =>
   some (decide (a0.Act = 4))
  | false =>
   some false
 else
 if a1.Kind = 4 then
  (S_bytes_Equal a0.Pending a1.Addr).bind fun r8 =>
  some r8
 else
 if a1.Kind = 5 then
  match a0.Open with
  | true =>
   some (decide (((a0.Pending.length : Nat) : Int) = 0))
  | false =>
   some false
 else
 some a0.Open
theorem ok_impl_State_fits (a0 : GState) (a1 : GEvent) : Oc (S_impl_State_fits a0 a1) 103 [] [.val true (x_GState a0), .val true (x_GEvent a1)] fun r => (vb r, []) := tc (
 .cl (ok_impl_State_entryAt a0 a1.Addr) fun ⟨r1_0, r1_1⟩ =>
 .eI a0.Serial 1000000 (fun c2 =>
  .ret false) fun c2 =>
 .eI a1.Kind 0 (fun c3 =>
  .ret (!a0.Open)) fun c3 =>
 .eI a1.Kind 1 (fun c4 =>
  .vM 1 a0.Open (
   .az 0 0 <|
   .az 0 0 <|
   .le e_u8 a0.Pending <|
   .az 0 0 <|
   .eD ((a0.Pending.length : Nat) : Int) 0 <|
   .az 0 0 <|
   .cI 0 (((a0.Pending.length : Nat) : Int) = 0) (fun c5 =>
    .kT 0 (dT c5) <|
    .kT 0 (dT c5) <|
    .kT 0 (dT c5) <|
    .eD a1.Act 1 <|
    .kT 0 (dT c5) <|
    .sp (r1_1 = true) (fun c6 =>
     .sp (a1.Act = 1) (fun c7 =>
      .eb c6 (nT (dT c7)) <|
      .kT 0 (dT c5) <|
      .ret false) fun c7 =>
     .eb c6 (nF (dF c7)) <|
     .kT 0 (dT c5) <|
     .kT 2 c6 <|
     .kT 0 c6 <|
     .kT 0 c6 <|
     .kT 0 c6 <|
     .kT 1 c6 <|
     .ret true) fun c6 =>
    .sp (a1.Act = 1) (fun c7 =>
     .eb (bF c6) (nT (dT c7)) <|
     .kT 0 (dT c5) <|
     .kF 2 (bF c6) <|
     .kF 0 (bF c6) <|
     .kF 0 (bF c6) <|
     .le e_GEntry a0.Entries <|
     .kF 0 (bF c6) <|
     .lD ((a0.Entries.length : Nat) : Int) 16 <|
     .kF 1 (bF c6) <|
     .ret (decide (((a0.Entries.length : Nat) : Int) < 16))) fun c7 =>
    .eb (bF c6) (nF (dF c7)) <|
    .kT 0 (dT c5) <|
    .ret false) fun c5 =>
   .kF 0 (dF c5) <|
   .kF 0 (dF c5) <|
   .kF 0 (dF c5) <|
   .kF 0 (dF c5) <|
   .kF 0 (dF c5) <|
   .ret false) <|
  .az 0 0 <|
  .az 0 0 <|
  .az 0 0 <|
  .az 0 0 <|
  .ret false) fun c4 =>
 .eI a1.Kind 2 (fun c5 =>
  .cl (ok_bytes_Equal a0.Pending a1.Addr) fun r6 =>
  .vM 0 r6 (
   .az 0 0 <|
   .az 0 0 <|
   .eD a0.Act 4 <|
   .az 0 0 <|
   .ret (!(decide (a0.Act = 4)))) <|
  .az 0 0 <|
  .az 0 0 <|
  .az 0 0 <|
  .ret false) fun c5 =>
 .eI a1.Kind 3 (fun c6 =>
  .cl (ok_bytes_Equal a0.Pending a1.Addr) fun r7 =>
  .vM 0 r7 (
   .az 0 0 <|
   .az 0 0 <|
   .eD a0.Act 4 <|
   .az 0 0 <|
   .ret (decide (a0.Act = 4))) <|
  .az 0 0 <|
  .az 0 0 <|
  .az 0 0 <|
  .ret false) fun c6 =>
 .eI a1.Kind 4 (fun c7 =>
  .cl (ok_bytes_Equal a0.Pending a1.Addr) fun r8 =>
  .ret r8) fun c7 =>
 .eI a1.Kind 5 (fun c8 =>
  .vM 1 a0.Open (
   .az 0 0 <|
   .az 0 0 <|
   .le e_u8 a0.Pending <|
   .az 0 0 <|
   .eD ((a0.Pending.length : Nat) : Int) 0 <|
   .az 0 0 <|
   .ret (decide (((a0.Pending.length : Nat) : Int) = 0))) <|
  .az 0 0 <|
  .az 0 0 <|
  .az 0 0 <|
  .az 0 0 <|
  .ret false) fun c8 =>
 .ret a0.Open) (fn_of Tryz.func103)
def S_impl_State_taint (a0 : Bool) (e0_0 : Int) (e0_1 : Bool) (e0_3 : Int) (e1 : (List UInt8)) (e2 : (List GEntry)) : Option GState :=
 if ((e1.length : Nat) : Int) = 0 then
  some (GState.mk e0_0 e0_1 e1 e0_3 e2)
 else
 (S_impl_State_entryAt (GState.mk e0_0 e0_1 e1 e0_3 e2) e1).bind fun ⟨r2_0, r2_1⟩ =>
 match r2_1 with
 | true =>
  (natO r2_0).bind fun i3 =>
  (e2[i3]?).bind fun x4 =>
  ((e2.set i3 (GEntry.mk x4.Addr x4.Val x4.Deps true x4.Turned))[i3]?).bind fun x5 =>
  some (GState.mk e0_0 e0_1 e1 e0_3 ((e2.set i3 (GEntry.mk x4.Addr x4.Val x4.Deps true x4.Turned)).set i3 (GEntry.mk x5.Addr x5.Val x5.Deps x5.Taint e0_0)))
 | false =>
  match a0 with
  | true =>
   (S_impl_copyBytes e1).bind fun r3 =>
   (S_slices_Insert_Entry r2_0 e2 [(GEntry.mk r3 (GValue.mk 5 0 [] [] []) [] false 0)]).bind fun r4 =>
   (natO r2_0).bind fun i5 =>
   (r4[i5]?).bind fun x6 =>
   ((r4.set i5 (GEntry.mk x6.Addr x6.Val x6.Deps true x6.Turned))[i5]?).bind fun x7 =>
   some (GState.mk e0_0 e0_1 e1 e0_3 ((r4.set i5 (GEntry.mk x6.Addr x6.Val x6.Deps true x6.Turned)).set i5 (GEntry.mk x7.Addr x7.Val x7.Deps x7.Taint e0_0)))
  | false =>
   some (GState.mk e0_0 e0_1 e1 e0_3 e2)
theorem ok_impl_State_taint (a0 : Bool) (e0_0 : Int) (e0_1 : Bool) (e0_3 : Int) (e1 : (List UInt8)) (e2 : (List GEntry)) : Oc (S_impl_State_taint a0 e0_0 e0_1 e0_3 e1 e2) 142 [.var [ci e0_0, .bool e0_1, .ref 1, ci e0_3, .ref 2], .obj 1 (eL e_u8 e1), .obj 9 (eL o_GEntry e2)] [vp 0 0, vb a0] fun r => (.tup [], [.var (y_GState r), .dead, .dead]) := tc (
 .le e_u8 e1 <|
 .eI ((e1.length : Nat) : Int) 0 (fun c1 =>
  .ret (GState.mk e0_0 e0_1 e1 e0_3 e2)) fun c1 =>
 .vw E_u8 e1 <|
 .vo O_GEntry e2 <|
 .vw E_u8 e1 <|
 .cl (ok_impl_State_entryAt (GState.mk e0_0 e0_1 e1 e0_3 e2) e1) fun ⟨r2_0, r2_1⟩ =>
 .vN 0 r2_1 (
  .na r2_0 fun i3 =>
  .ix oeq_GEntry e2 i3 fun x4 =>
  .ag 0 <|
  .sl (oeq_GEntry (GEntry.mk x4.Addr x4.Val x4.Deps true x4.Turned)) e2 i3 <|
  .ag 1 <|
  .ix oeq_GEntry (e2.set i3 (GEntry.mk x4.Addr x4.Val x4.Deps true x4.Turned)) i3 fun x5 =>
  .ag 0 <|
  .sl (oeq_GEntry (GEntry.mk x5.Addr x5.Val x5.Deps x5.Taint e0_0)) (e2.set i3 (GEntry.mk x4.Addr x4.Val x4.Deps true x4.Turned)) i3 <|
  .ret (GState.mk e0_0 e0_1 e1 e0_3 ((e2.set i3 (GEntry.mk x4.Addr x4.Val x4.Deps true x4.Turned)).set i3 (GEntry.mk x5.Addr x5.Val x5.Deps x5.Taint e0_0)))) <|
 .vN 0 a0 (
  .vw E_u8 e1 <|
  .cl (ok_impl_copyBytes e1) fun r3 =>
  .cn O_u8 r3 <|
  .cl (ok_slices_Insert_Entry r2_0 e2 [(GEntry.mk r3 (GValue.mk 5 0 [] [] []) [] false 0)]) fun r4 =>
  .na r2_0 fun i5 =>
  .ix oeq_GEntry r4 i5 fun x6 =>
  .ag 0 <|
  .sl (oeq_GEntry (GEntry.mk x6.Addr x6.Val x6.Deps true x6.Turned)) r4 i5 <|
  .ag 1 <|
  .ix oeq_GEntry (r4.set i5 (GEntry.mk x6.Addr x6.Val x6.Deps true x6.Turned)) i5 fun x7 =>
  .ag 0 <|
  .sl (oeq_GEntry (GEntry.mk x7.Addr x7.Val x7.Deps x7.Taint e0_0)) (r4.set i5 (GEntry.mk x6.Addr x6.Val x6.Deps true x6.Turned)) i5 <|
  .ret (GState.mk e0_0 e0_1 e1 e0_3 ((r4.set i5 (GEntry.mk x6.Addr x6.Val x6.Deps true x6.Turned)).set i5 (GEntry.mk x7.Addr x7.Val x7.Deps x7.Taint e0_0)))) <|
 .ret (GState.mk e0_0 e0_1 e1 e0_3 e2)) (fn_of Tryz.func142)
def S_impl_State_do (a0 : GState) (a1 : GEvent) : Option (GState × Bool) :=
 (S_impl_copyState a0).bind fun r1 =>
 (S_impl_State_fits a0 a1).bind fun r2 =>
 match r2 with
 | true =>
  (S_impl_State_entryAt (GState.mk (w64 (r1.Serial + 1)) r1.Open r1.Pending r1.Act r1.Entries) a1.Addr).bind fun ⟨r3_0, r3_1⟩ =>
  if a1.Kind = 0 then
   some ((GState.mk (w64 (r1.Serial + 1)) true r1.Pending r1.Act r1.Entries), true)
  else
  if a1.Kind = 1 then
   (S_impl_copyBytes a1.Addr).bind fun r6 =>
   some ((GState.mk (w64 (r1.Serial + 1)) r1.Open r6 a1.Act r1.Entries), true)
  else
  if a1.Kind = 2 then
   (S_impl_copyBytes a1.Addr).bind fun r7 =>
   (S_impl_copyValue a1.Val).bind fun r8 =>
   (S_impl_copyTexts a1.Deps).bind fun r9 =>
   match r3_1 with
   | true =>
    (natO r3_0).bind fun i10 =>
    (r1.Entries[i10]?).bind fun x11 =>
    some ((GState.mk (w64 (r1.Serial + 1)) r1.Open [] 0 (r1.Entries.set i10 (GEntry.mk r7 r8 r9 false (w64 (r1.Serial + 1))))), true)
   | false =>
    (S_slices_Insert_Entry r3_0 r1.Entries [(GEntry.mk r7 r8 r9 false (w64 (r1.Serial + 1)))]).bind fun r10 =>
    some ((GState.mk (w64 (r1.Serial + 1)) r1.Open [] 0 r10), true)
  else
  if a1.Kind = 3 then
   (S_slices_Delete_Entry r3_0 (w64 (r3_0 + 1)) r1.Entries).bind fun r8 =>
   some ((GState.mk (w64 (r1.Serial + 1)) r1.Open [] 0 r8), true)
  else
  if a1.Kind = 4 then
   (S_impl_State_taint false (w64 (r1.Serial + 1)) r1.Open r1.Act r1.Pending r1.Entries).bind fun r9 =>
   some ((GState.mk r9.Serial true [] 0 r9.Entries), true)
  else
  if a1.Kind = 6 then
   (S_impl_State_taint true (w64 (r1.Serial + 1)) r1.Open r1.Act r1.Pending r1.Entries).bind fun r10 =>
   some ((GState.mk r10.Serial false [] 0 r10.Entries), true)
  else
  if a1.Kind = 5 then
   some ((GState.mk (w64 (r1.Serial + 1)) false [] 0 r1.Entries), true)
  else
  some ((GState.mk (w64 (r1.Serial + 1)) r1.Open [] 0 r1.Entries), true)
 | false =>
  some (r1, false)
theorem ok_impl_State_do (a0 : GState) (a1 : GEvent) : Oc (S_impl_State_do a0 a1) 80 [] [.val true (x_GState a0), .val true (x_GEvent a1)] fun r => (.tup [(true, (y_GState r.1)), (false, [.bool r.2])], []) := tc (
 .cl (ok_impl_copyState a0) fun r1 =>
 .cl (ok_impl_State_fits a0 a1) fun r2 =>
 .vN 0 r2 (
  .vw E_u8 r1.Pending <|
  .vo O_GEntry r1.Entries <|
  .cl (ok_impl_State_entryAt (GState.mk (w64 (r1.Serial + 1)) r1.Open r1.Pending r1.Act r1.Entries) a1.Addr) fun ⟨r3_0, r3_1⟩ =>
  .eI a1.Kind 0 (fun c4 =>
   .ret ((GState.mk (w64 (r1.Serial + 1)) true r1.Pending r1.Act r1.Entries), true)) fun c4 =>
  .eI a1.Kind 1 (fun c5 =>
   .cl (ok_impl_copyBytes a1.Addr) fun r6 =>
   .ret ((GState.mk (w64 (r1.Serial + 1)) r1.Open r6 a1.Act r1.Entries), true)) fun c5 =>
  .eI a1.Kind 2 (fun c6 =>
   .cl (ok_impl_copyBytes a1.Addr) fun r7 =>
   .cl (ok_impl_copyValue a1.Val) fun r8 =>
   .cl (ok_impl_copyTexts a1.Deps) fun r9 =>
   .vM 0 r3_1 (
    .na r3_0 fun i10 =>
    .ix oeq_GEntry r1.Entries i10 fun x11 =>
    .ag 0 <|
    .sl (oeq_GEntry (GEntry.mk r7 r8 r9 false (w64 (r1.Serial + 1)))) r1.Entries i10 <|
    .ret ((GState.mk (w64 (r1.Serial + 1)) r1.Open [] 0 (r1.Entries.set i10 (GEntry.mk r7 r8 r9 false (w64 (r1.Serial + 1))))), true)) <|
   .cl (ok_slices_Insert_Entry r3_0 r1.Entries [(GEntry.mk r7 r8 r9 false (w64 (r1.Serial + 1)))]) fun r10 =>
   .ret ((GState.mk (w64 (r1.Serial + 1)) r1.Open [] 0 r10), true)) fun c6 =>
  .eI a1.Kind 3 (fun c7 =>
   .cl (ok_slices_Delete_Entry r3_0 (w64 (r3_0 + 1)) r1.Entries) fun r8 =>
   .ret ((GState.mk (w64 (r1.Serial + 1)) r1.Open [] 0 r8), true)) fun c7 =>
  .eI a1.Kind 4 (fun c8 =>
   .q (.eFo a1.Kind 6 (by omega)) <|
   .cl (ok_impl_State_taint false (w64 (r1.Serial + 1)) r1.Open r1.Act r1.Pending r1.Entries) fun r9 =>
   .q (.eT c8) <|
   .ret ((GState.mk r9.Serial true [] 0 r9.Entries), true)) fun c8 =>
  .eI a1.Kind 6 (fun c9 =>
   .q (.eT c9) <|
   .cl (ok_impl_State_taint true (w64 (r1.Serial + 1)) r1.Open r1.Act r1.Pending r1.Entries) fun r10 =>
   .q (.eF c8) <|
   .ret ((GState.mk r10.Serial false [] 0 r10.Entries), true)) fun c9 =>
  .eI a1.Kind 5 (fun c10 =>
   .ret ((GState.mk (w64 (r1.Serial + 1)) false [] 0 r1.Entries), true)) fun c10 =>
  .ret ((GState.mk (w64 (r1.Serial + 1)) r1.Open [] 0 r1.Entries), true)) <|
 .ret (r1, false)) (fn_of Tryz.func80)
def K_impl_History_states (F : GHistory → Option ((List GState) × Bool)) : Prop := ∀ (a0 : GHistory), Oc (F a0) 91 [] [.val true (x_GHistory a0)] fun r => (.tup [(false, [cq e_GState r.1]), (false, [.bool r.2])], [])
def L_impl_History_states_l0 (v0 : (List GEvent)) (v1 : Int) : Nat → Int → (List GState) → Option ((Bool × (List GState)) ⊕ (Int × (List GState)))
  | 0, _, _ => none
  | m + 1, v2, v3 =>
  if v2 < v1 then
   (natO v2).bind fun i2 =>
   (v0[i2]?).bind fun x3 =>
   (S_impl_isEvent x3).bind fun r4 =>
   match r4 with
   | true =>
    (v3[i2]?).bind fun x5 =>
    (S_impl_State_do x5 x3).bind fun ⟨r6_0, r6_1⟩ =>
    match r6_1 with
    | true =>
     if roomP 72 (v3.length + [r6_0].length) then
     L_impl_History_states_l0 v0 v1 m (w64 (v2 + 1)) (v3 ++ [r6_0])
     else none
    | false =>
     some (.inl (false, []))
   | false =>
    some (.inl (false, []))
  else
  some (.inr (v2, v3))
theorem gl_impl_History_states_l0 (v0 : (List GEvent)) (v1 : Int) (m : Nat) : ∀ (v2 : Int) (v3 : (List GState)), Ol (L_impl_History_states_l0 v0 v1 m v2 v3) 91 (loopB Tryz.f91 0) ⟨[(4, vr 0), (33, vq e_GEvent v0), (34, vi v1), (35, vi v2)], [.obj 5 (eL e_GState v3)], 0⟩ fun o => match o with | .inl ⟨o_0_0, o_0_1⟩ => (.ret, ⟨[(2, vr 0), (3, vb o_0_0)], [.obj 5 (eL e_GState o_0_1)], 0⟩) | .inr (⟨o_1_0, o_1_1⟩) => (.exit 0, ⟨[(4, vr 0), (33, vq e_GEvent v0), (34, vi v1), (35, vi o_1_0), (36, vb false)], [.obj 5 (eL e_GState o_1_1)], 0⟩) := by
  induction m with
  | zero => intro v2 v3 o h; cases h
  | succ m ih => exact fun v2 v3 => tlp (
   .lI v2 v1 (fun c1 =>
    .na v2 fun i2 =>
    .ix eq_GEvent v0 i2 fun x3 =>
    .cl (ok_impl_isEvent x3) fun r4 =>
    .vN 0 r4 (
     .ag 3 <|
     .ix eq_GState v3 i2 fun x5 =>
     .ag 0 <|
     .cl (ok_impl_State_do x5 x3) fun ⟨r6_0, r6_1⟩ =>
     .vN 0 r6_1 (
      .vw E_u8 r6_0.Pending <|
      .vo O_GEntry r6_0.Entries <|
      .pl E_GState [r6_0] <|
      .ap 72 E_GState v3 [r6_0] fun n7 =>
      .go (ih (w64 (v2 + 1)) (v3 ++ [r6_0]))) <|
     .ret (.inl (false, []))) <|
    .ret (.inl (false, []))) fun c1 =>
   .ret (.inr (v2, v3)))
def T_impl_History_states (n : Nat) (a0 : GHistory) : Option ((List GState) × Bool) :=
 (S_impl_isState a0.Base).bind fun r1 =>
 match r1 with
 | true =>
  if 300 < ((a0.Events.length : Nat) : Int) then
   some ([], false)
  else
  (S_impl_in a0.Safe 0 ((a0.Events.length : Nat) : Int)).bind fun r3 =>
  match r3 with
  | true =>
   (S_impl_copyState a0.Base).bind fun r4 =>
   (L_impl_History_states_l0 a0.Events ((a0.Events.length : Nat) : Int) n 0 [r4]).bind fun o5 =>
   match o5 with
   | .inl ⟨o5_0_0, o5_0_1⟩ =>
    some (o5_0_1, o5_0_0)
   | .inr (⟨o5_1_0, o5_1_1⟩) =>
    some (o5_1_1, true)
  | false =>
   some ([], false)
 | false =>
  some ([], false)
theorem g_impl_History_states (n : Nat) : K_impl_History_states (T_impl_History_states n) := fun a0 => tc (
 .cl (ok_impl_isState a0.Base) fun r1 =>
 .vN 0 r1 (
  .an 0 0 <|
  .an 0 0 <|
  .le e_GEvent a0.Events <|
  .an 0 0 <|
  .lI 300 ((a0.Events.length : Nat) : Int) (fun c2 =>
   .an 0 0 <|
   .vw E_GState [] <|
   .ret ([], false)) fun c2 =>
  .an 0 0 <|
  .le e_GEvent a0.Events <|
  .cl (ok_impl_in a0.Safe 0 ((a0.Events.length : Nat) : Int)) fun r3 =>
  .vN 2 r3 (
   .cl (ok_impl_copyState a0.Base) fun r4 =>
   .vw E_u8 r4.Pending <|
   .vo O_GEntry r4.Entries <|
   .le e_GEvent a0.Events <|
   .l2 (gl_impl_History_states_l0 a0.Events ((a0.Events.length : Nat) : Int) n 0 [r4]) (fun ⟨o5_0_0, o5_0_1⟩ =>
    .vw E_GState o5_0_1 <|
    .ret (o5_0_1, o5_0_0)) fun ⟨o5_1_0, o5_1_1⟩ =>
   .vw E_GState o5_1_1 <|
   .ret (o5_1_1, true)) <|
  .vw E_GState [] <|
  .ret ([], false)) <|
 .an 0 0 <|
 .an 0 0 <|
 .an 0 0 <|
 .an 0 0 <|
 .vw E_GState [] <|
 .ret ([], false)) (fn_of Tryz.func91)
def S_impl_History_states (a0 : GHistory) : Option ((List GState) × Bool) := T_impl_History_states (a0.Events.length + 5) a0
theorem spec_impl_History_states (a0 : GHistory) (r : ((List GState) × Bool)) (h : S_impl_History_states a0 = some r) : ∃ n, T_impl_History_states n a0 = some r := ⟨_, h⟩
theorem ok_impl_History_states : K_impl_History_states S_impl_History_states := fun a0 r h => (spec_impl_History_states a0 r h).elim fun n hn => g_impl_History_states n a0 r hn
def S_impl_isHistory (a0 : GHistory) : Option Bool :=
 (S_impl_History_states a0).bind fun ⟨r1_0, r1_1⟩ =>
 some r1_1
theorem ok_impl_isHistory (a0 : GHistory) : Oc (S_impl_isHistory a0) 89 [] [.val true (x_GHistory a0)] fun r => (vb r, []) := tc (
 .cl (ok_impl_History_states a0) fun ⟨r1_0, r1_1⟩ =>
 .ret r1_1) (fn_of Tryz.func89)
def S_impl_HistOk (a0 : GHistory) : Option Bool :=
 (S_impl_isHistory a0).bind fun r1 =>
 some r1
theorem ok_impl_HistOk (a0 : GHistory) : Oc (S_impl_HistOk a0) 29 [] [.val true (x_GHistory a0)] fun r => (vb r, []) := tc (
 .cl (ok_impl_isHistory a0) fun r1 =>
 .ret r1) (fn_of Tryz.func29)
def K_laws_eqByteS (F : (List UInt8) → (List UInt8) → Option Bool) : Prop := ∀ (a0 : (List UInt8)) (a1 : (List UInt8)), Oc (F a0 a1) 38 [] [vq e_u8 a0, vq e_u8 a1] fun r => (vb r, [])
def L_laws_eqByteS_l0 (a0 : (List UInt8)) (a1 : (List UInt8)) : Nat → Int → Option (Bool ⊕ Int)
  | 0, _ => none
  | m + 1, v2 =>
  if v2 < ((a0.length : Nat) : Int) then
   (natO v2).bind fun i2 =>
   (a0[i2]?).bind fun x3 =>
   (a1[i2]?).bind fun x4 =>
   if ((x3.toNat : Nat) : Int) = ((x4.toNat : Nat) : Int) then
    L_laws_eqByteS_l0 a0 a1 m (w64 (v2 + 1))
   else
   some (.inl false)
  else
  some (.inr v2)
theorem gl_laws_eqByteS_l0 (a0 : (List UInt8)) (a1 : (List UInt8)) (m : Nat) : ∀ (v2 : Int), Ol (L_laws_eqByteS_l0 a0 a1 m v2) 38 (loopB Tryz.f38 0) ⟨[(0, vq e_u8 a0), (1, vq e_u8 a1), (5, vi v2)], [], 0⟩ fun o => match o with | .inl o_0 => (.ret, ⟨[(4, vb o_0)], [], 0⟩) | .inr (o_1) => (.exit 0, ⟨[(0, vq e_u8 a0), (1, vq e_u8 a1), (5, vi o_1), (14, vb false)], [], 0⟩) := by
  induction m with
  | zero => intro v2 o h; cases h
  | succ m ih => exact fun v2 => tlp (
   .le e_u8 a0 <|
   .lI v2 ((a0.length : Nat) : Int) (fun c1 =>
    .na v2 fun i2 =>
    .ix0 e_u8 a0 i2 fun x3 =>
    .ag 1 <|
    .ix0 e_u8 a1 i2 fun x4 =>
    .eI ((x3.toNat : Nat) : Int) ((x4.toNat : Nat) : Int) (fun c5 =>
     .go (ih (w64 (v2 + 1)))) fun c5 =>
    .ret (.inl false)) fun c1 =>
   .ret (.inr v2))
def T_laws_eqByteS (n : Nat) (a0 : (List UInt8)) (a1 : (List UInt8)) : Option Bool :=
 if ((a0.length : Nat) : Int) = ((a1.length : Nat) : Int) then
  (L_laws_eqByteS_l0 a0 a1 n 0).bind fun o2 =>
  match o2 with
  | .inl o2_0 =>
   some o2_0
  | .inr (o2_1) =>
   some true
 else
 some false
theorem g_laws_eqByteS (n : Nat) : K_laws_eqByteS (T_laws_eqByteS n) := fun a0 a1 => tc (
 .le e_u8 a0 <|
 .le e_u8 a1 <|
 .eI ((a0.length : Nat) : Int) ((a1.length : Nat) : Int) (fun c1 =>
  .l2 (gl_laws_eqByteS_l0 a0 a1 n 0) (fun o2_0 =>
   .ret o2_0) fun o2_1 =>
  .ret true) fun c1 =>
 .ret false) (fn_of Tryz.func38)
theorem eqByteS_loop {a : List UInt8} (ha : a.length <= 2 ^ 40) : ∀ (d i m : Nat), i + d = a.length → d < m → ∃ z, L_laws_eqByteS_l0 a a m (i : Int) = some (.inr z) := by
  intro d
  induction d with
  | zero =>
    intro i m hi hm
    obtain ⟨m, rfl, _⟩ := fuel hm
    exact ⟨_, by rw [L_laws_eqByteS_l0, if_neg (by omega)]⟩
  | succ d ih =>
    intro i m hi hm
    obtain ⟨m, rfl, hm'⟩ := fuel hm
    have hil : i < a.length := by omega
    rw [L_laws_eqByteS_l0, if_pos (by omega), natO_nat, Option.bind_some, get_some hil, Option.bind_some, Option.bind_some, if_pos rfl, w64_succ (by omega)]
    exact ih (i + 1) m (by omega) (by omega)
def S_laws_eqByteS (a0 : (List UInt8)) (a1 : (List UInt8)) : Option Bool := if a0 = a1 ∧ a0.length <= 2 ^ 40 then some true else none
theorem spec_laws_eqByteS (a0 : (List UInt8)) (a1 : (List UInt8)) (r : Bool) (h : S_laws_eqByteS a0 a1 = some r) : ∃ n, T_laws_eqByteS n a0 a1 = some r := by
  unfold S_laws_eqByteS at h
  obtain ⟨⟨he, ha⟩, h2⟩ := need_c h
  clear h
  subst he
  refine ⟨a0.length + 1, ?_⟩
  obtain ⟨z, hz⟩ := eqByteS_loop ha a0.length 0 (a0.length + 1) (by omega) (by omega)
  rw [show ((0 : Nat) : Int) = 0 from rfl] at hz
  unfold T_laws_eqByteS
  rw [if_pos rfl, hz]; exact h2
theorem ok_laws_eqByteS : K_laws_eqByteS S_laws_eqByteS := fun a0 a1 r h => (spec_laws_eqByteS a0 a1 r h).elim fun n hn => g_laws_eqByteS n a0 a1 r hn
def K_laws_eqByteSS (F : (List (List UInt8)) → (List (List UInt8)) → Option Bool) : Prop := ∀ (a0 : (List (List UInt8))) (a1 : (List (List UInt8))), Oc (F a0 a1) 63 [] [vq (e_sl e_u8) a0, vq (e_sl e_u8) a1] fun r => (vb r, [])
def L_laws_eqByteSS_l0 (a0 : (List (List UInt8))) (a1 : (List (List UInt8))) : Nat → Int → Option (Bool ⊕ Int)
  | 0, _ => none
  | m + 1, v2 =>
  if v2 < ((a0.length : Nat) : Int) then
   (natO v2).bind fun i2 =>
   (a0[i2]?).bind fun x3 =>
   (a1[i2]?).bind fun x4 =>
   (S_laws_eqByteS x3 x4).bind fun r5 =>
   match r5 with
   | true =>
    L_laws_eqByteSS_l0 a0 a1 m (w64 (v2 + 1))
   | false =>
    some (.inl false)
  else
  some (.inr v2)
theorem gl_laws_eqByteSS_l0 (a0 : (List (List UInt8))) (a1 : (List (List UInt8))) (m : Nat) : ∀ (v2 : Int), Ol (L_laws_eqByteSS_l0 a0 a1 m v2) 63 (loopB Tryz.f63 0) ⟨[(0, vq (e_sl e_u8) a0), (1, vq (e_sl e_u8) a1), (5, vi v2)], [], 0⟩ fun o => match o with | .inl o_0 => (.ret, ⟨[(4, vb o_0)], [], 0⟩) | .inr (o_1) => (.exit 0, ⟨[(0, vq (e_sl e_u8) a0), (1, vq (e_sl e_u8) a1), (5, vi o_1), (14, vb false)], [], 0⟩) := by
  induction m with
  | zero => intro v2 o h; cases h
  | succ m ih => exact fun v2 => tlp (
   .le (e_sl e_u8) a0 <|
   .lI v2 ((a0.length : Nat) : Int) (fun c1 =>
    .na v2 fun i2 =>
    .ix0 (e_sl e_u8) a0 i2 fun x3 =>
    .ag 1 <|
    .ix0 (e_sl e_u8) a1 i2 fun x4 =>
    .cl (ok_laws_eqByteS x3 x4) fun r5 =>
    .vN 0 r5 (
     .go (ih (w64 (v2 + 1)))) <|
    .ret (.inl false)) fun c1 =>
   .ret (.inr v2))
def T_laws_eqByteSS (n : Nat) (a0 : (List (List UInt8))) (a1 : (List (List UInt8))) : Option Bool :=
 if ((a0.length : Nat) : Int) = ((a1.length : Nat) : Int) then
  (L_laws_eqByteSS_l0 a0 a1 n 0).bind fun o2 =>
  match o2 with
  | .inl o2_0 =>
   some o2_0
  | .inr (o2_1) =>
   some true
 else
 some false
theorem g_laws_eqByteSS (n : Nat) : K_laws_eqByteSS (T_laws_eqByteSS n) := fun a0 a1 => tc (
 .le (e_sl e_u8) a0 <|
 .le (e_sl e_u8) a1 <|
 .eI ((a0.length : Nat) : Int) ((a1.length : Nat) : Int) (fun c1 =>
  .l2 (gl_laws_eqByteSS_l0 a0 a1 n 0) (fun o2_0 =>
   .ret o2_0) fun o2_1 =>
  .ret true) fun c1 =>
 .ret false) (fn_of Tryz.func63)
theorem eqByteSS_loop {a : List (List UInt8)} (ha : bsz a <= 2 ^ 40) : ∀ (d i m : Nat), i + d = a.length → d < m → ∃ z, L_laws_eqByteSS_l0 a a m (i : Int) = some (.inr z) := by
  have hl := bsz_len a
  intro d
  induction d with
  | zero =>
    intro i m hi hm
    obtain ⟨m, rfl, _⟩ := fuel hm
    exact ⟨_, by rw [L_laws_eqByteSS_l0, if_neg (by omega)]⟩
  | succ d ih =>
    intro i m hi hm
    obtain ⟨m, rfl, hm'⟩ := fuel hm
    have hil : i < a.length := by omega
    have hx := bsz_mem (List.getElem_mem hil)
    rw [L_laws_eqByteSS_l0, if_pos (by omega), natO_nat, Option.bind_some, get_some hil, Option.bind_some, Option.bind_some]
    unfold S_laws_eqByteS
    rw [if_pos ⟨rfl, by omega⟩, Option.bind_some, w64_succ (by omega)]
    exact ih (i + 1) m (by omega) (by omega)
def S_laws_eqByteSS (a0 : (List (List UInt8))) (a1 : (List (List UInt8))) : Option Bool := if a0 = a1 ∧ bsz a0 <= 2 ^ 40 then some true else none
theorem spec_laws_eqByteSS (a0 : (List (List UInt8))) (a1 : (List (List UInt8))) (r : Bool) (h : S_laws_eqByteSS a0 a1 = some r) : ∃ n, T_laws_eqByteSS n a0 a1 = some r := by
  unfold S_laws_eqByteSS at h
  obtain ⟨⟨he, ha⟩, h2⟩ := need_c h
  clear h
  subst he
  have hl := bsz_len a0
  refine ⟨a0.length + 1, ?_⟩
  obtain ⟨z, hz⟩ := eqByteSS_loop ha a0.length 0 (a0.length + 1) (by omega) (by omega)
  rw [show ((0 : Nat) : Int) = 0 from rfl] at hz
  unfold T_laws_eqByteSS
  rw [if_pos rfl, hz]; exact h2
theorem ok_laws_eqByteSS : K_laws_eqByteSS S_laws_eqByteSS := fun a0 a1 r h => (spec_laws_eqByteSS a0 a1 r h).elim fun n hn => g_laws_eqByteSS n a0 a1 r hn
def K_laws_eqValueS (F : (List GValue) → (List GValue) → Option Bool) : Prop := ∀ (a0 : (List GValue)) (a1 : (List GValue)), Oc (F a0 a1) 144 [] [vq e_GValue a0, vq e_GValue a1] fun r => (vb r, [])
def K_laws_eqValue (F : GValue → GValue → Option Bool) : Prop := ∀ (a0 : GValue) (a1 : GValue), Oc (F a0 a1) 82 [] [.val true (x_GValue a0), .val true (x_GValue a1)] fun r => (vb r, [])
def L_laws_eqValueS_l0 (G_laws_eqValue : GValue → GValue → Option Bool) (a0 : (List GValue)) (a1 : (List GValue)) : Nat → Int → Option (Bool ⊕ Int)
  | 0, _ => none
  | m + 1, v2 =>
  if v2 < ((a0.length : Nat) : Int) then
   (natO v2).bind fun i2 =>
   (a0[i2]?).bind fun x3 =>
   (a1[i2]?).bind fun x4 =>
   (G_laws_eqValue x3 x4).bind fun r5 =>
   match r5 with
   | true =>
    L_laws_eqValueS_l0 G_laws_eqValue a0 a1 m (w64 (v2 + 1))
   | false =>
    some (.inl false)
  else
  some (.inr v2)
theorem gl_laws_eqValueS_l0 (G_laws_eqValue : GValue → GValue → Option Bool) (H_laws_eqValue : K_laws_eqValue G_laws_eqValue) (a0 : (List GValue)) (a1 : (List GValue)) (m : Nat) : ∀ (v2 : Int), Ol (L_laws_eqValueS_l0 G_laws_eqValue a0 a1 m v2) 144 (loopB Tryz.f144 0) ⟨[(0, vq e_GValue a0), (1, vq e_GValue a1), (5, vi v2)], [], 0⟩ fun o => match o with | .inl o_0 => (.ret, ⟨[(4, vb o_0)], [], 0⟩) | .inr (o_1) => (.exit 0, ⟨[(0, vq e_GValue a0), (1, vq e_GValue a1), (5, vi o_1), (14, vb false)], [], 0⟩) := by
  induction m with
  | zero => intro v2 o h; cases h
  | succ m ih => exact fun v2 => tlp (
   .le e_GValue a0 <|
   .lI v2 ((a0.length : Nat) : Int) (fun c1 =>
    .na v2 fun i2 =>
    .ix eq_GValue a0 i2 fun x3 =>
    .ag 1 <|
    .ix eq_GValue a1 i2 fun x4 =>
    .cl (H_laws_eqValue x3 x4) fun r5 =>
    .vN 0 r5 (
     .go (ih (w64 (v2 + 1)))) <|
    .ret (.inl false)) fun c1 =>
   .ret (.inr v2))
def T_laws_eqValueS (G_laws_eqValue : GValue → GValue → Option Bool) (n : Nat) (a0 : (List GValue)) (a1 : (List GValue)) : Option Bool :=
 if ((a0.length : Nat) : Int) = ((a1.length : Nat) : Int) then
  (L_laws_eqValueS_l0 G_laws_eqValue a0 a1 n 0).bind fun o2 =>
  match o2 with
  | .inl o2_0 =>
   some o2_0
  | .inr (o2_1) =>
   some true
 else
 some false
theorem g_laws_eqValueS (G_laws_eqValue : GValue → GValue → Option Bool) (H_laws_eqValue : K_laws_eqValue G_laws_eqValue) (n : Nat) : K_laws_eqValueS (T_laws_eqValueS G_laws_eqValue n) := fun a0 a1 => tc (
 .le e_GValue a0 <|
 .le e_GValue a1 <|
 .eI ((a0.length : Nat) : Int) ((a1.length : Nat) : Int) (fun c1 =>
  .l2 (gl_laws_eqValueS_l0 G_laws_eqValue H_laws_eqValue a0 a1 n 0) (fun o2_0 =>
   .ret o2_0) fun o2_1 =>
  .ret true) fun c1 =>
 .ret false) (fn_of Tryz.func144)
def T_laws_eqValue (G_laws_eqValueS : (List GValue) → (List GValue) → Option Bool) (a0 : GValue) (a1 : GValue) : Option Bool :=
 if a0.Kind = a1.Kind then
  if a0.N = a1.N then
   (S_laws_eqByteS a0.S a1.S).bind fun r3 =>
   match r3 with
   | true =>
    (S_laws_eqByteSS a0.K a1.K).bind fun r4 =>
    match r4 with
    | true =>
     (G_laws_eqValueS a0.L a1.L).bind fun r5 =>
     match r5 with
     | true =>
      some true
     | false =>
      some false
    | false =>
     some false
   | false =>
    some false
  else
  some false
 else
 some false
theorem g_laws_eqValue (G_laws_eqValueS : (List GValue) → (List GValue) → Option Bool) (H_laws_eqValueS : K_laws_eqValueS G_laws_eqValueS) : K_laws_eqValue (T_laws_eqValue G_laws_eqValueS) := fun a0 a1 => tc (
 .eI a0.Kind a1.Kind (fun c1 =>
  .eI a0.N a1.N (fun c2 =>
   .cl (ok_laws_eqByteS a0.S a1.S) fun r3 =>
   .vN 0 r3 (
    .cl (ok_laws_eqByteSS a0.K a1.K) fun r4 =>
    .vN 0 r4 (
     .cl (H_laws_eqValueS a0.L a1.L) fun r5 =>
     .vN 0 r5 (
      .ret true) <|
     .ret false) <|
    .ret false) <|
   .ret false) fun c2 =>
  .ret false) fun c1 =>
 .ret false) (fn_of Tryz.func82)
mutual
def U_laws_eqValueS : Nat → (List GValue) → (List GValue) → Option Bool
  | 0, _, _ => none
  | n + 1, a0, a1 => T_laws_eqValueS (U_laws_eqValue n) n a0 a1
def U_laws_eqValue : Nat → GValue → GValue → Option Bool
  | 0, _, _ => none
  | n + 1, a0, a1 => T_laws_eqValue (U_laws_eqValueS n) a0 a1
end
theorem rec_laws_eqValueS (n : Nat) : K_laws_eqValueS (U_laws_eqValueS n) ∧ K_laws_eqValue (U_laws_eqValue n) := by
  induction n with
  | zero => exact ⟨fun _ _ _ h => (by rw [U_laws_eqValueS] at h; cases h), fun _ _ _ h => (by rw [U_laws_eqValue] at h; cases h)⟩
  | succ n ih =>
    obtain ⟨ih_laws_eqValueS, ih_laws_eqValue⟩ := ih
    exact ⟨fun a0 a1 r h => g_laws_eqValueS (U_laws_eqValue n) ih_laws_eqValue n a0 a1 r (by rw [U_laws_eqValueS] at h; exact h),
      fun a0 a1 r h => g_laws_eqValue (U_laws_eqValueS n) ih_laws_eqValueS a0 a1 r (by rw [U_laws_eqValue] at h; exact h)⟩
theorem eqValueS_T {G : GValue → GValue → Option Bool} {a : List GValue} {f : Nat} (ha : a.length <= 2 ^ 40) (hf : a.length < f) (hG : ∀ v ∈ a, G v v = some true) : T_laws_eqValueS G f a a = some true := by
  have loop : ∀ (d i m : Nat), i + d = a.length → d < m → ∃ z, L_laws_eqValueS_l0 G a a m (i : Int) = some (.inr z) := by
    intro d
    induction d with
    | zero =>
      intro i m hi hm
      obtain ⟨m, rfl, _⟩ := fuel hm
      exact ⟨_, by rw [L_laws_eqValueS_l0, if_neg (by omega)]⟩
    | succ d ih =>
      intro i m hi hm
      obtain ⟨m, rfl, hm'⟩ := fuel hm
      have hil : i < a.length := by omega
      rw [L_laws_eqValueS_l0, if_pos (by omega), natO_nat, Option.bind_some, get_some hil, Option.bind_some, Option.bind_some, hG _ (List.getElem_mem hil), Option.bind_some, w64_succ (by omega)]
      exact ih (i + 1) m (by omega) (by omega)
  obtain ⟨z, hz⟩ := loop a.length 0 f (by omega) (by omega)
  rw [show ((0 : Nat) : Int) = 0 from rfl] at hz
  unfold T_laws_eqValueS
  rw [if_pos rfl, hz]; rfl
theorem eqValue_U : ∀ (N : Nat) (v : GValue), vsz v < N → vsz v <= 2 ^ 40 → ∀ f : Nat, 2 * vsz v + 3 <= f → U_laws_eqValue f v v = some true := by
  intro N
  induction N with
  | zero => intro v hv; omega
  | succ N ih =>
    intro v hv hs f hf
    obtain ⟨f, rfl, _⟩ := fuel (show 0 < f by omega)
    obtain ⟨f, rfl, _⟩ := fuel (show 0 < f by omega)
    have he := vsz_eq v
    have hl := vszs_len v.L
    rw [U_laws_eqValue]
    unfold T_laws_eqValue S_laws_eqByteS S_laws_eqByteSS
    rw [if_pos rfl, if_pos rfl, if_pos (show v.S = v.S ∧ v.S.length <= 2 ^ 40 from ⟨rfl, by omega⟩), Option.bind_some]
    dsimp only
    rw [if_pos (show v.K = v.K ∧ bsz v.K <= 2 ^ 40 from ⟨rfl, by omega⟩), Option.bind_some]
    dsimp only
    rw [U_laws_eqValueS, eqValueS_T (by omega) (by omega) fun x hx => ?_]
    · rfl
    · have := vszs_mem hx
      exact ih x (by omega) (by omega) f (by omega)
open Classical in
noncomputable def S_laws_eqValueS (a0 : (List GValue)) (a1 : (List GValue)) : Option Bool := if a0 = a1 ∧ vszs a0 <= 2 ^ 40 then some true else none
theorem spec_laws_eqValueS (a0 : (List GValue)) (a1 : (List GValue)) (r : Bool) (h : S_laws_eqValueS a0 a1 = some r) : ∃ n, U_laws_eqValueS n a0 a1 = some r := by
  unfold S_laws_eqValueS at h
  obtain ⟨⟨he, ha⟩, h2⟩ := need_c h
  clear h
  subst he
  have hl := vszs_len a0
  refine ⟨2 * vszs a0 + 5, ?_⟩
  rw [U_laws_eqValueS, eqValueS_T (by omega) (by omega) fun x hx => ?_, h2]
  have := vszs_mem hx
  exact eqValue_U _ x (Nat.lt_succ_self _) (by omega) _ (by omega)
open Classical in
noncomputable def S_laws_eqValue (a0 : GValue) (a1 : GValue) : Option Bool := if a0 = a1 ∧ vsz a0 <= 2 ^ 40 then some true else none
theorem spec_laws_eqValue (a0 : GValue) (a1 : GValue) (r : Bool) (h : S_laws_eqValue a0 a1 = some r) : ∃ n, U_laws_eqValue n a0 a1 = some r := by
  unfold S_laws_eqValue at h
  obtain ⟨⟨he, ha⟩, h2⟩ := need_c h
  clear h
  subst he
  exact ⟨2 * vsz a0 + 3, by rw [<- h2]; exact eqValue_U _ a0 (Nat.lt_succ_self _) ha _ (Nat.le_refl _)⟩
theorem ok_laws_eqValueS : K_laws_eqValueS S_laws_eqValueS := by
  intro a0 a1 r h
  obtain ⟨n, hn⟩ := spec_laws_eqValueS a0 a1 r h
  exact (rec_laws_eqValueS n).1 a0 a1 r hn
theorem ok_laws_eqValue : K_laws_eqValue S_laws_eqValue := by
  intro a0 a1 r h
  obtain ⟨n, hn⟩ := spec_laws_eqValue a0 a1 r h
  exact (rec_laws_eqValueS n).2 a0 a1 r hn
def S_laws_eqEntry (a0 : GEntry) (a1 : GEntry) : Option Bool :=
 (S_laws_eqByteS a0.Addr a1.Addr).bind fun r1 =>
 match r1 with
 | true =>
  (S_laws_eqValue a0.Val a1.Val).bind fun r2 =>
  match r2 with
  | true =>
   (S_laws_eqByteSS a0.Deps a1.Deps).bind fun r3 =>
   match r3 with
   | true =>
    if a0.Taint = true then
     if a1.Taint = true then
      if a0.Turned = a1.Turned then
       some true
      else
      some false
     else
     some false
    else
    if a1.Taint = true then
     some false
    else
    if a0.Turned = a1.Turned then
     some true
    else
    some false
   | false =>
    some false
  | false =>
   some false
 | false =>
  some false
theorem ok_laws_eqEntry (a0 : GEntry) (a1 : GEntry) : Oc (S_laws_eqEntry a0 a1) 143 [] [.val true (x_GEntry a0), .val true (x_GEntry a1)] fun r => (vb r, []) := tc (
 .cl (ok_laws_eqByteS a0.Addr a1.Addr) fun r1 =>
 .vN 0 r1 (
  .cl (ok_laws_eqValue a0.Val a1.Val) fun r2 =>
  .vN 0 r2 (
   .cl (ok_laws_eqByteSS a0.Deps a1.Deps) fun r3 =>
   .vN 0 r3 (
    .sp (a0.Taint = true) (fun c4 =>
     .sp (a1.Taint = true) (fun c5 =>
      .eb c4 c5 <|
      .eI a0.Turned a1.Turned (fun c6 =>
       .ret true) fun c6 =>
      .ret false) fun c5 =>
     .eb c4 (bF c5) <|
     .ret false) fun c4 =>
    .sp (a1.Taint = true) (fun c5 =>
     .eb (bF c4) c5 <|
     .ret false) fun c5 =>
    .eb (bF c4) (bF c5) <|
    .eI a0.Turned a1.Turned (fun c6 =>
     .ret true) fun c6 =>
    .ret false) <|
   .ret false) <|
  .ret false) <|
 .ret false) (fn_of Tryz.func143)
def K_laws_eqEntryS (F : (List GEntry) → (List GEntry) → Option Bool) : Prop := ∀ (a0 : (List GEntry)) (a1 : (List GEntry)), Oc (F a0 a1) 81 [] [vq e_GEntry a0, vq e_GEntry a1] fun r => (vb r, [])
def L_laws_eqEntryS_l0 (a0 : (List GEntry)) (a1 : (List GEntry)) : Nat → Int → Option (Bool ⊕ Int)
  | 0, _ => none
  | m + 1, v2 =>
  if v2 < ((a0.length : Nat) : Int) then
   (natO v2).bind fun i2 =>
   (a0[i2]?).bind fun x3 =>
   (a1[i2]?).bind fun x4 =>
   (S_laws_eqEntry x3 x4).bind fun r5 =>
   match r5 with
   | true =>
    L_laws_eqEntryS_l0 a0 a1 m (w64 (v2 + 1))
   | false =>
    some (.inl false)
  else
  some (.inr v2)
theorem gl_laws_eqEntryS_l0 (a0 : (List GEntry)) (a1 : (List GEntry)) (m : Nat) : ∀ (v2 : Int), Ol (L_laws_eqEntryS_l0 a0 a1 m v2) 81 (loopB Tryz.f81 0) ⟨[(0, vq e_GEntry a0), (1, vq e_GEntry a1), (5, vi v2)], [], 0⟩ fun o => match o with | .inl o_0 => (.ret, ⟨[(4, vb o_0)], [], 0⟩) | .inr (o_1) => (.exit 0, ⟨[(0, vq e_GEntry a0), (1, vq e_GEntry a1), (5, vi o_1), (14, vb false)], [], 0⟩) := by
  induction m with
  | zero => intro v2 o h; cases h
  | succ m ih => exact fun v2 => tlp (
   .le e_GEntry a0 <|
   .lI v2 ((a0.length : Nat) : Int) (fun c1 =>
    .na v2 fun i2 =>
    .ix eq_GEntry a0 i2 fun x3 =>
    .ag 1 <|
    .ix eq_GEntry a1 i2 fun x4 =>
    .cl (ok_laws_eqEntry x3 x4) fun r5 =>
    .vN 0 r5 (
     .go (ih (w64 (v2 + 1)))) <|
    .ret (.inl false)) fun c1 =>
   .ret (.inr v2))
def T_laws_eqEntryS (n : Nat) (a0 : (List GEntry)) (a1 : (List GEntry)) : Option Bool :=
 if ((a0.length : Nat) : Int) = ((a1.length : Nat) : Int) then
  (L_laws_eqEntryS_l0 a0 a1 n 0).bind fun o2 =>
  match o2 with
  | .inl o2_0 =>
   some o2_0
  | .inr (o2_1) =>
   some true
 else
 some false
theorem g_laws_eqEntryS (n : Nat) : K_laws_eqEntryS (T_laws_eqEntryS n) := fun a0 a1 => tc (
 .le e_GEntry a0 <|
 .le e_GEntry a1 <|
 .eI ((a0.length : Nat) : Int) ((a1.length : Nat) : Int) (fun c1 =>
  .l2 (gl_laws_eqEntryS_l0 a0 a1 n 0) (fun o2_0 =>
   .ret o2_0) fun o2_1 =>
  .ret true) fun c1 =>
 .ret false) (fn_of Tryz.func81)
theorem eqEntryS_loop {a : List GEntry} (ha : a.length <= 2 ^ 40) (hG : ∀ v ∈ a, S_laws_eqEntry v v = some true) : ∀ (d i m : Nat), i + d = a.length → d < m → ∃ z, L_laws_eqEntryS_l0 a a m (i : Int) = some (.inr z) := by
  intro d
  induction d with
  | zero =>
    intro i m hi hm
    obtain ⟨m, rfl, _⟩ := fuel hm
    exact ⟨_, by rw [L_laws_eqEntryS_l0, if_neg (by omega)]⟩
  | succ d ih =>
    intro i m hi hm
    obtain ⟨m, rfl, hm'⟩ := fuel hm
    have hil : i < a.length := by omega
    rw [L_laws_eqEntryS_l0, if_pos (by omega), natO_nat, Option.bind_some, get_some hil, Option.bind_some, Option.bind_some, hG _ (List.getElem_mem hil), Option.bind_some, w64_succ (by omega)]
    exact ih (i + 1) m (by omega) (by omega)
theorem eqEntry_eq {v : GEntry} (h : esz v <= 2 ^ 39) : S_laws_eqEntry v v = some true := by
  unfold esz at h
  unfold S_laws_eqEntry S_laws_eqByteS S_laws_eqValue S_laws_eqByteSS
  rw [if_pos ⟨rfl, by omega⟩, Option.bind_some]
  dsimp only
  rw [if_pos ⟨rfl, by omega⟩, Option.bind_some]
  dsimp only
  rw [if_pos ⟨rfl, by omega⟩, Option.bind_some]
  dsimp only
  rw [if_pos rfl]
  cases v.Taint <;> rfl
open Classical in
noncomputable def S_laws_eqEntryS (a0 : (List GEntry)) (a1 : (List GEntry)) : Option Bool := if a0 = a1 ∧ eszs a0 <= 2 ^ 39 then some true else none
theorem eqEntryS_eq {s : List GEntry} (h : eszs s <= 2 ^ 39) : S_laws_eqEntryS s s = some true := if_pos ⟨rfl, h⟩
theorem spec_laws_eqEntryS (a0 : (List GEntry)) (a1 : (List GEntry)) (r : Bool) (h : S_laws_eqEntryS a0 a1 = some r) : ∃ n, T_laws_eqEntryS n a0 a1 = some r := by
  unfold S_laws_eqEntryS at h
  obtain ⟨⟨he, ha⟩, h2⟩ := need_c h
  clear h
  subst he
  have hl := eszs_len a0
  refine ⟨a0.length + 1, ?_⟩
  obtain ⟨z, hz⟩ := eqEntryS_loop (a := a0) (by omega) (fun v hv => eqEntry_eq (by have := eszs_mem hv; omega)) a0.length 0 (a0.length + 1) (by omega) (by omega)
  rw [show ((0 : Nat) : Int) = 0 from rfl] at hz
  unfold T_laws_eqEntryS
  rw [if_pos rfl, hz]; exact h2
theorem ok_laws_eqEntryS : K_laws_eqEntryS S_laws_eqEntryS := fun a0 a1 r h => (spec_laws_eqEntryS a0 a1 r h).elim fun n hn => g_laws_eqEntryS n a0 a1 r hn
def S_laws_eqState (a0 : GState) (a1 : GState) : Option Bool :=
 if a0.Serial = a1.Serial then
  if a0.Open = true then
   if a1.Open = true then
    (S_laws_eqByteS a0.Pending a1.Pending).bind fun r4 =>
    match r4 with
    | true =>
     if a0.Act = a1.Act then
      (S_laws_eqEntryS a0.Entries a1.Entries).bind fun r6 =>
      match r6 with
      | true =>
       some true
      | false =>
       some false
     else
     some false
    | false =>
     some false
   else
   some false
  else
  if a1.Open = true then
   some false
  else
  (S_laws_eqByteS a0.Pending a1.Pending).bind fun r4 =>
  match r4 with
  | true =>
   if a0.Act = a1.Act then
    (S_laws_eqEntryS a0.Entries a1.Entries).bind fun r6 =>
    match r6 with
    | true =>
     some true
    | false =>
     some false
   else
   some false
  | false =>
   some false
 else
 some false
theorem ok_laws_eqState (a0 : GState) (a1 : GState) : Oc (S_laws_eqState a0 a1) 21 [] [.val true (x_GState a0), .val true (x_GState a1)] fun r => (vb r, []) := tc (
 .eI a0.Serial a1.Serial (fun c1 =>
  .sp (a0.Open = true) (fun c2 =>
   .sp (a1.Open = true) (fun c3 =>
    .eb c2 c3 <|
    .cl (ok_laws_eqByteS a0.Pending a1.Pending) fun r4 =>
    .vN 0 r4 (
     .eI a0.Act a1.Act (fun c5 =>
      .cl (ok_laws_eqEntryS a0.Entries a1.Entries) fun r6 =>
      .vN 0 r6 (
       .ret true) <|
      .ret false) fun c5 =>
     .ret false) <|
    .ret false) fun c3 =>
   .eb c2 (bF c3) <|
   .ret false) fun c2 =>
  .sp (a1.Open = true) (fun c3 =>
   .eb (bF c2) c3 <|
   .ret false) fun c3 =>
  .eb (bF c2) (bF c3) <|
  .cl (ok_laws_eqByteS a0.Pending a1.Pending) fun r4 =>
  .vN 0 r4 (
   .eI a0.Act a1.Act (fun c5 =>
    .cl (ok_laws_eqEntryS a0.Entries a1.Entries) fun r6 =>
    .vN 0 r6 (
     .ret true) <|
    .ret false) fun c5 =>
   .ret false) <|
  .ret false) fun c1 =>
 .ret false) (fn_of Tryz.func21)
def S_laws_eqEvent (a0 : GEvent) (a1 : GEvent) : Option Bool :=
 if a0.Kind = a1.Kind then
  (S_laws_eqByteS a0.Addr a1.Addr).bind fun r2 =>
  match r2 with
  | true =>
   if a0.Act = a1.Act then
    (S_laws_eqValue a0.Val a1.Val).bind fun r4 =>
    match r4 with
    | true =>
     (S_laws_eqByteSS a0.Deps a1.Deps).bind fun r5 =>
     match r5 with
     | true =>
      some true
     | false =>
      some false
    | false =>
     some false
   else
   some false
  | false =>
   some false
 else
 some false
theorem ok_laws_eqEvent (a0 : GEvent) (a1 : GEvent) : Oc (S_laws_eqEvent a0 a1) 22 [] [.val true (x_GEvent a0), .val true (x_GEvent a1)] fun r => (vb r, []) := tc (
 .eI a0.Kind a1.Kind (fun c1 =>
  .cl (ok_laws_eqByteS a0.Addr a1.Addr) fun r2 =>
  .vN 0 r2 (
   .eI a0.Act a1.Act (fun c3 =>
    .cl (ok_laws_eqValue a0.Val a1.Val) fun r4 =>
    .vN 0 r4 (
     .cl (ok_laws_eqByteSS a0.Deps a1.Deps) fun r5 =>
     .vN 0 r5 (
      .ret true) <|
     .ret false) <|
    .ret false) fun c3 =>
   .ret false) <|
  .ret false) fun c1 =>
 .ret false) (fn_of Tryz.func22)
def K_laws_eqEventS (F : (List GEvent) → (List GEvent) → Option Bool) : Prop := ∀ (a0 : (List GEvent)) (a1 : (List GEvent)), Oc (F a0 a1) 90 [] [vq e_GEvent a0, vq e_GEvent a1] fun r => (vb r, [])
def L_laws_eqEventS_l0 (a0 : (List GEvent)) (a1 : (List GEvent)) : Nat → Int → Option (Bool ⊕ Int)
  | 0, _ => none
  | m + 1, v2 =>
  if v2 < ((a0.length : Nat) : Int) then
   (natO v2).bind fun i2 =>
   (a0[i2]?).bind fun x3 =>
   (a1[i2]?).bind fun x4 =>
   (S_laws_eqEvent x3 x4).bind fun r5 =>
   match r5 with
   | true =>
    L_laws_eqEventS_l0 a0 a1 m (w64 (v2 + 1))
   | false =>
    some (.inl false)
  else
  some (.inr v2)
theorem gl_laws_eqEventS_l0 (a0 : (List GEvent)) (a1 : (List GEvent)) (m : Nat) : ∀ (v2 : Int), Ol (L_laws_eqEventS_l0 a0 a1 m v2) 90 (loopB Tryz.f90 0) ⟨[(0, vq e_GEvent a0), (1, vq e_GEvent a1), (5, vi v2)], [], 0⟩ fun o => match o with | .inl o_0 => (.ret, ⟨[(4, vb o_0)], [], 0⟩) | .inr (o_1) => (.exit 0, ⟨[(0, vq e_GEvent a0), (1, vq e_GEvent a1), (5, vi o_1), (14, vb false)], [], 0⟩) := by
  induction m with
  | zero => intro v2 o h; cases h
  | succ m ih => exact fun v2 => tlp (
   .le e_GEvent a0 <|
   .lI v2 ((a0.length : Nat) : Int) (fun c1 =>
    .na v2 fun i2 =>
    .ix eq_GEvent a0 i2 fun x3 =>
    .ag 1 <|
    .ix eq_GEvent a1 i2 fun x4 =>
    .cl (ok_laws_eqEvent x3 x4) fun r5 =>
    .vN 0 r5 (
     .go (ih (w64 (v2 + 1)))) <|
    .ret (.inl false)) fun c1 =>
   .ret (.inr v2))
def T_laws_eqEventS (n : Nat) (a0 : (List GEvent)) (a1 : (List GEvent)) : Option Bool :=
 if ((a0.length : Nat) : Int) = ((a1.length : Nat) : Int) then
  (L_laws_eqEventS_l0 a0 a1 n 0).bind fun o2 =>
  match o2 with
  | .inl o2_0 =>
   some o2_0
  | .inr (o2_1) =>
   some true
 else
 some false
theorem g_laws_eqEventS (n : Nat) : K_laws_eqEventS (T_laws_eqEventS n) := fun a0 a1 => tc (
 .le e_GEvent a0 <|
 .le e_GEvent a1 <|
 .eI ((a0.length : Nat) : Int) ((a1.length : Nat) : Int) (fun c1 =>
  .l2 (gl_laws_eqEventS_l0 a0 a1 n 0) (fun o2_0 =>
   .ret o2_0) fun o2_1 =>
  .ret true) fun c1 =>
 .ret false) (fn_of Tryz.func90)
theorem eqEventS_loop {a : List GEvent} (ha : a.length <= 2 ^ 40) (hG : ∀ v ∈ a, S_laws_eqEvent v v = some true) : ∀ (d i m : Nat), i + d = a.length → d < m → ∃ z, L_laws_eqEventS_l0 a a m (i : Int) = some (.inr z) := by
  intro d
  induction d with
  | zero =>
    intro i m hi hm
    obtain ⟨m, rfl, _⟩ := fuel hm
    exact ⟨_, by rw [L_laws_eqEventS_l0, if_neg (by omega)]⟩
  | succ d ih =>
    intro i m hi hm
    obtain ⟨m, rfl, hm'⟩ := fuel hm
    have hil : i < a.length := by omega
    rw [L_laws_eqEventS_l0, if_pos (by omega), natO_nat, Option.bind_some, get_some hil, Option.bind_some, Option.bind_some, hG _ (List.getElem_mem hil), Option.bind_some, w64_succ (by omega)]
    exact ih (i + 1) m (by omega) (by omega)
theorem eqEvent_eq {v : GEvent} (h : evsz v <= 2 ^ 39) : S_laws_eqEvent v v = some true := by
  unfold evsz at h
  unfold S_laws_eqEvent S_laws_eqByteS S_laws_eqValue S_laws_eqByteSS
  rw [if_pos rfl, if_pos ⟨rfl, by omega⟩, Option.bind_some]
  dsimp only
  rw [if_pos rfl, if_pos ⟨rfl, by omega⟩, Option.bind_some]
  dsimp only
  rw [if_pos ⟨rfl, by omega⟩, Option.bind_some]
open Classical in
noncomputable def S_laws_eqEventS (a0 : (List GEvent)) (a1 : (List GEvent)) : Option Bool := if a0 = a1 ∧ evszs a0 <= 2 ^ 39 then some true else none
theorem eqEventS_eq {s : List GEvent} (h : evszs s <= 2 ^ 39) : S_laws_eqEventS s s = some true := if_pos ⟨rfl, h⟩
theorem spec_laws_eqEventS (a0 : (List GEvent)) (a1 : (List GEvent)) (r : Bool) (h : S_laws_eqEventS a0 a1 = some r) : ∃ n, T_laws_eqEventS n a0 a1 = some r := by
  unfold S_laws_eqEventS at h
  obtain ⟨⟨he, ha⟩, h2⟩ := need_c h
  clear h
  subst he
  have hl := evszs_len a0
  refine ⟨a0.length + 1, ?_⟩
  obtain ⟨z, hz⟩ := eqEventS_loop (a := a0) (by omega) (fun v hv => eqEvent_eq (by have := evszs_mem hv; omega)) a0.length 0 (a0.length + 1) (by omega) (by omega)
  rw [show ((0 : Nat) : Int) = 0 from rfl] at hz
  unfold T_laws_eqEventS
  rw [if_pos rfl, hz]; exact h2
theorem ok_laws_eqEventS : K_laws_eqEventS S_laws_eqEventS := fun a0 a1 r h => (spec_laws_eqEventS a0 a1 r h).elim fun n hn => g_laws_eqEventS n a0 a1 r hn
def S_laws_eqHistory (a0 : GHistory) (a1 : GHistory) : Option Bool :=
 (S_laws_eqState a0.Base a1.Base).bind fun r1 =>
 match r1 with
 | true =>
  (S_laws_eqEventS a0.Events a1.Events).bind fun r2 =>
  match r2 with
  | true =>
   if a0.Safe = a1.Safe then
    some true
   else
   some false
  | false =>
   some false
 | false =>
  some false
theorem ok_laws_eqHistory (a0 : GHistory) (a1 : GHistory) : Oc (S_laws_eqHistory a0 a1) 30 [] [.val true (x_GHistory a0), .val true (x_GHistory a1)] fun r => (vb r, []) := tc (
 .cl (ok_laws_eqState a0.Base a1.Base) fun r1 =>
 .vN 0 r1 (
  .cl (ok_laws_eqEventS a0.Events a1.Events) fun r2 =>
  .vN 0 r2 (
   .eI a0.Safe a1.Safe (fun c3 =>
    .ret true) fun c3 =>
   .ret false) <|
  .ret false) <|
 .ret false) (fn_of Tryz.func30)
def S_laws_FnExactHistOk (a0 : GHistory) : Option Bool :=
 (S_laws_szHistory a0 1048576).bind fun r1 =>
 if r1 < 0 then
  some true
 else
 (S_laws_toHistory a0).bind fun r3 =>
 (S_spec_HistOk r3).bind fun r4 =>
 (S_impl_HistOk r3).bind fun r5 =>
 if r5 = true then
  if r4 = true then
   (S_laws_eqHistory r3 r3).bind fun r8 =>
   match r8 with
   | true =>
    some true
   | false =>
    none
  else
  none
 else
 if r4 = true then
  none
 else
 (S_laws_eqHistory r3 r3).bind fun r8 =>
 match r8 with
 | true =>
  some true
 | false =>
  none
theorem ok_laws_FnExactHistOk (a0 : GHistory) : Oc (S_laws_FnExactHistOk a0) 4 [] [.val true (x_GHistory a0)] fun r => (vb r, []) := tc (
 .cl (ok_laws_szHistory a0 1048576) fun r1 =>
 .lI r1 0 (fun c2 =>
  .ret true) fun c2 =>
 .cl (ok_laws_toHistory a0) fun r3 =>
 .vw E_u8 r3.Base.Pending <|
 .vo O_GEntry r3.Base.Entries <|
 .vo O_GEvent r3.Events <|
 .cl (ok_spec_HistOk r3) fun r4 =>
 .ag 1 <|
 .vw E_u8 r3.Base.Pending <|
 .vo O_GEntry r3.Base.Entries <|
 .vo O_GEvent r3.Events <|
 .cl (ok_impl_HistOk r3) fun r5 =>
 .sp (r5 = true) (fun c6 =>
  .sp (r4 = true) (fun c7 =>
   .eb c6 c7 <|
   .ag 2 <|
   .vw E_u8 r3.Base.Pending <|
   .vo O_GEntry r3.Base.Entries <|
   .vo O_GEvent r3.Events <|
   .vw E_u8 r3.Base.Pending <|
   .vo O_GEntry r3.Base.Entries <|
   .vo O_GEvent r3.Events <|
   .cl (ok_laws_eqHistory r3 r3) fun r8 =>
   .vN 0 r8 (
    .ret true) <|
   .no) fun c7 =>
  .no) fun c6 =>
 .sp (r4 = true) (fun c7 =>
  .no) fun c7 =>
 .eb (bF c6) (bF c7) <|
 .ag 2 <|
 .vw E_u8 r3.Base.Pending <|
 .vo O_GEntry r3.Base.Entries <|
 .vo O_GEvent r3.Events <|
 .vw E_u8 r3.Base.Pending <|
 .vo O_GEntry r3.Base.Entries <|
 .vo O_GEvent r3.Events <|
 .cl (ok_laws_eqHistory r3 r3) fun r8 =>
 .vN 0 r8 (
  .ret true) <|
 .no) (fn_of Tryz.func4)
end
end Go.Am.Try
