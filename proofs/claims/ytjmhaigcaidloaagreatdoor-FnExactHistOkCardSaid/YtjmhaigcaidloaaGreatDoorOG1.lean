
/- The functions of the program in plain Lean, and that the machine answers as they do; conditions at each theorem. -/
import Derived.Test.YtjmhaigcaidloaaGreatDoorOP1
set_option linter.unusedVariables false
set_option linter.unusedSimpArgs false
namespace Go.Am.Try
open Go.Am Go.Proofs
set_option linter.unusedVariables false
set_option maxRecDepth 20000
set_option maxHeartbeats 2000000
noncomputable section
def S_laws_szByteS (a0 : (List UInt8)) (a1 : Int) : Option Int :=
 if (w64 (a1 - ((a0.length : Nat) : Int))) < 0 then
  some (-1)
 else
 some (w64 (a1 - ((a0.length : Nat) : Int)))
theorem ok_laws_szByteS (a0 : (List UInt8)) (a1 : Int) : Oc (S_laws_szByteS a0 a1) 66 [] [vq e_u8 a0, vi a1] fun r => (vi r, []) := tc (
 .le e_u8 a0 <|
 .lI (w64 (a1 - ((a0.length : Nat) : Int))) 0 (fun c1 =>
  .ret (-1)) fun c1 =>
 .ret (w64 (a1 - ((a0.length : Nat) : Int)))) (fn_of Tryz.func66)
def K_laws_szByteSS (F : (List (List UInt8)) → Int → Option Int) : Prop := ∀ (a0 : (List (List UInt8))) (a1 : Int), Oc (F a0 a1) 69 [] [vq (e_sl e_u8) a0, vi a1] fun r => (vi r, [])
def L_laws_szByteSS_l0 (a0 : (List (List UInt8))) : Nat → Int → Int → Option (Int ⊕ (Int × Int))
  | 0, _, _ => none
  | m + 1, v1, v2 =>
  if v2 < ((a0.length : Nat) : Int) then
   (natO v2).bind fun i2 =>
   (a0[i2]?).bind fun x3 =>
   (S_laws_szByteS x3 v1).bind fun r4 =>
   if r4 < 0 then
    some (.inl (-1))
   else
   L_laws_szByteSS_l0 a0 m r4 (w64 (v2 + 1))
  else
  some (.inr (v1, v2))
theorem gl_laws_szByteSS_l0 (a0 : (List (List UInt8))) (m : Nat) : ∀ (v1 : Int) (v2 : Int), Ol (L_laws_szByteSS_l0 a0 m v1 v2) 69 (loopB Tryz.f69 0) ⟨[(0, vq (e_sl e_u8) a0), (1, vi v1), (5, vi v2)], [], 0⟩ fun o => match o with | .inl o_0 => (.ret, ⟨[(4, vi o_0)], [], 0⟩) | .inr (⟨o_1_0, o_1_1⟩) => (.exit 0, ⟨[(0, vq (e_sl e_u8) a0), (1, vi o_1_0), (5, vi o_1_1), (15, vb false)], [], 0⟩) := by
  induction m with
  | zero => intro v1 v2 o h; cases h
  | succ m ih => exact fun v1 v2 => tlp (
   .le (e_sl e_u8) a0 <|
   .lI v2 ((a0.length : Nat) : Int) (fun c1 =>
    .na v2 fun i2 =>
    .ix0 (e_sl e_u8) a0 i2 fun x3 =>
    .cl (ok_laws_szByteS x3 v1) fun r4 =>
    .lI r4 0 (fun c5 =>
     .ret (.inl (-1))) fun c5 =>
    .go (ih r4 (w64 (v2 + 1)))) fun c1 =>
   .ret (.inr (v1, v2)))
def T_laws_szByteSS (n : Nat) (a0 : (List (List UInt8))) (a1 : Int) : Option Int :=
 if (w64 (a1 - ((a0.length : Nat) : Int))) < 0 then
  some (-1)
 else
 (L_laws_szByteSS_l0 a0 n (w64 (a1 - ((a0.length : Nat) : Int))) 0).bind fun o2 =>
 match o2 with
 | .inl o2_0 =>
  some o2_0
 | .inr (⟨o2_1_0, o2_1_1⟩) =>
  some o2_1_0
theorem g_laws_szByteSS (n : Nat) : K_laws_szByteSS (T_laws_szByteSS n) := fun a0 a1 => tc (
 .le (e_sl e_u8) a0 <|
 .lI (w64 (a1 - ((a0.length : Nat) : Int))) 0 (fun c1 =>
  .ret (-1)) fun c1 =>
 .l2 (gl_laws_szByteSS_l0 a0 n (w64 (a1 - ((a0.length : Nat) : Int))) 0) (fun o2_0 =>
  .ret o2_0) fun ⟨o2_1_0, o2_1_1⟩ =>
 .ret o2_1_0) (fn_of Tryz.func69)
def MdB (k : List (List UInt8)) : Prop := k.length <= 2 ^ 63 - 1 ∧ ∀ b ∈ k, b.length <= 2 ^ 63 - 1
theorem szByteS_eq {a : List UInt8} {n : Int} (h : a.length <= 2 ^ 63 - 1) (h0 : 0 <= n) (h1 : n <= 2 ^ 20) : S_laws_szByteS a n = some (if (a.length : Int) <= n then n - a.length else -1) := by
  unfold S_laws_szByteS
  rw [w64_id (by omega) (by omega)]
  by_cases hc : (a.length : Int) <= n
  · rw [if_neg (by omega), if_pos hc]
  · rw [if_pos (by omega), if_neg hc]
theorem szByteSS_loop {a : List (List UInt8)} (ha : a.length <= 2 ^ 20) (hb : ∀ b ∈ a, b.length <= 2 ^ 63 - 1) : ∀ (d i m : Nat) (r : Int), i + d = a.length → d < m → 0 <= r → r <= 2 ^ 20 →
    ∃ z, L_laws_szByteSS_l0 a m r (i : Int) = some (if (((a.drop i).map List.length).sum : Int) <= r then .inr (r - ((a.drop i).map List.length).sum, z) else .inl (-1)) := by
  intro d
  induction d with
  | zero =>
    intro i m r hi hm h0 h1
    obtain ⟨m, rfl, _⟩ := fuel hm
    refine ⟨(i : Int), ?_⟩
    rw [L_laws_szByteSS_l0, if_neg (by omega), List.drop_eq_nil_of_le (by omega)]
    rw [List.map_nil, List.sum_nil, if_pos (by simpa using h0)]; simp
  | succ d ih =>
    intro i m r hi hm h0 h1
    obtain ⟨m, rfl, hm'⟩ := fuel hm
    have hil : i < a.length := by omega
    have hx := hb a[i] (List.getElem_mem hil)
    rw [L_laws_szByteSS_l0, if_pos (by omega), natO_nat, Option.bind_some, get_some hil, Option.bind_some, szByteS_eq hx h0 h1, Option.bind_some]
    rw [drop_cons hil, List.map_cons, List.sum_cons]
    by_cases hc : ((a[i]).length : Int) <= r
    · rw [if_pos hc, if_neg (by omega), w64_succ (by omega)]
      obtain ⟨z, hz⟩ := ih (i + 1) m (r - (a[i]).length) (by omega) (by omega) (by omega) (by omega)
      refine ⟨z, ?_⟩
      rw [hz]
      by_cases hd : (((a.drop (i + 1)).map List.length).sum : Int) <= r - (a[i]).length
      · rw [if_pos hd, if_pos (by omega)]; congr 3; omega
      · rw [if_neg hd, if_neg (by omega)]
    · refine ⟨0, ?_⟩
      rw [if_neg hc, if_pos (by omega), if_neg (by omega)]
theorem szByteSS_val {a : List (List UInt8)} {n : Int} (h : MdB a ∧ 0 <= n ∧ n <= 2 ^ 20) : T_laws_szByteSS (a.length + 1) a n = some (if (bsz a : Int) <= n then n - bsz a else -1) := by
  obtain ⟨⟨ha, hb⟩, h0, h1⟩ := h
  unfold T_laws_szByteSS
  rw [w64_id (by omega) (by omega)]
  unfold bsz
  by_cases hc : (a.length : Int) <= n
  · rw [if_neg (by omega)]
    obtain ⟨z, hz⟩ := szByteSS_loop (by omega) hb a.length 0 (a.length + 1) (n - a.length) (by omega) (by omega) (by omega) (by omega)
    rw [show ((0 : Nat) : Int) = 0 from rfl] at hz
    rw [hz]
    simp only [List.drop_zero]
    by_cases hd : ((a.map List.length).sum : Int) <= n - a.length
    · rw [if_pos hd, if_pos (by omega)]
      simp only [Option.bind_some]; congr 1; omega
    · rw [if_neg hd, if_neg (by omega)]; rfl
  · rw [if_pos (by omega), if_neg (by omega)]
open Classical in
noncomputable def S_laws_szByteSS (a0 : (List (List UInt8))) (a1 : Int) : Option Int := if MdB a0 ∧ 0 <= a1 ∧ a1 <= 2 ^ 20 then some (if (bsz a0 : Int) <= a1 then a1 - bsz a0 else -1) else none
theorem spec_laws_szByteSS (a0 : (List (List UInt8))) (a1 : Int) (r : Int) (h : S_laws_szByteSS a0 a1 = some r) : ∃ n, T_laws_szByteSS n a0 a1 = some r := by
  unfold S_laws_szByteSS at h
  obtain ⟨hp, h⟩ := need_c h
  exact ⟨_, by rw [<- h]; exact szByteSS_val hp⟩
theorem ok_laws_szByteSS : K_laws_szByteSS S_laws_szByteSS := fun a0 a1 r h => (spec_laws_szByteSS a0 a1 r h).elim fun n hn => g_laws_szByteSS n a0 a1 r hn
def K_laws_szValueS (F : (List GValue) → Int → Option Int) : Prop := ∀ (a0 : (List GValue)) (a1 : Int), Oc (F a0 a1) 123 [] [vq e_GValue a0, vi a1] fun r => (vi r, [])
def K_laws_szValue (F : GValue → Int → Option Int) : Prop := ∀ (a0 : GValue) (a1 : Int), Oc (F a0 a1) 68 [] [.val true (x_GValue a0), vi a1] fun r => (vi r, [])
def L_laws_szValueS_l0 (G_laws_szValue : GValue → Int → Option Int) (a0 : (List GValue)) : Nat → Int → Int → Option (Int ⊕ (Int × Int))
  | 0, _, _ => none
  | m + 1, v1, v2 =>
  if v2 < ((a0.length : Nat) : Int) then
   (natO v2).bind fun i2 =>
   (a0[i2]?).bind fun x3 =>
   (G_laws_szValue x3 v1).bind fun r4 =>
   if r4 < 0 then
    some (.inl (-1))
   else
   L_laws_szValueS_l0 G_laws_szValue a0 m r4 (w64 (v2 + 1))
  else
  some (.inr (v1, v2))
theorem gl_laws_szValueS_l0 (G_laws_szValue : GValue → Int → Option Int) (H_laws_szValue : K_laws_szValue G_laws_szValue) (a0 : (List GValue)) (m : Nat) : ∀ (v1 : Int) (v2 : Int), Ol (L_laws_szValueS_l0 G_laws_szValue a0 m v1 v2) 123 (loopB Tryz.f123 0) ⟨[(0, vq e_GValue a0), (1, vi v1), (5, vi v2)], [], 0⟩ fun o => match o with | .inl o_0 => (.ret, ⟨[(4, vi o_0)], [], 0⟩) | .inr (⟨o_1_0, o_1_1⟩) => (.exit 0, ⟨[(0, vq e_GValue a0), (1, vi o_1_0), (5, vi o_1_1), (15, vb false)], [], 0⟩) := by
  induction m with
  | zero => intro v1 v2 o h; cases h
  | succ m ih => exact fun v1 v2 => tlp (
   .le e_GValue a0 <|
   .lI v2 ((a0.length : Nat) : Int) (fun c1 =>
    .na v2 fun i2 =>
    .ix eq_GValue a0 i2 fun x3 =>
    .cl (H_laws_szValue x3 v1) fun r4 =>
    .lI r4 0 (fun c5 =>
     .ret (.inl (-1))) fun c5 =>
    .go (ih r4 (w64 (v2 + 1)))) fun c1 =>
   .ret (.inr (v1, v2)))
def T_laws_szValueS (G_laws_szValue : GValue → Int → Option Int) (n : Nat) (a0 : (List GValue)) (a1 : Int) : Option Int :=
 if (w64 (a1 - ((a0.length : Nat) : Int))) < 0 then
  some (-1)
 else
 (L_laws_szValueS_l0 G_laws_szValue a0 n (w64 (a1 - ((a0.length : Nat) : Int))) 0).bind fun o2 =>
 match o2 with
 | .inl o2_0 =>
  some o2_0
 | .inr (⟨o2_1_0, o2_1_1⟩) =>
  some o2_1_0
theorem g_laws_szValueS (G_laws_szValue : GValue → Int → Option Int) (H_laws_szValue : K_laws_szValue G_laws_szValue) (n : Nat) : K_laws_szValueS (T_laws_szValueS G_laws_szValue n) := fun a0 a1 => tc (
 .le e_GValue a0 <|
 .lI (w64 (a1 - ((a0.length : Nat) : Int))) 0 (fun c1 =>
  .ret (-1)) fun c1 =>
 .l2 (gl_laws_szValueS_l0 G_laws_szValue H_laws_szValue a0 n (w64 (a1 - ((a0.length : Nat) : Int))) 0) (fun o2_0 =>
  .ret o2_0) fun ⟨o2_1_0, o2_1_1⟩ =>
 .ret o2_1_0) (fn_of Tryz.func123)
def T_laws_szValue (G_laws_szValueS : (List GValue) → Int → Option Int) (a0 : GValue) (a1 : Int) : Option Int :=
 (S_laws_szByteS a0.S a1).bind fun r1 =>
 if r1 < 0 then
  some (-1)
 else
 (S_laws_szByteSS a0.K r1).bind fun r3 =>
 if r3 < 0 then
  some (-1)
 else
 (G_laws_szValueS a0.L r3).bind fun r5 =>
 if r5 < 0 then
  some (-1)
 else
 some r5
theorem g_laws_szValue (G_laws_szValueS : (List GValue) → Int → Option Int) (H_laws_szValueS : K_laws_szValueS G_laws_szValueS) : K_laws_szValue (T_laws_szValue G_laws_szValueS) := fun a0 a1 => tc (
 .cl (ok_laws_szByteS a0.S a1) fun r1 =>
 .lI r1 0 (fun c2 =>
  .ret (-1)) fun c2 =>
 .cl (ok_laws_szByteSS a0.K r1) fun r3 =>
 .lI r3 0 (fun c4 =>
  .ret (-1)) fun c4 =>
 .cl (H_laws_szValueS a0.L r3) fun r5 =>
 .lI r5 0 (fun c6 =>
  .ret (-1)) fun c6 =>
 .ret r5) (fn_of Tryz.func68)
mutual
def U_laws_szValueS : Nat → (List GValue) → Int → Option Int
  | 0, _, _ => none
  | n + 1, a0, a1 => T_laws_szValueS (U_laws_szValue n) n a0 a1
def U_laws_szValue : Nat → GValue → Int → Option Int
  | 0, _, _ => none
  | n + 1, a0, a1 => T_laws_szValue (U_laws_szValueS n) a0 a1
end
theorem rec_laws_szValueS (n : Nat) : K_laws_szValueS (U_laws_szValueS n) ∧ K_laws_szValue (U_laws_szValue n) := by
  induction n with
  | zero => exact ⟨fun _ _ _ h => (by rw [U_laws_szValueS] at h; cases h), fun _ _ _ h => (by rw [U_laws_szValue] at h; cases h)⟩
  | succ n ih =>
    obtain ⟨ih_laws_szValueS, ih_laws_szValue⟩ := ih
    exact ⟨fun a0 a1 r h => g_laws_szValueS (U_laws_szValue n) ih_laws_szValue n a0 a1 r (by rw [U_laws_szValueS] at h; exact h),
      fun a0 a1 r h => g_laws_szValue (U_laws_szValueS n) ih_laws_szValueS a0 a1 r (by rw [U_laws_szValue] at h; exact h)⟩
mutual
def MdV : GValue → Prop
  | .mk _ _ s k l => s.length <= 2 ^ 63 - 1 ∧ MdB k ∧ l.length <= 2 ^ 63 - 1 ∧ MdVs l
def MdVs : List GValue → Prop
  | [] => True
  | v :: l => MdV v ∧ MdVs l
end
theorem MdVs_mem {l : List GValue} (h : MdVs l) {v : GValue} (hv : v ∈ l) : MdV v := by
  induction l with
  | nil => cases hv
  | cons x l ih =>
    simp only [MdVs] at h
    rcases List.mem_cons.1 hv with rfl | hv
    · exact h.1
    · exact ih h.2 hv
theorem MdV_eq (v : GValue) : MdV v = (v.S.length <= 2 ^ 63 - 1 ∧ MdB v.K ∧ v.L.length <= 2 ^ 63 - 1 ∧ MdVs v.L) := by cases v; simp only [MdV, GValue.S, GValue.K, GValue.L]
def vin (l : List GValue) : Nat := (l.map vsz).sum
theorem vszs_vin (l : List GValue) : vszs l = l.length + vin l := by
  unfold vin
  induction l with
  | nil => rfl
  | cons v l ih => simp only [vszs, ih, List.length_cons, List.map_cons, List.sum_cons]; omega
theorem szValueS_loop {G : GValue → Int → Option Int} {a : List GValue} (ha : a.length <= 2 ^ 20) (hG : ∀ v ∈ a, ∀ n : Int, 0 <= n → n <= 2 ^ 20 → G v n = some (leftV (vsz v) n)) : ∀ (d i m : Nat) (r : Int), i + d = a.length → d < m → 0 <= r → r <= 2 ^ 20 →
    ∃ z, L_laws_szValueS_l0 G a m r (i : Int) = some (if (vin (a.drop i) : Int) <= r then .inr (r - vin (a.drop i), z) else .inl (-1)) := by
  intro d
  induction d with
  | zero =>
    intro i m r hi hm h0 h1
    obtain ⟨m, rfl, _⟩ := fuel hm
    refine ⟨(i : Int), ?_⟩
    rw [L_laws_szValueS_l0, if_neg (by omega), List.drop_eq_nil_of_le (by omega)]
    simp only [vin, List.map_nil, List.sum_nil]
    rw [if_pos (by simpa using h0)]; simp
  | succ d ih =>
    intro i m r hi hm h0 h1
    obtain ⟨m, rfl, hm'⟩ := fuel hm
    have hil : i < a.length := by omega
    rw [L_laws_szValueS_l0, if_pos (by omega), natO_nat, Option.bind_some, get_some hil, Option.bind_some, hG _ (List.getElem_mem hil) r h0 h1, Option.bind_some]
    have hv : vin (a.drop i) = vsz a[i] + vin (a.drop (i + 1)) := by simp only [vin, drop_cons hil, List.map_cons, List.sum_cons]
    rw [hv]
    unfold leftV
    by_cases hc : (vsz a[i] : Int) <= r
    · rw [if_pos hc, if_neg (by omega), w64_succ (by omega)]
      obtain ⟨z, hz⟩ := ih (i + 1) m (r - vsz a[i]) (by omega) (by omega) (by omega) (by omega)
      refine ⟨z, ?_⟩
      rw [hz]
      by_cases hd : (vin (a.drop (i + 1)) : Int) <= r - vsz a[i]
      · rw [if_pos hd, if_pos (by omega)]; congr 3; omega
      · rw [if_neg hd, if_neg (by omega)]
    · refine ⟨0, ?_⟩
      rw [if_neg hc, if_pos (by omega), if_neg (by omega)]
theorem szValueS_T {G : GValue → Int → Option Int} {a : List GValue} {f : Nat} {n : Int} (ha : a.length <= 2 ^ 63 - 1) (h0 : 0 <= n) (h1 : n <= 2 ^ 20) (hf : a.length < f ∨ n < a.length) (hG : ∀ v ∈ a, ∀ n : Int, 0 <= n → n <= 2 ^ 20 → G v n = some (leftV (vsz v) n)) :
    T_laws_szValueS G f a n = some (leftV (vszs a) n) := by
  unfold T_laws_szValueS
  rw [w64_id (by omega) (by omega), vszs_vin]
  unfold leftV
  by_cases hc : (a.length : Int) <= n
  · rw [if_neg (by omega)]
    obtain ⟨z, hz⟩ := szValueS_loop (G := G) (by omega) hG a.length 0 f (n - a.length) (by omega) (by omega) (by omega) (by omega)
    rw [show ((0 : Nat) : Int) = 0 from rfl] at hz
    rw [hz]
    simp only [List.drop_zero]
    by_cases hd : (vin a : Int) <= n - a.length
    · rw [if_pos hd, if_pos (by omega)]
      simp only [Option.bind_some]; congr 1; omega
    · rw [if_neg hd, if_neg (by omega)]; rfl
  · rw [if_pos (by omega), if_neg (by omega)]
theorem szValue_U : ∀ (N : Nat) (v : GValue), vsz v < N → MdV v → ∀ (f : Nat) (n : Int), 2 * vsz v + 3 <= f → 0 <= n → n <= 2 ^ 20 → U_laws_szValue f v n = some (leftV (vsz v) n) := by
  intro N
  induction N with
  | zero => intro v hv; omega
  | succ N ih =>
    intro v hv hmd f n hf h0 h1
    obtain ⟨f, rfl, _⟩ := fuel (show 0 < f by omega)
    rw [MdV_eq] at hmd
    have he := vsz_eq v
    have hl := vszs_len v.L
    obtain ⟨f, rfl, _⟩ := fuel (show 0 < f by omega)
    rw [U_laws_szValue]
    unfold T_laws_szValue
    rw [szByteS_eq hmd.1 h0 h1, Option.bind_some]
    unfold leftV
    by_cases c1 : (v.S.length : Int) <= n
    · rw [if_pos c1, if_neg (by omega)]
      unfold S_laws_szByteSS
      rw [if_pos ⟨hmd.2.1, by omega, by omega⟩, Option.bind_some]
      by_cases c2 : (bsz v.K : Int) <= n - v.S.length
      · rw [if_pos c2, if_neg (by omega)]
        rw [U_laws_szValueS, szValueS_T hmd.2.2.1 (by omega) (by omega) (.inl (by omega)) (fun x hx m g0 g1 => ?_), Option.bind_some]
        · unfold leftV
          by_cases c3 : (vszs v.L : Int) <= n - v.S.length - bsz v.K
          · rw [if_pos c3, if_neg (by omega), if_pos (by omega)]; congr 1; omega
          · rw [if_neg c3, if_pos (by omega), if_neg (by omega)]
        · have := vszs_mem hx
          exact ih x (by omega) (MdVs_mem hmd.2.2.2 hx) f m (by omega) g0 g1
      · rw [if_neg c2, if_pos (by omega), if_neg (by omega)]
    · rw [if_neg c1, if_pos (by omega), if_neg (by omega)]
open Classical in
noncomputable def S_laws_szValueS (a0 : (List GValue)) (a1 : Int) : Option Int := if a0.length <= 2 ^ 63 - 1 ∧ MdVs a0 ∧ 0 <= a1 ∧ a1 <= 2 ^ 20 then some (leftV (vszs a0) a1) else none
theorem spec_laws_szValueS (a0 : (List GValue)) (a1 : Int) (r : Int) (h : S_laws_szValueS a0 a1 = some r) : ∃ n, U_laws_szValueS n a0 a1 = some r := by
  unfold S_laws_szValueS at h
  obtain ⟨⟨hl, hm, h0, h1⟩, h⟩ := need_c h
  refine ⟨2 * vszs a0 + 5, ?_⟩
  have := vszs_len a0
  rw [U_laws_szValueS, szValueS_T hl h0 h1 (.inl (by omega)) fun x hx m g0 g1 => ?_, h]
  have := vszs_mem hx
  exact szValue_U _ x (Nat.lt_succ_self _) (MdVs_mem hm hx) _ m (by omega) g0 g1
open Classical in
noncomputable def S_laws_szValue (a0 : GValue) (a1 : Int) : Option Int := if MdV a0 ∧ 0 <= a1 ∧ a1 <= 2 ^ 20 then some (leftV (vsz a0) a1) else none
theorem spec_laws_szValue (a0 : GValue) (a1 : Int) (r : Int) (h : S_laws_szValue a0 a1 = some r) : ∃ n, U_laws_szValue n a0 a1 = some r := by
  unfold S_laws_szValue at h
  obtain ⟨⟨hm, h0, h1⟩, h⟩ := need_c h
  exact ⟨2 * vsz a0 + 3, by rw [<- h]; exact szValue_U _ a0 (Nat.lt_succ_self _) hm _ a1 (Nat.le_refl _) h0 h1⟩
theorem ok_laws_szValueS : K_laws_szValueS S_laws_szValueS := by
  intro a0 a1 r h
  obtain ⟨n, hn⟩ := spec_laws_szValueS a0 a1 r h
  exact (rec_laws_szValueS n).1 a0 a1 r hn
theorem ok_laws_szValue : K_laws_szValue S_laws_szValue := by
  intro a0 a1 r h
  obtain ⟨n, hn⟩ := spec_laws_szValue a0 a1 r h
  exact (rec_laws_szValueS n).2 a0 a1 r hn
def S_laws_szEntry (a0 : GEntry) (a1 : Int) : Option Int :=
 (S_laws_szByteS a0.Addr a1).bind fun r1 =>
 if r1 < 0 then
  some (-1)
 else
 (S_laws_szValue a0.Val r1).bind fun r3 =>
 if r3 < 0 then
  some (-1)
 else
 (S_laws_szByteSS a0.Deps r3).bind fun r5 =>
 if r5 < 0 then
  some (-1)
 else
 some r5
theorem ok_laws_szEntry (a0 : GEntry) (a1 : Int) : Oc (S_laws_szEntry a0 a1) 122 [] [.val true (x_GEntry a0), vi a1] fun r => (vi r, []) := tc (
 .cl (ok_laws_szByteS a0.Addr a1) fun r1 =>
 .lI r1 0 (fun c2 =>
  .ret (-1)) fun c2 =>
 .cl (ok_laws_szValue a0.Val r1) fun r3 =>
 .lI r3 0 (fun c4 =>
  .ret (-1)) fun c4 =>
 .cl (ok_laws_szByteSS a0.Deps r3) fun r5 =>
 .lI r5 0 (fun c6 =>
  .ret (-1)) fun c6 =>
 .ret r5) (fn_of Tryz.func122)
def K_laws_szEntryS (F : (List GEntry) → Int → Option Int) : Prop := ∀ (a0 : (List GEntry)) (a1 : Int), Oc (F a0 a1) 67 [] [vq e_GEntry a0, vi a1] fun r => (vi r, [])
def L_laws_szEntryS_l0 (a0 : (List GEntry)) : Nat → Int → Int → Option (Int ⊕ (Int × Int))
  | 0, _, _ => none
  | m + 1, v1, v2 =>
  if v2 < ((a0.length : Nat) : Int) then
   (natO v2).bind fun i2 =>
   (a0[i2]?).bind fun x3 =>
   (S_laws_szEntry x3 v1).bind fun r4 =>
   if r4 < 0 then
    some (.inl (-1))
   else
   L_laws_szEntryS_l0 a0 m r4 (w64 (v2 + 1))
  else
  some (.inr (v1, v2))
theorem gl_laws_szEntryS_l0 (a0 : (List GEntry)) (m : Nat) : ∀ (v1 : Int) (v2 : Int), Ol (L_laws_szEntryS_l0 a0 m v1 v2) 67 (loopB Tryz.f67 0) ⟨[(0, vq e_GEntry a0), (1, vi v1), (5, vi v2)], [], 0⟩ fun o => match o with | .inl o_0 => (.ret, ⟨[(4, vi o_0)], [], 0⟩) | .inr (⟨o_1_0, o_1_1⟩) => (.exit 0, ⟨[(0, vq e_GEntry a0), (1, vi o_1_0), (5, vi o_1_1), (15, vb false)], [], 0⟩) := by
  induction m with
  | zero => intro v1 v2 o h; cases h
  | succ m ih => exact fun v1 v2 => tlp (
   .le e_GEntry a0 <|
   .lI v2 ((a0.length : Nat) : Int) (fun c1 =>
    .na v2 fun i2 =>
    .ix eq_GEntry a0 i2 fun x3 =>
    .cl (ok_laws_szEntry x3 v1) fun r4 =>
    .lI r4 0 (fun c5 =>
     .ret (.inl (-1))) fun c5 =>
    .go (ih r4 (w64 (v2 + 1)))) fun c1 =>
   .ret (.inr (v1, v2)))
def T_laws_szEntryS (n : Nat) (a0 : (List GEntry)) (a1 : Int) : Option Int :=
 if (w64 (a1 - ((a0.length : Nat) : Int))) < 0 then
  some (-1)
 else
 (L_laws_szEntryS_l0 a0 n (w64 (a1 - ((a0.length : Nat) : Int))) 0).bind fun o2 =>
 match o2 with
 | .inl o2_0 =>
  some o2_0
 | .inr (⟨o2_1_0, o2_1_1⟩) =>
  some o2_1_0
theorem g_laws_szEntryS (n : Nat) : K_laws_szEntryS (T_laws_szEntryS n) := fun a0 a1 => tc (
 .le e_GEntry a0 <|
 .lI (w64 (a1 - ((a0.length : Nat) : Int))) 0 (fun c1 =>
  .ret (-1)) fun c1 =>
 .l2 (gl_laws_szEntryS_l0 a0 n (w64 (a1 - ((a0.length : Nat) : Int))) 0) (fun o2_0 =>
  .ret o2_0) fun ⟨o2_1_0, o2_1_1⟩ =>
 .ret o2_1_0) (fn_of Tryz.func67)
def MdEn (e : GEntry) : Prop := e.Addr.length <= 2 ^ 63 - 1 ∧ MdV e.Val ∧ MdB e.Deps
def MdEns : List GEntry → Prop
  | [] => True
  | v :: l => MdEn v ∧ MdEns l
theorem MdEns_mem {l : List GEntry} (h : MdEns l) {v : GEntry} (hv : v ∈ l) : MdEn v := by
  induction l with
  | nil => cases hv
  | cons x l ih =>
    simp only [MdEns] at h
    rcases List.mem_cons.1 hv with rfl | hv
    · exact h.1
    · exact ih h.2 hv
def eszin (l : List GEntry) : Nat := (l.map esz).sum
theorem eszs_in (l : List GEntry) : eszs l = l.length + eszin l := by
  unfold eszin
  induction l with
  | nil => rfl
  | cons v l ih => simp only [eszs, ih, List.length_cons, List.map_cons, List.sum_cons]; omega
theorem szEntryS_loop {a : List GEntry} (ha : a.length <= 2 ^ 20) (hG : ∀ v ∈ a, ∀ n : Int, 0 <= n → n <= 2 ^ 20 → S_laws_szEntry v n = some (leftV (esz v) n)) : ∀ (d i m : Nat) (r : Int), i + d = a.length → d < m → 0 <= r → r <= 2 ^ 20 →
    ∃ z, L_laws_szEntryS_l0 a m r (i : Int) = some (if (eszin (a.drop i) : Int) <= r then .inr (r - eszin (a.drop i), z) else .inl (-1)) := by
  intro d
  induction d with
  | zero =>
    intro i m r hi hm h0 h1
    obtain ⟨m, rfl, _⟩ := fuel hm
    refine ⟨(i : Int), ?_⟩
    rw [L_laws_szEntryS_l0, if_neg (by omega), List.drop_eq_nil_of_le (by omega)]
    simp only [eszin, List.map_nil, List.sum_nil]
    rw [if_pos (by simpa using h0)]; simp
  | succ d ih =>
    intro i m r hi hm h0 h1
    obtain ⟨m, rfl, hm'⟩ := fuel hm
    have hil : i < a.length := by omega
    rw [L_laws_szEntryS_l0, if_pos (by omega), natO_nat, Option.bind_some, get_some hil, Option.bind_some, hG _ (List.getElem_mem hil) r h0 h1, Option.bind_some]
    have hv : eszin (a.drop i) = esz a[i] + eszin (a.drop (i + 1)) := by simp only [eszin, drop_cons hil, List.map_cons, List.sum_cons]
    rw [hv]
    unfold leftV
    by_cases hc : (esz a[i] : Int) <= r
    · rw [if_pos hc, if_neg (by omega), w64_succ (by omega)]
      obtain ⟨z, hz⟩ := ih (i + 1) m (r - esz a[i]) (by omega) (by omega) (by omega) (by omega)
      refine ⟨z, ?_⟩
      rw [hz]
      by_cases hd : (eszin (a.drop (i + 1)) : Int) <= r - esz a[i]
      · rw [if_pos hd, if_pos (by omega)]; congr 3; omega
      · rw [if_neg hd, if_neg (by omega)]
    · refine ⟨0, ?_⟩
      rw [if_neg hc, if_pos (by omega), if_neg (by omega)]
theorem szEntry_eq {v : GEntry} {n : Int} (h : MdEn v) (h0 : 0 <= n) (h1 : n <= 2 ^ 20) : S_laws_szEntry v n = some (leftV (esz v) n) := by
  unfold S_laws_szEntry
  rw [szByteS_eq h.1 h0 h1, Option.bind_some]
  unfold leftV esz
  by_cases c1 : (v.Addr.length : Int) <= n
  · rw [if_pos c1, if_neg (by omega)]
    unfold S_laws_szValue
    rw [if_pos ⟨h.2.1, by omega, by omega⟩, Option.bind_some]
    unfold leftV
    by_cases c2 : (vsz v.Val : Int) <= n - v.Addr.length
    · rw [if_pos c2, if_neg (by omega)]
      unfold S_laws_szByteSS
      rw [if_pos ⟨h.2.2, by omega, by omega⟩, Option.bind_some]
      by_cases c3 : (bsz v.Deps : Int) <= n - v.Addr.length - vsz v.Val
      · rw [if_pos c3, if_neg (by omega), if_pos (by omega)]; congr 1; omega
      · rw [if_neg c3, if_pos (by omega), if_neg (by omega)]
    · rw [if_neg c2, if_pos (by omega), if_neg (by omega)]
  · rw [if_neg c1, if_pos (by omega), if_neg (by omega)]
open Classical in
noncomputable def S_laws_szEntryS (a0 : (List GEntry)) (a1 : Int) : Option Int := if a0.length <= 2 ^ 63 - 1 ∧ MdEns a0 ∧ 0 <= a1 ∧ a1 <= 2 ^ 20 then some (leftV (eszs a0) a1) else none
theorem spec_laws_szEntryS (a0 : (List GEntry)) (a1 : Int) (r : Int) (h : S_laws_szEntryS a0 a1 = some r) : ∃ n, T_laws_szEntryS n a0 a1 = some r := by
  unfold S_laws_szEntryS at h
  obtain ⟨⟨hl, hm, h0, h1⟩, h⟩ := need_c h
  refine ⟨a0.length + 5, ?_⟩
  unfold T_laws_szEntryS
  rw [<- h, w64_id (by omega) (by omega), eszs_in]
  unfold leftV
  by_cases hc : (a0.length : Int) <= a1
  · rw [if_neg (by omega)]
    obtain ⟨z, hz⟩ := szEntryS_loop (a := a0) (by omega) (fun v hv n h0 h1 => szEntry_eq (MdEns_mem hm hv) h0 h1) a0.length 0 (a0.length + 5) (a1 - a0.length) (by omega) (by omega) (by omega) (by omega)
    rw [show ((0 : Nat) : Int) = 0 from rfl] at hz
    rw [hz]
    simp only [List.drop_zero]
    by_cases hd : (eszin a0 : Int) <= a1 - a0.length
    · rw [if_pos hd, if_pos (by omega)]
      simp only [Option.bind_some]; congr 1; omega
    · rw [if_neg hd, if_neg (by omega)]; rfl
  · rw [if_pos (by omega), if_neg (by omega)]
theorem ok_laws_szEntryS : K_laws_szEntryS S_laws_szEntryS := fun a0 a1 r h => (spec_laws_szEntryS a0 a1 r h).elim fun n hn => g_laws_szEntryS n a0 a1 r hn
def S_laws_szState (a0 : GState) (a1 : Int) : Option Int :=
 (S_laws_szByteS a0.Pending a1).bind fun r1 =>
 if r1 < 0 then
  some (-1)
 else
 (S_laws_szEntryS a0.Entries r1).bind fun r3 =>
 if r3 < 0 then
  some (-1)
 else
 some r3
theorem ok_laws_szState (a0 : GState) (a1 : Int) : Oc (S_laws_szState a0 a1) 15 [] [.val true (x_GState a0), vi a1] fun r => (vi r, []) := tc (
 .cl (ok_laws_szByteS a0.Pending a1) fun r1 =>
 .lI r1 0 (fun c2 =>
  .ret (-1)) fun c2 =>
 .cl (ok_laws_szEntryS a0.Entries r1) fun r3 =>
 .lI r3 0 (fun c4 =>
  .ret (-1)) fun c4 =>
 .ret r3) (fn_of Tryz.func15)
def S_laws_szEvent (a0 : GEvent) (a1 : Int) : Option Int :=
 (S_laws_szByteS a0.Addr a1).bind fun r1 =>
 if r1 < 0 then
  some (-1)
 else
 (S_laws_szValue a0.Val r1).bind fun r3 =>
 if r3 < 0 then
  some (-1)
 else
 (S_laws_szByteSS a0.Deps r3).bind fun r5 =>
 if r5 < 0 then
  some (-1)
 else
 some r5
theorem ok_laws_szEvent (a0 : GEvent) (a1 : Int) : Oc (S_laws_szEvent a0 a1) 16 [] [.val true (x_GEvent a0), vi a1] fun r => (vi r, []) := tc (
 .cl (ok_laws_szByteS a0.Addr a1) fun r1 =>
 .lI r1 0 (fun c2 =>
  .ret (-1)) fun c2 =>
 .cl (ok_laws_szValue a0.Val r1) fun r3 =>
 .lI r3 0 (fun c4 =>
  .ret (-1)) fun c4 =>
 .cl (ok_laws_szByteSS a0.Deps r3) fun r5 =>
 .lI r5 0 (fun c6 =>
  .ret (-1)) fun c6 =>
 .ret r5) (fn_of Tryz.func16)
def K_laws_szEventS (F : (List GEvent) → Int → Option Int) : Prop := ∀ (a0 : (List GEvent)) (a1 : Int), Oc (F a0 a1) 86 [] [vq e_GEvent a0, vi a1] fun r => (vi r, [])
def L_laws_szEventS_l0 (a0 : (List GEvent)) : Nat → Int → Int → Option (Int ⊕ (Int × Int))
  | 0, _, _ => none
  | m + 1, v1, v2 =>
  if v2 < ((a0.length : Nat) : Int) then
   (natO v2).bind fun i2 =>
   (a0[i2]?).bind fun x3 =>
   (S_laws_szEvent x3 v1).bind fun r4 =>
   if r4 < 0 then
    some (.inl (-1))
   else
   L_laws_szEventS_l0 a0 m r4 (w64 (v2 + 1))
  else
  some (.inr (v1, v2))
theorem gl_laws_szEventS_l0 (a0 : (List GEvent)) (m : Nat) : ∀ (v1 : Int) (v2 : Int), Ol (L_laws_szEventS_l0 a0 m v1 v2) 86 (loopB Tryz.f86 0) ⟨[(0, vq e_GEvent a0), (1, vi v1), (5, vi v2)], [], 0⟩ fun o => match o with | .inl o_0 => (.ret, ⟨[(4, vi o_0)], [], 0⟩) | .inr (⟨o_1_0, o_1_1⟩) => (.exit 0, ⟨[(0, vq e_GEvent a0), (1, vi o_1_0), (5, vi o_1_1), (15, vb false)], [], 0⟩) := by
  induction m with
  | zero => intro v1 v2 o h; cases h
  | succ m ih => exact fun v1 v2 => tlp (
   .le e_GEvent a0 <|
   .lI v2 ((a0.length : Nat) : Int) (fun c1 =>
    .na v2 fun i2 =>
    .ix eq_GEvent a0 i2 fun x3 =>
    .cl (ok_laws_szEvent x3 v1) fun r4 =>
    .lI r4 0 (fun c5 =>
     .ret (.inl (-1))) fun c5 =>
    .go (ih r4 (w64 (v2 + 1)))) fun c1 =>
   .ret (.inr (v1, v2)))
def T_laws_szEventS (n : Nat) (a0 : (List GEvent)) (a1 : Int) : Option Int :=
 if (w64 (a1 - ((a0.length : Nat) : Int))) < 0 then
  some (-1)
 else
 (L_laws_szEventS_l0 a0 n (w64 (a1 - ((a0.length : Nat) : Int))) 0).bind fun o2 =>
 match o2 with
 | .inl o2_0 =>
  some o2_0
 | .inr (⟨o2_1_0, o2_1_1⟩) =>
  some o2_1_0
theorem g_laws_szEventS (n : Nat) : K_laws_szEventS (T_laws_szEventS n) := fun a0 a1 => tc (
 .le e_GEvent a0 <|
 .lI (w64 (a1 - ((a0.length : Nat) : Int))) 0 (fun c1 =>
  .ret (-1)) fun c1 =>
 .l2 (gl_laws_szEventS_l0 a0 n (w64 (a1 - ((a0.length : Nat) : Int))) 0) (fun o2_0 =>
  .ret o2_0) fun ⟨o2_1_0, o2_1_1⟩ =>
 .ret o2_1_0) (fn_of Tryz.func86)
def MdEv (e : GEvent) : Prop := e.Addr.length <= 2 ^ 63 - 1 ∧ MdV e.Val ∧ MdB e.Deps
def MdEvs : List GEvent → Prop
  | [] => True
  | v :: l => MdEv v ∧ MdEvs l
theorem MdEvs_mem {l : List GEvent} (h : MdEvs l) {v : GEvent} (hv : v ∈ l) : MdEv v := by
  induction l with
  | nil => cases hv
  | cons x l ih =>
    simp only [MdEvs] at h
    rcases List.mem_cons.1 hv with rfl | hv
    · exact h.1
    · exact ih h.2 hv
def evszin (l : List GEvent) : Nat := (l.map evsz).sum
theorem evszs_in (l : List GEvent) : evszs l = l.length + evszin l := by
  unfold evszin
  induction l with
  | nil => rfl
  | cons v l ih => simp only [evszs, ih, List.length_cons, List.map_cons, List.sum_cons]; omega
theorem szEventS_loop {a : List GEvent} (ha : a.length <= 2 ^ 20) (hG : ∀ v ∈ a, ∀ n : Int, 0 <= n → n <= 2 ^ 20 → S_laws_szEvent v n = some (leftV (evsz v) n)) : ∀ (d i m : Nat) (r : Int), i + d = a.length → d < m → 0 <= r → r <= 2 ^ 20 →
    ∃ z, L_laws_szEventS_l0 a m r (i : Int) = some (if (evszin (a.drop i) : Int) <= r then .inr (r - evszin (a.drop i), z) else .inl (-1)) := by
  intro d
  induction d with
  | zero =>
    intro i m r hi hm h0 h1
    obtain ⟨m, rfl, _⟩ := fuel hm
    refine ⟨(i : Int), ?_⟩
    rw [L_laws_szEventS_l0, if_neg (by omega), List.drop_eq_nil_of_le (by omega)]
    simp only [evszin, List.map_nil, List.sum_nil]
    rw [if_pos (by simpa using h0)]; simp
  | succ d ih =>
    intro i m r hi hm h0 h1
    obtain ⟨m, rfl, hm'⟩ := fuel hm
    have hil : i < a.length := by omega
    rw [L_laws_szEventS_l0, if_pos (by omega), natO_nat, Option.bind_some, get_some hil, Option.bind_some, hG _ (List.getElem_mem hil) r h0 h1, Option.bind_some]
    have hv : evszin (a.drop i) = evsz a[i] + evszin (a.drop (i + 1)) := by simp only [evszin, drop_cons hil, List.map_cons, List.sum_cons]
    rw [hv]
    unfold leftV
    by_cases hc : (evsz a[i] : Int) <= r
    · rw [if_pos hc, if_neg (by omega), w64_succ (by omega)]
      obtain ⟨z, hz⟩ := ih (i + 1) m (r - evsz a[i]) (by omega) (by omega) (by omega) (by omega)
      refine ⟨z, ?_⟩
      rw [hz]
      by_cases hd : (evszin (a.drop (i + 1)) : Int) <= r - evsz a[i]
      · rw [if_pos hd, if_pos (by omega)]; congr 3; omega
      · rw [if_neg hd, if_neg (by omega)]
    · refine ⟨0, ?_⟩
      rw [if_neg hc, if_pos (by omega), if_neg (by omega)]
theorem szEvent_eq {v : GEvent} {n : Int} (h : MdEv v) (h0 : 0 <= n) (h1 : n <= 2 ^ 20) : S_laws_szEvent v n = some (leftV (evsz v) n) := by
  unfold S_laws_szEvent
  rw [szByteS_eq h.1 h0 h1, Option.bind_some]
  unfold leftV evsz
  by_cases c1 : (v.Addr.length : Int) <= n
  · rw [if_pos c1, if_neg (by omega)]
    unfold S_laws_szValue
    rw [if_pos ⟨h.2.1, by omega, by omega⟩, Option.bind_some]
    unfold leftV
    by_cases c2 : (vsz v.Val : Int) <= n - v.Addr.length
    · rw [if_pos c2, if_neg (by omega)]
      unfold S_laws_szByteSS
      rw [if_pos ⟨h.2.2, by omega, by omega⟩, Option.bind_some]
      by_cases c3 : (bsz v.Deps : Int) <= n - v.Addr.length - vsz v.Val
      · rw [if_pos c3, if_neg (by omega), if_pos (by omega)]; congr 1; omega
      · rw [if_neg c3, if_pos (by omega), if_neg (by omega)]
    · rw [if_neg c2, if_pos (by omega), if_neg (by omega)]
  · rw [if_neg c1, if_pos (by omega), if_neg (by omega)]
open Classical in
noncomputable def S_laws_szEventS (a0 : (List GEvent)) (a1 : Int) : Option Int := if a0.length <= 2 ^ 63 - 1 ∧ MdEvs a0 ∧ 0 <= a1 ∧ a1 <= 2 ^ 20 then some (leftV (evszs a0) a1) else none
theorem spec_laws_szEventS (a0 : (List GEvent)) (a1 : Int) (r : Int) (h : S_laws_szEventS a0 a1 = some r) : ∃ n, T_laws_szEventS n a0 a1 = some r := by
  unfold S_laws_szEventS at h
  obtain ⟨⟨hl, hm, h0, h1⟩, h⟩ := need_c h
  refine ⟨a0.length + 5, ?_⟩
  unfold T_laws_szEventS
  rw [<- h, w64_id (by omega) (by omega), evszs_in]
  unfold leftV
  by_cases hc : (a0.length : Int) <= a1
  · rw [if_neg (by omega)]
    obtain ⟨z, hz⟩ := szEventS_loop (a := a0) (by omega) (fun v hv n h0 h1 => szEvent_eq (MdEvs_mem hm hv) h0 h1) a0.length 0 (a0.length + 5) (a1 - a0.length) (by omega) (by omega) (by omega) (by omega)
    rw [show ((0 : Nat) : Int) = 0 from rfl] at hz
    rw [hz]
    simp only [List.drop_zero]
    by_cases hd : (evszin a0 : Int) <= a1 - a0.length
    · rw [if_pos hd, if_pos (by omega)]
      simp only [Option.bind_some]; congr 1; omega
    · rw [if_neg hd, if_neg (by omega)]; rfl
  · rw [if_pos (by omega), if_neg (by omega)]
theorem ok_laws_szEventS : K_laws_szEventS S_laws_szEventS := fun a0 a1 r h => (spec_laws_szEventS a0 a1 r h).elim fun n hn => g_laws_szEventS n a0 a1 r hn
def S_laws_szHistory (a0 : GHistory) (a1 : Int) : Option Int :=
 (S_laws_szState a0.Base a1).bind fun r1 =>
 if r1 < 0 then
  some (-1)
 else
 (S_laws_szEventS a0.Events r1).bind fun r3 =>
 if r3 < 0 then
  some (-1)
 else
 some r3
theorem ok_laws_szHistory (a0 : GHistory) (a1 : Int) : Oc (S_laws_szHistory a0 a1) 26 [] [.val true (x_GHistory a0), vi a1] fun r => (vi r, []) := tc (
 .cl (ok_laws_szState a0.Base a1) fun r1 =>
 .lI r1 0 (fun c2 =>
  .ret (-1)) fun c2 =>
 .cl (ok_laws_szEventS a0.Events r1) fun r3 =>
 .lI r3 0 (fun c4 =>
  .ret (-1)) fun c4 =>
 .ret r3) (fn_of Tryz.func26)
def K_laws_toByteS (F : (List UInt8) → Option (List UInt8)) : Prop := ∀ (a0 : (List UInt8)), Oc (F a0) 51 [] [vq e_u8 a0] fun r => (.val false [.own 1 (eL e_u8 r)], [])
def L_laws_toByteS_l0 (a0 : (List UInt8)) : Nat → Int → (List UInt8) → Option (Int × (List UInt8))
  | 0, _, _ => none
  | m + 1, v1, v2 =>
  if v1 < ((a0.length : Nat) : Int) then
   (natO v1).bind fun i2 =>
   (a0[i2]?).bind fun x3 =>
   (v2[i2]?).bind fun x4 =>
   L_laws_toByteS_l0 a0 m (w64 (v1 + 1)) (v2.set i2 x3)
  else
  some (v1, v2)
theorem gl_laws_toByteS_l0 (a0 : (List UInt8)) (m : Nat) : ∀ (v1 : Int) (v2 : (List UInt8)), Ol (L_laws_toByteS_l0 a0 m v1 v2) 51 (loopB Tryz.f51 0) ⟨[(0, vq e_u8 a0), (3, vr 0), (4, vi v1)], [.obj 1 (eL e_u8 v2)], 0⟩ fun o => match o with | ⟨o_0, o_1⟩ => (.exit 0, ⟨[(0, vq e_u8 a0), (3, vr 0), (4, vi o_0), (11, vb false)], [.obj 1 (eL e_u8 o_1)], 0⟩) := by
  induction m with
  | zero => intro v1 v2 o h; cases h
  | succ m ih => exact fun v1 v2 => tlp (
   .le e_u8 a0 <|
   .lI v1 ((a0.length : Nat) : Int) (fun c1 =>
    .na v1 fun i2 =>
    .ix0 e_u8 a0 i2 fun x3 =>
    .ag 1 <|
    .ix0 e_u8 v2 i2 fun x4 =>
    .ag 0 <|
    .sl (e := e_u8) (x := x3) (c := [.int .u8 ((x3.toNat : Nat) : Int)]) rfl v2 i2 <|
    .go (ih (w64 (v1 + 1)) (v2.set i2 x3))) fun c1 =>
   .ret (v1, v2))
def T_laws_toByteS (n : Nat) (a0 : (List UInt8)) : Option (List UInt8) :=
 (madeO 1 ((a0.length : Nat) : Int)).bind fun k1 =>
 (L_laws_toByteS_l0 a0 n 0 (List.replicate k1 0)).bind fun ⟨o2_0, o2_1⟩ =>
 some o2_1
theorem g_laws_toByteS (n : Nat) : K_laws_toByteS (T_laws_toByteS n) := fun a0 => tc (
 .le e_u8 a0 <|
 .q (.eTo ((a0.length : Nat) : Int) ((a0.length : Nat) : Int) rfl) <|
 .md 1 ((a0.length : Nat) : Int) fun k1 =>
 .q ⟨.rep k1 [.int .u8 0], .l (eL e_u8 (List.replicate k1 0)), A.rep rfl⟩ <|
 .lp (gl_laws_toByteS_l0 a0 n 0 (List.replicate k1 0)) fun ⟨o2_0, o2_1⟩ =>
 .ret o2_1) (fn_of Tryz.func51)
theorem toByteS_loop {a : List UInt8} (ha : a.length <= 2 ^ 20) : ∀ (d i m : Nat) (v : List UInt8), i + d = a.length → d < m → Pre a v i → ∃ z, L_laws_toByteS_l0 a m (i : Int) v = some (z, a) := by
  intro d
  induction d with
  | zero =>
    intro i m v hi hm hp
    obtain ⟨m, rfl, _⟩ := fuel hm
    exact ⟨_, by rw [L_laws_toByteS_l0, if_neg (by omega), hp.done (by omega)]⟩
  | succ d ih =>
    intro i m v hi hm hp
    obtain ⟨m, rfl, hm'⟩ := fuel hm
    have hil : i < a.length := by omega
    rw [L_laws_toByteS_l0, if_pos (by omega), natO_nat, Option.bind_some, get_some hil, Option.bind_some, get_some (by rw [hp.1]; exact hil), Option.bind_some, w64_succ (by omega)]
    exact ih (i + 1) m _ (by omega) (by omega) (hp.step hil)
def S_laws_toByteS (a0 : (List UInt8)) : Option (List UInt8) := if a0.length <= 2 ^ 20 then some a0 else none
theorem spec_laws_toByteS (a0 : (List UInt8)) (r : (List UInt8)) (h : S_laws_toByteS a0 = some r) : ∃ n, T_laws_toByteS n a0 = some r := by
  unfold S_laws_toByteS at h
  obtain ⟨ha, h⟩ := need_c h
  refine ⟨a0.length + 1, ?_⟩
  obtain ⟨z, hz⟩ := toByteS_loop ha a0.length 0 (a0.length + 1) (List.replicate a0.length 0) (by omega) (by omega) (Pre.start (by simp))
  unfold T_laws_toByteS
  rw [made_ok ha (by decide), Option.bind_some, show (0 : Int) = ((0 : Nat) : Int) from rfl, hz]
  exact h
theorem ok_laws_toByteS : K_laws_toByteS S_laws_toByteS := fun a0 r h => (spec_laws_toByteS a0 r h).elim fun n hn => g_laws_toByteS n a0 r hn
def K_laws_toByteSS (F : (List (List UInt8)) → Option (List (List UInt8))) : Prop := ∀ (a0 : (List (List UInt8))), Oc (F a0) 77 [] [vq (e_sl e_u8) a0] fun r => (.val false [.own 1 (eL (o_sl 1 e_u8) r)], [])
def L_laws_toByteSS_l0 (a0 : (List (List UInt8))) : Nat → Int → (List (List UInt8)) → Option (Int × (List (List UInt8)))
  | 0, _, _ => none
  | m + 1, v1, v2 =>
  if v1 < ((a0.length : Nat) : Int) then
   (natO v1).bind fun i2 =>
   (a0[i2]?).bind fun x3 =>
   (S_laws_toByteS x3).bind fun r4 =>
   (v2[i2]?).bind fun x5 =>
   L_laws_toByteSS_l0 a0 m (w64 (v1 + 1)) (v2.set i2 r4)
  else
  some (v1, v2)
theorem gl_laws_toByteSS_l0 (a0 : (List (List UInt8))) (m : Nat) : ∀ (v1 : Int) (v2 : (List (List UInt8))), Ol (L_laws_toByteSS_l0 a0 m v1 v2) 77 (loopB Tryz.f77 0) ⟨[(0, vq (e_sl e_u8) a0), (3, vr 0), (4, vi v1)], [.obj 1 (eL (o_sl 1 e_u8) v2)], 0⟩ fun o => match o with | ⟨o_0, o_1⟩ => (.exit 0, ⟨[(0, vq (e_sl e_u8) a0), (3, vr 0), (4, vi o_0), (11, vb false)], [.obj 1 (eL (o_sl 1 e_u8) o_1)], 0⟩) := by
  induction m with
  | zero => intro v1 v2 o h; cases h
  | succ m ih => exact fun v1 v2 => tlp (
   .le (e_sl e_u8) a0 <|
   .lI v1 ((a0.length : Nat) : Int) (fun c1 =>
    .na v1 fun i2 =>
    .ix0 (e_sl e_u8) a0 i2 fun x3 =>
    .cl (ok_laws_toByteS x3) fun r4 =>
    .ag 2 <|
    .ix0 (o_sl 1 e_u8) v2 i2 fun x5 =>
    .ag 0 <|
    .sl (e := (o_sl 1 e_u8)) (x := r4) (c := [.own 1 (eL e_u8 r4)]) rfl v2 i2 <|
    .go (ih (w64 (v1 + 1)) (v2.set i2 r4))) fun c1 =>
   .ret (v1, v2))
def T_laws_toByteSS (n : Nat) (a0 : (List (List UInt8))) : Option (List (List UInt8)) :=
 (madeO 24 ((a0.length : Nat) : Int)).bind fun k1 =>
 (L_laws_toByteSS_l0 a0 n 0 (List.replicate k1 [])).bind fun ⟨o2_0, o2_1⟩ =>
 some o2_1
theorem g_laws_toByteSS (n : Nat) : K_laws_toByteSS (T_laws_toByteSS n) := fun a0 => tc (
 .le (e_sl e_u8) a0 <|
 .q (.eTo ((a0.length : Nat) : Int) ((a0.length : Nat) : Int) rfl) <|
 .md 24 ((a0.length : Nat) : Int) fun k1 =>
 .q ⟨.rep k1 [.own 1 []], .l (eL (o_sl 1 e_u8) (List.replicate k1 [])), A.rep rfl⟩ <|
 .lp (gl_laws_toByteSS_l0 a0 n 0 (List.replicate k1 [])) fun ⟨o2_0, o2_1⟩ =>
 .ret o2_1) (fn_of Tryz.func77)
theorem toByteSS_loop {a : List (List UInt8)} (ha : bsz a <= 2 ^ 20) : ∀ (d i m : Nat) (v : List (List UInt8)), i + d = a.length → d < m → Pre a v i → ∃ z, L_laws_toByteSS_l0 a m (i : Int) v = some (z, a) := by
  have hl := bsz_len a
  intro d
  induction d with
  | zero =>
    intro i m v hi hm hp
    obtain ⟨m, rfl, _⟩ := fuel hm
    exact ⟨_, by rw [L_laws_toByteSS_l0, if_neg (by omega), hp.done (by omega)]⟩
  | succ d ih =>
    intro i m v hi hm hp
    obtain ⟨m, rfl, hm'⟩ := fuel hm
    have hil : i < a.length := by omega
    have hx := bsz_mem (List.getElem_mem hil)
    rw [L_laws_toByteSS_l0, if_pos (by omega), natO_nat, Option.bind_some, get_some hil, Option.bind_some]
    unfold S_laws_toByteS
    rw [if_pos (by omega), Option.bind_some, get_some (by rw [hp.1]; exact hil), Option.bind_some, w64_succ (by omega)]
    exact ih (i + 1) m _ (by omega) (by omega) (hp.step hil)
def S_laws_toByteSS (a0 : (List (List UInt8))) : Option (List (List UInt8)) := if bsz a0 <= 2 ^ 20 then some a0 else none
theorem spec_laws_toByteSS (a0 : (List (List UInt8))) (r : (List (List UInt8))) (h : S_laws_toByteSS a0 = some r) : ∃ n, T_laws_toByteSS n a0 = some r := by
  unfold S_laws_toByteSS at h
  obtain ⟨ha, h⟩ := need_c h
  have hl := bsz_len a0
  refine ⟨a0.length + 1, ?_⟩
  obtain ⟨z, hz⟩ := toByteSS_loop ha a0.length 0 (a0.length + 1) (List.replicate a0.length []) (by omega) (by omega) (Pre.start (by simp))
  unfold T_laws_toByteSS
  rw [made_ok (by omega) (by decide), Option.bind_some, show (0 : Int) = ((0 : Nat) : Int) from rfl, hz]
  exact h
theorem ok_laws_toByteSS : K_laws_toByteSS S_laws_toByteSS := fun a0 r h => (spec_laws_toByteSS a0 r h).elim fun n hn => g_laws_toByteSS n a0 r hn
def K_laws_toValueS (F : (List GValue) → Option (List GValue)) : Prop := ∀ (a0 : (List GValue)), Oc (F a0) 132 [] [vq e_GValue a0] fun r => (.val false [.own 5 (eL o_GValue r)], [])
def K_laws_toValue (F : GValue → Option GValue) : Prop := ∀ (a0 : GValue), Oc (F a0) 76 [] [.val true (x_GValue a0)] fun r => (.val true (y_GValue r), [])
def L_laws_toValueS_l0 (G_laws_toValue : GValue → Option GValue) (a0 : (List GValue)) : Nat → Int → (List GValue) → Option (Int × (List GValue))
  | 0, _, _ => none
  | m + 1, v1, v2 =>
  if v1 < ((a0.length : Nat) : Int) then
   (natO v1).bind fun i2 =>
   (a0[i2]?).bind fun x3 =>
   (G_laws_toValue x3).bind fun r4 =>
   (v2[i2]?).bind fun x5 =>
   L_laws_toValueS_l0 G_laws_toValue a0 m (w64 (v1 + 1)) (v2.set i2 r4)
  else
  some (v1, v2)
theorem gl_laws_toValueS_l0 (G_laws_toValue : GValue → Option GValue) (H_laws_toValue : K_laws_toValue G_laws_toValue) (a0 : (List GValue)) (m : Nat) : ∀ (v1 : Int) (v2 : (List GValue)), Ol (L_laws_toValueS_l0 G_laws_toValue a0 m v1 v2) 132 (loopB Tryz.f132 0) ⟨[(0, vq e_GValue a0), (3, vr 0), (4, vi v1)], [.obj 5 (eL o_GValue v2)], 0⟩ fun o => match o with | ⟨o_0, o_1⟩ => (.exit 0, ⟨[(0, vq e_GValue a0), (3, vr 0), (4, vi o_0), (11, vb false)], [.obj 5 (eL o_GValue o_1)], 0⟩) := by
  induction m with
  | zero => intro v1 v2 o h; cases h
  | succ m ih => exact fun v1 v2 => tlp (
   .le e_GValue a0 <|
   .lI v1 ((a0.length : Nat) : Int) (fun c1 =>
    .na v1 fun i2 =>
    .ix eq_GValue a0 i2 fun x3 =>
    .cl (H_laws_toValue x3) fun r4 =>
    .ag 2 <|
    .ix oeq_GValue v2 i2 fun x5 =>
    .ag 0 <|
    .sl (oeq_GValue r4) v2 i2 <|
    .go (ih (w64 (v1 + 1)) (v2.set i2 r4))) fun c1 =>
   .ret (v1, v2))
def T_laws_toValueS (G_laws_toValue : GValue → Option GValue) (n : Nat) (a0 : (List GValue)) : Option (List GValue) :=
 (madeO 88 ((a0.length : Nat) : Int)).bind fun k1 =>
 (L_laws_toValueS_l0 G_laws_toValue a0 n 0 (List.replicate k1 (GValue.mk 0 0 [] [] []))).bind fun ⟨o2_0, o2_1⟩ =>
 some o2_1
theorem g_laws_toValueS (G_laws_toValue : GValue → Option GValue) (H_laws_toValue : K_laws_toValue G_laws_toValue) (n : Nat) : K_laws_toValueS (T_laws_toValueS G_laws_toValue n) := fun a0 => tc (
 .le e_GValue a0 <|
 .q (.eTo ((a0.length : Nat) : Int) ((a0.length : Nat) : Int) rfl) <|
 .md 88 ((a0.length : Nat) : Int) fun k1 =>
 .q ⟨.rep k1 [.int .i64 0, .int .i64 0, .own 1 [], .own 1 [], .own 5 []], .l (eL o_GValue (List.replicate k1 (GValue.mk 0 0 [] [] []))), A.rep (oeq_GValue (GValue.mk 0 0 [] [] []))⟩ <|
 .lp (gl_laws_toValueS_l0 G_laws_toValue H_laws_toValue a0 n 0 (List.replicate k1 (GValue.mk 0 0 [] [] []))) fun ⟨o2_0, o2_1⟩ =>
 .ret o2_1) (fn_of Tryz.func132)
def T_laws_toValue (G_laws_toValueS : (List GValue) → Option (List GValue)) (a0 : GValue) : Option GValue :=
 (S_laws_toByteS a0.S).bind fun r1 =>
 (S_laws_toByteSS a0.K).bind fun r2 =>
 (G_laws_toValueS a0.L).bind fun r3 =>
 some (GValue.mk a0.Kind a0.N r1 r2 r3)
theorem g_laws_toValue (G_laws_toValueS : (List GValue) → Option (List GValue)) (H_laws_toValueS : K_laws_toValueS G_laws_toValueS) : K_laws_toValue (T_laws_toValue G_laws_toValueS) := fun a0 => tc (
 .cl (ok_laws_toByteS a0.S) fun r1 =>
 .cl (ok_laws_toByteSS a0.K) fun r2 =>
 .cl (H_laws_toValueS a0.L) fun r3 =>
 .ret (GValue.mk a0.Kind a0.N r1 r2 r3)) (fn_of Tryz.func76)
mutual
def U_laws_toValueS : Nat → (List GValue) → Option (List GValue)
  | 0, _ => none
  | n + 1, a0 => T_laws_toValueS (U_laws_toValue n) n a0
def U_laws_toValue : Nat → GValue → Option GValue
  | 0, _ => none
  | n + 1, a0 => T_laws_toValue (U_laws_toValueS n) a0
end
theorem rec_laws_toValueS (n : Nat) : K_laws_toValueS (U_laws_toValueS n) ∧ K_laws_toValue (U_laws_toValue n) := by
  induction n with
  | zero => exact ⟨fun _ _ h => (by rw [U_laws_toValueS] at h; cases h), fun _ _ h => (by rw [U_laws_toValue] at h; cases h)⟩
  | succ n ih =>
    obtain ⟨ih_laws_toValueS, ih_laws_toValue⟩ := ih
    exact ⟨fun a0 r h => g_laws_toValueS (U_laws_toValue n) ih_laws_toValue n a0 r (by rw [U_laws_toValueS] at h; exact h),
      fun a0 r h => g_laws_toValue (U_laws_toValueS n) ih_laws_toValueS a0 r (by rw [U_laws_toValue] at h; exact h)⟩
theorem toValueS_T {G : GValue → Option GValue} {a : List GValue} {f : Nat} (ha : a.length <= 2 ^ 20) (hf : a.length < f) (hG : ∀ v ∈ a, G v = some v) : T_laws_toValueS G f a = some a := by
  have loop : ∀ (d i m : Nat) (v : List GValue), i + d = a.length → d < m → Pre a v i → ∃ z, L_laws_toValueS_l0 G a m (i : Int) v = some (z, a) := by
    intro d
    induction d with
    | zero =>
      intro i m v hi hm hp
      obtain ⟨m, rfl, _⟩ := fuel hm
      exact ⟨_, by rw [L_laws_toValueS_l0, if_neg (by omega), hp.done (by omega)]⟩
    | succ d ih =>
      intro i m v hi hm hp
      obtain ⟨m, rfl, hm'⟩ := fuel hm
      have hil : i < a.length := by omega
      rw [L_laws_toValueS_l0, if_pos (by omega), natO_nat, Option.bind_some, get_some hil, Option.bind_some, hG _ (List.getElem_mem hil), Option.bind_some, get_some (by rw [hp.1]; exact hil), Option.bind_some, w64_succ (by omega)]
      exact ih (i + 1) m _ (by omega) (by omega) (hp.step hil)
  obtain ⟨z, hz⟩ := loop a.length 0 f (List.replicate a.length (GValue.mk 0 0 [] [] [])) (by omega) (by omega) (Pre.start (by simp))
  rw [show ((0 : Nat) : Int) = 0 from rfl] at hz
  unfold T_laws_toValueS
  rw [made_ok ha (by decide), Option.bind_some, hz]; rfl
theorem toValue_U : ∀ (N : Nat) (v : GValue), vsz v < N → vsz v <= 2 ^ 20 → ∀ f : Nat, 2 * vsz v + 3 <= f → U_laws_toValue f v = some v := by
  intro N
  induction N with
  | zero => intro v hv; omega
  | succ N ih =>
    intro v hv hs f hf
    obtain ⟨f, rfl, _⟩ := fuel (show 0 < f by omega)
    obtain ⟨f, rfl, _⟩ := fuel (show 0 < f by omega)
    have he := vsz_eq v
    have hl := vszs_len v.L
    rw [U_laws_toValue]
    unfold T_laws_toValue S_laws_toByteS S_laws_toByteSS
    rw [if_pos (by omega), Option.bind_some, if_pos (by omega), Option.bind_some, U_laws_toValueS, toValueS_T (by omega) (by omega) fun x hx => ?_, Option.bind_some, GValue.eta]
    have := vszs_mem hx
    exact ih x (by omega) (by omega) f (by omega)
def S_laws_toValueS (a0 : (List GValue)) : Option (List GValue) := if vszs a0 <= 2 ^ 20 then some a0 else none
theorem spec_laws_toValueS (a0 : (List GValue)) (r : (List GValue)) (h : S_laws_toValueS a0 = some r) : ∃ n, U_laws_toValueS n a0 = some r := by
  unfold S_laws_toValueS at h
  obtain ⟨ha, h⟩ := need_c h
  have hl := vszs_len a0
  refine ⟨2 * vszs a0 + 5, ?_⟩
  rw [U_laws_toValueS, toValueS_T (by omega) (by omega) fun x hx => ?_, h]
  have := vszs_mem hx
  exact toValue_U _ x (Nat.lt_succ_self _) (by omega) _ (by omega)
def S_laws_toValue (a0 : GValue) : Option GValue := if vsz a0 <= 2 ^ 20 then some a0 else none
theorem spec_laws_toValue (a0 : GValue) (r : GValue) (h : S_laws_toValue a0 = some r) : ∃ n, U_laws_toValue n a0 = some r := by
  unfold S_laws_toValue at h
  obtain ⟨ha, h⟩ := need_c h
  exact ⟨2 * vsz a0 + 3, by rw [<- h]; exact toValue_U _ a0 (Nat.lt_succ_self _) ha _ (Nat.le_refl _)⟩
theorem ok_laws_toValueS : K_laws_toValueS S_laws_toValueS := by
  intro a0 r h
  obtain ⟨n, hn⟩ := spec_laws_toValueS a0 r h
  exact (rec_laws_toValueS n).1 a0 r hn
theorem ok_laws_toValue : K_laws_toValue S_laws_toValue := by
  intro a0 r h
  obtain ⟨n, hn⟩ := spec_laws_toValue a0 r h
  exact (rec_laws_toValueS n).2 a0 r hn
def S_laws_toEntry (a0 : GEntry) : Option GEntry :=
 (S_laws_toByteS a0.Addr).bind fun r1 =>
 (S_laws_toValue a0.Val).bind fun r2 =>
 (S_laws_toByteSS a0.Deps).bind fun r3 =>
 some (GEntry.mk r1 r2 r3 a0.Taint a0.Turned)
theorem ok_laws_toEntry (a0 : GEntry) : Oc (S_laws_toEntry a0) 131 [] [.val true (x_GEntry a0)] fun r => (.val true (y_GEntry r), []) := tc (
 .cl (ok_laws_toByteS a0.Addr) fun r1 =>
 .cl (ok_laws_toValue a0.Val) fun r2 =>
 .cl (ok_laws_toByteSS a0.Deps) fun r3 =>
 .ret (GEntry.mk r1 r2 r3 a0.Taint a0.Turned)) (fn_of Tryz.func131)
def K_laws_toEntryS (F : (List GEntry) → Option (List GEntry)) : Prop := ∀ (a0 : (List GEntry)), Oc (F a0) 75 [] [vq e_GEntry a0] fun r => (.val false [.own 9 (eL o_GEntry r)], [])
def L_laws_toEntryS_l0 (a0 : (List GEntry)) : Nat → Int → (List GEntry) → Option (Int × (List GEntry))
  | 0, _, _ => none
  | m + 1, v1, v2 =>
  if v1 < ((a0.length : Nat) : Int) then
   (natO v1).bind fun i2 =>
   (a0[i2]?).bind fun x3 =>
   (S_laws_toEntry x3).bind fun r4 =>
   (v2[i2]?).bind fun x5 =>
   L_laws_toEntryS_l0 a0 m (w64 (v1 + 1)) (v2.set i2 r4)
  else
  some (v1, v2)
theorem gl_laws_toEntryS_l0 (a0 : (List GEntry)) (m : Nat) : ∀ (v1 : Int) (v2 : (List GEntry)), Ol (L_laws_toEntryS_l0 a0 m v1 v2) 75 (loopB Tryz.f75 0) ⟨[(0, vq e_GEntry a0), (3, vr 0), (4, vi v1)], [.obj 9 (eL o_GEntry v2)], 0⟩ fun o => match o with | ⟨o_0, o_1⟩ => (.exit 0, ⟨[(0, vq e_GEntry a0), (3, vr 0), (4, vi o_0), (11, vb false)], [.obj 9 (eL o_GEntry o_1)], 0⟩) := by
  induction m with
  | zero => intro v1 v2 o h; cases h
  | succ m ih => exact fun v1 v2 => tlp (
   .le e_GEntry a0 <|
   .lI v1 ((a0.length : Nat) : Int) (fun c1 =>
    .na v1 fun i2 =>
    .ix eq_GEntry a0 i2 fun x3 =>
    .cl (ok_laws_toEntry x3) fun r4 =>
    .ag 2 <|
    .ix oeq_GEntry v2 i2 fun x5 =>
    .ag 0 <|
    .sl (oeq_GEntry r4) v2 i2 <|
    .go (ih (w64 (v1 + 1)) (v2.set i2 r4))) fun c1 =>
   .ret (v1, v2))
def T_laws_toEntryS (n : Nat) (a0 : (List GEntry)) : Option (List GEntry) :=
 (madeO 152 ((a0.length : Nat) : Int)).bind fun k1 =>
 (L_laws_toEntryS_l0 a0 n 0 (List.replicate k1 (GEntry.mk [] (GValue.mk 0 0 [] [] []) [] false 0))).bind fun ⟨o2_0, o2_1⟩ =>
 some o2_1
theorem g_laws_toEntryS (n : Nat) : K_laws_toEntryS (T_laws_toEntryS n) := fun a0 => tc (
 .le e_GEntry a0 <|
 .q (.eTo ((a0.length : Nat) : Int) ((a0.length : Nat) : Int) rfl) <|
 .md 152 ((a0.length : Nat) : Int) fun k1 =>
 .q ⟨.rep k1 [.own 1 [], .int .i64 0, .int .i64 0, .own 1 [], .own 1 [], .own 5 [], .own 1 [], .bool false, .int .i64 0], .l (eL o_GEntry (List.replicate k1 (GEntry.mk [] (GValue.mk 0 0 [] [] []) [] false 0))), A.rep (oeq_GEntry (GEntry.mk [] (GValue.mk 0 0 [] [] []) [] false 0))⟩ <|
 .lp (gl_laws_toEntryS_l0 a0 n 0 (List.replicate k1 (GEntry.mk [] (GValue.mk 0 0 [] [] []) [] false 0))) fun ⟨o2_0, o2_1⟩ =>
 .ret o2_1) (fn_of Tryz.func75)
theorem toEntryS_loop {a : List GEntry} (ha : a.length <= 2 ^ 20) (hG : ∀ v ∈ a, S_laws_toEntry v = some v) : ∀ (d i m : Nat) (v : List GEntry), i + d = a.length → d < m → Pre a v i → ∃ z, L_laws_toEntryS_l0 a m (i : Int) v = some (z, a) := by
  intro d
  induction d with
  | zero =>
    intro i m v hi hm hp
    obtain ⟨m, rfl, _⟩ := fuel hm
    exact ⟨_, by rw [L_laws_toEntryS_l0, if_neg (by omega), hp.done (by omega)]⟩
  | succ d ih =>
    intro i m v hi hm hp
    obtain ⟨m, rfl, hm'⟩ := fuel hm
    have hil : i < a.length := by omega
    rw [L_laws_toEntryS_l0, if_pos (by omega), natO_nat, Option.bind_some, get_some hil, Option.bind_some, hG _ (List.getElem_mem hil), Option.bind_some, get_some (by rw [hp.1]; exact hil), Option.bind_some, w64_succ (by omega)]
    exact ih (i + 1) m _ (by omega) (by omega) (hp.step hil)
theorem toEntry_eq {v : GEntry} (h : esz v <= 2 ^ 20) : S_laws_toEntry v = some v := by
  unfold esz at h
  unfold S_laws_toEntry S_laws_toByteS S_laws_toValue S_laws_toByteSS
  rw [if_pos (by omega), Option.bind_some, if_pos (by omega), Option.bind_some, if_pos (by omega), Option.bind_some]
  cases v; rfl
def S_laws_toEntryS (a0 : (List GEntry)) : Option (List GEntry) := if eszs a0 <= 2 ^ 20 then some a0 else none
theorem spec_laws_toEntryS (a0 : (List GEntry)) (r : (List GEntry)) (h : S_laws_toEntryS a0 = some r) : ∃ n, T_laws_toEntryS n a0 = some r := by
  unfold S_laws_toEntryS at h
  obtain ⟨ha, h⟩ := need_c h
  have hl := eszs_len a0
  refine ⟨a0.length + 1, ?_⟩
  obtain ⟨z, hz⟩ := toEntryS_loop (a := a0) (by omega) (fun v hv => toEntry_eq (by have := eszs_mem hv; omega)) a0.length 0 (a0.length + 1) (List.replicate a0.length (GEntry.mk [] (GValue.mk 0 0 [] [] []) [] false 0)) (by omega) (by omega) (Pre.start (by simp))
  unfold T_laws_toEntryS
  rw [made_ok (by omega) (by decide), Option.bind_some, show (0 : Int) = ((0 : Nat) : Int) from rfl]
  exact (congrArg (fun x => Option.bind x _) hz).trans h
theorem ok_laws_toEntryS : K_laws_toEntryS S_laws_toEntryS := fun a0 r h => (spec_laws_toEntryS a0 r h).elim fun n hn => g_laws_toEntryS n a0 r hn
def S_laws_toState (a0 : GState) : Option GState :=
 (S_laws_toByteS a0.Pending).bind fun r1 =>
 (S_laws_toEntryS a0.Entries).bind fun r2 =>
 some (GState.mk a0.Serial a0.Open r1 a0.Act r2)
theorem ok_laws_toState (a0 : GState) : Oc (S_laws_toState a0) 18 [] [.val true (x_GState a0)] fun r => (.val true (y_GState r), []) := tc (
 .cl (ok_laws_toByteS a0.Pending) fun r1 =>
 .cl (ok_laws_toEntryS a0.Entries) fun r2 =>
 .ret (GState.mk a0.Serial a0.Open r1 a0.Act r2)) (fn_of Tryz.func18)
def S_laws_toEvent (a0 : GEvent) : Option GEvent :=
 (S_laws_toByteS a0.Addr).bind fun r1 =>
 (S_laws_toValue a0.Val).bind fun r2 =>
 (S_laws_toByteSS a0.Deps).bind fun r3 =>
 some (GEvent.mk a0.Kind r1 a0.Act r2 r3)
theorem ok_laws_toEvent (a0 : GEvent) : Oc (S_laws_toEvent a0) 19 [] [.val true (x_GEvent a0)] fun r => (.val true (y_GEvent r), []) := tc (
 .cl (ok_laws_toByteS a0.Addr) fun r1 =>
 .cl (ok_laws_toValue a0.Val) fun r2 =>
 .cl (ok_laws_toByteSS a0.Deps) fun r3 =>
 .ret (GEvent.mk a0.Kind r1 a0.Act r2 r3)) (fn_of Tryz.func19)
def K_laws_toEventS (F : (List GEvent) → Option (List GEvent)) : Prop := ∀ (a0 : (List GEvent)), Oc (F a0) 88 [] [vq e_GEvent a0] fun r => (.val false [.own 9 (eL o_GEvent r)], [])
def L_laws_toEventS_l0 (a0 : (List GEvent)) : Nat → Int → (List GEvent) → Option (Int × (List GEvent))
  | 0, _, _ => none
  | m + 1, v1, v2 =>
  if v1 < ((a0.length : Nat) : Int) then
   (natO v1).bind fun i2 =>
   (a0[i2]?).bind fun x3 =>
   (S_laws_toEvent x3).bind fun r4 =>
   (v2[i2]?).bind fun x5 =>
   L_laws_toEventS_l0 a0 m (w64 (v1 + 1)) (v2.set i2 r4)
  else
  some (v1, v2)
theorem gl_laws_toEventS_l0 (a0 : (List GEvent)) (m : Nat) : ∀ (v1 : Int) (v2 : (List GEvent)), Ol (L_laws_toEventS_l0 a0 m v1 v2) 88 (loopB Tryz.f88 0) ⟨[(0, vq e_GEvent a0), (3, vr 0), (4, vi v1)], [.obj 9 (eL o_GEvent v2)], 0⟩ fun o => match o with | ⟨o_0, o_1⟩ => (.exit 0, ⟨[(0, vq e_GEvent a0), (3, vr 0), (4, vi o_0), (11, vb false)], [.obj 9 (eL o_GEvent o_1)], 0⟩) := by
  induction m with
  | zero => intro v1 v2 o h; cases h
  | succ m ih => exact fun v1 v2 => tlp (
   .le e_GEvent a0 <|
   .lI v1 ((a0.length : Nat) : Int) (fun c1 =>
    .na v1 fun i2 =>
    .ix eq_GEvent a0 i2 fun x3 =>
    .cl (ok_laws_toEvent x3) fun r4 =>
    .ag 2 <|
    .ix oeq_GEvent v2 i2 fun x5 =>
    .ag 0 <|
    .sl (oeq_GEvent r4) v2 i2 <|
    .go (ih (w64 (v1 + 1)) (v2.set i2 r4))) fun c1 =>
   .ret (v1, v2))
def T_laws_toEventS (n : Nat) (a0 : (List GEvent)) : Option (List GEvent) :=
 (madeO 152 ((a0.length : Nat) : Int)).bind fun k1 =>
 (L_laws_toEventS_l0 a0 n 0 (List.replicate k1 (GEvent.mk 0 [] 0 (GValue.mk 0 0 [] [] []) []))).bind fun ⟨o2_0, o2_1⟩ =>
 some o2_1
theorem g_laws_toEventS (n : Nat) : K_laws_toEventS (T_laws_toEventS n) := fun a0 => tc (
 .le e_GEvent a0 <|
 .q (.eTo ((a0.length : Nat) : Int) ((a0.length : Nat) : Int) rfl) <|
 .md 152 ((a0.length : Nat) : Int) fun k1 =>
 .q ⟨.rep k1 [.int .i64 0, .own 1 [], .int .i64 0, .int .i64 0, .int .i64 0, .own 1 [], .own 1 [], .own 5 [], .own 1 []], .l (eL o_GEvent (List.replicate k1 (GEvent.mk 0 [] 0 (GValue.mk 0 0 [] [] []) []))), A.rep (oeq_GEvent (GEvent.mk 0 [] 0 (GValue.mk 0 0 [] [] []) []))⟩ <|
 .lp (gl_laws_toEventS_l0 a0 n 0 (List.replicate k1 (GEvent.mk 0 [] 0 (GValue.mk 0 0 [] [] []) []))) fun ⟨o2_0, o2_1⟩ =>
 .ret o2_1) (fn_of Tryz.func88)
theorem toEventS_loop {a : List GEvent} (ha : a.length <= 2 ^ 20) (hG : ∀ v ∈ a, S_laws_toEvent v = some v) : ∀ (d i m : Nat) (v : List GEvent), i + d = a.length → d < m → Pre a v i → ∃ z, L_laws_toEventS_l0 a m (i : Int) v = some (z, a) := by
  intro d
  induction d with
  | zero =>
    intro i m v hi hm hp
    obtain ⟨m, rfl, _⟩ := fuel hm
    exact ⟨_, by rw [L_laws_toEventS_l0, if_neg (by omega), hp.done (by omega)]⟩
  | succ d ih =>
    intro i m v hi hm hp
    obtain ⟨m, rfl, hm'⟩ := fuel hm
    have hil : i < a.length := by omega
    rw [L_laws_toEventS_l0, if_pos (by omega), natO_nat, Option.bind_some, get_some hil, Option.bind_some, hG _ (List.getElem_mem hil), Option.bind_some, get_some (by rw [hp.1]; exact hil), Option.bind_some, w64_succ (by omega)]
    exact ih (i + 1) m _ (by omega) (by omega) (hp.step hil)
theorem toEvent_eq {v : GEvent} (h : evsz v <= 2 ^ 20) : S_laws_toEvent v = some v := by
  unfold evsz at h
  unfold S_laws_toEvent S_laws_toByteS S_laws_toValue S_laws_toByteSS
  rw [if_pos (by omega), Option.bind_some, if_pos (by omega), Option.bind_some, if_pos (by omega), Option.bind_some]
  cases v; rfl
def S_laws_toEventS (a0 : (List GEvent)) : Option (List GEvent) := if evszs a0 <= 2 ^ 20 then some a0 else none
theorem spec_laws_toEventS (a0 : (List GEvent)) (r : (List GEvent)) (h : S_laws_toEventS a0 = some r) : ∃ n, T_laws_toEventS n a0 = some r := by
  unfold S_laws_toEventS at h
  obtain ⟨ha, h⟩ := need_c h
  have hl := evszs_len a0
  refine ⟨a0.length + 1, ?_⟩
  obtain ⟨z, hz⟩ := toEventS_loop (a := a0) (by omega) (fun v hv => toEvent_eq (by have := evszs_mem hv; omega)) a0.length 0 (a0.length + 1) (List.replicate a0.length (GEvent.mk 0 [] 0 (GValue.mk 0 0 [] [] []) [])) (by omega) (by omega) (Pre.start (by simp))
  unfold T_laws_toEventS
  rw [made_ok (by omega) (by decide), Option.bind_some, show (0 : Int) = ((0 : Nat) : Int) from rfl]
  exact (congrArg (fun x => Option.bind x _) hz).trans h
theorem ok_laws_toEventS : K_laws_toEventS S_laws_toEventS := fun a0 r h => (spec_laws_toEventS a0 r h).elim fun n hn => g_laws_toEventS n a0 r hn
def S_laws_toHistory (a0 : GHistory) : Option GHistory :=
 (S_laws_toState a0.Base).bind fun r1 =>
 (S_laws_toEventS a0.Events).bind fun r2 =>
 some (GHistory.mk r1 r2 a0.Safe)
theorem ok_laws_toHistory (a0 : GHistory) : Oc (S_laws_toHistory a0) 28 [] [.val true (x_GHistory a0)] fun r => (.val true (y_GHistory r), []) := tc (
 .cl (ok_laws_toState a0.Base) fun r1 =>
 .cl (ok_laws_toEventS a0.Events) fun r2 =>
 .ret (GHistory.mk r1 r2 a0.Safe)) (fn_of Tryz.func28)
def K_spec_NameOk (F : (List UInt8) → Option Bool) : Prop := ∀ (a0 : (List UInt8)), Oc (F a0) 152 [] [vq e_u8 a0] fun r => (vb r, [])
def L_spec_NameOk_l0 (a0 : (List UInt8)) : Nat → Int → Option (Bool ⊕ Int)
  | 0, _ => none
  | m + 1, v1 =>
  if v1 < ((a0.length : Nat) : Int) then
   (natO v1).bind fun i2 =>
   (a0[i2]?).bind fun x3 =>
   if ((x3.toNat : Nat) : Int) < 97 then
    some (.inl false)
   else
   if 122 < ((x3.toNat : Nat) : Int) then
    some (.inl false)
   else
   L_spec_NameOk_l0 a0 m (w64 (v1 + 1))
  else
  some (.inr v1)
theorem gl_spec_NameOk_l0 (a0 : (List UInt8)) (m : Nat) : ∀ (v1 : Int), Ol (L_spec_NameOk_l0 a0 m v1) 152 (loopB Tryz.f152 0) ⟨[(0, vq e_u8 a0), (3, vi v1)], [], 0⟩ fun o => match o with | .inl o_0 => (.ret, ⟨[(2, vb o_0)], [], 0⟩) | .inr (o_1) => (.exit 0, ⟨[(0, vq e_u8 a0), (3, vi o_1), (15, vb false)], [], 0⟩) := by
  induction m with
  | zero => intro v1 o h; cases h
  | succ m ih => exact fun v1 => tlp (
   .le e_u8 a0 <|
   .lI v1 ((a0.length : Nat) : Int) (fun c1 =>
    .na v1 fun i2 =>
    .ix0 e_u8 a0 i2 fun x3 =>
    .lI ((x3.toNat : Nat) : Int) 97 (fun c4 =>
     .ret (.inl false)) fun c4 =>
    .ag 1 <|
    .ag 0 <|
    .lI 122 ((x3.toNat : Nat) : Int) (fun c5 =>
     .ret (.inl false)) fun c5 =>
    .go (ih (w64 (v1 + 1)))) fun c1 =>
   .ret (.inr v1))
def T_spec_NameOk (n : Nat) (a0 : (List UInt8)) : Option Bool :=
 if ((a0.length : Nat) : Int) < 1 then
  some false
 else
 if 8 < ((a0.length : Nat) : Int) then
  some false
 else
 (L_spec_NameOk_l0 a0 n 0).bind fun o3 =>
 match o3 with
 | .inl o3_0 =>
  some o3_0
 | .inr (o3_1) =>
  some true
theorem g_spec_NameOk (n : Nat) : K_spec_NameOk (T_spec_NameOk n) := fun a0 => tc (
 .le e_u8 a0 <|
 .lI ((a0.length : Nat) : Int) 1 (fun c1 =>
  .ret false) fun c1 =>
 .le e_u8 a0 <|
 .lI 8 ((a0.length : Nat) : Int) (fun c2 =>
  .ret false) fun c2 =>
 .l2 (gl_spec_NameOk_l0 a0 n 0) (fun o3_0 =>
  .ret o3_0) fun o3_1 =>
 .ret true) (fn_of Tryz.func152)
theorem spec_NameOk_loop {a : List UInt8} (ha : a.length <= 2 ^ 20) : ∀ (d i m : Nat), i + d = a.length → d < m → ∃ z, L_spec_NameOk_l0 a m (i : Int) = some (if (a.drop i).all (inB 97 122) = true then .inr z else .inl false) := by
  intro d
  induction d with
  | zero =>
    intro i m hi hm
    obtain ⟨m, rfl, _⟩ := fuel hm
    exact ⟨_, by rw [L_spec_NameOk_l0, if_neg (by omega), List.drop_eq_nil_of_le (by omega)]; rfl⟩
  | succ d ih =>
    intro i m hi hm
    obtain ⟨m, rfl, hm'⟩ := fuel hm
    have hil : i < a.length := by omega
    rw [L_spec_NameOk_l0, if_pos (by omega), natO_nat, Option.bind_some, get_some hil, Option.bind_some, w64_succ (by omega), drop_cons hil, List.all_cons]
    by_cases h1 : ((a[i].toNat : Nat) : Int) < 97
    · exact ⟨0, by rw [if_pos h1, if_neg]; simp [inB]; omega⟩
    · rw [if_neg h1]
      by_cases h2 : (122 : Int) < ((a[i].toNat : Nat) : Int)
      · exact ⟨0, by rw [if_pos h2, if_neg]; simp [inB]; omega⟩
      · rw [if_neg h2, show inB 97 122 a[i] = true by simp [inB]; omega, Bool.true_and]
        exact ih (i + 1) m (by omega) (by omega)
def S_spec_NameOk (a0 : (List UInt8)) : Option Bool := if a0.length <= 2 ^ 20 then some (nameB a0) else none
theorem spec_spec_NameOk (a0 : (List UInt8)) (r : Bool) (h : S_spec_NameOk a0 = some r) : ∃ n, T_spec_NameOk n a0 = some r := by
  unfold S_spec_NameOk at h
  obtain ⟨ha, h⟩ := need_c h
  refine ⟨a0.length + 1, ?_⟩
  obtain ⟨z, hz⟩ := spec_NameOk_loop ha a0.length 0 (a0.length + 1) (by omega) (by omega)
  rw [show ((0 : Nat) : Int) = 0 from rfl, List.drop_zero] at hz
  unfold T_spec_NameOk
  rw [<- h, hz]
  unfold nameB
  by_cases h1 : 1 <= a0.length
  · rw [if_neg (by omega)]
    by_cases hl : a0.length <= 8
    · rw [if_neg (by omega), decide_eq_true ⟨h1, hl⟩]
      cases a0.all (inB 97 122) <;> rfl
    · rw [if_pos (by omega), decide_eq_false (fun h => hl h.2)]; rfl
  · rw [if_pos (by omega), decide_eq_false (fun h => h1 h.1)]; rfl
theorem ok_spec_NameOk : K_spec_NameOk S_spec_NameOk := fun a0 r h => (spec_spec_NameOk a0 r h).elim fun n hn => g_spec_NameOk n a0 r hn
def K_spec_l4split (F : (List UInt8) → Option ((List UInt8) × (List UInt8) × Bool)) : Prop := ∀ (a0 : (List UInt8)), Oc (F a0) 167 [] [vq e_u8 a0] fun r => (.tup [(false, [cq e_u8 r.1]), (false, [cq e_u8 r.2.1]), (false, [.bool r.2.2])], [])
def L_spec_l4split_l0 (a0 : (List UInt8)) : Nat → Int → Option Int
  | 0, _ => none
  | m + 1, v1 =>
  if v1 < ((a0.length : Nat) : Int) then
   (natO v1).bind fun i2 =>
   (a0[i2]?).bind fun x3 =>
   if ((x3.toNat : Nat) : Int) = 91 then
    some v1
   else
   L_spec_l4split_l0 a0 m (w64 (v1 + 1))
  else
  some v1
theorem gl_spec_l4split_l0 (a0 : (List UInt8)) (m : Nat) : ∀ (v1 : Int), Ol (L_spec_l4split_l0 a0 m v1) 167 (loopB Tryz.f167 0) ⟨[(0, vq e_u8 a0), (5, vi v1)], [], 0⟩ fun o => (.exit 0, ⟨[(0, vq e_u8 a0), (5, vi o), (20, vb false)], [], 0⟩) := by
  induction m with
  | zero => intro v1 o h; cases h
  | succ m ih => exact fun v1 => tlp (
   .le e_u8 a0 <|
   .lI v1 ((a0.length : Nat) : Int) (fun c1 =>
    .na v1 fun i2 =>
    .ix0 e_u8 a0 i2 fun x3 =>
    .eI ((x3.toNat : Nat) : Int) 91 (fun c4 =>
     .ret v1) fun c4 =>
    .go (ih (w64 (v1 + 1)))) fun c1 =>
   .ret v1)
def L_spec_l4split_l1 (a0 : (List UInt8)) (v1 : Int) (v2 : (List UInt8)) (v3 : (List UInt8)) : Nat → Int → Option ((Bool × (List UInt8)) ⊕ Int)
  | 0, _ => none
  | m + 1, v4 =>
  if v4 < ((v3.length : Nat) : Int) then
   (natO v4).bind fun i2 =>
   (v3[i2]?).bind fun x3 =>
   if ((x3.toNat : Nat) : Int) < 48 then
    some (.inl (false, []))
   else
   if 57 < ((x3.toNat : Nat) : Int) then
    some (.inl (false, []))
   else
   L_spec_l4split_l1 a0 v1 v2 v3 m (w64 (v4 + 1))
  else
  some (.inr v4)
theorem gl_spec_l4split_l1 (a0 : (List UInt8)) (v1 : Int) (v2 : (List UInt8)) (v3 : (List UInt8)) (m : Nat) : ∀ (v4 : Int), Ol (L_spec_l4split_l1 a0 v1 v2 v3 m v4) 167 (loopB Tryz.f167 1) ⟨[(0, vq e_u8 a0), (5, vi v1), (6, vq e_u8 v2), (8, vq e_u8 v3), (9, vi v4)], [], 0⟩ fun o => match o with | .inl ⟨o_0_0, o_0_1⟩ => (.ret, ⟨[(2, vr 0), (3, vr 1), (4, vb o_0_0)], [.obj 1 (eL e_u8 o_0_1), .obj 1 (eL e_u8 o_0_1)], 0⟩) | .inr (o_1) => (.exit 2, ⟨[(0, vq e_u8 a0), (5, vi v1), (6, vq e_u8 v2), (8, vq e_u8 v3), (9, vi o_1), (98, vb false)], [], 0⟩) := by
  induction m with
  | zero => intro v4 o h; cases h
  | succ m ih => exact fun v4 => tlp (
   .le e_u8 v3 <|
   .lI v4 ((v3.length : Nat) : Int) (fun c1 =>
    .na v4 fun i2 =>
    .ix0 e_u8 v3 i2 fun x3 =>
    .lI ((x3.toNat : Nat) : Int) 48 (fun c4 =>
     .ret (.inl (false, []))) fun c4 =>
    .ag 1 <|
    .ag 0 <|
    .lI 57 ((x3.toNat : Nat) : Int) (fun c5 =>
     .ret (.inl (false, []))) fun c5 =>
    .go (ih (w64 (v4 + 1)))) fun c1 =>
   .ret (.inr v4))
def T_spec_l4split (n : Nat) (a0 : (List UInt8)) : Option ((List UInt8) × (List UInt8) × Bool) :=
 (L_spec_l4split_l0 a0 n 0).bind fun o1 =>
 (natO o1).bind fun i2 =>
 (cutO a0 none (some i2)).bind fun s3 =>
 (S_spec_NameOk s3).bind fun r4 =>
 match r4 with
 | true =>
  (cutO a0 (some i2) none).bind fun s5 =>
  if ((s5.length : Nat) : Int) = 0 then
   some (a0, s5, true)
  else
  if ((s5.length : Nat) : Int) < 3 then
   some ([], [], false)
  else
  (natO (w64 (((s5.length : Nat) : Int) - 1))).bind fun i8 =>
  (s5[i8]?).bind fun x9 =>
  if ((x9.toNat : Nat) : Int) = 93 then
   (cutO s5 (some 1) (some i8)).bind fun s11 =>
   (s11[0]?).bind fun x12 =>
   if ((x12.toNat : Nat) : Int) = 34 then
    if ((s11.length : Nat) : Int) < 3 then
     some ([], [], false)
    else
    (natO (w64 (((s11.length : Nat) : Int) - 1))).bind fun i15 =>
    (s11[i15]?).bind fun x16 =>
    if ((x16.toNat : Nat) : Int) = 34 then
     (cutO s11 (some 1) (some i15)).bind fun s18 =>
     (S_spec_NameOk s18).bind fun r19 =>
     match r19 with
     | true =>
      some (s3, s5, true)
     | false =>
      some ([], [], false)
    else
    some ([], [], false)
   else
   if 2 < ((s11.length : Nat) : Int) then
    some ([], [], false)
   else
   if ((s11.length : Nat) : Int) = 2 then
    if ((x12.toNat : Nat) : Int) = 48 then
     some ([], [], false)
    else
    (L_spec_l4split_l1 a0 o1 s5 s11 n 0).bind fun o17 =>
    match o17 with
    | .inl ⟨o17_0_0, o17_0_1⟩ =>
     some (o17_0_1, o17_0_1, o17_0_0)
    | .inr (o17_1) =>
     some (s3, s5, true)
   else
   (L_spec_l4split_l1 a0 o1 s5 s11 n 0).bind fun o16 =>
   match o16 with
   | .inl ⟨o16_0_0, o16_0_1⟩ =>
    some (o16_0_1, o16_0_1, o16_0_0)
   | .inr (o16_1) =>
    some (s3, s5, true)
  else
  some ([], [], false)
 | false =>
  some ([], [], false)
theorem g_spec_l4split (n : Nat) : K_spec_l4split (T_spec_l4split n) := fun a0 => tc (
 .lp (gl_spec_l4split_l0 a0 n 0) fun o1 =>
 .na o1 fun i2 =>
 .ct e_u8 a0 none (some i2) fun s3 =>
 .un E_u8 a0 <|
 .cl (ok_spec_NameOk s3) fun r4 =>
 .vN 0 r4 (
  .ag 3 <|
  .ct e_u8 a0 (some i2) none fun s5 =>
  .un E_u8 a0 <|
  .le e_u8 s5 <|
  .eI ((s5.length : Nat) : Int) 0 (fun c6 =>
   .ret (a0, s5, true)) fun c6 =>
  .le e_u8 s5 <|
  .lI ((s5.length : Nat) : Int) 3 (fun c7 =>
   .vw E_u8 [] <|
   .vw E_u8 [] <|
   .ret ([], [], false)) fun c7 =>
  .na (w64 (((s5.length : Nat) : Int) - 1)) fun i8 =>
  .ix0 e_u8 s5 i8 fun x9 =>
  .eI ((x9.toNat : Nat) : Int) 93 (fun c10 =>
   .nl 1 <|
   .ag 1 <|
   .ct e_u8 s5 (some 1) (some i8) fun s11 =>
   .un E_u8 s5 <|
   .nl 0 <|
   .ix0 e_u8 s11 0 fun x12 =>
   .eI ((x12.toNat : Nat) : Int) 34 (fun c13 =>
    .le e_u8 s11 <|
    .lI ((s11.length : Nat) : Int) 3 (fun c14 =>
     .vw E_u8 [] <|
     .vw E_u8 [] <|
     .ret ([], [], false)) fun c14 =>
    .le e_u8 s11 <|
    .na (w64 (((s11.length : Nat) : Int) - 1)) fun i15 =>
    .ix0 e_u8 s11 i15 fun x16 =>
    .eI ((x16.toNat : Nat) : Int) 34 (fun c17 =>
     .le e_u8 s11 <|
     .nl 1 <|
     .ag 1 <|
     .ct e_u8 s11 (some 1) (some i15) fun s18 =>
     .un E_u8 s11 <|
     .cl (ok_spec_NameOk s18) fun r19 =>
     .vN 2 r19 (
      .ag 13 <|
      .ag 12 <|
      .un E_u8 a0 <|
      .ret (s3, s5, true)) <|
     .vw E_u8 [] <|
     .vw E_u8 [] <|
     .ret ([], [], false)) fun c17 =>
    .vw E_u8 [] <|
    .vw E_u8 [] <|
    .ret ([], [], false)) fun c13 =>
   .le e_u8 s11 <|
   .lI 2 ((s11.length : Nat) : Int) (fun c14 =>
    .vw E_u8 [] <|
    .vw E_u8 [] <|
    .ret ([], [], false)) fun c14 =>
   .le e_u8 s11 <|
   .eI ((s11.length : Nat) : Int) 2 (fun c15 =>
    .nl 0 <|
    .ag 0 <|
    .eI ((x12.toNat : Nat) : Int) 48 (fun c16 =>
     .vw E_u8 [] <|
     .vw E_u8 [] <|
     .ret ([], [], false)) fun c16 =>
    .l2 (gl_spec_l4split_l1 a0 o1 s5 s11 n 0) (fun ⟨o17_0_0, o17_0_1⟩ =>
     .vw E_u8 o17_0_1 <|
     .vw E_u8 o17_0_1 <|
     .ret (o17_0_1, o17_0_1, o17_0_0)) fun o17_1 =>
    .ag 9 <|
    .ag 8 <|
    .un E_u8 a0 <|
    .ret (s3, s5, true)) fun c15 =>
   .l2 (gl_spec_l4split_l1 a0 o1 s5 s11 n 0) (fun ⟨o16_0_0, o16_0_1⟩ =>
    .vw E_u8 o16_0_1 <|
    .vw E_u8 o16_0_1 <|
    .ret (o16_0_1, o16_0_1, o16_0_0)) fun o16_1 =>
   .ag 9 <|
   .ag 8 <|
   .un E_u8 a0 <|
   .ret (s3, s5, true)) fun c10 =>
  .vw E_u8 [] <|
  .vw E_u8 [] <|
  .ret ([], [], false)) <|
 .vw E_u8 [] <|
 .vw E_u8 [] <|
 .ret ([], [], false)) (fn_of Tryz.func167)
theorem l4s_find {a : List UInt8} (ha : a.length <= 2 ^ 20) : ∀ (d i m : Nat), i + d = a.length → d < m → L_spec_l4split_l0 a m (i : Int) = some ((i + (nm91 (a.drop i)).length : Nat) : Int) := by
  intro d
  induction d with
  | zero =>
    intro i m hi hm
    obtain ⟨m, rfl, _⟩ := fuel hm
    rw [L_spec_l4split_l0, if_neg (by omega), List.drop_eq_nil_of_le (by omega)]; rfl
  | succ d ih =>
    intro i m hi hm
    obtain ⟨m, rfl, hm'⟩ := fuel hm
    have hil : i < a.length := by omega
    rw [L_spec_l4split_l0, if_pos (by omega), natO_nat, Option.bind_some, get_some hil, Option.bind_some, drop_cons hil]
    unfold nm91
    rw [List.takeWhile_cons]
    by_cases h : a[i] = 91
    · rw [h, if_pos (by decide), if_neg (by simp)]; rfl
    · have : ¬ ((a[i].toNat : Nat) : Int) = 91 := fun e => h (UInt8.toNat_inj.1 (by show a[i].toNat = 91; omega))
      rw [if_neg this, if_pos (by simpa using h), w64_succ (by omega), ih (i + 1) m (by omega) (by omega)]
      unfold nm91
      rw [List.length_cons]
      congr 2; omega
theorem l4s_dig {a v2 l : List UInt8} {v1 : Int} (hl : l.length <= 2 ^ 20) : ∀ (d i m : Nat), i + d = l.length → d < m → ∃ z, L_spec_l4split_l1 a v1 v2 l m (i : Int) = some (if (l.drop i).all (inB 48 57) = true then .inr z else .inl (false, [])) := by
  intro d
  induction d with
  | zero =>
    intro i m hi hm
    obtain ⟨m, rfl, _⟩ := fuel hm
    exact ⟨_, by rw [L_spec_l4split_l1, if_neg (by omega), List.drop_eq_nil_of_le (by omega)]; rfl⟩
  | succ d ih =>
    intro i m hi hm
    obtain ⟨m, rfl, hm'⟩ := fuel hm
    have hil : i < l.length := by omega
    rw [L_spec_l4split_l1, if_pos (by omega), natO_nat, Option.bind_some, get_some hil, Option.bind_some, w64_succ (by omega), drop_cons hil, List.all_cons]
    by_cases h1 : ((l[i].toNat : Nat) : Int) < 48
    · exact ⟨0, by rw [if_pos h1, if_neg]; simp [inB]; omega⟩
    · rw [if_neg h1]
      by_cases h2 : (57 : Int) < ((l[i].toNat : Nat) : Int)
      · exact ⟨0, by rw [if_pos h2, if_neg]; simp [inB]; omega⟩
      · rw [if_neg h2, show inB 48 57 l[i] = true by simp [inB]; omega, Bool.true_and]
        exact ih (i + 1) m (by omega) (by omega)
def splitR (a : List UInt8) : (List UInt8) × (List UInt8) × Bool := if addrB a = true then (nm91 a, rs91 a, true) else ([], [], false)
theorem u8_eq {x : UInt8} {n : Nat} (hn : n < 256) : ((x.toNat : Nat) : Int) = (n : Int) ↔ x = UInt8.ofNat n := by
  constructor
  · intro h
    refine UInt8.toNat_inj.1 ?_
    rw [UInt8.toNat_ofNat_of_lt' hn]; omega
  · intro h
    subst h
    rw [UInt8.toNat_ofNat_of_lt' hn]
theorem l4split_val {a : List UInt8} (ha : a.length <= 2 ^ 20) : T_spec_l4split (a.length + 5) a = some (splitR a) := by
  have hlen := nm_len a
  have h0 := l4s_find ha a.length 0 (a.length + 5) (by omega) (by omega)
  rw [List.drop_zero, Nat.zero_add, show ((0 : Nat) : Int) = 0 from rfl] at h0
  unfold T_spec_l4split
  rw [h0, Option.bind_some, natO_nat, Option.bind_some, cut_to (by omega), Option.bind_some, nm_take]
  unfold S_spec_NameOk
  rw [if_pos (by omega), Option.bind_some]
  unfold splitR
  have hfalse : ∀ {x : (List UInt8) × (List UInt8) × Bool}, addrB a = false → some (([] : List UInt8), ([] : List UInt8), false) = some (if addrB a = true then x else ([], [], false)) := fun h => by rw [h]; rfl
  cases hn : nameB (nm91 a) with
  | false => exact hfalse (by unfold addrB; rw [hn]; rfl)
  | true =>
    dsimp only
    have hA : addrB a = (if rs91 a = [] then true else if ((rs91 a).drop 1).getLast? = some 93 then insB ((rs91 a).drop 1).dropLast else false) := by unfold addrB; rw [hn, Bool.true_and]
    rw [cut_from (by omega), Option.bind_some, nm_drop]
    by_cases hr : rs91 a = []
    · rw [hr, if_pos (by simp), hA, if_pos hr]
      have := nm_rs a
      rw [hr, List.append_nil] at this
      rw [this]; rfl
    obtain ⟨t, ht⟩ := rs_head hr
    rw [ht] at hlen hA ⊢
    rw [if_neg (by simp)] at hA
    simp only [List.drop_succ_cons, List.drop_zero] at hA
    rw [if_neg (by simp; omega)]
    by_cases h3 : (((91 :: t : List UInt8).length : Nat) : Int) < 3
    · rw [if_pos h3]
      refine hfalse ?_
      rw [hA]
      simp only [List.length_cons] at h3
      match t, h3 with
      | [], _ => rfl
      | [x], _ =>
        split
        · rfl
        · rfl
      | x :: y :: t, h3 => simp at h3; omega
    rw [if_neg h3]
    simp only [List.length_cons] at h3
    have ht0 : 0 < t.length := by omega
    rw [show w64 ((((91 :: t : List UInt8).length : Nat) : Int) - 1) = (((91 :: t : List UInt8).length - 1 : Nat) : Int) from w64_pred (by simp only [List.length_cons] at hlen ⊢; omega) (by simp), natO_nat, Option.bind_some]
    have hlast : (91 :: t : List UInt8)[(91 :: t : List UInt8).length - 1]? = t.getLast? := by
      rw [last_get (by simp), List.getLast?_cons]
      cases t with
      | nil => simp at ht0
      | cons x t => rw [List.getLast?_cons]; rfl
    rw [hlast]
    obtain ⟨x, hx⟩ : ∃ x, t.getLast? = some x := by
      cases t with
      | nil => simp at ht0
      | cons y t => exact ⟨_, List.getLast?_cons⟩
    rw [hx, Option.bind_some]
    rw [hx] at hA
    have htrue : ∀ {x : (List UInt8) × (List UInt8) × Bool}, addrB a = true → some x = some (if addrB a = true then x else ([], [], false)) := fun h => by rw [h]; rfl
    by_cases h93 : ¬ x = 93
    · rw [if_neg (show ¬ ((x.toNat : Nat) : Int) = 93 from fun h => h93 ((u8_eq (n := 93) (by decide)).1 h))]
      refine hfalse ?_
      rw [hA, if_neg (by simpa using h93)]
    have h93 : x = 93 := Classical.not_not.1 h93
    subst h93
    rw [if_pos (by decide)]
    rw [if_pos rfl] at hA
    have hmid := cut_mid (l := 91 :: t) (by simp; omega)
    rw [List.drop_succ_cons, List.drop_zero] at hmid
    rw [hmid, Option.bind_some]
    have hdl : t.dropLast.length = t.length - 1 := List.length_dropLast
    generalize t.dropLast = l at hdl hA ⊢
    cases l with
    | nil => simp at hdl; omega
    | cons c r =>
    rw [show (c :: r : List UInt8)[0]? = some c from rfl, Option.bind_some]
    unfold insB at hA
    rw [show (c :: r : List UInt8)[0]? = some c from rfl, List.drop_succ_cons, List.drop_zero] at hA
    have hcl : (c :: r : List UInt8).length <= 2 ^ 20 := by simp only [List.length_cons] at hdl hlen ⊢; omega
    by_cases h34 : c = 34
    · subst h34
      rw [if_pos (by decide)]
      rw [if_pos rfl] at hA
      by_cases hl3 : (((34 :: r : List UInt8).length : Nat) : Int) < 3
      · rw [if_pos hl3]
        refine hfalse ?_
        rw [hA]
        simp only [List.length_cons] at hl3
        match r, hl3 with
        | [], _ => rfl
        | [y], _ =>
          split
          · rfl
          · rfl
        | x :: y :: r, h => simp at h; omega
      rw [if_neg hl3]
      simp only [List.length_cons] at hl3
      have hr0 : 0 < r.length := by omega
      rw [show w64 ((((34 :: r : List UInt8).length : Nat) : Int) - 1) = (((34 :: r : List UInt8).length - 1 : Nat) : Int) from w64_pred (by omega) (by simp), natO_nat, Option.bind_some]
      have hlast2 : (34 :: r : List UInt8)[(34 :: r : List UInt8).length - 1]? = r.getLast? := by
        rw [last_get (by simp), List.getLast?_cons]
        cases r with
        | nil => simp at hr0
        | cons x r => rw [List.getLast?_cons]; rfl
      obtain ⟨y, hy⟩ : ∃ y, r.getLast? = some y := by
        cases r with
        | nil => simp at hr0
        | cons y r => exact ⟨_, List.getLast?_cons⟩
      rw [hlast2, hy, Option.bind_some]
      rw [hy] at hA
      by_cases hy34 : y = 34
      · subst hy34
        rw [if_pos (by decide)]
        rw [if_pos rfl] at hA
        have hm2 := cut_mid (l := 34 :: r) (by simp; omega)
        rw [List.drop_succ_cons, List.drop_zero] at hm2
        rw [hm2, Option.bind_some, if_pos (by rw [List.length_dropLast]; simp only [List.length_cons] at hcl; omega), Option.bind_some]
        cases hk : nameB r.dropLast with
        | true => exact htrue (by rw [hA, hk])
        | false => exact hfalse (by rw [hA, hk])
      · rw [if_neg (show ¬ ((y.toNat : Nat) : Int) = 34 from fun h => hy34 ((u8_eq (n := 34) (by decide)).1 h))]
        exact hfalse (by rw [hA, if_neg (by simpa using hy34)])
    · rw [if_neg (show ¬ ((c.toNat : Nat) : Int) = 34 from fun h => h34 ((u8_eq (n := 34) (by decide)).1 h))]
      rw [if_neg (by simpa using h34)] at hA
      unfold digB at hA
      rw [show (c :: r : List UInt8)[0]? = some c from rfl] at hA
      obtain ⟨z, hz⟩ := l4s_dig (a := a) (v2 := 91 :: t) (l := c :: r) (v1 := (((nm91 a).length : Nat) : Int)) hcl (c :: r).length 0 (a.length + 5) (by omega) (by simp only [List.length_cons] at hlen hdl ⊢; omega)
      rw [List.drop_zero, show ((0 : Nat) : Int) = 0 from rfl] at hz
      by_cases h2 : (2 : Int) < (((c :: r : List UInt8).length : Nat) : Int)
      · rw [if_pos h2]
        exact hfalse (by rw [hA, decide_eq_false (by omega)]; rfl)
      rw [if_neg h2]
      have h12 : decide (1 <= (c :: r : List UInt8).length ∧ (c :: r : List UInt8).length <= 2) = true := decide_eq_true ⟨by simp, by omega⟩
      rw [h12, Bool.true_and] at hA
      have fin : (decide ((c :: r : List UInt8).length = 2) && decide (some c = some 48)) = false → addrB a = (c :: r : List UInt8).all (inB 48 57) := fun h => by
        rw [h, Bool.not_false, Bool.true_and] at hA
        exact hA
      by_cases he : (((c :: r : List UInt8).length : Nat) : Int) = 2
      · rw [if_pos he]
        by_cases h48 : c = 48
        · subst h48
          rw [if_pos (by decide)]
          exact hfalse (by rw [hA, decide_eq_true (by omega)]; rfl)
        · rw [if_neg (show ¬ ((c.toNat : Nat) : Int) = 48 from fun h => h48 ((u8_eq (n := 48) (by decide)).1 h)), hz, Option.bind_some, fin (by rw [decide_eq_false (p := some c = some 48) (by simpa using h48), Bool.and_false])]
          cases (c :: r : List UInt8).all (inB 48 57) <;> rfl
      · rw [if_neg he, hz, Option.bind_some, fin (by rw [decide_eq_false (by omega), Bool.false_and])]
        cases (c :: r : List UInt8).all (inB 48 57) <;> rfl
def S_spec_l4split (a0 : (List UInt8)) : Option ((List UInt8) × (List UInt8) × Bool) := if a0.length <= 2 ^ 20 then some (splitR a0) else none
theorem spec_spec_l4split (a0 : (List UInt8)) (r : ((List UInt8) × (List UInt8) × Bool)) (h : S_spec_l4split a0 = some r) : ∃ n, T_spec_l4split n a0 = some r := by
  unfold S_spec_l4split at h
  obtain ⟨ha, h⟩ := need_c h
  exact ⟨a0.length + 5, by rw [<- h]; exact l4split_val ha⟩
theorem specA_eq {a : List UInt8} (h : a.length <= 2 ^ 20) : (S_spec_l4split a).bind (fun r => some r.2.2) = some (addrB a) := by
  unfold S_spec_l4split splitR
  rw [if_pos h, Option.bind_some]
  cases addrB a <;> rfl
theorem ok_spec_l4split : K_spec_l4split S_spec_l4split := fun a0 r h => (spec_spec_l4split a0 r h).elim fun n hn => g_spec_l4split n a0 r hn
def S_spec_AddrOk (a0 : (List UInt8)) : Option Bool :=
 (S_spec_l4split a0).bind fun ⟨r1_0, r1_1, r1_2⟩ =>
 some r1_2
theorem ok_spec_AddrOk (a0 : (List UInt8)) : Oc (S_spec_AddrOk a0) 124 [] [vq e_u8 a0] fun r => (vb r, []) := tc (
 .cl (ok_spec_l4split a0) fun ⟨r1_0, r1_1, r1_2⟩ =>
 .ret r1_2) (fn_of Tryz.func124)
def K_spec_l4find (F : GState → (List UInt8) → Option Int) : Prop := ∀ (a0 : GState) (a1 : (List UInt8)), Oc (F a0 a1) 115 [] [.val true (x_GState a0), vq e_u8 a1] fun r => (vi r, [])
def L_spec_l4find_l0 (a1 : (List UInt8)) (a0 : GState) : Nat → Int → Option (Int ⊕ Int)
  | 0, _ => none
  | m + 1, v1 =>
  if v1 < ((a0.Entries.length : Nat) : Int) then
   (natO v1).bind fun i2 =>
   (a0.Entries[i2]?).bind fun x3 =>
   if x3.Addr = a1 then
    some (.inl v1)
   else
   L_spec_l4find_l0 a1 a0 m (w64 (v1 + 1))
  else
  some (.inr v1)
theorem gl_spec_l4find_l0 (a1 : (List UInt8)) (a0 : GState) (m : Nat) : ∀ (v1 : Int), Ol (L_spec_l4find_l0 a1 a0 m v1) 115 (loopB Tryz.f115 0) ⟨[(1, vq e_u8 a1), (2, vp 0 0), (5, vi v1)], [.var (x_GState a0)], 0⟩ fun o => match o with | .inl o_0 => (.ret, ⟨[(4, vi o_0)], [], 0⟩) | .inr (o_1) => (.exit 0, ⟨[(1, vq e_u8 a1), (2, vp 0 0), (5, vi o_1), (10, vb false)], [.var (x_GState a0)], 0⟩) := by
  induction m with
  | zero => intro v1 o h; cases h
  | succ m ih => exact fun v1 => tlp (
   .le e_GEntry a0.Entries <|
   .lI v1 ((a0.Entries.length : Nat) : Int) (fun c1 =>
    .na v1 fun i2 =>
    .ix eq_GEntry a0.Entries i2 fun x3 =>
    .bt x3.Addr <|
    .bt a1 <|
    .sI x3.Addr a1 (fun c4 =>
     .ret (.inl v1)) fun c4 =>
    .go (ih (w64 (v1 + 1)))) fun c1 =>
   .ret (.inr v1))
def T_spec_l4find (n : Nat) (a0 : GState) (a1 : (List UInt8)) : Option Int :=
 (L_spec_l4find_l0 a1 a0 n 0).bind fun o1 =>
 match o1 with
 | .inl o1_0 =>
  some o1_0
 | .inr (o1_1) =>
  some (-1)
theorem g_spec_l4find (n : Nat) : K_spec_l4find (T_spec_l4find n) := fun a0 a1 => tc (
 .l2 (gl_spec_l4find_l0 a1 a0 n 0) (fun o1_0 =>
  .ret o1_0) fun o1_1 =>
 .ret (-1)) (fn_of Tryz.func115)
def findA : List GEntry → List UInt8 → Nat → Int
  | [], _, _ => -1
  | e :: l, a, i => if e.Addr = a then (i : Int) else findA l a (i + 1)
theorem findA_has : ∀ (l : List GEntry) (a : List UInt8) (i : Nat), 0 <= findA l a i ↔ hasB l a = true
  | [], a, i => by simp [findA, hasB]
  | e :: l, a, i => by
    have ih := findA_has l a (i + 1)
    unfold hasB at ih ⊢
    rw [findA, List.any_cons]
    by_cases h : e.Addr = a
    · rw [if_pos h, decide_eq_true h]; simp
    · rw [if_neg h, decide_eq_false h, Bool.false_or, ih]
theorem l4find_loop {s : GState} {a : List UInt8} (ha : s.Entries.length <= 2 ^ 40) : ∀ (l p : List GEntry) (m : Nat), s.Entries = p ++ l → l.length < m → ∃ z, L_spec_l4find_l0 a s m ((p.length : Nat) : Int) = some (if hasB l a = true then .inl (findA l a p.length) else .inr z) := by
  intro l
  induction l with
  | nil =>
    intro p m he hm
    obtain ⟨m, rfl, _⟩ := fuel hm
    exact ⟨_, by rw [L_spec_l4find_l0, if_neg (by rw [he]; exact nlt_end p)]; rfl⟩
  | cons x l ih =>
    intro p m he hm
    obtain ⟨m, rfl, hm'⟩ := fuel hm
    have hlen : s.Entries.length = p.length + (l.length + 1) := by rw [he]; simp
    rw [L_spec_l4find_l0, if_pos (by omega), natO_nat, Option.bind_some, show s.Entries[p.length]? = some x by rw [he]; exact get_mid p x l, Option.bind_some]
    unfold hasB
    rw [List.any_cons, findA]
    by_cases h : x.Addr = a
    · rw [if_pos h, decide_eq_true h, if_pos h]
      exact ⟨0, rfl⟩
    · rw [if_neg h, decide_eq_false h, Bool.false_or, if_neg h, w64_len p x (by omega)]
      obtain ⟨z, hz⟩ := ih (p ++ [x]) m (by rw [he]; simp) (by simp only [List.length_cons] at hm'; omega)
      rw [List.length_append, List.length_cons, List.length_nil] at hz
      rw [List.length_append, List.length_cons, List.length_nil]
      exact ⟨z, hz⟩
def S_spec_l4find (a0 : GState) (a1 : (List UInt8)) : Option Int := if a0.Entries.length <= 2 ^ 40 then some (findA a0.Entries a1 0) else none
theorem findA_none {l : List GEntry} {a : List UInt8} (h : hasB l a = false) : ∀ i, findA l a i = -1 := by
  induction l with
  | nil => intro i; rfl
  | cons e l ih =>
    intro i
    unfold hasB at h ih
    rw [List.any_cons, Bool.or_eq_false_iff] at h
    rw [findA, if_neg (of_decide_eq_false h.1), ih h.2]
theorem spec_spec_l4find (a0 : GState) (a1 : (List UInt8)) (r : Int) (h : S_spec_l4find a0 a1 = some r) : ∃ n, T_spec_l4find n a0 a1 = some r := by
  unfold S_spec_l4find at h
  obtain ⟨ha, h⟩ := need_c h
  obtain ⟨z, hz⟩ := l4find_loop (a := a1) ha a0.Entries [] (a0.Entries.length + 1) rfl (by omega)
  refine ⟨a0.Entries.length + 1, ?_⟩
  unfold T_spec_l4find
  simp only [List.length_nil, Int.natCast_zero] at hz
  rw [hz, Option.bind_some, <- h]
  cases hb : hasB a0.Entries a1 with
  | true => rfl
  | false => rw [if_neg (by simp), findA_none hb]
theorem ok_spec_l4find : K_spec_l4find S_spec_l4find := fun a0 a1 r h => (spec_spec_l4find a0 a1 r h).elim fun n hn => g_spec_l4find n a0 a1 r hn
def K_spec_l2text (F : (List UInt8) → Option Bool) : Prop := ∀ (a0 : (List UInt8)), Oc (F a0) 195 [] [vq e_u8 a0] fun r => (vb r, [])
def L_spec_l2text_l0 (a0 : (List UInt8)) : Nat → Int → Option (Bool ⊕ Int)
  | 0, _ => none
  | m + 1, v1 =>
  if v1 < ((a0.length : Nat) : Int) then
   (natO v1).bind fun i2 =>
   (a0[i2]?).bind fun x3 =>
   if ((x3.toNat : Nat) : Int) < 32 then
    some (.inl false)
   else
   if 126 < ((x3.toNat : Nat) : Int) then
    some (.inl false)
   else
   L_spec_l2text_l0 a0 m (w64 (v1 + 1))
  else
  some (.inr v1)
theorem gl_spec_l2text_l0 (a0 : (List UInt8)) (m : Nat) : ∀ (v1 : Int), Ol (L_spec_l2text_l0 a0 m v1) 195 (loopB Tryz.f195 0) ⟨[(0, vq e_u8 a0), (3, vi v1)], [], 0⟩ fun o => match o with | .inl o_0 => (.ret, ⟨[(2, vb o_0)], [], 0⟩) | .inr (o_1) => (.exit 0, ⟨[(0, vq e_u8 a0), (3, vi o_1), (10, vb false)], [], 0⟩) := by
  induction m with
  | zero => intro v1 o h; cases h
  | succ m ih => exact fun v1 => tlp (
   .le e_u8 a0 <|
   .lI v1 ((a0.length : Nat) : Int) (fun c1 =>
    .na v1 fun i2 =>
    .ix0 e_u8 a0 i2 fun x3 =>
    .lI ((x3.toNat : Nat) : Int) 32 (fun c4 =>
     .ret (.inl false)) fun c4 =>
    .ag 1 <|
    .ag 0 <|
    .lI 126 ((x3.toNat : Nat) : Int) (fun c5 =>
     .ret (.inl false)) fun c5 =>
    .go (ih (w64 (v1 + 1)))) fun c1 =>
   .ret (.inr v1))
def T_spec_l2text (n : Nat) (a0 : (List UInt8)) : Option Bool :=
 if 20 < ((a0.length : Nat) : Int) then
  some false
 else
 (L_spec_l2text_l0 a0 n 0).bind fun o2 =>
 match o2 with
 | .inl o2_0 =>
  some o2_0
 | .inr (o2_1) =>
  some true
theorem g_spec_l2text (n : Nat) : K_spec_l2text (T_spec_l2text n) := fun a0 => tc (
 .le e_u8 a0 <|
 .lI 20 ((a0.length : Nat) : Int) (fun c1 =>
  .ret false) fun c1 =>
 .l2 (gl_spec_l2text_l0 a0 n 0) (fun o2_0 =>
  .ret o2_0) fun o2_1 =>
 .ret true) (fn_of Tryz.func195)
theorem spec_l2text_loop {a : List UInt8} (ha : a.length <= 2 ^ 20) : ∀ (d i m : Nat), i + d = a.length → d < m → ∃ z, L_spec_l2text_l0 a m (i : Int) = some (if (a.drop i).all (inB 32 126) = true then .inr z else .inl false) := by
  intro d
  induction d with
  | zero =>
    intro i m hi hm
    obtain ⟨m, rfl, _⟩ := fuel hm
    exact ⟨_, by rw [L_spec_l2text_l0, if_neg (by omega), List.drop_eq_nil_of_le (by omega)]; rfl⟩
  | succ d ih =>
    intro i m hi hm
    obtain ⟨m, rfl, hm'⟩ := fuel hm
    have hil : i < a.length := by omega
    rw [L_spec_l2text_l0, if_pos (by omega), natO_nat, Option.bind_some, get_some hil, Option.bind_some, w64_succ (by omega), drop_cons hil, List.all_cons]
    by_cases h1 : ((a[i].toNat : Nat) : Int) < 32
    · exact ⟨0, by rw [if_pos h1, if_neg]; simp [inB]; omega⟩
    · rw [if_neg h1]
      by_cases h2 : (126 : Int) < ((a[i].toNat : Nat) : Int)
      · exact ⟨0, by rw [if_pos h2, if_neg]; simp [inB]; omega⟩
      · rw [if_neg h2, show inB 32 126 a[i] = true by simp [inB]; omega, Bool.true_and]
        exact ih (i + 1) m (by omega) (by omega)
def S_spec_l2text (a0 : (List UInt8)) : Option Bool := if a0.length <= 2 ^ 20 then some (textB a0) else none
theorem spec_spec_l2text (a0 : (List UInt8)) (r : Bool) (h : S_spec_l2text a0 = some r) : ∃ n, T_spec_l2text n a0 = some r := by
  unfold S_spec_l2text at h
  obtain ⟨ha, h⟩ := need_c h
  refine ⟨a0.length + 1, ?_⟩
  obtain ⟨z, hz⟩ := spec_l2text_loop ha a0.length 0 (a0.length + 1) (by omega) (by omega)
  rw [show ((0 : Nat) : Int) = 0 from rfl, List.drop_zero] at hz
  unfold T_spec_l2text
  rw [<- h, hz]
  unfold textB
  by_cases hl : a0.length <= 20
  · rw [if_neg (by omega), decide_eq_true hl]
    cases a0.all (inB 32 126) <;> rfl
  · rw [if_pos (by omega), decide_eq_false hl]; rfl
theorem ok_spec_l2text : K_spec_l2text S_spec_l2text := fun a0 r h => (spec_spec_l2text a0 r h).elim fun n hn => g_spec_l2text n a0 r hn
def S_spec_l2int (a0 : Int) : Option Bool :=
 if (-1000000000000) <= a0 then
  some (decide (a0 <= 1000000000000))
 else
 some false
theorem ok_spec_l2int (a0 : Int) : Oc (S_spec_l2int a0) 194 [] [vi a0] fun r => (vb r, []) := tc (
 .gI (-1000000000000) a0 (fun c1 =>
  .gD a0 1000000000000 <|
  .ret (decide (a0 <= 1000000000000))) fun c1 =>
 .ret false) (fn_of Tryz.func194)
def K_spec_l2ok (F : GValue → Int → Int → Option Int) : Prop := ∀ (a0 : GValue) (a1 : Int) (a2 : Int), Oc (F a0 a1 a2) 169 [] [.val true (x_GValue a0), vi a1, vi a2] fun r => (vi r, [])
def L_spec_l2ok_l0 (G_spec_l2ok : GValue → Int → Int → Option Int) (a1 : Int) (a0 : GValue) : Nat → Int → Int → Option (Int ⊕ (Int × Int))
  | 0, _, _ => none
  | m + 1, v1, v2 =>
  if v2 < ((a0.L.length : Nat) : Int) then
   if a0.Kind = 5 then
    (natO v2).bind fun i3 =>
    (a0.K[i3]?).bind fun x4 =>
    (S_spec_NameOk x4).bind fun r5 =>
    match r5 with
    | true =>
     if 0 < v2 then
      (natO (w64 (v2 - 1))).bind fun i7 =>
      (a0.K[i7]?).bind fun x8 =>
      if Op.bytesLess x8 x4 = true then
       (a0.L[i3]?).bind fun x10 =>
       (G_spec_l2ok x10 (w64 (a1 + 1)) v1).bind fun r11 =>
       if r11 < 0 then
        some (.inl (-1))
       else
       L_spec_l2ok_l0 G_spec_l2ok a1 a0 m r11 (w64 (v2 + 1))
      else
      some (.inl (-1))
     else
     (a0.L[i3]?).bind fun x7 =>
     (G_spec_l2ok x7 (w64 (a1 + 1)) v1).bind fun r8 =>
     if r8 < 0 then
      some (.inl (-1))
     else
     L_spec_l2ok_l0 G_spec_l2ok a1 a0 m r8 (w64 (v2 + 1))
    | false =>
     some (.inl (-1))
   else
   (natO v2).bind fun i3 =>
   (a0.L[i3]?).bind fun x4 =>
   (G_spec_l2ok x4 (w64 (a1 + 1)) v1).bind fun r5 =>
   if r5 < 0 then
    some (.inl (-1))
   else
   L_spec_l2ok_l0 G_spec_l2ok a1 a0 m r5 (w64 (v2 + 1))
  else
  some (.inr (v1, v2))
theorem gl_spec_l2ok_l0 (G_spec_l2ok : GValue → Int → Int → Option Int) (H_spec_l2ok : K_spec_l2ok G_spec_l2ok) (a1 : Int) (a0 : GValue) (m : Nat) : ∀ (v1 : Int) (v2 : Int), Ol (L_spec_l2ok_l0 G_spec_l2ok a1 a0 m v1 v2) 169 (loopB Tryz.f169 0) ⟨[(1, vi a1), (2, vi v1), (3, vp 0 0), (7, vi v2)], [.var (x_GValue a0)], 0⟩ fun o => match o with | .inl o_0 => (.ret, ⟨[(6, vi o_0)], [], 0⟩) | .inr (⟨o_1_0, o_1_1⟩) => (.exit 1, ⟨[(1, vi a1), (2, vi o_1_0), (3, vp 0 0), (7, vi o_1_1), (117, vb false)], [.var (x_GValue a0)], 0⟩) := by
  induction m with
  | zero => intro v1 v2 o h; cases h
  | succ m ih => exact fun v1 v2 => tlp (
   .le e_GValue a0.L <|
   .lI v2 ((a0.L.length : Nat) : Int) (fun c1 =>
    .eI a0.Kind 5 (fun c2 =>
     .na v2 fun i3 =>
     .ix0 (e_sl e_u8) a0.K i3 fun x4 =>
     .cl (ok_spec_NameOk x4) fun r5 =>
     .vN 2 r5 (
      .an 0 0 <|
      .lI 0 v2 (fun c6 =>
       .an 0 0 <|
       .na (w64 (v2 - 1)) fun i7 =>
       .ix0 (e_sl e_u8) a0.K i7 fun x8 =>
       .bt x8 <|
       .ag 5 <|
       .ag 4 <|
       .bt x4 <|
       .bI x8 x4 (fun c9 =>
        .an 0 2 <|
        .an 2 2 <|
        .ag 5 <|
        .ix eq_GValue a0.L i3 fun x10 =>
        .cl (H_spec_l2ok x10 (w64 (a1 + 1)) v1) fun r11 =>
        .lI r11 0 (fun c12 =>
         .ret (.inl (-1))) fun c12 =>
        .go (ih r11 (w64 (v2 + 1)))) fun c9 =>
       .an 0 2 <|
       .an 2 2 <|
       .ret (.inl (-1))) fun c6 =>
      .an 0 0 <|
      .an 14 0 <|
      .an 2 0 <|
      .ag 3 <|
      .ix eq_GValue a0.L i3 fun x7 =>
      .cl (H_spec_l2ok x7 (w64 (a1 + 1)) v1) fun r8 =>
      .lI r8 0 (fun c9 =>
       .ret (.inl (-1))) fun c9 =>
      .go (ih r8 (w64 (v2 + 1)))) <|
     .an 0 0 <|
     .an 0 0 <|
     .an 0 0 <|
     .an 1 0 <|
     .ret (.inl (-1))) fun c2 =>
    .na v2 fun i3 =>
    .ix eq_GValue a0.L i3 fun x4 =>
    .cl (H_spec_l2ok x4 (w64 (a1 + 1)) v1) fun r5 =>
    .lI r5 0 (fun c6 =>
     .ret (.inl (-1))) fun c6 =>
    .go (ih r5 (w64 (v2 + 1)))) fun c1 =>
   .ret (.inr (v1, v2)))
def T_spec_l2ok (G_spec_l2ok : GValue → Int → Int → Option Int) (n : Nat) (a0 : GValue) (a1 : Int) (a2 : Int) : Option Int :=
 if (w64 (a2 - 1)) < 0 then
  some (-1)
 else
 if 5 < a1 then
  some (-1)
 else
 if a0.Kind = 3 then
  if 0 < ((a0.K.length : Nat) : Int) then
   some (-1)
  else
  if a0.N = 0 then
   if 0 < ((a0.L.length : Nat) : Int) then
    some (-1)
   else
   (S_spec_l2text a0.S).bind fun r7 =>
   match r7 with
   | true =>
    some (w64 (a2 - 1))
   | false =>
    some (-1)
  else
  some (-1)
 else
 if 0 < ((a0.S.length : Nat) : Int) then
  some (-1)
 else
 if a0.Kind = 5 then
  if a0.N = 0 then
   if ((a0.K.length : Nat) : Int) = ((a0.L.length : Nat) : Int) then
    (L_spec_l2ok_l0 G_spec_l2ok a1 a0 n (w64 (a2 - 1)) 0).bind fun o8 =>
    match o8 with
    | .inl o8_0 =>
     some o8_0
    | .inr (⟨o8_1_0, o8_1_1⟩) =>
     some o8_1_0
   else
   some (-1)
  else
  some (-1)
 else
 if 0 < ((a0.K.length : Nat) : Int) then
  some (-1)
 else
 if a0.Kind = 1 then
  if 0 < ((a0.L.length : Nat) : Int) then
   some (-1)
  else
  if a0.N < 0 then
   some (-1)
  else
  if 1 < a0.N then
   some (-1)
  else
  some (w64 (a2 - 1))
 else
 if a0.Kind = 2 then
  if 0 < ((a0.L.length : Nat) : Int) then
   some (-1)
  else
  (S_spec_l2int a0.N).bind fun r10 =>
  match r10 with
  | true =>
   some (w64 (a2 - 1))
  | false =>
   some (-1)
 else
 if a0.N = 0 then
  if a0.Kind = 4 then
   (L_spec_l2ok_l0 G_spec_l2ok a1 a0 n (w64 (a2 - 1)) 0).bind fun o11 =>
   match o11 with
   | .inl o11_0 =>
    some o11_0
   | .inr (⟨o11_1_0, o11_1_1⟩) =>
    some o11_1_0
  else
  if 0 < ((a0.L.length : Nat) : Int) then
   some (-1)
  else
  if a0.Kind = 0 then
   some (w64 (a2 - 1))
  else
  if a0.Kind = 6 then
   some (w64 (a2 - 1))
  else
  some (-1)
 else
 some (-1)
theorem g_spec_l2ok (G_spec_l2ok : GValue → Int → Int → Option Int) (H_spec_l2ok : K_spec_l2ok G_spec_l2ok) (n : Nat) : K_spec_l2ok (T_spec_l2ok G_spec_l2ok n) := fun a0 a1 a2 => tc (
 .lI (w64 (a2 - 1)) 0 (fun c1 =>
  .ret (-1)) fun c1 =>
 .lI 5 a1 (fun c2 =>
  .ret (-1)) fun c2 =>
 .eI a0.Kind 3 (fun c3 =>
  .q (.eFo a0.Kind 5 (by omega)) <|
  .le (e_sl e_u8) a0.K <|
  .lI 0 ((a0.K.length : Nat) : Int) (fun c4 =>
   .ret (-1)) fun c4 =>
  .q (.eFo a0.Kind 1 (by omega)) <|
  .q (.eFo a0.Kind 2 (by omega)) <|
  .eI a0.N 0 (fun c5 =>
   .q (.eFo a0.Kind 4 (by omega)) <|
   .q (.eFo a0.Kind 5 (by omega)) <|
   .le e_GValue a0.L <|
   .lI 0 ((a0.L.length : Nat) : Int) (fun c6 =>
    .ret (-1)) fun c6 =>
   .q (.eFo a0.Kind 0 (by omega)) <|
   .q (.eFo a0.Kind 6 (by omega)) <|
   .q (.eFo a0.Kind 1 (by omega)) <|
   .q (.eFo a0.Kind 2 (by omega)) <|
   .q (.eT c3) <|
   .cl (ok_spec_l2text a0.S) fun r7 =>
   .vN 0 r7 (
    .ret (w64 (a2 - 1))) <|
   .ret (-1)) fun c5 =>
  .ret (-1)) fun c3 =>
 .le e_u8 a0.S <|
 .lI 0 ((a0.S.length : Nat) : Int) (fun c4 =>
  .ret (-1)) fun c4 =>
 .eI a0.Kind 5 (fun c5 =>
  .q (.eFo a0.Kind 1 (by omega)) <|
  .q (.eFo a0.Kind 2 (by omega)) <|
  .eI a0.N 0 (fun c6 =>
   .q (.eFo a0.Kind 4 (by omega)) <|
   .q (.eT c5) <|
   .q (.eFo a0.Kind 0 (by omega)) <|
   .q (.eFo a0.Kind 6 (by omega)) <|
   .q (.eFo a0.Kind 1 (by omega)) <|
   .q (.eFo a0.Kind 2 (by omega)) <|
   .q (.eF c3) <|
   .q (.eFo a0.Kind 4 (by omega)) <|
   .q (.eT c5) <|
   .q (.eT c5) <|
   .le (e_sl e_u8) a0.K <|
   .le e_GValue a0.L <|
   .eI ((a0.K.length : Nat) : Int) ((a0.L.length : Nat) : Int) (fun c7 =>
    .l2 (gl_spec_l2ok_l0 G_spec_l2ok H_spec_l2ok a1 a0 n (w64 (a2 - 1)) 0) (fun o8_0 =>
     .ret o8_0) fun ⟨o8_1_0, o8_1_1⟩ =>
    .ret o8_1_0) fun c7 =>
   .ret (-1)) fun c6 =>
  .ret (-1)) fun c5 =>
 .le (e_sl e_u8) a0.K <|
 .lI 0 ((a0.K.length : Nat) : Int) (fun c6 =>
  .ret (-1)) fun c6 =>
 .eI a0.Kind 1 (fun c7 =>
  .q (.eFo a0.Kind 4 (by omega)) <|
  .q (.eF c5) <|
  .le e_GValue a0.L <|
  .lI 0 ((a0.L.length : Nat) : Int) (fun c8 =>
   .ret (-1)) fun c8 =>
  .q (.eFo a0.Kind 0 (by omega)) <|
  .q (.eFo a0.Kind 6 (by omega)) <|
  .q (.eT c7) <|
  .lI a0.N 0 (fun c9 =>
   .ret (-1)) fun c9 =>
  .lI 1 a0.N (fun c10 =>
   .ret (-1)) fun c10 =>
  .ret (w64 (a2 - 1))) fun c7 =>
 .eI a0.Kind 2 (fun c8 =>
  .q (.eFo a0.Kind 4 (by omega)) <|
  .q (.eF c5) <|
  .le e_GValue a0.L <|
  .lI 0 ((a0.L.length : Nat) : Int) (fun c9 =>
   .ret (-1)) fun c9 =>
  .q (.eFo a0.Kind 0 (by omega)) <|
  .q (.eFo a0.Kind 6 (by omega)) <|
  .q (.eF c7) <|
  .q (.eT c8) <|
  .cl (ok_spec_l2int a0.N) fun r10 =>
  .vN 0 r10 (
   .ret (w64 (a2 - 1))) <|
  .ret (-1)) fun c8 =>
 .eI a0.N 0 (fun c9 =>
  .eI a0.Kind 4 (fun c10 =>
   .q (.eFo a0.Kind 0 (by omega)) <|
   .q (.eFo a0.Kind 6 (by omega)) <|
   .q (.eF c7) <|
   .q (.eF c8) <|
   .q (.eF c3) <|
   .q (.eT c10) <|
   .q (.eF c5) <|
   .l2 (gl_spec_l2ok_l0 G_spec_l2ok H_spec_l2ok a1 a0 n (w64 (a2 - 1)) 0) (fun o11_0 =>
    .ret o11_0) fun ⟨o11_1_0, o11_1_1⟩ =>
   .ret o11_1_0) fun c10 =>
  .q (.eF c5) <|
  .le e_GValue a0.L <|
  .lI 0 ((a0.L.length : Nat) : Int) (fun c11 =>
   .ret (-1)) fun c11 =>
  .eI a0.Kind 0 (fun c12 =>
   .ret (w64 (a2 - 1))) fun c12 =>
  .eI a0.Kind 6 (fun c13 =>
   .ret (w64 (a2 - 1))) fun c13 =>
  .q (.eF c7) <|
  .q (.eF c8) <|
  .q (.eF c3) <|
  .q (.eF c10) <|
  .q (.eF c5) <|
  .ret (-1)) fun c9 =>
 .ret (-1)) (fn_of Tryz.func169)
def U_spec_l2ok : Nat → GValue → Int → Int → Option Int
  | 0, _, _, _ => none
  | n + 1, a0, a1, a2 => T_spec_l2ok (U_spec_l2ok n) n a0 a1 a2
theorem rec_spec_l2ok (n : Nat) : K_spec_l2ok (U_spec_l2ok n) := by
  induction n with
  | zero => exact fun _ _ _ _ h => (by rw [U_spec_l2ok] at h; cases h)
  | succ n ih =>
    have ih_spec_l2ok := ih
    exact fun a0 a1 a2 r h => g_spec_l2ok (U_spec_l2ok n) ih_spec_l2ok n a0 a1 a2 r (by rw [U_spec_l2ok] at h; exact h)
def okV (d : Nat) (left : Int) (v : GValue) : Int := if shV d v = true ∧ (ptV v : Int) <= left then left - ptV v else -1
theorem nameOk_eq {a : List UInt8} (h : a.length <= 2 ^ 20) : S_spec_NameOk a = some (nameB a) := if_pos h
theorem l2text_eq {a : List UInt8} (h : a.length <= 2 ^ 20) : S_spec_l2text a = some (textB a) := if_pos h
theorem l2int_eq (n : Int) : S_spec_l2int n = some (decide (-1000000000000 <= n ∧ n <= 1000000000000)) := by
  unfold S_spec_l2int
  by_cases h : (-1000000000000 : Int) <= n
  · rw [if_pos h]; simp [h]
  · rw [if_neg h]; simp [h]
theorem l2ok_loop {G : GValue → Int → Int → Option Int} {v : GValue} {dd : Nat} {deep : Int} (hdd : deep + dd = 5) (h1d : 1 <= deep) (hs : vsz v <= 2 ^ 20) (hk : v.Kind = 4 ∨ (v.Kind = 5 ∧ v.K.length = v.L.length))
    (hG : ∀ x ∈ v.L, ∀ r : Int, 0 <= r → r <= 40 → G x (deep + 1) r = some (okV dd r x)) : ∀ (d i m : Nat) (r : Int), i + d = v.L.length → d < m → 0 <= r → r <= 40 →
    ∃ z, L_spec_l2ok_l0 G deep v m r (i : Int) = some (if ((v.Kind = 5 → kAll v.K i d = true) ∧ (v.L.drop i).all (shV dd) = true) ∧ (ptVs (v.L.drop i) : Int) <= r then .inr (r - ptVs (v.L.drop i), z) else .inl (-1)) := by
  have he := vsz_eq v
  have hl := vszs_len v.L
  intro d
  induction d with
  | zero =>
    intro i m r hi hm h0 h1
    obtain ⟨m, rfl, _⟩ := fuel hm
    refine ⟨(i : Int), ?_⟩
    rw [L_spec_l2ok_l0, if_neg (by omega), List.drop_eq_nil_of_le (by omega), if_pos ⟨⟨fun _ => rfl, rfl⟩, by simpa [ptVs] using h0⟩]
    simp [ptVs]
  | succ d ih =>
    intro i m r hi hm h0 h1
    obtain ⟨m, rfl, hm'⟩ := fuel hm
    have hil : i < v.L.length := by omega
    have hp : ptVs (v.L.drop i) = ptV v.L[i] + ptVs (v.L.drop (i + 1)) := by rw [drop_cons hil]; simp only [ptVs]
    have ha : (v.L.drop i).all (shV dd) = (shV dd v.L[i] && (v.L.drop (i + 1)).all (shV dd)) := by rw [drop_cons hil, List.all_cons]
    have hd1 : w64 (deep + 1) = deep + 1 := w64_id (by omega) (by omega)
    have tail : (v.Kind = 5 → kOk v.K i = true) → ∃ z, ((G v.L[i] (w64 (deep + 1)) r).bind fun r12 => if r12 < 0 then some (.inl (-1)) else L_spec_l2ok_l0 G deep v m r12 (w64 ((i : Int) + 1))) =
        some (if ((v.Kind = 5 → kAll v.K i (d + 1) = true) ∧ (v.L.drop i).all (shV dd) = true) ∧ (ptVs (v.L.drop i) : Int) <= r then .inr (r - ptVs (v.L.drop i), z) else .inl (-1)) := by
      intro hki
      rw [hd1, hG _ (List.getElem_mem hil) r h0 h1, Option.bind_some, w64_succ (by omega), hp, ha]
      unfold okV
      by_cases hc : shV dd v.L[i] = true ∧ (ptV v.L[i] : Int) <= r
      · rw [if_pos hc, if_neg (by omega)]
        obtain ⟨z, hz⟩ := ih (i + 1) m (r - ptV v.L[i]) (by omega) (by omega) (by omega) (by omega)
        refine ⟨z, ?_⟩
        rw [hz, hc.1, Bool.true_and]
        have hcond : (((v.Kind = 5 → kAll v.K (i + 1) d = true) ∧ (v.L.drop (i + 1)).all (shV dd) = true) ∧ (ptVs (v.L.drop (i + 1)) : Int) <= r - ptV v.L[i]) ↔
            (((v.Kind = 5 → kAll v.K i (d + 1) = true) ∧ (v.L.drop (i + 1)).all (shV dd) = true) ∧ ((ptV v.L[i] + ptVs (v.L.drop (i + 1)) : Nat) : Int) <= r) := by
          have hka : (v.Kind = 5 → kAll v.K (i + 1) d = true) ↔ (v.Kind = 5 → kAll v.K i (d + 1) = true) := by
            constructor
            · intro h hk; rw [kAll_succ, hki hk, h hk]; rfl
            · intro h hk; have := h hk; rw [kAll_succ, hki hk, Bool.true_and] at this; exact this
          rw [hka]
          constructor
          · rintro ⟨h1, h2⟩; exact ⟨h1, by omega⟩
          · rintro ⟨h1, h2⟩; exact ⟨h1, by omega⟩
        by_cases hd : ((v.Kind = 5 → kAll v.K (i + 1) d = true) ∧ (v.L.drop (i + 1)).all (shV dd) = true) ∧ (ptVs (v.L.drop (i + 1)) : Int) <= r - ptV v.L[i]
        · rw [if_pos hd, if_pos (hcond.1 hd)]; congr 3; omega
        · rw [if_neg hd, if_neg (fun h => hd (hcond.2 h))]
      · refine ⟨0, ?_⟩
        rw [if_neg hc, if_pos (by omega), if_neg]
        rintro ⟨⟨_, h2⟩, h3⟩
        rw [Bool.and_eq_true] at h2
        exact hc ⟨h2.1, by omega⟩
    have bad : v.Kind = 5 → kOk v.K i = false → ∃ z, (some (.inl (-1)) : Option (Int ⊕ (Int × Int))) = some (if ((v.Kind = 5 → kAll v.K i (d + 1) = true) ∧ (v.L.drop i).all (shV dd) = true) ∧ (ptVs (v.L.drop i) : Int) <= r then .inr (r - ptVs (v.L.drop i), z) else .inl (-1)) := by
      intro hk hki
      refine ⟨0, ?_⟩
      rw [if_neg]
      rintro ⟨⟨h1, _⟩, _⟩
      have := h1 hk
      rw [kAll_succ, hki] at this
      cases this
    rw [L_spec_l2ok_l0, if_pos (by omega)]
    rcases hk with hk | ⟨hk, hkl⟩
    · rw [if_neg (by omega), natO_nat, Option.bind_some, get_some hil, Option.bind_some]
      exact tail fun h => by omega
    · have hik : i < v.K.length := by omega
      have hx := bsz_mem (List.getElem_mem hik)
      rw [if_pos hk, natO_nat, Option.bind_some, get_some hik, Option.bind_some, nameOk_eq (by omega), Option.bind_some]
      cases hnm : nameB v.K[i] with
      | false =>
        dsimp only
        refine bad hk ?_
        by_cases h0 : i = 0
        · subst h0; rw [kOk_zero hik, hnm]
        · rw [kOk_eq hik (by omega), hnm]; rfl
      | true =>
        dsimp only
        by_cases h0 : 0 < i
        · rw [if_pos (by omega), w64_pred (by omega) h0, natO_nat, Option.bind_some, get_some (show i - 1 < v.K.length by omega), Option.bind_some]
          by_cases hb : Op.bytesLess (v.K[i - 1]'(by omega)) v.K[i] = true
          · rw [if_pos hb, get_some hil, Option.bind_some]
            exact tail fun _ => by rw [kOk_eq hik h0, hnm, hb]; rfl
          · rw [if_neg hb]
            refine bad hk ?_
            rw [kOk_eq hik h0, hnm]; simpa using hb
        · have : i = 0 := by omega
          subst this
          rw [if_neg (by omega), get_some hil, Option.bind_some]
          exact tail fun _ => by rw [kOk_zero hik, hnm]
theorem l2ok_T {G : GValue → Int → Int → Option Int} {v : GValue} {f dd : Nat} {deep left : Int} (hdd : deep + dd = 5 ∨ (deep = 6 ∧ dd = 0)) (h1d : 1 <= deep) (hs : vsz v <= 2 ^ 20) (hf : v.L.length < f) (h0 : 0 <= left) (h1 : left <= 40)
    (hG : deep <= 5 → ∀ x ∈ v.L, ∀ r : Int, 0 <= r → r <= 40 → G x (deep + 1) r = some (okV dd r x)) : T_spec_l2ok G f v deep left = some (okV (if deep <= 5 then dd + 1 else 0) left v) := by
  have he := vsz_eq v
  have hl := vszs_len v.L
  have hpt := ptV_eq v
  have hpl := ptVs_len v.L
  unfold T_spec_l2ok
  rw [w64_id (by omega) (by omega)]
  by_cases hleft : left - 1 < 0
  · rw [if_pos hleft]
    unfold okV; rw [if_neg (by rintro ⟨_, h⟩; omega)]
  rw [if_neg hleft]
  by_cases hdeep : 5 < deep
  · rw [if_pos hdeep, if_neg (show ¬ deep <= 5 by omega)]
    unfold okV; rw [if_neg (by rintro ⟨h, _⟩; simp [shV] at h)]
  rw [if_neg hdeep, if_pos (show deep <= 5 by omega)]
  have hdd : deep + dd = 5 := by omega
  have hG := hG (by omega)
  unfold okV
  simp only [shV]
  have fin0 : v.L.length = 0 → (v.L.all (shV dd) = true ∧ ptV v = 1) := fun h => by
    have : v.L = [] := List.eq_nil_of_length_eq_zero h
    rw [hpt, this]; exact ⟨rfl, rfl⟩
  have yes : locV v = true → v.L.length = 0 → some (left - 1) = some (if (locV v && v.L.all (shV dd)) = true ∧ (ptV v : Int) <= left then left - ptV v else -1) := fun h1 h2 => by
    obtain ⟨a1, a2⟩ := fin0 h2
    rw [h1, a1, a2, if_pos ⟨rfl, by omega⟩]; rfl
  have no : locV v = false → some (-1) = some (if (locV v && v.L.all (shV dd)) = true ∧ (ptV v : Int) <= left then left - ptV v else -1) := fun h1 => by
    rw [h1, if_neg (by rintro ⟨h, _⟩; cases h)]
  have lp : v.Kind = 4 ∨ (v.Kind = 5 ∧ v.K.length = v.L.length) → (∀ b : Bool, v.L.length <= 40 → ((v.Kind = 5 → kAll v.K 0 v.L.length = true) ↔ b = true) → locV v = b) → ((L_spec_l2ok_l0 G deep v f (left - 1) 0).bind fun o8 => match o8 with | .inl o8_0 => some o8_0 | .inr (⟨o8_1_0, o8_1_1⟩) => some o8_1_0) =
      some (if (locV v && v.L.all (shV dd)) = true ∧ (ptV v : Int) <= left then left - ptV v else -1) := fun hk hloc => by
    obtain ⟨z, hz⟩ := l2ok_loop (G := G) hdd h1d hs hk hG v.L.length 0 f (left - 1) (by omega) (by omega) (by omega) (by omega)
    rw [show ((0 : Nat) : Int) = 0 from rfl, List.drop_zero] at hz
    rw [hz, Option.bind_some]
    by_cases hc : ((v.Kind = 5 → kAll v.K 0 v.L.length = true) ∧ v.L.all (shV dd) = true) ∧ (ptVs v.L : Int) <= left - 1
    · rw [if_pos hc]
      have h40 : v.L.length <= 40 := by omega
      have := hloc true h40 ⟨fun _ => rfl, fun _ => hc.1.1⟩
      rw [this, hc.1.2, if_pos ⟨rfl, by omega⟩, hpt]
      dsimp only
      congr 1; omega
    · rw [if_neg hc, if_neg]
      rintro ⟨h2, h3⟩
      rw [Bool.and_eq_true] at h2
      refine hc ⟨⟨?_, h2.2⟩, by omega⟩
      by_cases h40 : v.L.length <= 40
      · by_cases hb : (v.Kind = 5 → kAll v.K 0 v.L.length = true)
        · exact hb
        · have := hloc false h40 ⟨fun h => (hb h).elim, fun h => by cases h⟩
          rw [this] at h2; cases h2.1
      · omega
  have hloc : ∀ k, v.Kind = k → locV v = (if k = 0 ∨ k = 6 then decide (v.N = 0 ∧ v.S.length = 0 ∧ v.K.length = 0 ∧ v.L.length = 0)
      else if k = 1 then decide ((0 <= v.N ∧ v.N <= 1) ∧ v.S.length = 0 ∧ v.K.length = 0 ∧ v.L.length = 0)
      else if k = 2 then decide ((-1000000000000 <= v.N ∧ v.N <= 1000000000000) ∧ v.S.length = 0 ∧ v.K.length = 0 ∧ v.L.length = 0)
      else if k = 3 then textB v.S && decide (v.N = 0 ∧ v.K.length = 0 ∧ v.L.length = 0)
      else if k = 4 then decide (v.N = 0 ∧ v.S.length = 0 ∧ v.K.length = 0 ∧ v.L.length <= 40)
      else if k = 5 then decide (v.K.length = v.L.length ∧ v.N = 0 ∧ v.S.length = 0 ∧ v.L.length <= 40) && kAll v.K 0 v.K.length
      else false) := fun k hk => by unfold locV; rw [hk]
  by_cases k3 : v.Kind = 3
  · have hv := hloc 3 k3
    simp only [show ¬ ((3 : Int) = 0 ∨ (3 : Int) = 6) by omega, if_false, show ¬ ((3 : Int) = 1) by omega, show ¬ ((3 : Int) = 2) by omega, if_true] at hv
    rw [if_pos k3]
    by_cases a1 : 0 < ((v.K.length : Nat) : Int)
    · rw [if_pos a1]; exact no (by rw [hv, decide_eq_false (by omega)]; simp)
    · rw [if_neg a1]
      by_cases a2 : v.N = 0
      · rw [if_pos a2]
        by_cases a3 : 0 < ((v.L.length : Nat) : Int)
        · rw [if_pos a3]; exact no (by rw [hv, decide_eq_false (by omega)]; simp)
        · rw [if_neg a3, l2text_eq (by omega), Option.bind_some]
          rw [decide_eq_true (by omega), Bool.and_true] at hv
          cases ht : textB v.S with
          | true => exact yes (by rw [hv, ht]) (by omega)
          | false => exact no (by rw [hv, ht])
      · rw [if_neg a2]; exact no (by rw [hv, decide_eq_false (by omega)]; simp)
  rw [if_neg k3]
  by_cases hS : 0 < ((v.S.length : Nat) : Int)
  · rw [if_pos hS]
    refine no ?_
    unfold locV
    simp only [k3, if_false]
    repeat' split
    all_goals first | rfl | (rw [decide_eq_false (by omega)]; try rfl)
  rw [if_neg hS]
  by_cases k5 : v.Kind = 5
  · have hv := hloc 5 k5
    simp only [show ¬ ((5 : Int) = 0 ∨ (5 : Int) = 6) by omega, if_false, show ¬ ((5 : Int) = 1) by omega, show ¬ ((5 : Int) = 2) by omega, show ¬ ((5 : Int) = 3) by omega, show ¬ ((5 : Int) = 4) by omega, if_true] at hv
    rw [if_pos k5]
    by_cases a2 : v.N = 0
    · rw [if_pos a2]
      by_cases a3 : ((v.K.length : Nat) : Int) = ((v.L.length : Nat) : Int)
      · rw [if_pos a3]
        refine lp (.inr ⟨k5, by omega⟩) fun b h40 hb => ?_
        rw [hv, decide_eq_true (by omega), Bool.true_and, show v.K.length = v.L.length by omega, Bool.eq_iff_iff, <- hb]
        exact ⟨fun h _ => h, fun h => h k5⟩
      · rw [if_neg a3]; exact no (by rw [hv, decide_eq_false (by omega)]; rfl)
    · rw [if_neg a2]; exact no (by rw [hv, decide_eq_false (by omega)]; rfl)
  rw [if_neg k5]
  by_cases hK : 0 < ((v.K.length : Nat) : Int)
  · rw [if_pos hK]
    refine no ?_
    unfold locV
    simp only [k3, k5, if_false]
    repeat' split
    all_goals first | rfl | (rw [decide_eq_false (by omega)]; try rfl)
  rw [if_neg hK]
  by_cases k1 : v.Kind = 1
  · have hv := hloc 1 k1
    simp only [show ¬ ((1 : Int) = 0 ∨ (1 : Int) = 6) by omega, if_false, if_true] at hv
    rw [if_pos k1]
    by_cases a3 : 0 < ((v.L.length : Nat) : Int)
    · rw [if_pos a3]; exact no (by rw [hv, decide_eq_false (by omega)])
    · rw [if_neg a3]
      by_cases a4 : v.N < 0
      · rw [if_pos a4]; exact no (by rw [hv, decide_eq_false (by omega)])
      · rw [if_neg a4]
        by_cases a5 : 1 < v.N
        · rw [if_pos a5]; exact no (by rw [hv, decide_eq_false (by omega)])
        · rw [if_neg a5]; exact yes (by rw [hv, decide_eq_true (by omega)]) (by omega)
  rw [if_neg k1]
  by_cases k2 : v.Kind = 2
  · have hv := hloc 2 k2
    simp only [show ¬ ((2 : Int) = 0 ∨ (2 : Int) = 6) by omega, if_false, show ¬ ((2 : Int) = 1) by omega, if_true] at hv
    rw [if_pos k2]
    by_cases a3 : 0 < ((v.L.length : Nat) : Int)
    · rw [if_pos a3]; exact no (by rw [hv, decide_eq_false (by omega)])
    · rw [if_neg a3, l2int_eq, Option.bind_some]
      by_cases a4 : -1000000000000 <= v.N ∧ v.N <= 1000000000000
      · rw [decide_eq_true a4]; exact yes (by rw [hv, decide_eq_true (by omega)]) (by omega)
      · rw [decide_eq_false a4]; exact no (by rw [hv, decide_eq_false (by omega)])
  rw [if_neg k2]
  by_cases a2 : v.N = 0
  · rw [if_pos a2]
    by_cases k4 : v.Kind = 4
    · have hv := hloc 4 k4
      simp only [show ¬ ((4 : Int) = 0 ∨ (4 : Int) = 6) by omega, if_false, show ¬ ((4 : Int) = 1) by omega, show ¬ ((4 : Int) = 2) by omega, show ¬ ((4 : Int) = 3) by omega, if_true] at hv
      rw [if_pos k4]
      refine lp (.inl k4) fun b h40 hb => ?_
      rw [hv, decide_eq_true (by omega)]
      exact (hb.1 fun h => by omega).symm
    · rw [if_neg k4]
      by_cases a3 : 0 < ((v.L.length : Nat) : Int)
      · rw [if_pos a3]
        refine no ?_
        unfold locV
        simp only [k1, k2, k3, k4, k5, if_false]
        repeat' split
        all_goals first | rfl | (rw [decide_eq_false (by omega)])
      · rw [if_neg a3]
        by_cases k0 : v.Kind = 0
        · rw [if_pos k0]; exact yes (by unfold locV; rw [if_pos (.inl k0), decide_eq_true (by omega)]) (by omega)
        · rw [if_neg k0]
          by_cases k6 : v.Kind = 6
          · rw [if_pos k6]; exact yes (by unfold locV; rw [if_pos (.inr k6), decide_eq_true (by omega)]) (by omega)
          · rw [if_neg k6]
            exact no (by unfold locV; simp only [k0, k1, k2, k3, k4, k5, k6, or_self, if_false])
  · rw [if_neg a2]
    refine no ?_
    unfold locV
    simp only [k1, k2, k3, k5, if_false]
    repeat' split
    all_goals first | rfl | (rw [decide_eq_false (by omega)])
theorem l2ok_U : ∀ (N : Nat) (v : GValue), vsz v < N → vsz v <= 2 ^ 20 → ∀ (f : Nat) (deep left : Int), vsz v + 2 <= f → 1 <= deep → deep <= 6 → 0 <= left → left <= 40 → U_spec_l2ok f v deep left = some (okV (6 - deep).toNat left v) := by
  intro N
  induction N with
  | zero => intro v hv; omega
  | succ N ih =>
    intro v hv hs f deep left hf h1 h2 h3 h4
    obtain ⟨f, rfl, _⟩ := fuel (show 0 < f by omega)
    have he := vsz_eq v
    have hl := vszs_len v.L
    rw [U_spec_l2ok]
    have := l2ok_T (G := U_spec_l2ok f) (f := f) (dd := (5 - deep).toNat) (deep := deep) (left := left) (by omega) h1 hs (by omega) h3 h4 fun hd x hx r g0 g1 => by
      have hm := vszs_mem hx
      have := ih x (by omega) (by omega) f (deep + 1) r (by omega) (by omega) (by omega) g0 g1
      rw [show (6 - (deep + 1)).toNat = (5 - deep).toNat by omega] at this
      exact this
    rw [this]
    congr 2
    by_cases hd : deep <= 5
    · rw [if_pos hd]; omega
    · rw [if_neg hd]; omega
def S_spec_l2ok (a0 : GValue) (a1 : Int) (a2 : Int) : Option Int := if vsz a0 <= 2 ^ 20 ∧ (1 <= a1 ∧ a1 <= 6) ∧ 0 <= a2 ∧ a2 <= 40 then some (okV (6 - a1).toNat a2 a0) else none
theorem spec_spec_l2ok (a0 : GValue) (a1 : Int) (a2 : Int) (r : Int) (h : S_spec_l2ok a0 a1 a2 = some r) : ∃ n, U_spec_l2ok n a0 a1 a2 = some r := by
  unfold S_spec_l2ok at h
  obtain ⟨⟨hs, ⟨h1, h2⟩, h3, h4⟩, h⟩ := need_c h
  exact ⟨vsz a0 + 2, by rw [<- h]; exact l2ok_U _ a0 (Nat.lt_succ_self _) hs _ a1 a2 (Nat.le_refl _) h1 h2 h3 h4⟩
theorem ok_spec_l2ok : K_spec_l2ok S_spec_l2ok := by
  intro a0 a1 a2 r h
  obtain ⟨n, hn⟩ := spec_spec_l2ok a0 a1 a2 r h
  exact (rec_spec_l2ok n) a0 a1 a2 r hn
def S_spec_ValOk (a0 : GValue) : Option Bool :=
 (S_spec_l2ok a0 1 40).bind fun r1 =>
 some (decide (0 <= r1))
theorem ok_spec_ValOk (a0 : GValue) : Oc (S_spec_ValOk a0) 127 [] [.val true (x_GValue a0)] fun r => (vb r, []) := tc (
 .cl (ok_spec_l2ok a0 1 40) fun r1 =>
 .gD 0 r1 <|
 .ret (decide (0 <= r1))) (fn_of Tryz.func127)
def K_spec_l2known (F : GValue → Option Bool) : Prop := ∀ (a0 : GValue), Oc (F a0) 168 [] [.val true (x_GValue a0)] fun r => (vb r, [])
def L_spec_l2known_l0 (G_spec_l2known : GValue → Option Bool) (a0 : GValue) : Nat → Int → Option (Bool ⊕ Int)
  | 0, _ => none
  | m + 1, v0 =>
  if v0 < ((a0.L.length : Nat) : Int) then
   (natO v0).bind fun i2 =>
   (a0.L[i2]?).bind fun x3 =>
   (G_spec_l2known x3).bind fun r4 =>
   match r4 with
   | true =>
    L_spec_l2known_l0 G_spec_l2known a0 m (w64 (v0 + 1))
   | false =>
    some (.inl false)
  else
  some (.inr v0)
theorem gl_spec_l2known_l0 (G_spec_l2known : GValue → Option Bool) (H_spec_l2known : K_spec_l2known G_spec_l2known) (a0 : GValue) (m : Nat) : ∀ (v0 : Int), Ol (L_spec_l2known_l0 G_spec_l2known a0 m v0) 168 (loopB Tryz.f168 0) ⟨[(1, vp 0 0), (3, vi v0)], [.var (x_GValue a0)], 0⟩ fun o => match o with | .inl o_0 => (.ret, ⟨[(2, vb o_0)], [], 0⟩) | .inr (o_1) => (.exit 0, ⟨[(1, vp 0 0), (3, vi o_1), (11, vb false)], [.var (x_GValue a0)], 0⟩) := by
  induction m with
  | zero => intro v0 o h; cases h
  | succ m ih => exact fun v0 => tlp (
   .le e_GValue a0.L <|
   .lI v0 ((a0.L.length : Nat) : Int) (fun c1 =>
    .na v0 fun i2 =>
    .ix eq_GValue a0.L i2 fun x3 =>
    .cl (H_spec_l2known x3) fun r4 =>
    .vN 0 r4 (
     .go (ih (w64 (v0 + 1)))) <|
    .ret (.inl false)) fun c1 =>
   .ret (.inr v0))
def T_spec_l2known (G_spec_l2known : GValue → Option Bool) (n : Nat) (a0 : GValue) : Option Bool :=
 if a0.Kind = 6 then
  some false
 else
 (L_spec_l2known_l0 G_spec_l2known a0 n 0).bind fun o2 =>
 match o2 with
 | .inl o2_0 =>
  some o2_0
 | .inr (o2_1) =>
  some true
theorem g_spec_l2known (G_spec_l2known : GValue → Option Bool) (H_spec_l2known : K_spec_l2known G_spec_l2known) (n : Nat) : K_spec_l2known (T_spec_l2known G_spec_l2known n) := fun a0 => tc (
 .eI a0.Kind 6 (fun c1 =>
  .ret false) fun c1 =>
 .l2 (gl_spec_l2known_l0 G_spec_l2known H_spec_l2known a0 n 0) (fun o2_0 =>
  .ret o2_0) fun o2_1 =>
 .ret true) (fn_of Tryz.func168)
def U_spec_l2known : Nat → GValue → Option Bool
  | 0, _ => none
  | n + 1, a0 => T_spec_l2known (U_spec_l2known n) n a0
theorem rec_spec_l2known (n : Nat) : K_spec_l2known (U_spec_l2known n) := by
  induction n with
  | zero => exact fun _ _ h => (by rw [U_spec_l2known] at h; cases h)
  | succ n ih =>
    have ih_spec_l2known := ih
    exact fun a0 r h => g_spec_l2known (U_spec_l2known n) ih_spec_l2known n a0 r (by rw [U_spec_l2known] at h; exact h)
theorem l2known_loop {G : GValue → Option Bool} {v : GValue} (ha : v.L.length <= 2 ^ 40) (hG : ∀ x ∈ v.L, G x = some (knV x)) : ∀ (l p : List GValue) (m : Nat), v.L = p ++ l → l.length < m → ∃ z, L_spec_l2known_l0 G v m ((p.length : Nat) : Int) = some (if knVs l = true then .inr z else .inl false) := by
  intro l
  induction l with
  | nil =>
    intro p m he hm
    obtain ⟨m, rfl, _⟩ := fuel hm
    exact ⟨_, by rw [L_spec_l2known_l0, if_neg (by rw [he]; exact nlt_end p)]; rfl⟩
  | cons x l ih =>
    intro p m he hm
    obtain ⟨m, rfl, hm'⟩ := fuel hm
    have hlen : v.L.length = p.length + (l.length + 1) := by rw [he]; simp
    rw [L_spec_l2known_l0, if_pos (by omega), natO_nat, Option.bind_some, show v.L[p.length]? = some x by rw [he]; exact get_mid p x l, Option.bind_some, hG x (by rw [he]; simp), Option.bind_some, knVs]
    cases hx : knV x with
    | true =>
      dsimp only
      rw [w64_len p x (by omega), Bool.true_and]
      exact ih (p ++ [x]) m (by rw [he]; simp) (by simp only [List.length_cons] at hm'; omega)
    | false => exact ⟨0, rfl⟩
theorem l2known_U : ∀ (N : Nat) (v : GValue), vsz v < N → vsz v <= 2 ^ 39 → ∀ f, vsz v + 2 <= f → U_spec_l2known f v = some (knV v) := by
  intro N
  induction N with
  | zero => intro v hv; omega
  | succ N ih =>
    intro v hv hs f hf
    have he := vsz_eq v
    have hl := vszs_len v.L
    obtain ⟨f, rfl, _⟩ := fuel (show 0 < f by omega)
    rw [U_spec_l2known]
    unfold T_spec_l2known
    rw [knV_eq]
    by_cases h6 : v.Kind = 6
    · rw [if_pos h6, h6]; rfl
    · rw [if_neg h6]
      obtain ⟨z, hz⟩ := l2known_loop (G := U_spec_l2known f) (v := v) (by omega) (fun x hx => by
        have := vszs_mem hx
        exact ih x (by omega) (by omega) f (by omega)) v.L [] f rfl (by omega)
      simp only [List.length_nil, Int.natCast_zero] at hz
      rw [hz, Option.bind_some, decide_eq_true h6, Bool.true_and]
      cases knVs v.L <;> rfl
def S_spec_l2known (a0 : GValue) : Option Bool := if vsz a0 <= 2 ^ 39 then some (knV a0) else none
theorem spec_spec_l2known (a0 : GValue) (r : Bool) (h : S_spec_l2known a0 = some r) : ∃ n, U_spec_l2known n a0 = some r := by
  unfold S_spec_l2known at h
  obtain ⟨ha, h⟩ := need_c h
  exact ⟨vsz a0 + 2, by rw [<- h]; exact l2known_U _ a0 (Nat.lt_succ_self _) ha _ (Nat.le_refl _)⟩
theorem ok_spec_l2known : K_spec_l2known S_spec_l2known := by
  intro a0 r h
  obtain ⟨n, hn⟩ := spec_spec_l2known a0 r h
  exact (rec_spec_l2known n) a0 r hn
def S_spec_l4map (a0 : GValue) : Option Bool :=
 if a0.Kind = 5 then
  (S_spec_ValOk a0).bind fun r2 =>
  match r2 with
  | true =>
   (S_spec_l2known a0).bind fun r3 =>
   some r3
  | false =>
   some false
 else
 some false
theorem ok_spec_l4map (a0 : GValue) : Oc (S_spec_l4map a0) 125 [] [.val true (x_GValue a0)] fun r => (vb r, []) := tc (
 .eI a0.Kind 5 (fun c1 =>
  .cl (ok_spec_ValOk a0) fun r2 =>
  .vM 1 r2 (
   .az 0 0 <|
   .cl (ok_spec_l2known a0) fun r3 =>
   .az 0 1 <|
   .ret r3) <|
  .az 0 0 <|
  .az 0 0 <|
  .ret false) fun c1 =>
 .ret false) (fn_of Tryz.func125)
end
end Go.Am.Try
