/- The functions of the program in plain Lean, and that the machine answers as they do; conditions at each theorem. -/
import Derived.Test.YtfbfbebalpnkbaaJP1
set_option linter.unusedVariables false
set_option linter.unusedSimpArgs false
namespace Go.Am.Try
open Go.Am Go.Proofs
set_option linter.unusedVariables false
set_option maxRecDepth 20000
set_option maxHeartbeats 2000000
noncomputable section
def qV (a0 : (List UInt8)) (a1 : Int) : Option Int :=
 if (w64 (a1 - (a0.length : Int))) < 0 then
  some (-1)
 else
 some (w64 (a1 - (a0.length : Int)))
theorem Xh (a0 : (List UInt8)) (a1 : Int) : Oc (qV a0 a1) 23 [] [vq za a0, vi a1] fun r => (vi r, []) := tc (
 .le za a0 <|
 .lI (w64 (a1 - (a0.length : Int))) 0 (fun c1 =>
  .ret (-1)) fun c1 =>
 .ret (w64 (a1 - (a0.length : Int)))) (zx Try.func23)
def Xi (F : (List (List UInt8)) → Int → Option Int) : Prop := ∀ (a0 : (List (List UInt8))) (a1 : Int), Oc (F a0 a1) 25 [] [vq (zu za) a0, vi a1] fun r => (vi r, [])
def xL (a0 : (List (List UInt8))) : Nat → Int → Int → Option (Int ⊕ (Int × Int))
  | 0, _, _ => none
  | m + 1, v1, v2 =>
  if v2 < (a0.length : Int) then
   (zD v2).bind fun i2 =>
   (a0[i2]?).bind fun x3 =>
   (qV x3 v1).bind fun r4 =>
   if r4 < 0 then
    some (.inl (-1))
   else
   xL a0 m r4 (w64 (v2 + 1))
  else
  some (.inr (v1, v2))
theorem WK (a0 : (List (List UInt8))) (m : Nat) : ∀ (v1 : Int) (v2 : Int), Ol (xL a0 m v1 v2) 25 (yg Try.f25 0) ⟨[(0, vq (zu za) a0), (1, vi v1), (5, vi v2)], [], 0⟩ fun o => match o with | .inl o_0 => (.ret, ⟨[(4, vi o_0)], [], 0⟩) | .inr (⟨o_1_0, o_1_1⟩) => (.exit 0, ⟨[(0, vq (zu za) a0), (1, vi o_1_0), (5, vi o_1_1), (15, vb false)], [], 0⟩) := by
  induction m with
  | zero => intro v1 v2 o h; cases h
  | succ m ih => exact fun v1 v2 => tlp (
   .le (zu za) a0 <|
   .lI v2 (a0.length : Int) (fun c1 =>
    .na v2 fun i2 =>
    .ix0 (zu za) a0 i2 fun x3 =>
    .cl (Xh x3 v1) fun r4 =>
    .lI r4 0 (fun c5 =>
     .ret (.inl (-1))) fun c5 =>
    .go (ih r4 (w64 (v2 + 1)))) fun c1 =>
   .ret (.inr (v1, v2)))
def jH (n : Nat) (a0 : (List (List UInt8))) (a1 : Int) : Option Int :=
 if (w64 (a1 - (a0.length : Int))) < 0 then
  some (-1)
 else
 (xL a0 n (w64 (a1 - (a0.length : Int))) 0).bind fun o2 =>
 match o2 with
 | .inl o2_0 =>
  some o2_0
 | .inr (⟨o2_1_0, o2_1_1⟩) =>
  some o2_1_0
theorem KX (n : Nat) : Xi (jH n) := fun a0 a1 => tc (
 .le (zu za) a0 <|
 .lI (w64 (a1 - (a0.length : Int))) 0 (fun c1 =>
  .ret (-1)) fun c1 =>
 .l2 (WK a0 n (w64 (a1 - (a0.length : Int))) 0) (fun o2_0 =>
  .ret o2_0) fun ⟨o2_1_0, o2_1_1⟩ =>
 .ret o2_1_0) (zx Try.func25)
def MdB (k : List (List UInt8)) : Prop := k.length <= 2 ^ 63 - 1 ∧ ∀ b ∈ k, b.length <= 2 ^ 63 - 1
theorem KY {a : List UInt8} {n : Int} (h : a.length <= 2 ^ 63 - 1) (h0 : 0 <= n) (h1 : n <= 2 ^ 20) : qV a n = some (if (a.length : Int) <= n then n - a.length else -1) := by
 unfold qV
 rw [yo (by omega) (by omega)]
 by_cases hc : (a.length : Int) <= n
 ·rw [if_neg (by omega), if_pos hc]
 ·rw [if_pos (by omega), if_neg hc]
theorem Tu {a : List (List UInt8)} (ha : a.length <= 2 ^ 20) (hb : ∀ b ∈ a, b.length <= 2 ^ 63 - 1) : ∀ (d i m : Nat) (r : Int), i + d = a.length → d < m → 0 <= r → r <= 2 ^ 20 →
  ∃ z, xL a m r (i : Int) = some (if (((a.drop i).map List.length).sum : Int) <= r then .inr (r - ((a.drop i).map List.length).sum, z) else .inl (-1)) := by
 intro d
 induction d with
 | zero =>
  intro i m r hi hm h0 h1
  obtain ⟨m, rfl, _⟩ := zg hm
  refine ⟨(i : Int), ?_⟩
  rw [xL, if_neg (by omega), List.drop_eq_nil_of_le (by omega)]
  rw [List.map_nil, List.sum_nil, if_pos (by simpa using h0)]; simp
 | succ d ih =>
  intro i m r hi hm h0 h1
  obtain ⟨m, rfl, hm'⟩ := zg hm
  have hil : i < a.length := by omega
  have hx := hb a[i] (List.getElem_mem hil)
  rw [xL, if_pos (by omega), zd, Option.bind_some, zq hil, Option.bind_some, KY hx h0 h1, Option.bind_some]
  rw [wH hil, List.map_cons, List.sum_cons]
  by_cases hc : ((a[i]).length : Int) <= r
  ·rw [if_pos hc, if_neg (by omega), yr (by omega)]
   obtain ⟨z, hz⟩ := ih (i + 1) m (r - (a[i]).length) (by omega) (by omega) (by omega) (by omega)
   refine ⟨z, ?_⟩
   rw [hz]
   by_cases hd : (((a.drop (i + 1)).map List.length).sum : Int) <= r - (a[i]).length
   ·rw [if_pos hd, if_pos (by omega)]; congr 3; omega
   ·rw [if_neg hd, if_neg (by omega)]
  ·refine ⟨0, ?_⟩
   rw [if_neg hc, if_pos (by omega), if_neg (by omega)]
theorem UM {a : List (List UInt8)} {n : Int} (h : MdB a ∧ 0 <= n ∧ n <= 2 ^ 20) : jH (a.length + 1) a n = some (if (bsz a : Int) <= n then n - bsz a else -1) := by
 obtain ⟨⟨ha, hb⟩, h0, h1⟩ := h
 unfold jH
 rw [yo (by omega) (by omega)]
 unfold bsz
 by_cases hc : (a.length : Int) <= n
 ·rw [if_neg (by omega)]
  obtain ⟨z, hz⟩ := Tu (by omega) hb a.length 0 (a.length + 1) (n - a.length) (by omega) (by omega) (by omega) (by omega)
  rw [show ((0 : Nat) : Int) = 0 from rfl] at hz
  rw [hz]
  simp only [List.drop_zero]
  by_cases hd : ((a.map List.length).sum : Int) <= n - a.length
  ·rw [if_pos hd, if_pos (by omega)]
   simp only [Option.bind_some]; congr 1; omega
  ·rw [if_neg hd, if_neg (by omega)]; rfl
 ·rw [if_pos (by omega), if_neg (by omega)]
open Classical in
noncomputable def qD (a0 : (List (List UInt8))) (a1 : Int) : Option Int := if MdB a0 ∧ 0 <= a1 ∧ a1 <= 2 ^ 20 then some (if (bsz a0 : Int) <= a1 then a1 - bsz a0 else -1) else none
theorem Qw (a0 : (List (List UInt8))) (a1 : Int) (r : Int) (h : qD a0 a1 = some r) : ∃ n, jH n a0 a1 = some r := by
 unfold qD at h
 obtain ⟨hp, h⟩ := yd h
 exact ⟨_, by rw [<- h]; exact UM hp⟩
theorem JO : Xi qD := fun a0 a1 r h => (Qw a0 a1 r h).elim fun n hn => KX n a0 a1 r hn
def jI (F : (List GValue) → Int → Option Int) : Prop := ∀ (a0 : (List GValue)) (a1 : Int), Oc (F a0 a1) 43 [] [vq zb a0, vi a1] fun r => (vi r, [])
def qW (F : GValue → Int → Option Int) : Prop := ∀ (a0 : GValue) (a1 : Int), Oc (F a0 a1) 14 [] [.val true (ze a0), vi a1] fun r => (vi r, [])
def xM (G_laws_szValue : GValue → Int → Option Int) (a0 : (List GValue)) : Nat → Int → Int → Option (Int ⊕ (Int × Int))
  | 0, _, _ => none
  | m + 1, v1, v2 =>
  if v2 < (a0.length : Int) then
   (zD v2).bind fun i2 =>
   (a0[i2]?).bind fun x3 =>
   (G_laws_szValue x3 v1).bind fun r4 =>
   if r4 < 0 then
    some (.inl (-1))
   else
   xM G_laws_szValue a0 m r4 (w64 (v2 + 1))
  else
  some (.inr (v1, v2))
theorem WL (G_laws_szValue : GValue → Int → Option Int) (H_laws_szValue : qW G_laws_szValue) (a0 : (List GValue)) (m : Nat) : ∀ (v1 : Int) (v2 : Int), Ol (xM G_laws_szValue a0 m v1 v2) 43 (yg Try.f43 0) ⟨[(0, vq zb a0), (1, vi v1), (5, vi v2)], [], 0⟩ fun o => match o with | .inl o_0 => (.ret, ⟨[(4, vi o_0)], [], 0⟩) | .inr (⟨o_1_0, o_1_1⟩) => (.exit 0, ⟨[(0, vq zb a0), (1, vi o_1_0), (5, vi o_1_1), (15, vb false)], [], 0⟩) := by
  induction m with
  | zero => intro v1 v2 o h; cases h
  | succ m ih => exact fun v1 v2 => tlp (
   .le zb a0 <|
   .lI v2 (a0.length : Int) (fun c1 =>
    .na v2 fun i2 =>
    .ix eq_GValue a0 i2 fun x3 =>
    .cl (H_laws_szValue x3 v1) fun r4 =>
    .lI r4 0 (fun c5 =>
     .ret (.inl (-1))) fun c5 =>
    .go (ih r4 (w64 (v2 + 1)))) fun c1 =>
   .ret (.inr (v1, v2)))
def jJ (G_laws_szValue : GValue → Int → Option Int) (n : Nat) (a0 : (List GValue)) (a1 : Int) : Option Int :=
 if (w64 (a1 - (a0.length : Int))) < 0 then
  some (-1)
 else
 (xM G_laws_szValue a0 n (w64 (a1 - (a0.length : Int))) 0).bind fun o2 =>
 match o2 with
 | .inl o2_0 =>
  some o2_0
 | .inr (⟨o2_1_0, o2_1_1⟩) =>
  some o2_1_0
theorem KZ (G_laws_szValue : GValue → Int → Option Int) (H_laws_szValue : qW G_laws_szValue) (n : Nat) : jI (jJ G_laws_szValue n) := fun a0 a1 => tc (
 .le zb a0 <|
 .lI (w64 (a1 - (a0.length : Int))) 0 (fun c1 =>
  .ret (-1)) fun c1 =>
 .l2 (WL G_laws_szValue H_laws_szValue a0 n (w64 (a1 - (a0.length : Int))) 0) (fun o2_0 =>
  .ret o2_0) fun ⟨o2_1_0, o2_1_1⟩ =>
 .ret o2_1_0) (zx Try.func43)
def Zn (G_laws_szValueS : (List GValue) → Int → Option Int) (a0 : GValue) (a1 : Int) : Option Int :=
 (qV a0.S a1).bind fun r1 =>
 if r1 < 0 then
  some (-1)
 else
 (qD a0.K r1).bind fun r3 =>
 if r3 < 0 then
  some (-1)
 else
 (G_laws_szValueS a0.L r3).bind fun r5 =>
 if r5 < 0 then
  some (-1)
 else
 some r5
theorem Rf (G_laws_szValueS : (List GValue) → Int → Option Int) (H_laws_szValueS : jI G_laws_szValueS) : qW (Zn G_laws_szValueS) := fun a0 a1 => tc (
 .cl (Xh a0.S a1) fun r1 =>
 .lI r1 0 (fun c2 =>
  .ret (-1)) fun c2 =>
 .cl (JO a0.K r1) fun r3 =>
 .lI r3 0 (fun c4 =>
  .ret (-1)) fun c4 =>
 .cl (H_laws_szValueS a0.L r3) fun r5 =>
 .lI r5 0 (fun c6 =>
  .ret (-1)) fun c6 =>
 .ret r5) (zx Try.func14)
mutual
def xt : Nat → (List GValue) → Int → Option Int
 | 0, _, _ => none
 | n + 1, a0, a1 => jJ (xN n) n a0 a1
def xN : Nat → GValue → Int → Option Int
 | 0, _, _ => none
 | n + 1, a0, a1 => Zn (xt n) a0 a1
end
theorem ZZ (n : Nat) : jI (xt n) ∧ qW (xN n) := by
 induction n with
 | zero => exact ⟨fun _ _ _ h => (by rw [xt] at h; cases h), fun _ _ _ h => (by rw [xN] at h; cases h)⟩
 | succ n ih =>
  obtain ⟨ih_laws_szValueS, ih_laws_szValue⟩ := ih
  exact ⟨fun a0 a1 r h => KZ (xN n) ih_laws_szValue n a0 a1 r (by rw [xt] at h; exact h),
   fun a0 a1 r h => Rf (xt n) ih_laws_szValueS a0 a1 r (by rw [xN] at h; exact h)⟩
mutual
def MdV : GValue → Prop
 | .mk _ _ s k l => s.length <= 2 ^ 63 - 1 ∧ MdB k ∧ l.length <= 2 ^ 63 - 1 ∧ Wm l
def Wm : List GValue → Prop
 | [] => True
 | v :: l => MdV v ∧ Wm l
end
theorem UN {l : List GValue} (h : Wm l) {v : GValue} (hv : v ∈ l) : MdV v := by
 induction l with
 | nil => cases hv
 | cons x l ih =>
  simp only [Wm] at h
  rcases List.mem_cons.1 hv with rfl | hv
  ·exact h.1
  ·exact ih h.2 hv
theorem LS (v : GValue) : MdV v = (v.S.length <= 2 ^ 63 - 1 ∧ MdB v.K ∧ v.L.length <= 2 ^ 63 - 1 ∧ Wm v.L) := by cases v; simp only [MdV, GValue.S, GValue.K, GValue.L]
def vin (l : List GValue) : Nat := (l.map vsz).sum
theorem Ns (l : List GValue) : yu l = l.length + vin l := by
 unfold vin
 induction l with
 | nil => rfl
 | cons v l ih => simp only [yu, ih, List.length_cons, List.map_cons, List.sum_cons]; omega
theorem Tv {G : GValue → Int → Option Int} {a : List GValue} (ha : a.length <= 2 ^ 20) (hG : ∀ v ∈ a, ∀ n : Int, 0 <= n → n <= 2 ^ 20 → G v n = some (kJ (vsz v) n)) : ∀ (d i m : Nat) (r : Int), i + d = a.length → d < m → 0 <= r → r <= 2 ^ 20 →
  ∃ z, xM G a m r (i : Int) = some (if (vin (a.drop i) : Int) <= r then .inr (r - vin (a.drop i), z) else .inl (-1)) := by
 intro d
 induction d with
 | zero =>
  intro i m r hi hm h0 h1
  obtain ⟨m, rfl, _⟩ := zg hm
  refine ⟨(i : Int), ?_⟩
  rw [xM, if_neg (by omega), List.drop_eq_nil_of_le (by omega)]
  simp only [vin, List.map_nil, List.sum_nil]
  rw [if_pos (by simpa using h0)]; simp
 | succ d ih =>
  intro i m r hi hm h0 h1
  obtain ⟨m, rfl, hm'⟩ := zg hm
  have hil : i < a.length := by omega
  rw [xM, if_pos (by omega), zd, Option.bind_some, zq hil, Option.bind_some, hG _ (List.getElem_mem hil) r h0 h1, Option.bind_some]
  have hv : vin (a.drop i) = vsz a[i] + vin (a.drop (i + 1)) := by simp only [vin, wH hil, List.map_cons, List.sum_cons]
  rw [hv]
  unfold kJ
  by_cases hc : (vsz a[i] : Int) <= r
  ·rw [if_pos hc, if_neg (by omega), yr (by omega)]
   obtain ⟨z, hz⟩ := ih (i + 1) m (r - vsz a[i]) (by omega) (by omega) (by omega) (by omega)
   refine ⟨z, ?_⟩
   rw [hz]
   by_cases hd : (vin (a.drop (i + 1)) : Int) <= r - vsz a[i]
   ·rw [if_pos hd, if_pos (by omega)]; congr 3; omega
   ·rw [if_neg hd, if_neg (by omega)]
  ·refine ⟨0, ?_⟩
   rw [if_neg hc, if_pos (by omega), if_neg (by omega)]
theorem Va {G : GValue → Int → Option Int} {a : List GValue} {f : Nat} {n : Int} (ha : a.length <= 2 ^ 63 - 1) (h0 : 0 <= n) (h1 : n <= 2 ^ 20) (hf : a.length < f ∨ n < a.length) (hG : ∀ v ∈ a, ∀ n : Int, 0 <= n → n <= 2 ^ 20 → G v n = some (kJ (vsz v) n)) :
  jJ G f a n = some (kJ (yu a) n) := by
 unfold jJ
 rw [yo (by omega) (by omega), Ns]
 unfold kJ
 by_cases hc : (a.length : Int) <= n
 ·rw [if_neg (by omega)]
  obtain ⟨z, hz⟩ := Tv (G := G) (by omega) hG a.length 0 f (n - a.length) (by omega) (by omega) (by omega) (by omega)
  rw [show ((0 : Nat) : Int) = 0 from rfl] at hz
  rw [hz]
  simp only [List.drop_zero]
  by_cases hd : (vin a : Int) <= n - a.length
  ·rw [if_pos hd, if_pos (by omega)]
   simp only [Option.bind_some]; congr 1; omega
  ·rw [if_neg hd, if_neg (by omega)]; rfl
 ·rw [if_pos (by omega), if_neg (by omega)]
theorem RY : ∀ (N : Nat) (v : GValue), vsz v < N → MdV v → ∀ (f : Nat) (n : Int), 2 * vsz v + 3 <= f → 0 <= n → n <= 2 ^ 20 → xN f v n = some (kJ (vsz v) n) := by
 intro N
 induction N with
 | zero => intro v hv; omega
 | succ N ih =>
  intro v hv hmd f n hf h0 h1
  obtain ⟨f, rfl, _⟩ := zg (show 0 < f by omega)
  rw [LS] at hmd
  have he := y8 v
  have hl := y0 v.L
  obtain ⟨f, rfl, _⟩ := zg (show 0 < f by omega)
  rw [xN]
  unfold Zn
  rw [KY hmd.1 h0 h1, Option.bind_some]
  unfold kJ
  by_cases c1 : (v.S.length : Int) <= n
  ·rw [if_pos c1, if_neg (by omega)]
   unfold qD
   rw [if_pos ⟨hmd.2.1, by omega, by omega⟩, Option.bind_some]
   by_cases c2 : (bsz v.K : Int) <= n - v.S.length
   ·rw [if_pos c2, if_neg (by omega)]
    rw [xt, Va hmd.2.2.1 (by omega) (by omega) (.inl (by omega)) (fun x hx m g0 g1 => ?_), Option.bind_some]
    ·unfold kJ
     by_cases c3 : (yu v.L : Int) <= n - v.S.length - bsz v.K
     ·rw [if_pos c3, if_neg (by omega), if_pos (by omega)]; congr 1; omega
     ·rw [if_neg c3, if_pos (by omega), if_neg (by omega)]
    ·have := yw hx
     exact ih x (by omega) (UN hmd.2.2.2 hx) f m (by omega) g0 g1
   ·rw [if_neg c2, if_pos (by omega), if_neg (by omega)]
  ·rw [if_neg c1, if_pos (by omega), if_neg (by omega)]
open Classical in
noncomputable def vV (a0 : (List GValue)) (a1 : Int) : Option Int := if a0.length <= 2 ^ 63 - 1 ∧ Wm a0 ∧ 0 <= a1 ∧ a1 <= 2 ^ 20 then some (kJ (yu a0) a1) else none
theorem Qx (a0 : (List GValue)) (a1 : Int) (r : Int) (h : vV a0 a1 = some r) : ∃ n, xt n a0 a1 = some r := by
 unfold vV at h
 obtain ⟨⟨hl, hm, h0, h1⟩, h⟩ := yd h
 refine ⟨2 * yu a0 + 5, ?_⟩
 have := y0 a0
 rw [xt, Va hl h0 h1 (.inl (by omega)) fun x hx m g0 g1 => ?_, h]
 have := yw hx
 exact RY _ x (Nat.lt_succ_self _) (UN hm hx) _ m (by omega) g0 g1
open Classical in
noncomputable def wZ (a0 : GValue) (a1 : Int) : Option Int := if MdV a0 ∧ 0 <= a1 ∧ a1 <= 2 ^ 20 then some (kJ (vsz a0) a1) else none
theorem Jk (a0 : GValue) (a1 : Int) (r : Int) (h : wZ a0 a1 = some r) : ∃ n, xN n a0 a1 = some r := by
 unfold wZ at h
 obtain ⟨⟨hm, h0, h1⟩, h⟩ := yd h
 exact ⟨2 * vsz a0 + 3, by rw [<- h]; exact RY _ a0 (Nat.lt_succ_self _) hm _ a1 (Nat.le_refl _) h0 h1⟩
theorem Nt : jI vV := by
 intro a0 a1 r h
 obtain ⟨n, hn⟩ := Qx a0 a1 r h
 exact (ZZ n).1 a0 a1 r hn
theorem Xj : qW wZ := by
 intro a0 a1 r h
 obtain ⟨n, hn⟩ := Jk a0 a1 r h
 exact (ZZ n).2 a0 a1 r hn
def X7 (F : (List UInt8) → Option (List UInt8)) : Prop := ∀ (a0 : (List UInt8)), Oc (F a0) 30 [] [vq za a0] fun r => (.val false [.own 1 (eL za r)], [])
def wc (a0 : (List UInt8)) : Nat → Int → (List UInt8) → Option (Int × (List UInt8))
  | 0, _, _ => none
  | m + 1, v1, v2 =>
  if v1 < (a0.length : Int) then
   (zD v1).bind fun i2 =>
   (a0[i2]?).bind fun x3 =>
   (v2[i2]?).bind fun x4 =>
   wc a0 m (w64 (v1 + 1)) (v2.set i2 x3)
  else
  some (v1, v2)
theorem Qy (a0 : (List UInt8)) (m : Nat) : ∀ (v1 : Int) (v2 : (List UInt8)), Ol (wc a0 m v1 v2) 30 (yg Try.f30 0) ⟨[(0, vq za a0), (3, vr 0), (4, vi v1)], [.obj 1 (eL za v2)], 0⟩ fun o => match o with | ⟨o_0, o_1⟩ => (.exit 0, ⟨[(0, vq za a0), (3, vr 0), (4, vi o_0), (11, vb false)], [.obj 1 (eL za o_1)], 0⟩) := by
  induction m with
  | zero => intro v1 v2 o h; cases h
  | succ m ih => exact fun v1 v2 => tlp (
   .le za a0 <|
   .lI v1 (a0.length : Int) (fun c1 =>
    .na v1 fun i2 =>
    .ix0 za a0 i2 fun x3 =>
    .ag 1 <|
    .ix0 za v2 i2 fun x4 =>
    .ag 0 <|
    .sl (e := za) (x := x3) (c := [.int .u8 ((x3.toNat : Nat) : Int)]) rfl v2 i2 <|
    .go (ih (w64 (v1 + 1)) (v2.set i2 x3))) fun c1 =>
   .ret (v1, v2))
def Zo (n : Nat) (a0 : (List UInt8)) : Option (List UInt8) :=
 (Xf 1 (a0.length : Int)).bind fun k1 =>
 (wc a0 n 0 (List.replicate k1 0)).bind fun ⟨o2_0, o2_1⟩ =>
 some o2_1
theorem Rh (n : Nat) : X7 (Zo n) := fun a0 => tc (
 .le za a0 <|
 .q (.eTo (a0.length : Int) (a0.length : Int) rfl) <|
 .md 1 (a0.length : Int) fun k1 =>
 .q ⟨.rep k1 [.int .u8 0], .l (eL za (List.replicate k1 0)), A.rep rfl⟩ <|
 .lp (Qy a0 n 0 (List.replicate k1 0)) fun ⟨o2_0, o2_1⟩ =>
 .ret o2_1) (zx Try.func30)
theorem UO {a : List UInt8} (ha : a.length <= 2 ^ 20) : ∀ (d i m : Nat) (v : List UInt8), i + d = a.length → d < m → Pre a v i → ∃ z, wc a m (i : Int) v = some (z, a) := by
 intro d
 induction d with
 | zero =>
  intro i m v hi hm hp
  obtain ⟨m, rfl, _⟩ := zg hm
  exact ⟨_, by rw [wc, if_neg (by omega), hp.done (by omega)]⟩
 | succ d ih =>
  intro i m v hi hm hp
  obtain ⟨m, rfl, hm'⟩ := zg hm
  have hil : i < a.length := by omega
  rw [wc, if_pos (by omega), zd, Option.bind_some, zq hil, Option.bind_some, zq (by rw [hp.1]; exact hil), Option.bind_some, yr (by omega)]
  exact ih (i + 1) m _ (by omega) (by omega) (hp.step hil)
def wx (a0 : (List UInt8)) : Option (List UInt8) := if a0.length <= 2 ^ 20 then some a0 else none
theorem Jl (a0 : (List UInt8)) (r : (List UInt8)) (h : wx a0 = some r) : ∃ n, Zo n a0 = some r := by
 unfold wx at h
 obtain ⟨ha, h⟩ := yd h
 refine ⟨a0.length + 1, ?_⟩
 obtain ⟨z, hz⟩ := UO ha a0.length 0 (a0.length + 1) (List.replicate a0.length 0) (by omega) (by omega) (Pre.start (by simp))
 unfold Zo
 rw [Re ha (by decide), Option.bind_some, show (0 : Int) = ((0 : Nat) : Int) from rfl, hz]
 exact h
theorem Xk : X7 wx := fun a0 r h => (Jl a0 r h).elim fun n hn => Rh n a0 r hn
def Xl (F : (List (List UInt8)) → Option (List (List UInt8))) : Prop := ∀ (a0 : (List (List UInt8))), Oc (F a0) 32 [] [vq (zu za) a0] fun r => (.val false [.own 1 (eL (yf 1 za) r)], [])
def xO (a0 : (List (List UInt8))) : Nat → Int → (List (List UInt8)) → Option (Int × (List (List UInt8)))
  | 0, _, _ => none
  | m + 1, v1, v2 =>
  if v1 < (a0.length : Int) then
   (zD v1).bind fun i2 =>
   (a0[i2]?).bind fun x3 =>
   (wx x3).bind fun r4 =>
   (v2[i2]?).bind fun x5 =>
   xO a0 m (w64 (v1 + 1)) (v2.set i2 r4)
  else
  some (v1, v2)
theorem WM (a0 : (List (List UInt8))) (m : Nat) : ∀ (v1 : Int) (v2 : (List (List UInt8))), Ol (xO a0 m v1 v2) 32 (yg Try.f32 0) ⟨[(0, vq (zu za) a0), (3, vr 0), (4, vi v1)], [.obj 1 (eL (yf 1 za) v2)], 0⟩ fun o => match o with | ⟨o_0, o_1⟩ => (.exit 0, ⟨[(0, vq (zu za) a0), (3, vr 0), (4, vi o_0), (11, vb false)], [.obj 1 (eL (yf 1 za) o_1)], 0⟩) := by
  induction m with
  | zero => intro v1 v2 o h; cases h
  | succ m ih => exact fun v1 v2 => tlp (
   .le (zu za) a0 <|
   .lI v1 (a0.length : Int) (fun c1 =>
    .na v1 fun i2 =>
    .ix0 (zu za) a0 i2 fun x3 =>
    .cl (Xk x3) fun r4 =>
    .ag 2 <|
    .ix0 (yf 1 za) v2 i2 fun x5 =>
    .ag 0 <|
    .sl (e := (yf 1 za)) (x := r4) (c := [.own 1 (eL za r4)]) rfl v2 i2 <|
    .go (ih (w64 (v1 + 1)) (v2.set i2 r4))) fun c1 =>
   .ret (v1, v2))
def vW (n : Nat) (a0 : (List (List UInt8))) : Option (List (List UInt8)) :=
 (Xf 24 (a0.length : Int)).bind fun k1 =>
 (xO a0 n 0 (List.replicate k1 [])).bind fun ⟨o2_0, o2_1⟩ =>
 some o2_1
theorem Vb (n : Nat) : Xl (vW n) := fun a0 => tc (
 .le (zu za) a0 <|
 .q (.eTo (a0.length : Int) (a0.length : Int) rfl) <|
 .md 24 (a0.length : Int) fun k1 =>
 .q ⟨.rep k1 [.own 1 []], .l (eL (yf 1 za) (List.replicate k1 [])), A.rep rfl⟩ <|
 .lp (WM a0 n 0 (List.replicate k1 [])) fun ⟨o2_0, o2_1⟩ =>
 .ret o2_1) (zx Try.func32)
theorem Tx {a : List (List UInt8)} (ha : bsz a <= 2 ^ 20) : ∀ (d i m : Nat) (v : List (List UInt8)), i + d = a.length → d < m → Pre a v i → ∃ z, xO a m (i : Int) v = some (z, a) := by
 have hl := wk a
 intro d
 induction d with
 | zero =>
  intro i m v hi hm hp
  obtain ⟨m, rfl, _⟩ := zg hm
  exact ⟨_, by rw [xO, if_neg (by omega), hp.done (by omega)]⟩
 | succ d ih =>
  intro i m v hi hm hp
  obtain ⟨m, rfl, hm'⟩ := zg hm
  have hil : i < a.length := by omega
  have hx := kI (List.getElem_mem hil)
  rw [xO, if_pos (by omega), zd, Option.bind_some, zq hil, Option.bind_some]
  unfold wx
  rw [if_pos (by omega), Option.bind_some, zq (by rw [hp.1]; exact hil), Option.bind_some, yr (by omega)]
  exact ih (i + 1) m _ (by omega) (by omega) (hp.step hil)
def qE (a0 : (List (List UInt8))) : Option (List (List UInt8)) := if bsz a0 <= 2 ^ 20 then some a0 else none
theorem Qz (a0 : (List (List UInt8))) (r : (List (List UInt8))) (h : qE a0 = some r) : ∃ n, vW n a0 = some r := by
 unfold qE at h
 obtain ⟨ha, h⟩ := yd h
 have hl := wk a0
 refine ⟨a0.length + 1, ?_⟩
 obtain ⟨z, hz⟩ := Tx ha a0.length 0 (a0.length + 1) (List.replicate a0.length []) (by omega) (by omega) (Pre.start (by simp))
 unfold vW
 rw [Re (by omega) (by decide), Option.bind_some, show (0 : Int) = ((0 : Nat) : Int) from rfl, hz]
 exact h
theorem JP : Xl qE := fun a0 r h => (Qz a0 r h).elim fun n hn => Vb n a0 r hn
def jK (F : (List GValue) → Option (List GValue)) : Prop := ∀ (a0 : (List GValue)), Oc (F a0) 47 [] [vq zb a0] fun r => (.val false [.own 5 (eL zk r)], [])
def qX (F : GValue → Option GValue) : Prop := ∀ (a0 : GValue), Oc (F a0) 16 [] [.val true (ze a0)] fun r => (.val true (xe r), [])
def xP (G_laws_toValue : GValue → Option GValue) (a0 : (List GValue)) : Nat → Int → (List GValue) → Option (Int × (List GValue))
  | 0, _, _ => none
  | m + 1, v1, v2 =>
  if v1 < (a0.length : Int) then
   (zD v1).bind fun i2 =>
   (a0[i2]?).bind fun x3 =>
   (G_laws_toValue x3).bind fun r4 =>
   (v2[i2]?).bind fun x5 =>
   xP G_laws_toValue a0 m (w64 (v1 + 1)) (v2.set i2 r4)
  else
  some (v1, v2)
theorem WN (G_laws_toValue : GValue → Option GValue) (H_laws_toValue : qX G_laws_toValue) (a0 : (List GValue)) (m : Nat) : ∀ (v1 : Int) (v2 : (List GValue)), Ol (xP G_laws_toValue a0 m v1 v2) 47 (yg Try.f47 0) ⟨[(0, vq zb a0), (3, vr 0), (4, vi v1)], [.obj 5 (eL zk v2)], 0⟩ fun o => match o with | ⟨o_0, o_1⟩ => (.exit 0, ⟨[(0, vq zb a0), (3, vr 0), (4, vi o_0), (11, vb false)], [.obj 5 (eL zk o_1)], 0⟩) := by
  induction m with
  | zero => intro v1 v2 o h; cases h
  | succ m ih => exact fun v1 v2 => tlp (
   .le zb a0 <|
   .lI v1 (a0.length : Int) (fun c1 =>
    .na v1 fun i2 =>
    .ix eq_GValue a0 i2 fun x3 =>
    .cl (H_laws_toValue x3) fun r4 =>
    .ag 2 <|
    .ix ym v2 i2 fun x5 =>
    .ag 0 <|
    .sl (ym r4) v2 i2 <|
    .go (ih (w64 (v1 + 1)) (v2.set i2 r4))) fun c1 =>
   .ret (v1, v2))
def jL (G_laws_toValue : GValue → Option GValue) (n : Nat) (a0 : (List GValue)) : Option (List GValue) :=
 (Xf 88 (a0.length : Int)).bind fun k1 =>
 (xP G_laws_toValue a0 n 0 (List.replicate k1 (GValue.mk 0 0 [] [] []))).bind fun ⟨o2_0, o2_1⟩ =>
 some o2_1
theorem Vc (G_laws_toValue : GValue → Option GValue) (H_laws_toValue : qX G_laws_toValue) (n : Nat) : jK (jL G_laws_toValue n) := fun a0 => tc (
 .le zb a0 <|
 .q (.eTo (a0.length : Int) (a0.length : Int) rfl) <|
 .md 88 (a0.length : Int) fun k1 =>
 .q ⟨.rep k1 [.int .i64 0, .int .i64 0, .own 1 [], .own 1 [], .own 5 []], .l (eL zk (List.replicate k1 (GValue.mk 0 0 [] [] []))), A.rep (ym (GValue.mk 0 0 [] [] []))⟩ <|
 .lp (WN G_laws_toValue H_laws_toValue a0 n 0 (List.replicate k1 (GValue.mk 0 0 [] [] []))) fun ⟨o2_0, o2_1⟩ =>
 .ret o2_1) (zx Try.func47)
def Zp (G_laws_toValueS : (List GValue) → Option (List GValue)) (a0 : GValue) : Option GValue :=
 (wx a0.S).bind fun r1 =>
 (qE a0.K).bind fun r2 =>
 (G_laws_toValueS a0.L).bind fun r3 =>
 some (GValue.mk a0.Kind a0.N r1 r2 r3)
theorem Ri (G_laws_toValueS : (List GValue) → Option (List GValue)) (H_laws_toValueS : jK G_laws_toValueS) : qX (Zp G_laws_toValueS) := fun a0 => tc (
 .cl (Xk a0.S) fun r1 =>
 .cl (JP a0.K) fun r2 =>
 .cl (H_laws_toValueS a0.L) fun r3 =>
 .ret (GValue.mk a0.Kind a0.N r1 r2 r3)) (zx Try.func16)
mutual
def xu : Nat → (List GValue) → Option (List GValue)
 | 0, _ => none
 | n + 1, a0 => jL (xQ n) n a0
def xQ : Nat → GValue → Option GValue
 | 0, _ => none
 | n + 1, a0 => Zp (xu n) a0
end
theorem Ya (n : Nat) : jK (xu n) ∧ qX (xQ n) := by
 induction n with
 | zero => exact ⟨fun _ _ h => (by rw [xu] at h; cases h), fun _ _ h => (by rw [xQ] at h; cases h)⟩
 | succ n ih =>
  obtain ⟨ih_laws_toValueS, ih_laws_toValue⟩ := ih
  exact ⟨fun a0 r h => Vc (xQ n) ih_laws_toValue n a0 r (by rw [xu] at h; exact h),
   fun a0 r h => Ri (xu n) ih_laws_toValueS a0 r (by rw [xQ] at h; exact h)⟩
theorem Vd {G : GValue → Option GValue} {a : List GValue} {f : Nat} (ha : a.length <= 2 ^ 20) (hf : a.length < f) (hG : ∀ v ∈ a, G v = some v) : jL G f a = some a := by
 have loop : ∀ (d i m : Nat) (v : List GValue), i + d = a.length → d < m → Pre a v i → ∃ z, xP G a m (i : Int) v = some (z, a) := by
  intro d
  induction d with
  | zero =>
   intro i m v hi hm hp
   obtain ⟨m, rfl, _⟩ := zg hm
   exact ⟨_, by rw [xP, if_neg (by omega), hp.done (by omega)]⟩
  | succ d ih =>
   intro i m v hi hm hp
   obtain ⟨m, rfl, hm'⟩ := zg hm
   have hil : i < a.length := by omega
   rw [xP, if_pos (by omega), zd, Option.bind_some, zq hil, Option.bind_some, hG _ (List.getElem_mem hil), Option.bind_some, zq (by rw [hp.1]; exact hil), Option.bind_some, yr (by omega)]
   exact ih (i + 1) m _ (by omega) (by omega) (hp.step hil)
 obtain ⟨z, hz⟩ := loop a.length 0 f (List.replicate a.length (GValue.mk 0 0 [] [] [])) (by omega) (by omega) (Pre.start (by simp))
 rw [show ((0 : Nat) : Int) = 0 from rfl] at hz
 unfold jL
 rw [Re ha (by decide), Option.bind_some, hz]; rfl
theorem RZ : ∀ (N : Nat) (v : GValue), vsz v < N → vsz v <= 2 ^ 20 → ∀ f : Nat, 2 * vsz v + 3 <= f → xQ f v = some v := by
 intro N
 induction N with
 | zero => intro v hv; omega
 | succ N ih =>
  intro v hv hs f hf
  obtain ⟨f, rfl, _⟩ := zg (show 0 < f by omega)
  obtain ⟨f, rfl, _⟩ := zg (show 0 < f by omega)
  have he := y8 v
  have hl := y0 v.L
  rw [xQ]
  unfold Zp wx qE
  rw [if_pos (by omega), Option.bind_some, if_pos (by omega), Option.bind_some, xu, Vd (by omega) (by omega) fun x hx => ?_, Option.bind_some, GValue.eta]
  have := yw hx
  exact ih x (by omega) (by omega) f (by omega)
def vX (a0 : (List GValue)) : Option (List GValue) := if yu a0 <= 2 ^ 20 then some a0 else none
theorem Q0 (a0 : (List GValue)) (r : (List GValue)) (h : vX a0 = some r) : ∃ n, xu n a0 = some r := by
 unfold vX at h
 obtain ⟨ha, h⟩ := yd h
 have hl := y0 a0
 refine ⟨2 * yu a0 + 5, ?_⟩
 rw [xu, Vd (by omega) (by omega) fun x hx => ?_, h]
 have := yw hx
 exact RZ _ x (Nat.lt_succ_self _) (by omega) _ (by omega)
def qf (a0 : GValue) : Option GValue := if vsz a0 <= 2 ^ 20 then some a0 else none
theorem Jm (a0 : GValue) (r : GValue) (h : qf a0 = some r) : ∃ n, xQ n a0 = some r := by
 unfold qf at h
 obtain ⟨ha, h⟩ := yd h
 exact ⟨2 * vsz a0 + 3, by rw [<- h]; exact RZ _ a0 (Nat.lt_succ_self _) ha _ (Nat.le_refl _)⟩
theorem Nu : jK vX := by
 intro a0 r h
 obtain ⟨n, hn⟩ := Q0 a0 r h
 exact (Ya n).1 a0 r hn
theorem Xm : qX qf := by
 intro a0 r h
 obtain ⟨n, hn⟩ := Jm a0 r h
 exact (Ya n).2 a0 r hn
def WC (F : (List UInt8) → Option Bool) : Prop := ∀ (a0 : (List UInt8)), Oc (F a0) 86 [] [vq za a0] fun r => (vb r, [])
def wy (a0 : (List UInt8)) : Nat → Int → Option (Bool ⊕ Int)
  | 0, _ => none
  | m + 1, v1 =>
  if v1 < (a0.length : Int) then
   (zD v1).bind fun i2 =>
   (a0[i2]?).bind fun x3 =>
   if ((x3.toNat : Nat) : Int) < 32 then
    some (.inl false)
   else
   if 126 < ((x3.toNat : Nat) : Int) then
    some (.inl false)
   else
   wy a0 m (w64 (v1 + 1))
  else
  some (.inr v1)
theorem Jn (a0 : (List UInt8)) (m : Nat) : ∀ (v1 : Int), Ol (wy a0 m v1) 86 (yg Try.f86 0) ⟨[(0, vq za a0), (3, vi v1)], [], 0⟩ fun o => match o with | .inl o_0 => (.ret, ⟨[(2, vb o_0)], [], 0⟩) | .inr (o_1) => (.exit 0, ⟨[(0, vq za a0), (3, vi o_1), (10, vb false)], [], 0⟩) := by
  induction m with
  | zero => intro v1 o h; cases h
  | succ m ih => exact fun v1 => tlp (
   .le za a0 <|
   .lI v1 (a0.length : Int) (fun c1 =>
    .na v1 fun i2 =>
    .ix0 za a0 i2 fun x3 =>
    .lI ((x3.toNat : Nat) : Int) 32 (fun c4 =>
     .ret (.inl false)) fun c4 =>
    .ag 1 <|
    .ag 0 <|
    .lI 126 ((x3.toNat : Nat) : Int) (fun c5 =>
     .ret (.inl false)) fun c5 =>
    .go (ih (w64 (v1 + 1)))) fun c1 =>
   .ret (.inr v1))
def ZR (n : Nat) (a0 : (List UInt8)) : Option Bool :=
 if 20 < (a0.length : Int) then
  some false
 else
 (wy a0 n 0).bind fun o2 =>
 match o2 with
 | .inl o2_0 =>
  some o2_0
 | .inr (o2_1) =>
  some true
theorem Ty (n : Nat) : WC (ZR n) := fun a0 => tc (
 .le za a0 <|
 .lI 20 (a0.length : Int) (fun c1 =>
  .ret false) fun c1 =>
 .l2 (Jn a0 n 0) (fun o2_0 =>
  .ret o2_0) fun o2_1 =>
 .ret true) (zx Try.func86)
theorem JQ {a : List UInt8} (ha : a.length <= 2 ^ 20) : ∀ (d i m : Nat), i + d = a.length → d < m → ∃ z, wy a m (i : Int) = some (if (a.drop i).all (inB 32 126) = true then .inr z else .inl false) := by
 intro d
 induction d with
 | zero =>
  intro i m hi hm
  obtain ⟨m, rfl, _⟩ := zg hm
  exact ⟨_, by rw [wy, if_neg (by omega), List.drop_eq_nil_of_le (by omega)]; rfl⟩
 | succ d ih =>
  intro i m hi hm
  obtain ⟨m, rfl, hm'⟩ := zg hm
  have hil : i < a.length := by omega
  rw [wy, if_pos (by omega), zd, Option.bind_some, zq hil, Option.bind_some, yr (by omega), wH hil, List.all_cons]
  by_cases h1 : ((a[i].toNat : Nat) : Int) < 32
  ·exact ⟨0, by rw [if_pos h1, if_neg]; simp [inB]; omega⟩
  ·rw [if_neg h1]
   by_cases h2 : (126 : Int) < ((a[i].toNat : Nat) : Int)
   ·exact ⟨0, by rw [if_pos h2, if_neg]; simp [inB]; omega⟩
   ·rw [if_neg h2, show inB 32 126 a[i] = true by simp [inB]; omega, Bool.true_and]
    exact ih (i + 1) m (by omega) (by omega)
def jw (a0 : (List UInt8)) : Option Bool := if a0.length <= 2 ^ 20 then some (Ze a0) else none
theorem JR (a0 : (List UInt8)) (r : Bool) (h : jw a0 = some r) : ∃ n, ZR n a0 = some r := by
 unfold jw at h
 obtain ⟨ha, h⟩ := yd h
 refine ⟨a0.length + 1, ?_⟩
 obtain ⟨z, hz⟩ := JQ ha a0.length 0 (a0.length + 1) (by omega) (by omega)
 rw [show ((0 : Nat) : Int) = 0 from rfl, List.drop_zero] at hz
 unfold ZR
 rw [<- h, hz]
 unfold Ze
 by_cases hl : a0.length <= 20
 ·rw [if_neg (by omega), decide_eq_true hl]
  cases a0.all (inB 32 126) <;> rfl
 ·rw [if_pos (by omega), decide_eq_false hl]; rfl
theorem Rj : WC jw := fun a0 r h => (JR a0 r h).elim fun n hn => Ty n a0 r hn
def WD (F : (List UInt8) → Option Bool) : Prop := ∀ (a0 : (List UInt8)), Oc (F a0) 59 [] [vq za a0] fun r => (vb r, [])
def wz (a0 : (List UInt8)) : Nat → Int → Option (Bool ⊕ Int)
  | 0, _ => none
  | m + 1, v1 =>
  if v1 < (a0.length : Int) then
   (zD v1).bind fun i2 =>
   (a0[i2]?).bind fun x3 =>
   if ((x3.toNat : Nat) : Int) < 97 then
    some (.inl false)
   else
   if 122 < ((x3.toNat : Nat) : Int) then
    some (.inl false)
   else
   wz a0 m (w64 (v1 + 1))
  else
  some (.inr v1)
theorem Jo (a0 : (List UInt8)) (m : Nat) : ∀ (v1 : Int), Ol (wz a0 m v1) 59 (yg Try.f59 0) ⟨[(0, vq za a0), (3, vi v1)], [], 0⟩ fun o => match o with | .inl o_0 => (.ret, ⟨[(2, vb o_0)], [], 0⟩) | .inr (o_1) => (.exit 0, ⟨[(0, vq za a0), (3, vi o_1), (15, vb false)], [], 0⟩) := by
  induction m with
  | zero => intro v1 o h; cases h
  | succ m ih => exact fun v1 => tlp (
   .le za a0 <|
   .lI v1 (a0.length : Int) (fun c1 =>
    .na v1 fun i2 =>
    .ix0 za a0 i2 fun x3 =>
    .lI ((x3.toNat : Nat) : Int) 97 (fun c4 =>
     .ret (.inl false)) fun c4 =>
    .ag 1 <|
    .ag 0 <|
    .lI 122 ((x3.toNat : Nat) : Int) (fun c5 =>
     .ret (.inl false)) fun c5 =>
    .go (ih (w64 (v1 + 1)))) fun c1 =>
   .ret (.inr v1))
def ZS (n : Nat) (a0 : (List UInt8)) : Option Bool :=
 if (a0.length : Int) < 1 then
  some false
 else
 if 8 < (a0.length : Int) then
  some false
 else
 (wz a0 n 0).bind fun o3 =>
 match o3 with
 | .inl o3_0 =>
  some o3_0
 | .inr (o3_1) =>
  some true
theorem Tz (n : Nat) : WD (ZS n) := fun a0 => tc (
 .le za a0 <|
 .lI (a0.length : Int) 1 (fun c1 =>
  .ret false) fun c1 =>
 .le za a0 <|
 .lI 8 (a0.length : Int) (fun c2 =>
  .ret false) fun c2 =>
 .l2 (Jo a0 n 0) (fun o3_0 =>
  .ret o3_0) fun o3_1 =>
 .ret true) (zx Try.func59)
theorem JS {a : List UInt8} (ha : a.length <= 2 ^ 20) : ∀ (d i m : Nat), i + d = a.length → d < m → ∃ z, wz a m (i : Int) = some (if (a.drop i).all (inB 97 122) = true then .inr z else .inl false) := by
 intro d
 induction d with
 | zero =>
  intro i m hi hm
  obtain ⟨m, rfl, _⟩ := zg hm
  exact ⟨_, by rw [wz, if_neg (by omega), List.drop_eq_nil_of_le (by omega)]; rfl⟩
 | succ d ih =>
  intro i m hi hm
  obtain ⟨m, rfl, hm'⟩ := zg hm
  have hil : i < a.length := by omega
  rw [wz, if_pos (by omega), zd, Option.bind_some, zq hil, Option.bind_some, yr (by omega), wH hil, List.all_cons]
  by_cases h1 : ((a[i].toNat : Nat) : Int) < 97
  ·exact ⟨0, by rw [if_pos h1, if_neg]; simp [inB]; omega⟩
  ·rw [if_neg h1]
   by_cases h2 : (122 : Int) < ((a[i].toNat : Nat) : Int)
   ·exact ⟨0, by rw [if_pos h2, if_neg]; simp [inB]; omega⟩
   ·rw [if_neg h2, show inB 97 122 a[i] = true by simp [inB]; omega, Bool.true_and]
    exact ih (i + 1) m (by omega) (by omega)
def jx (a0 : (List UInt8)) : Option Bool := if a0.length <= 2 ^ 20 then some (qT a0) else none
theorem JT (a0 : (List UInt8)) (r : Bool) (h : jx a0 = some r) : ∃ n, ZS n a0 = some r := by
 unfold jx at h
 obtain ⟨ha, h⟩ := yd h
 refine ⟨a0.length + 1, ?_⟩
 obtain ⟨z, hz⟩ := JS ha a0.length 0 (a0.length + 1) (by omega) (by omega)
 rw [show ((0 : Nat) : Int) = 0 from rfl, List.drop_zero] at hz
 unfold ZS
 rw [<- h, hz]
 unfold qT
 by_cases h1 : 1 <= a0.length
 ·rw [if_neg (by omega)]
  by_cases hl : a0.length <= 8
  ·rw [if_neg (by omega), decide_eq_true ⟨h1, hl⟩]
   cases a0.all (inB 97 122) <;> rfl
  ·rw [if_pos (by omega), decide_eq_false (fun h => hl h.2)]; rfl
 ·rw [if_pos (by omega), decide_eq_false (fun h => h1 h.1)]; rfl
theorem Rk : WD jx := fun a0 r h => (JT a0 r h).elim fun n hn => Tz n a0 r hn
def vY (a0 : Int) : Option Bool :=
 if (-1000000000000) <= a0 then
  some (decide (a0 <= 1000000000000))
 else
 some false
theorem T0 (a0 : Int) : Oc (vY a0) 99 [] [vi a0] fun r => (vb r, []) := tc (
 .gI (-1000000000000) a0 (fun c1 =>
  .gD a0 1000000000000 <|
  .ret (decide (a0 <= 1000000000000))) fun c1 =>
 .ret false) (zx Try.func99)
def kW (F : GValue → Int → Int → Option Int) : Prop := ∀ (a0 : GValue) (a1 : Int) (a2 : Int), Oc (F a0 a1 a2) 70 [] [.val true (ze a0), vi a1, vi a2] fun r => (vi r, [])
def yC (G_spec_l2ok : GValue → Int → Int → Option Int) (a1 : Int) (a0 : GValue) : Nat → Int → Int → Option (Int ⊕ (Int × Int))
  | 0, _, _ => none
  | m + 1, v1, v2 =>
  if v2 < (a0.L.length : Int) then
   if a0.Kind = 5 then
    (zD v2).bind fun i3 =>
    (a0.K[i3]?).bind fun x4 =>
    (jx x4).bind fun r5 =>
    match r5 with
    | true =>
     if 0 < v2 then
      (zD (w64 (v2 - 1))).bind fun i7 =>
      (a0.K[i7]?).bind fun x8 =>
      if Op.bytesLess x8 x4 = true then
       (a0.L[i3]?).bind fun x10 =>
       (G_spec_l2ok x10 (w64 (a1 + 1)) v1).bind fun r11 =>
       if r11 < 0 then
        some (.inl (-1))
       else
       yC G_spec_l2ok a1 a0 m r11 (w64 (v2 + 1))
      else
      some (.inl (-1))
     else
     (a0.L[i3]?).bind fun x7 =>
     (G_spec_l2ok x7 (w64 (a1 + 1)) v1).bind fun r8 =>
     if r8 < 0 then
      some (.inl (-1))
     else
     yC G_spec_l2ok a1 a0 m r8 (w64 (v2 + 1))
    | false =>
     some (.inl (-1))
   else
   (zD v2).bind fun i3 =>
   (a0.L[i3]?).bind fun x4 =>
   (G_spec_l2ok x4 (w64 (a1 + 1)) v1).bind fun r5 =>
   if r5 < 0 then
    some (.inl (-1))
   else
   yC G_spec_l2ok a1 a0 m r5 (w64 (v2 + 1))
  else
  some (.inr (v1, v2))
theorem Xn (G_spec_l2ok : GValue → Int → Int → Option Int) (H_spec_l2ok : kW G_spec_l2ok) (a1 : Int) (a0 : GValue) (m : Nat) : ∀ (v1 : Int) (v2 : Int), Ol (yC G_spec_l2ok a1 a0 m v1 v2) 70 (yg Try.f70 0) ⟨[(1, vi a1), (2, vi v1), (3, vp 0 0), (7, vi v2)], [.var (ze a0)], 0⟩ fun o => match o with | .inl o_0 => (.ret, ⟨[(6, vi o_0)], [], 0⟩) | .inr (⟨o_1_0, o_1_1⟩) => (.exit 1, ⟨[(1, vi a1), (2, vi o_1_0), (3, vp 0 0), (7, vi o_1_1), (117, vb false)], [.var (ze a0)], 0⟩) := by
  induction m with
  | zero => intro v1 v2 o h; cases h
  | succ m ih => exact fun v1 v2 => tlp (
   .le zb a0.L <|
   .lI v2 (a0.L.length : Int) (fun c1 =>
    .eI a0.Kind 5 (fun c2 =>
     .na v2 fun i3 =>
     .ix0 (zu za) a0.K i3 fun x4 =>
     .cl (Rk x4) fun r5 =>
     .vN 2 r5 (
      .an 0 0 <|
      .lI 0 v2 (fun c6 =>
       .an 0 0 <|
       .na (w64 (v2 - 1)) fun i7 =>
       .ix0 (zu za) a0.K i7 fun x8 =>
       .bt x8 <|
       .ag 5 <|
       .ag 4 <|
       .bt x4 <|
       .bI x8 x4 (fun c9 =>
        .an 0 2 <|
        .an 2 2 <|
        .ag 5 <|
        .ix eq_GValue a0.L i3 fun x10 =>
        .cl (H_spec_l2ok x10 (w64 (a1 + 1)) v1) fun r11 =>
        .lI r11 0 (fun c12 =>
         .ret (.inl (-1))) fun c12 =>
        .go (ih r11 (w64 (v2 + 1)))) fun c9 =>
       .an 0 2 <|
       .an 2 2 <|
       .ret (.inl (-1))) fun c6 =>
      .an 0 0 <|
      .an 14 0 <|
      .an 2 0 <|
      .ag 3 <|
      .ix eq_GValue a0.L i3 fun x7 =>
      .cl (H_spec_l2ok x7 (w64 (a1 + 1)) v1) fun r8 =>
      .lI r8 0 (fun c9 =>
       .ret (.inl (-1))) fun c9 =>
      .go (ih r8 (w64 (v2 + 1)))) <|
     .an 0 0 <|
     .an 0 0 <|
     .an 0 0 <|
     .an 1 0 <|
     .ret (.inl (-1))) fun c2 =>
    .na v2 fun i3 =>
    .ix eq_GValue a0.L i3 fun x4 =>
    .cl (H_spec_l2ok x4 (w64 (a1 + 1)) v1) fun r5 =>
    .lI r5 0 (fun c6 =>
     .ret (.inl (-1))) fun c6 =>
    .go (ih r5 (w64 (v2 + 1)))) fun c1 =>
   .ret (.inr (v1, v2)))
def Z2 (G_spec_l2ok : GValue → Int → Int → Option Int) (n : Nat) (a0 : GValue) (a1 : Int) (a2 : Int) : Option Int :=
 if (w64 (a2 - 1)) < 0 then
  some (-1)
 else
 if 5 < a1 then
  some (-1)
 else
 if a0.Kind = 3 then
  if 0 < (a0.K.length : Int) then
   some (-1)
  else
  if a0.N = 0 then
   if 0 < (a0.L.length : Int) then
    some (-1)
   else
   (jw a0.S).bind fun r7 =>
   match r7 with
   | true =>
    some (w64 (a2 - 1))
   | false =>
    some (-1)
  else
  some (-1)
 else
 if 0 < (a0.S.length : Int) then
  some (-1)
 else
 if a0.Kind = 5 then
  if a0.N = 0 then
   if (a0.K.length : Int) = (a0.L.length : Int) then
    (yC G_spec_l2ok a1 a0 n (w64 (a2 - 1)) 0).bind fun o8 =>
    match o8 with
    | .inl o8_0 =>
     some o8_0
    | .inr (⟨o8_1_0, o8_1_1⟩) =>
     some o8_1_0
   else
   some (-1)
  else
  some (-1)
 else
 if 0 < (a0.K.length : Int) then
  some (-1)
 else
 if a0.Kind = 1 then
  if 0 < (a0.L.length : Int) then
   some (-1)
  else
  if a0.N < 0 then
   some (-1)
  else
  if 1 < a0.N then
   some (-1)
  else
  some (w64 (a2 - 1))
 else
 if a0.Kind = 2 then
  if 0 < (a0.L.length : Int) then
   some (-1)
  else
  (vY a0.N).bind fun r10 =>
  match r10 with
  | true =>
   some (w64 (a2 - 1))
  | false =>
   some (-1)
 else
 if a0.N = 0 then
  if a0.Kind = 4 then
   (yC G_spec_l2ok a1 a0 n (w64 (a2 - 1)) 0).bind fun o11 =>
   match o11 with
   | .inl o11_0 =>
    some o11_0
   | .inr (⟨o11_1_0, o11_1_1⟩) =>
    some o11_1_0
  else
  if 0 < (a0.L.length : Int) then
   some (-1)
  else
  if a0.Kind = 0 then
   some (w64 (a2 - 1))
  else
  if a0.Kind = 6 then
   some (w64 (a2 - 1))
  else
  some (-1)
 else
 some (-1)
theorem P8 (G_spec_l2ok : GValue → Int → Int → Option Int) (H_spec_l2ok : kW G_spec_l2ok) (n : Nat) : kW (Z2 G_spec_l2ok n) := fun a0 a1 a2 => tc (
 .lI (w64 (a2 - 1)) 0 (fun c1 =>
  .ret (-1)) fun c1 =>
 .lI 5 a1 (fun c2 =>
  .ret (-1)) fun c2 =>
 .eI a0.Kind 3 (fun c3 =>
  .q (.eFo a0.Kind 5 (by omega)) <|
  .le (zu za) a0.K <|
  .lI 0 (a0.K.length : Int) (fun c4 =>
   .ret (-1)) fun c4 =>
  .q (.eFo a0.Kind 1 (by omega)) <|
  .q (.eFo a0.Kind 2 (by omega)) <|
  .eI a0.N 0 (fun c5 =>
   .q (.eFo a0.Kind 4 (by omega)) <|
   .q (.eFo a0.Kind 5 (by omega)) <|
   .le zb a0.L <|
   .lI 0 (a0.L.length : Int) (fun c6 =>
    .ret (-1)) fun c6 =>
   .q (.eFo a0.Kind 0 (by omega)) <|
   .q (.eFo a0.Kind 6 (by omega)) <|
   .q (.eFo a0.Kind 1 (by omega)) <|
   .q (.eFo a0.Kind 2 (by omega)) <|
   .q (.eT c3) <|
   .cl (Rj a0.S) fun r7 =>
   .vN 0 r7 (
    .ret (w64 (a2 - 1))) <|
   .ret (-1)) fun c5 =>
  .ret (-1)) fun c3 =>
 .le za a0.S <|
 .lI 0 (a0.S.length : Int) (fun c4 =>
  .ret (-1)) fun c4 =>
 .eI a0.Kind 5 (fun c5 =>
  .q (.eFo a0.Kind 1 (by omega)) <|
  .q (.eFo a0.Kind 2 (by omega)) <|
  .eI a0.N 0 (fun c6 =>
   .q (.eFo a0.Kind 4 (by omega)) <|
   .q (.eT c5) <|
   .q (.eFo a0.Kind 0 (by omega)) <|
   .q (.eFo a0.Kind 6 (by omega)) <|
   .q (.eFo a0.Kind 1 (by omega)) <|
   .q (.eFo a0.Kind 2 (by omega)) <|
   .q (.eF c3) <|
   .q (.eFo a0.Kind 4 (by omega)) <|
   .q (.eT c5) <|
   .q (.eT c5) <|
   .le (zu za) a0.K <|
   .le zb a0.L <|
   .eI (a0.K.length : Int) (a0.L.length : Int) (fun c7 =>
    .l2 (Xn G_spec_l2ok H_spec_l2ok a1 a0 n (w64 (a2 - 1)) 0) (fun o8_0 =>
     .ret o8_0) fun ⟨o8_1_0, o8_1_1⟩ =>
    .ret o8_1_0) fun c7 =>
   .ret (-1)) fun c6 =>
  .ret (-1)) fun c5 =>
 .le (zu za) a0.K <|
 .lI 0 (a0.K.length : Int) (fun c6 =>
  .ret (-1)) fun c6 =>
 .eI a0.Kind 1 (fun c7 =>
  .q (.eFo a0.Kind 4 (by omega)) <|
  .q (.eF c5) <|
  .le zb a0.L <|
  .lI 0 (a0.L.length : Int) (fun c8 =>
   .ret (-1)) fun c8 =>
  .q (.eFo a0.Kind 0 (by omega)) <|
  .q (.eFo a0.Kind 6 (by omega)) <|
  .q (.eT c7) <|
  .lI a0.N 0 (fun c9 =>
   .ret (-1)) fun c9 =>
  .lI 1 a0.N (fun c10 =>
   .ret (-1)) fun c10 =>
  .ret (w64 (a2 - 1))) fun c7 =>
 .eI a0.Kind 2 (fun c8 =>
  .q (.eFo a0.Kind 4 (by omega)) <|
  .q (.eF c5) <|
  .le zb a0.L <|
  .lI 0 (a0.L.length : Int) (fun c9 =>
   .ret (-1)) fun c9 =>
  .q (.eFo a0.Kind 0 (by omega)) <|
  .q (.eFo a0.Kind 6 (by omega)) <|
  .q (.eF c7) <|
  .q (.eT c8) <|
  .cl (T0 a0.N) fun r10 =>
  .vN 0 r10 (
   .ret (w64 (a2 - 1))) <|
  .ret (-1)) fun c8 =>
 .eI a0.N 0 (fun c9 =>
  .eI a0.Kind 4 (fun c10 =>
   .q (.eFo a0.Kind 0 (by omega)) <|
   .q (.eFo a0.Kind 6 (by omega)) <|
   .q (.eF c7) <|
   .q (.eF c8) <|
   .q (.eF c3) <|
   .q (.eT c10) <|
   .q (.eF c5) <|
   .l2 (Xn G_spec_l2ok H_spec_l2ok a1 a0 n (w64 (a2 - 1)) 0) (fun o11_0 =>
    .ret o11_0) fun ⟨o11_1_0, o11_1_1⟩ =>
   .ret o11_1_0) fun c10 =>
  .q (.eF c5) <|
  .le zb a0.L <|
  .lI 0 (a0.L.length : Int) (fun c11 =>
   .ret (-1)) fun c11 =>
  .eI a0.Kind 0 (fun c12 =>
   .ret (w64 (a2 - 1))) fun c12 =>
  .eI a0.Kind 6 (fun c13 =>
   .ret (w64 (a2 - 1))) fun c13 =>
  .q (.eF c7) <|
  .q (.eF c8) <|
  .q (.eF c3) <|
  .q (.eF c10) <|
  .q (.eF c5) <|
  .ret (-1)) fun c9 =>
 .ret (-1)) (zx Try.func70)
def wC : Nat → GValue → Int → Int → Option Int
 | 0, _, _, _ => none
 | n + 1, a0, a1, a2 => Z2 (wC n) n a0 a1 a2
theorem T1 (n : Nat) : kW (wC n) := by
 induction n with
 | zero => exact fun _ _ _ _ h => (by rw [wC] at h; cases h)
 | succ n ih =>
  have ih_spec_l2ok := ih
  exact fun a0 a1 a2 r h => P8 (wC n) ih_spec_l2ok n a0 a1 a2 r (by rw [wC] at h; exact h)
def okV (d : Nat) (left : Int) (v : GValue) : Int := if shV d v = true ∧ (ptV v : Int) <= left then left - ptV v else -1
theorem LT {a : List UInt8} (h : a.length <= 2 ^ 20) : jx a = some (qT a) := if_pos h
theorem LU {a : List UInt8} (h : a.length <= 2 ^ 20) : jw a = some (Ze a) := if_pos h
theorem Nv (n : Int) : vY n = some (decide (-1000000000000 <= n ∧ n <= 1000000000000)) := by
 unfold vY
 by_cases h : (-1000000000000 : Int) <= n
 ·rw [if_pos h]; simp [h]
 ·rw [if_neg h]; simp [h]
theorem LV {G : GValue → Int → Int → Option Int} {v : GValue} {dd : Nat} {deep : Int} (hdd : deep + dd = 5) (h1d : 1 <= deep) (hs : vsz v <= 2 ^ 20) (hk : v.Kind = 4 ∨ (v.Kind = 5 ∧ v.K.length = v.L.length))
  (hG : ∀ x ∈ v.L, ∀ r : Int, 0 <= r → r <= 40 → G x (deep + 1) r = some (okV dd r x)) : ∀ (d i m : Nat) (r : Int), i + d = v.L.length → d < m → 0 <= r → r <= 40 →
  ∃ z, yC G deep v m r (i : Int) = some (if ((v.Kind = 5 → q4 v.K i d = true) ∧ (v.L.drop i).all (shV dd) = true) ∧ (zO (v.L.drop i) : Int) <= r then .inr (r - zO (v.L.drop i), z) else .inl (-1)) := by
 have he := y8 v
 have hl := y0 v.L
 intro d
 induction d with
 | zero =>
  intro i m r hi hm h0 h1
  obtain ⟨m, rfl, _⟩ := zg hm
  refine ⟨(i : Int), ?_⟩
  rw [yC, if_neg (by omega), List.drop_eq_nil_of_le (by omega), if_pos ⟨⟨fun _ => rfl, rfl⟩, by simpa [zO] using h0⟩]
  simp [zO]
 | succ d ih =>
  intro i m r hi hm h0 h1
  obtain ⟨m, rfl, hm'⟩ := zg hm
  have hil : i < v.L.length := by omega
  have hp : zO (v.L.drop i) = ptV v.L[i] + zO (v.L.drop (i + 1)) := by rw [wH hil]; simp only [zO]
  have ha : (v.L.drop i).all (shV dd) = (shV dd v.L[i] && (v.L.drop (i + 1)).all (shV dd)) := by rw [wH hil, List.all_cons]
  have hd1 : w64 (deep + 1) = deep + 1 := yo (by omega) (by omega)
  have tail : (v.Kind = 5 → kOk v.K i = true) → ∃ z, ((G v.L[i] (w64 (deep + 1)) r).bind fun r12 => if r12 < 0 then some (.inl (-1)) else yC G deep v m r12 (w64 ((i : Int) + 1))) =
    some (if ((v.Kind = 5 → q4 v.K i (d + 1) = true) ∧ (v.L.drop i).all (shV dd) = true) ∧ (zO (v.L.drop i) : Int) <= r then .inr (r - zO (v.L.drop i), z) else .inl (-1)) := by
   intro hki
   rw [hd1, hG _ (List.getElem_mem hil) r h0 h1, Option.bind_some, yr (by omega), hp, ha]
   unfold okV
   by_cases hc : shV dd v.L[i] = true ∧ (ptV v.L[i] : Int) <= r
   ·rw [if_pos hc, if_neg (by omega)]
    obtain ⟨z, hz⟩ := ih (i + 1) m (r - ptV v.L[i]) (by omega) (by omega) (by omega) (by omega)
    refine ⟨z, ?_⟩
    rw [hz, hc.1, Bool.true_and]
    have hcond : (((v.Kind = 5 → q4 v.K (i + 1) d = true) ∧ (v.L.drop (i + 1)).all (shV dd) = true) ∧ (zO (v.L.drop (i + 1)) : Int) <= r - ptV v.L[i]) ↔
      (((v.Kind = 5 → q4 v.K i (d + 1) = true) ∧ (v.L.drop (i + 1)).all (shV dd) = true) ∧ ((ptV v.L[i] + zO (v.L.drop (i + 1)) : Nat) : Int) <= r) := by
     have hka : (v.Kind = 5 → q4 v.K (i + 1) d = true) ↔ (v.Kind = 5 → q4 v.K i (d + 1) = true) := by
      constructor
      ·intro h hk; rw [Xr, hki hk, h hk]; rfl
      ·intro h hk; have := h hk; rw [Xr, hki hk, Bool.true_and] at this; exact this
     rw [hka]
     constructor
     ·rintro ⟨h1, h2⟩; exact ⟨h1, by omega⟩
     ·rintro ⟨h1, h2⟩; exact ⟨h1, by omega⟩
    by_cases hd : ((v.Kind = 5 → q4 v.K (i + 1) d = true) ∧ (v.L.drop (i + 1)).all (shV dd) = true) ∧ (zO (v.L.drop (i + 1)) : Int) <= r - ptV v.L[i]
    ·rw [if_pos hd, if_pos (hcond.1 hd)]; congr 3; omega
    ·rw [if_neg hd, if_neg (fun h => hd (hcond.2 h))]
   ·refine ⟨0, ?_⟩
    rw [if_neg hc, if_pos (by omega), if_neg]
    rintro ⟨⟨_, h2⟩, h3⟩
    rw [Bool.and_eq_true] at h2
    exact hc ⟨h2.1, by omega⟩
  have bad : v.Kind = 5 → kOk v.K i = false → ∃ z, (some (.inl (-1)) : Option (Int ⊕ (Int × Int))) = some (if ((v.Kind = 5 → q4 v.K i (d + 1) = true) ∧ (v.L.drop i).all (shV dd) = true) ∧ (zO (v.L.drop i) : Int) <= r then .inr (r - zO (v.L.drop i), z) else .inl (-1)) := by
   intro hk hki
   refine ⟨0, ?_⟩
   rw [if_neg]
   rintro ⟨⟨h1, _⟩, _⟩
   have := h1 hk
   rw [Xr, hki] at this
   cases this
  rw [yC, if_pos (by omega)]
  rcases hk with hk | ⟨hk, hkl⟩
  ·rw [if_neg (by omega), zd, Option.bind_some, zq hil, Option.bind_some]
   exact tail fun h => by omega
  ·have hik : i < v.K.length := by omega
   have hx := kI (List.getElem_mem hik)
   rw [if_pos hk, zd, Option.bind_some, zq hik, Option.bind_some, LT (by omega), Option.bind_some]
   cases hnm : qT v.K[i] with
   | false =>
    dsimp only
    refine bad hk ?_
    by_cases h0 : i = 0
    ·subst h0; rw [W5 hik, hnm]
    ·rw [YG hik (by omega), hnm]; rfl
   | true =>
    dsimp only
    by_cases h0 : 0 < i
    ·rw [if_pos (by omega), JM (by omega) h0, zd, Option.bind_some, zq (show i - 1 < v.K.length by omega), Option.bind_some]
     by_cases hb : Op.bytesLess (v.K[i - 1]'(by omega)) v.K[i] = true
     ·rw [if_pos hb, zq hil, Option.bind_some]
      exact tail fun _ => by rw [YG hik h0, hnm, hb]; rfl
     ·rw [if_neg hb]
      refine bad hk ?_
      rw [YG hik h0, hnm]; simpa using hb
    ·have : i = 0 := by omega
     subst this
     rw [if_neg (by omega), zq hil, Option.bind_some]
     exact tail fun _ => by rw [W5 hik, hnm]
theorem Ek {G : GValue → Int → Int → Option Int} {v : GValue} {f dd : Nat} {deep left : Int} (hdd : deep + dd = 5 ∨ (deep = 6 ∧ dd = 0)) (h1d : 1 <= deep) (hs : vsz v <= 2 ^ 20) (hf : v.L.length < f) (h0 : 0 <= left) (h1 : left <= 40)
  (hG : deep <= 5 → ∀ x ∈ v.L, ∀ r : Int, 0 <= r → r <= 40 → G x (deep + 1) r = some (okV dd r x)) : Z2 G f v deep left = some (okV (if deep <= 5 then dd + 1 else 0) left v) := by
 have he := y8 v
 have hl := y0 v.L
 have hpt := XJ v
 have hpl := N2 v.L
 unfold Z2
 rw [yo (by omega) (by omega)]
 by_cases hleft : left - 1 < 0
 ·rw [if_pos hleft]
  unfold okV; rw [if_neg (by rintro ⟨_, h⟩; omega)]
 rw [if_neg hleft]
 by_cases hdeep : 5 < deep
 ·rw [if_pos hdeep, if_neg (show ¬ deep <= 5 by omega)]
  unfold okV; rw [if_neg (by rintro ⟨h, _⟩; simp [shV] at h)]
 rw [if_neg hdeep, if_pos (show deep <= 5 by omega)]
 have hdd : deep + dd = 5 := by omega
 have hG := hG (by omega)
 unfold okV
 simp only [shV]
 have fin0 : v.L.length = 0 → (v.L.all (shV dd) = true ∧ ptV v = 1) := fun h => by
  have : v.L = [] := List.eq_nil_of_length_eq_zero h
  rw [hpt, this]; exact ⟨rfl, rfl⟩
 have yes : y3 v = true → v.L.length = 0 → some (left - 1) = some (if (y3 v && v.L.all (shV dd)) = true ∧ (ptV v : Int) <= left then left - ptV v else -1) := fun h1 h2 => by
  obtain ⟨a1, a2⟩ := fin0 h2
  rw [h1, a1, a2, if_pos ⟨rfl, by omega⟩]; rfl
 have no : y3 v = false → some (-1) = some (if (y3 v && v.L.all (shV dd)) = true ∧ (ptV v : Int) <= left then left - ptV v else -1) := fun h1 => by
  rw [h1, if_neg (by rintro ⟨h, _⟩; cases h)]
 have lp : v.Kind = 4 ∨ (v.Kind = 5 ∧ v.K.length = v.L.length) → (∀ b : Bool, v.L.length <= 40 → ((v.Kind = 5 → q4 v.K 0 v.L.length = true) ↔ b = true) → y3 v = b) → ((yC G deep v f (left - 1) 0).bind fun o8 => match o8 with | .inl o8_0 => some o8_0 | .inr (⟨o8_1_0, o8_1_1⟩) => some o8_1_0) =
   some (if (y3 v && v.L.all (shV dd)) = true ∧ (ptV v : Int) <= left then left - ptV v else -1) := fun hk hloc => by
  obtain ⟨z, hz⟩ := LV (G := G) hdd h1d hs hk hG v.L.length 0 f (left - 1) (by omega) (by omega) (by omega) (by omega)
  rw [show ((0 : Nat) : Int) = 0 from rfl, List.drop_zero] at hz
  rw [hz, Option.bind_some]
  by_cases hc : ((v.Kind = 5 → q4 v.K 0 v.L.length = true) ∧ v.L.all (shV dd) = true) ∧ (zO v.L : Int) <= left - 1
  ·rw [if_pos hc]
   have h40 : v.L.length <= 40 := by omega
   have := hloc true h40 ⟨fun _ => rfl, fun _ => hc.1.1⟩
   rw [this, hc.1.2, if_pos ⟨rfl, by omega⟩, hpt]
   dsimp only
   congr 1; omega
  ·rw [if_neg hc, if_neg]
   rintro ⟨h2, h3⟩
   rw [Bool.and_eq_true] at h2
   refine hc ⟨⟨?_, h2.2⟩, by omega⟩
   by_cases h40 : v.L.length <= 40
   ·by_cases hb : (v.Kind = 5 → q4 v.K 0 v.L.length = true)
    ·exact hb
    ·have := hloc false h40 ⟨fun h => (hb h).elim, fun h => by cases h⟩
     rw [this] at h2; cases h2.1
   ·omega
 have hloc : ∀ k, v.Kind = k → y3 v = (if k = 0 ∨ k = 6 then decide (v.N = 0 ∧ v.S.length = 0 ∧ v.K.length = 0 ∧ v.L.length = 0)
   else if k = 1 then decide ((0 <= v.N ∧ v.N <= 1) ∧ v.S.length = 0 ∧ v.K.length = 0 ∧ v.L.length = 0)
   else if k = 2 then decide ((-1000000000000 <= v.N ∧ v.N <= 1000000000000) ∧ v.S.length = 0 ∧ v.K.length = 0 ∧ v.L.length = 0)
   else if k = 3 then Ze v.S && decide (v.N = 0 ∧ v.K.length = 0 ∧ v.L.length = 0)
   else if k = 4 then decide (v.N = 0 ∧ v.S.length = 0 ∧ v.K.length = 0 ∧ v.L.length <= 40)
   else if k = 5 then decide (v.K.length = v.L.length ∧ v.N = 0 ∧ v.S.length = 0 ∧ v.L.length <= 40) && q4 v.K 0 v.K.length
   else false) := fun k hk => by unfold y3; rw [hk]
 by_cases k3 : v.Kind = 3
 ·have hv := hloc 3 k3
  simp only [show ¬ ((3 : Int) = 0 ∨ (3 : Int) = 6) by omega, if_false, show ¬ ((3 : Int) = 1) by omega, show ¬ ((3 : Int) = 2) by omega, if_true] at hv
  rw [if_pos k3]
  by_cases a1 : 0 < (v.K.length : Int)
  ·rw [if_pos a1]; exact no (by rw [hv, decide_eq_false (by omega)]; simp)
  ·rw [if_neg a1]
   by_cases a2 : v.N = 0
   ·rw [if_pos a2]
    by_cases a3 : 0 < (v.L.length : Int)
    ·rw [if_pos a3]; exact no (by rw [hv, decide_eq_false (by omega)]; simp)
    ·rw [if_neg a3, LU (by omega), Option.bind_some]
     rw [decide_eq_true (by omega), Bool.and_true] at hv
     cases ht : Ze v.S with
     | true => exact yes (by rw [hv, ht]) (by omega)
     | false => exact no (by rw [hv, ht])
   ·rw [if_neg a2]; exact no (by rw [hv, decide_eq_false (by omega)]; simp)
 rw [if_neg k3]
 by_cases hS : 0 < (v.S.length : Int)
 ·rw [if_pos hS]
  refine no ?_
  unfold y3
  simp only [k3, if_false]
  repeat' split
  all_goals first | rfl | (rw [decide_eq_false (by omega)]; try rfl)
 rw [if_neg hS]
 by_cases k5 : v.Kind = 5
 ·have hv := hloc 5 k5
  simp only [show ¬ ((5 : Int) = 0 ∨ (5 : Int) = 6) by omega, if_false, show ¬ ((5 : Int) = 1) by omega, show ¬ ((5 : Int) = 2) by omega, show ¬ ((5 : Int) = 3) by omega, show ¬ ((5 : Int) = 4) by omega, if_true] at hv
  rw [if_pos k5]
  by_cases a2 : v.N = 0
  ·rw [if_pos a2]
   by_cases a3 : (v.K.length : Int) = (v.L.length : Int)
   ·rw [if_pos a3]
    refine lp (.inr ⟨k5, by omega⟩) fun b h40 hb => ?_
    rw [hv, decide_eq_true (by omega), Bool.true_and, show v.K.length = v.L.length by omega, Bool.eq_iff_iff, <- hb]
    exact ⟨fun h _ => h, fun h => h k5⟩
   ·rw [if_neg a3]; exact no (by rw [hv, decide_eq_false (by omega)]; rfl)
  ·rw [if_neg a2]; exact no (by rw [hv, decide_eq_false (by omega)]; rfl)
 rw [if_neg k5]
 by_cases hK : 0 < (v.K.length : Int)
 ·rw [if_pos hK]
  refine no ?_
  unfold y3
  simp only [k3, k5, if_false]
  repeat' split
  all_goals first | rfl | (rw [decide_eq_false (by omega)]; try rfl)
 rw [if_neg hK]
 by_cases k1 : v.Kind = 1
 ·have hv := hloc 1 k1
  simp only [show ¬ ((1 : Int) = 0 ∨ (1 : Int) = 6) by omega, if_false, if_true] at hv
  rw [if_pos k1]
  by_cases a3 : 0 < (v.L.length : Int)
  ·rw [if_pos a3]; exact no (by rw [hv, decide_eq_false (by omega)])
  ·rw [if_neg a3]
   by_cases a4 : v.N < 0
   ·rw [if_pos a4]; exact no (by rw [hv, decide_eq_false (by omega)])
   ·rw [if_neg a4]
    by_cases a5 : 1 < v.N
    ·rw [if_pos a5]; exact no (by rw [hv, decide_eq_false (by omega)])
    ·rw [if_neg a5]; exact yes (by rw [hv, decide_eq_true (by omega)]) (by omega)
 rw [if_neg k1]
 by_cases k2 : v.Kind = 2
 ·have hv := hloc 2 k2
  simp only [show ¬ ((2 : Int) = 0 ∨ (2 : Int) = 6) by omega, if_false, show ¬ ((2 : Int) = 1) by omega, if_true] at hv
  rw [if_pos k2]
  by_cases a3 : 0 < (v.L.length : Int)
  ·rw [if_pos a3]; exact no (by rw [hv, decide_eq_false (by omega)])
  ·rw [if_neg a3, Nv, Option.bind_some]
   by_cases a4 : -1000000000000 <= v.N ∧ v.N <= 1000000000000
   ·rw [decide_eq_true a4]; exact yes (by rw [hv, decide_eq_true (by omega)]) (by omega)
   ·rw [decide_eq_false a4]; exact no (by rw [hv, decide_eq_false (by omega)])
 rw [if_neg k2]
 by_cases a2 : v.N = 0
 ·rw [if_pos a2]
  by_cases k4 : v.Kind = 4
  ·have hv := hloc 4 k4
   simp only [show ¬ ((4 : Int) = 0 ∨ (4 : Int) = 6) by omega, if_false, show ¬ ((4 : Int) = 1) by omega, show ¬ ((4 : Int) = 2) by omega, show ¬ ((4 : Int) = 3) by omega, if_true] at hv
   rw [if_pos k4]
   refine lp (.inl k4) fun b h40 hb => ?_
   rw [hv, decide_eq_true (by omega)]
   exact (hb.1 fun h => by omega).symm
  ·rw [if_neg k4]
   by_cases a3 : 0 < (v.L.length : Int)
   ·rw [if_pos a3]
    refine no ?_
    unfold y3
    simp only [k1, k2, k3, k4, k5, if_false]
    repeat' split
    all_goals first | rfl | (rw [decide_eq_false (by omega)])
   ·rw [if_neg a3]
    by_cases k0 : v.Kind = 0
    ·rw [if_pos k0]; exact yes (by unfold y3; rw [if_pos (.inl k0), decide_eq_true (by omega)]) (by omega)
    ·rw [if_neg k0]
     by_cases k6 : v.Kind = 6
     ·rw [if_pos k6]; exact yes (by unfold y3; rw [if_pos (.inr k6), decide_eq_true (by omega)]) (by omega)
     ·rw [if_neg k6]
      exact no (by unfold y3; simp only [k0, k1, k2, k3, k4, k5, k6, or_self, if_false])
 ·rw [if_neg a2]
  refine no ?_
  unfold y3
  simp only [k1, k2, k3, k5, if_false]
  repeat' split
  all_goals first | rfl | (rw [decide_eq_false (by omega)])
theorem El : ∀ (N : Nat) (v : GValue), vsz v < N → vsz v <= 2 ^ 20 → ∀ (f : Nat) (deep left : Int), vsz v + 2 <= f → 1 <= deep → deep <= 6 → 0 <= left → left <= 40 → wC f v deep left = some (okV (6 - deep).toNat left v) := by
 intro N
 induction N with
 | zero => intro v hv; omega
 | succ N ih =>
  intro v hv hs f deep left hf h1 h2 h3 h4
  obtain ⟨f, rfl, _⟩ := zg (show 0 < f by omega)
  have he := y8 v
  have hl := y0 v.L
  rw [wC]
  have := Ek (G := wC f) (f := f) (dd := (5 - deep).toNat) (deep := deep) (left := left) (by omega) h1 hs (by omega) h3 h4 fun hd x hx r g0 g1 => by
   have hm := yw hx
   have := ih x (by omega) (by omega) f (deep + 1) r (by omega) (by omega) (by omega) g0 g1
   rw [show (6 - (deep + 1)).toNat = (5 - deep).toNat by omega] at this
   exact this
  rw [this]
  congr 2
  by_cases hd : deep <= 5
  ·rw [if_pos hd]; omega
  ·rw [if_neg hd]; omega
def kX (a0 : GValue) (a1 : Int) (a2 : Int) : Option Int := if vsz a0 <= 2 ^ 20 ∧ (1 <= a1 ∧ a1 <= 6) ∧ 0 <= a2 ∧ a2 <= 40 then some (okV (6 - a1).toNat a2 a0) else none
theorem Rl (a0 : GValue) (a1 : Int) (a2 : Int) (r : Int) (h : kX a0 a1 a2 = some r) : ∃ n, wC n a0 a1 a2 = some r := by
 unfold kX at h
 obtain ⟨⟨hs, ⟨h1, h2⟩, h3, h4⟩, h⟩ := yd h
 exact ⟨vsz a0 + 2, by rw [<- h]; exact El _ a0 (Nat.lt_succ_self _) hs _ a1 a2 (Nat.le_refl _) h1 h2 h3 h4⟩
theorem UP : kW kX := by
 intro a0 a1 a2 r h
 obtain ⟨n, hn⟩ := Rl a0 a1 a2 r h
 exact (T1 n) a0 a1 a2 r hn
def kc (a0 : GValue) : Option Bool :=
 (kX a0 1 40).bind fun r1 =>
 some (decide (0 <= r1))
theorem WE (a0 : GValue) : Oc (kc a0) 44 [] [.val true (ze a0)] fun r => (vb r, []) := tc (
 .cl (UP a0 1 40) fun r1 =>
 .gD 0 r1 <|
 .ret (decide (0 <= r1))) (zx Try.func44)
def xh (a0 : (List UInt8)) (a1 : (List UInt8)) : Option Int :=
 if Op.bytesLess a0 a1 = true then
  some (-1)
 else
 if Op.bytesLess a1 a0 = true then
  some 1
 else
 some 0
theorem jM (a0 : (List UInt8)) (a1 : (List UInt8)) : Oc (xh a0 a1) 74 [] [vq za a0, vq za a1] fun r => (vi r, []) := tc (
 .bt a0 <|
 .bt a1 <|
 .bI a0 a1 (fun c1 =>
  .ret (-1)) fun c1 =>
 .bt a0 <|
 .bt a1 <|
 .bI a1 a0 (fun c2 =>
  .ret 1) fun c2 =>
 .ret 0) (zx Try.func74)
def qY (a0 : Int) (a1 : Int) : Option Int :=
 if a0 < a1 then
  some (-1)
 else
 if a1 < a0 then
  some 1
 else
 some 0
theorem ZT (a0 : Int) (a1 : Int) : Oc (qY a0 a1) 100 [] [vi a0, vi a1] fun r => (vi r, []) := tc (
 .lI a0 a1 (fun c1 =>
  .ret (-1)) fun c1 =>
 .lI a1 a0 (fun c2 =>
  .ret 1) fun c2 =>
 .ret 0) (zx Try.func100)
def kf (F : GValue → GValue → Option Int) : Prop := ∀ (a0 : GValue) (a1 : GValue), Oc (F a0 a1) 72 [] [.val true (ze a0), .val true (ze a1)] fun r => (vi r, [])
def xv (G_spec_l2cmp : GValue → GValue → Option Int) (a0 : GValue) (a1 : GValue) : Nat → Int → Option (Int ⊕ Int)
  | 0, _ => none
  | m + 1, v0 =>
  if v0 < (a0.L.length : Int) then
   if v0 < (a1.L.length : Int) then
    if a0.Kind = 5 then
     (zD v0).bind fun i4 =>
     (a0.K[i4]?).bind fun x5 =>
     (a1.K[i4]?).bind fun x6 =>
     (xh x5 x6).bind fun r7 =>
     if r7 = 0 then
      (a0.L[i4]?).bind fun x9 =>
      (a1.L[i4]?).bind fun x10 =>
      (G_spec_l2cmp x9 x10).bind fun r11 =>
      if r11 = 0 then
       xv G_spec_l2cmp a0 a1 m (w64 (v0 + 1))
      else
      some (.inl r11)
     else
     some (.inl r7)
    else
    (zD v0).bind fun i4 =>
    (a0.L[i4]?).bind fun x5 =>
    (a1.L[i4]?).bind fun x6 =>
    (G_spec_l2cmp x5 x6).bind fun r7 =>
    if r7 = 0 then
     xv G_spec_l2cmp a0 a1 m (w64 (v0 + 1))
    else
    some (.inl r7)
   else
   some (.inr v0)
  else
  some (.inr v0)
theorem JU (G_spec_l2cmp : GValue → GValue → Option Int) (H_spec_l2cmp : kf G_spec_l2cmp) (a0 : GValue) (a1 : GValue) (m : Nat) : ∀ (v0 : Int), Ol (xv G_spec_l2cmp a0 a1 m v0) 72 (yg Try.f72 0) ⟨[(2, vp 0 0), (3, vp 1 0), (5, vi v0)], [.var (ze a0), .var (ze a1)], 0⟩ fun o => match o with | .inl o_0 => (.ret, ⟨[(4, vi o_0)], [], 0⟩) | .inr (o_1) => (.exit 0, ⟨[(2, vp 0 0), (3, vp 1 0), (5, vi o_1), (47, vb false)], [.var (ze a0), .var (ze a1)], 0⟩) := by
  induction m with
  | zero => intro v0 o h; cases h
  | succ m ih => exact fun v0 => tlp (
   .le zb a0.L <|
   .lI v0 (a0.L.length : Int) (fun c1 =>
    .le zb a1.L <|
    .lI v0 (a1.L.length : Int) (fun c2 =>
     .eI a0.Kind 5 (fun c3 =>
      .na v0 fun i4 =>
      .ix0 (zu za) a0.K i4 fun x5 =>
      .ag 1 <|
      .ix0 (zu za) a1.K i4 fun x6 =>
      .cl (jM x5 x6) fun r7 =>
      .eI r7 0 (fun c8 =>
       .ag 3 <|
       .ix eq_GValue a0.L i4 fun x9 =>
       .ag 4 <|
       .ix eq_GValue a1.L i4 fun x10 =>
       .cl (H_spec_l2cmp x9 x10) fun r11 =>
       .eI r11 0 (fun c12 =>
        .go (ih (w64 (v0 + 1)))) fun c12 =>
       .ret (.inl r11)) fun c8 =>
      .ret (.inl r7)) fun c3 =>
     .na v0 fun i4 =>
     .ix eq_GValue a0.L i4 fun x5 =>
     .ag 1 <|
     .ix eq_GValue a1.L i4 fun x6 =>
     .cl (H_spec_l2cmp x5 x6) fun r7 =>
     .eI r7 0 (fun c8 =>
      .go (ih (w64 (v0 + 1)))) fun c8 =>
     .ret (.inl r7)) fun c2 =>
    .ret (.inr v0)) fun c1 =>
   .ret (.inr v0))
def vZ (G_spec_l2cmp : GValue → GValue → Option Int) (n : Nat) (a0 : GValue) (a1 : GValue) : Option Int :=
 if a0.Kind = a1.Kind then
  if a0.Kind = 3 then
   (xh a0.S a1.S).bind fun r3 =>
   some r3
  else
  if a0.N = a1.N then
   (xv G_spec_l2cmp a0 a1 n 0).bind fun o4 =>
   match o4 with
   | .inl o4_0 =>
    some o4_0
   | .inr (o4_1) =>
    (qY (a0.L.length : Int) (a1.L.length : Int)).bind fun r5 =>
    some r5
  else
  (qY a0.N a1.N).bind fun r4 =>
  some r4
 else
 (qY a0.Kind a1.Kind).bind fun r2 =>
 some r2
theorem UQ (G_spec_l2cmp : GValue → GValue → Option Int) (H_spec_l2cmp : kf G_spec_l2cmp) (n : Nat) : kf (vZ G_spec_l2cmp n) := fun a0 a1 => tc (
 .eI a0.Kind a1.Kind (fun c1 =>
  .eI a0.Kind 3 (fun c2 =>
   .cl (jM a0.S a1.S) fun r3 =>
   .ret r3) fun c2 =>
  .eI a0.N a1.N (fun c3 =>
   .l2 (JU G_spec_l2cmp H_spec_l2cmp a0 a1 n 0) (fun o4_0 =>
    .ret o4_0) fun o4_1 =>
   .le zb a0.L <|
   .le zb a1.L <|
   .cl (ZT (a0.L.length : Int) (a1.L.length : Int)) fun r5 =>
   .ret r5) fun c3 =>
  .cl (ZT a0.N a1.N) fun r4 =>
  .ret r4) fun c1 =>
 .cl (ZT a0.Kind a1.Kind) fun r2 =>
 .ret r2) (zx Try.func72)
def yM : Nat → GValue → GValue → Option Int
 | 0, _, _ => none
 | n + 1, a0, a1 => vZ (yM n) n a0 a1
theorem Rm (n : Nat) : kf (yM n) := by
 induction n with
 | zero => exact fun _ _ _ h => (by rw [yM] at h; cases h)
 | succ n ih =>
  have ih_spec_l2cmp := ih
  exact fun a0 a1 r h => UQ (yM n) ih_spec_l2cmp n a0 a1 r (by rw [yM] at h; exact h)
def kg (a0 : GValue) (a1 : GValue) : Option Int := yM (vsz a0 + 3) a0 a1
theorem Ve (a0 : GValue) (a1 : GValue) (r : Int) (h : kg a0 a1 = some r) : ∃ n, yM n a0 a1 = some r := ⟨_, h⟩
theorem T2 : kf kg := by
 intro a0 a1 r h
 obtain ⟨n, hn⟩ := Ve a0 a1 r h
 exact (Rm n) a0 a1 r hn
def yq (a0 : (List GStep)) (a1 : GStep) : Option (List GStep) :=
 if zA 40 (0 + a0.length) then
 if zA 40 (a0.length + [a1].length) then
 some (a0 ++ [a1])
 else none
 else none
theorem yD (a0 : (List GStep)) (a1 : GStep) : Oc (yq a0 a1) 73 [] [vq zP a0, .val true (Ji a1)] fun r => (vq zP r, []) := tc (
 .ap 40 q7 [] a0 fun n1 =>
 .pl q7 [a1] <|
 .ap 40 q7 a0 [a1] fun n2 =>
 .vw q7 (a0 ++ [a1]) <|
 .ret (a0 ++ [a1])) (zx Try.func73)
def q6 (F : GValue → GValue → (List GStep) → Option (List GChange)) : Prop := ∀ (a0 : GValue) (a1 : GValue) (a2 : (List GStep)), Oc (F a0 a1 a2) 46 [] [.val true (ze a0), .val true (ze a1), vq zP a2] fun r => (vq zL r, [])
def w7 (G_spec_l3diff : GValue → GValue → (List GStep) → Option (List GChange)) (a2 : (List GStep)) (a0 : GValue) (a1 : GValue) : Nat → Int → (List GChange) → Option (Int × (List GChange))
  | 0, _, _ => none
  | m + 1, v1, v4 =>
  if v1 < (a0.L.length : Int) then
   (zD v1).bind fun i2 =>
   (a0.L[i2]?).bind fun x3 =>
   (a1.L[i2]?).bind fun x4 =>
   (yq a2 (GStep.mk 1 [] v1)).bind fun r5 =>
   (G_spec_l3diff x3 x4 r5).bind fun r6 =>
   if zA 216 (v4.length + r6.length) then
   w7 G_spec_l3diff a2 a0 a1 m (w64 (v1 + 1)) (v4 ++ r6)
   else none
  else
  some (v1, v4)
theorem Jp (G_spec_l3diff : GValue → GValue → (List GStep) → Option (List GChange)) (H_spec_l3diff : q6 G_spec_l3diff) (a2 : (List GStep)) (a0 : GValue) (a1 : GValue) (m : Nat) : ∀ (v1 : Int) (v4 : (List GChange)), Ol (w7 G_spec_l3diff a2 a0 a1 m v1 v4) 46 (yg Try.f46 0) ⟨[(2, vq zP a2), (3, vp 0 0), (4, vp 1 0), (7, vr 2), (8, vi v1)], [.var (ze a0), .var (ze a1), .obj 13 (eL zL v4)], 0⟩ fun o => match o with | ⟨o_0, o_1⟩ => (.exit 0, ⟨[(2, vq zP a2), (3, vp 0 0), (4, vp 1 0), (7, vr 2), (8, vi o_0), (37, vb false)], [.var (ze a0), .var (ze a1), .obj 13 (eL zL o_1)], 0⟩) := by
  induction m with
  | zero => intro v1 v4 o h; cases h
  | succ m ih => exact fun v1 v4 => tlp (
   .le zb a0.L <|
   .lI v1 (a0.L.length : Int) (fun c1 =>
    .na v1 fun i2 =>
    .ix eq_GValue a0.L i2 fun x3 =>
    .ag 1 <|
    .ix eq_GValue a1.L i2 fun x4 =>
    .vw xY [] <|
    .cl (yD a2 (GStep.mk 1 [] v1)) fun r5 =>
    .cl (H_spec_l3diff x3 x4 r5) fun r6 =>
    .ap 216 zS v4 r6 fun n7 =>
    .go (ih (w64 (v1 + 1)) (v4 ++ r6))) fun c1 =>
   .ret (v1, v4))
def zp (G_spec_l3diff : GValue → GValue → (List GStep) → Option (List GChange)) (a2 : (List GStep)) (a0 : GValue) (a1 : GValue) : Nat → Int → Int → (List GChange) → Option (Int × Int × (List GChange))
  | 0, _, _, _ => none
  | m + 1, v1, v2, v5 =>
  if v1 < (a0.K.length : Int) then
   if (a0.K.length : Int) <= v1 then
    (zD v2).bind fun i3 =>
    (a1.K[i3]?).bind fun x4 =>
    (yq a2 (GStep.mk 0 x4 0)).bind fun r5 =>
    (a1.L[i3]?).bind fun x6 =>
    if zA 216 (v5.length + [(GChange.mk r5 false (GValue.mk 0 0 [] [] []) true x6)].length) then
    zp G_spec_l3diff a2 a0 a1 m v1 (w64 (v2 + 1)) (v5 ++ [(GChange.mk r5 false (GValue.mk 0 0 [] [] []) true x6)])
    else none
   else
   if (a1.K.length : Int) <= v2 then
    (zD v1).bind fun i4 =>
    (a0.K[i4]?).bind fun x5 =>
    (yq a2 (GStep.mk 0 x5 0)).bind fun r6 =>
    (a0.L[i4]?).bind fun x7 =>
    if zA 216 (v5.length + [(GChange.mk r6 true x7 false (GValue.mk 0 0 [] [] []))].length) then
    zp G_spec_l3diff a2 a0 a1 m (w64 (v1 + 1)) v2 (v5 ++ [(GChange.mk r6 true x7 false (GValue.mk 0 0 [] [] []))])
    else none
   else
   (zD v1).bind fun i4 =>
   (a0.K[i4]?).bind fun x5 =>
   (zD v2).bind fun i6 =>
   (a1.K[i6]?).bind fun x7 =>
   (xh x5 x7).bind fun r8 =>
   if r8 < 0 then
    (yq a2 (GStep.mk 0 x5 0)).bind fun r10 =>
    (a0.L[i4]?).bind fun x11 =>
    if zA 216 (v5.length + [(GChange.mk r10 true x11 false (GValue.mk 0 0 [] [] []))].length) then
    zp G_spec_l3diff a2 a0 a1 m (w64 (v1 + 1)) v2 (v5 ++ [(GChange.mk r10 true x11 false (GValue.mk 0 0 [] [] []))])
    else none
   else
   if 0 < r8 then
    (yq a2 (GStep.mk 0 x7 0)).bind fun r11 =>
    (a1.L[i6]?).bind fun x12 =>
    if zA 216 (v5.length + [(GChange.mk r11 false (GValue.mk 0 0 [] [] []) true x12)].length) then
    zp G_spec_l3diff a2 a0 a1 m v1 (w64 (v2 + 1)) (v5 ++ [(GChange.mk r11 false (GValue.mk 0 0 [] [] []) true x12)])
    else none
   else
   (a0.L[i4]?).bind fun x11 =>
   (a1.L[i6]?).bind fun x12 =>
   (yq a2 (GStep.mk 0 x5 0)).bind fun r13 =>
   (G_spec_l3diff x11 x12 r13).bind fun r14 =>
   if zA 216 (v5.length + r14.length) then
   zp G_spec_l3diff a2 a0 a1 m (w64 (v1 + 1)) (w64 (v2 + 1)) (v5 ++ r14)
   else none
  else
  if v2 < (a1.K.length : Int) then
   if (a0.K.length : Int) <= v1 then
    (zD v2).bind fun i4 =>
    (a1.K[i4]?).bind fun x5 =>
    (yq a2 (GStep.mk 0 x5 0)).bind fun r6 =>
    (a1.L[i4]?).bind fun x7 =>
    if zA 216 (v5.length + [(GChange.mk r6 false (GValue.mk 0 0 [] [] []) true x7)].length) then
    zp G_spec_l3diff a2 a0 a1 m v1 (w64 (v2 + 1)) (v5 ++ [(GChange.mk r6 false (GValue.mk 0 0 [] [] []) true x7)])
    else none
   else
   if (a1.K.length : Int) <= v2 then
    (zD v1).bind fun i5 =>
    (a0.K[i5]?).bind fun x6 =>
    (yq a2 (GStep.mk 0 x6 0)).bind fun r7 =>
    (a0.L[i5]?).bind fun x8 =>
    if zA 216 (v5.length + [(GChange.mk r7 true x8 false (GValue.mk 0 0 [] [] []))].length) then
    zp G_spec_l3diff a2 a0 a1 m (w64 (v1 + 1)) v2 (v5 ++ [(GChange.mk r7 true x8 false (GValue.mk 0 0 [] [] []))])
    else none
   else
   (zD v1).bind fun i5 =>
   (a0.K[i5]?).bind fun x6 =>
   (zD v2).bind fun i7 =>
   (a1.K[i7]?).bind fun x8 =>
   (xh x6 x8).bind fun r9 =>
   if r9 < 0 then
    (yq a2 (GStep.mk 0 x6 0)).bind fun r11 =>
    (a0.L[i5]?).bind fun x12 =>
    if zA 216 (v5.length + [(GChange.mk r11 true x12 false (GValue.mk 0 0 [] [] []))].length) then
    zp G_spec_l3diff a2 a0 a1 m (w64 (v1 + 1)) v2 (v5 ++ [(GChange.mk r11 true x12 false (GValue.mk 0 0 [] [] []))])
    else none
   else
   if 0 < r9 then
    (yq a2 (GStep.mk 0 x8 0)).bind fun r12 =>
    (a1.L[i7]?).bind fun x13 =>
    if zA 216 (v5.length + [(GChange.mk r12 false (GValue.mk 0 0 [] [] []) true x13)].length) then
    zp G_spec_l3diff a2 a0 a1 m v1 (w64 (v2 + 1)) (v5 ++ [(GChange.mk r12 false (GValue.mk 0 0 [] [] []) true x13)])
    else none
   else
   (a0.L[i5]?).bind fun x12 =>
   (a1.L[i7]?).bind fun x13 =>
   (yq a2 (GStep.mk 0 x6 0)).bind fun r14 =>
   (G_spec_l3diff x12 x13 r14).bind fun r15 =>
   if zA 216 (v5.length + r15.length) then
   zp G_spec_l3diff a2 a0 a1 m (w64 (v1 + 1)) (w64 (v2 + 1)) (v5 ++ r15)
   else none
  else
  some (v1, v2, v5)
theorem Jq (G_spec_l3diff : GValue → GValue → (List GStep) → Option (List GChange)) (H_spec_l3diff : q6 G_spec_l3diff) (a2 : (List GStep)) (a0 : GValue) (a1 : GValue) (m : Nat) : ∀ (v1 : Int) (v2 : Int) (v5 : (List GChange)), Ol (zp G_spec_l3diff a2 a0 a1 m v1 v2 v5) 46 (yg Try.f46 1) ⟨[(2, vq zP a2), (3, vp 0 0), (4, vp 1 0), (7, vr 2), (9, vi v1), (10, vi v2)], [.var (ze a0), .var (ze a1), .obj 13 (eL zL v5)], 0⟩ fun o => match o with | ⟨o_0, o_1, o_2⟩ => (.exit 2, ⟨[(2, vq zP a2), (3, vp 0 0), (4, vp 1 0), (7, vr 2), (9, vi o_0), (10, vi o_1), (84, vb false)], [.var (ze a0), .var (ze a1), .obj 13 (eL zL o_2)], 0⟩) := by
  induction m with
  | zero => intro v1 v2 v5 o h; cases h
  | succ m ih => exact fun v1 v2 v5 => tlp (
   .le (zu za) a0.K <|
   .lI v1 (a0.K.length : Int) (fun c1 =>
    .le (zu za) a0.K <|
    .gI (a0.K.length : Int) v1 (fun c2 =>
     .q (.lFo 1 0 (by omega)) <|
     .q (.lTo 0 1 (by omega)) <|
     .na v2 fun i3 =>
     .ix0 (zu za) a1.K i3 fun x4 =>
     .cl (yD a2 (GStep.mk 0 x4 0)) fun r5 =>
     .ag 2 <|
     .ix eq_GValue a1.L i3 fun x6 =>
     .vw xY [] <|
     .vw (Qv za) [] <|
     .vw kr [] <|
     .pl zS [(GChange.mk r5 false (GValue.mk 0 0 [] [] []) true x6)] <|
     .ap 216 zS v5 [(GChange.mk r5 false (GValue.mk 0 0 [] [] []) true x6)] fun n7 =>
     .go (ih v1 (w64 (v2 + 1)) (v5 ++ [(GChange.mk r5 false (GValue.mk 0 0 [] [] []) true x6)]))) fun c2 =>
    .le (zu za) a1.K <|
    .gI (a1.K.length : Int) v2 (fun c3 =>
     .q (.lTo (-1) 0 (by omega)) <|
     .na v1 fun i4 =>
     .ix0 (zu za) a0.K i4 fun x5 =>
     .cl (yD a2 (GStep.mk 0 x5 0)) fun r6 =>
     .ag 2 <|
     .ix eq_GValue a0.L i4 fun x7 =>
     .vw xY [] <|
     .vw (Qv za) [] <|
     .vw kr [] <|
     .pl zS [(GChange.mk r6 true x7 false (GValue.mk 0 0 [] [] []))] <|
     .ap 216 zS v5 [(GChange.mk r6 true x7 false (GValue.mk 0 0 [] [] []))] fun n8 =>
     .go (ih (w64 (v1 + 1)) v2 (v5 ++ [(GChange.mk r6 true x7 false (GValue.mk 0 0 [] [] []))]))) fun c3 =>
    .na v1 fun i4 =>
    .ix0 (zu za) a0.K i4 fun x5 =>
    .na v2 fun i6 =>
    .ix0 (zu za) a1.K i6 fun x7 =>
    .cl (jM x5 x7) fun r8 =>
    .lI r8 0 (fun c9 =>
     .ag 4 <|
     .ag 3 <|
     .cl (yD a2 (GStep.mk 0 x5 0)) fun r10 =>
     .ag 5 <|
     .ix eq_GValue a0.L i4 fun x11 =>
     .vw xY [] <|
     .vw (Qv za) [] <|
     .vw kr [] <|
     .pl zS [(GChange.mk r10 true x11 false (GValue.mk 0 0 [] [] []))] <|
     .ap 216 zS v5 [(GChange.mk r10 true x11 false (GValue.mk 0 0 [] [] []))] fun n12 =>
     .go (ih (w64 (v1 + 1)) v2 (v5 ++ [(GChange.mk r10 true x11 false (GValue.mk 0 0 [] [] []))]))) fun c9 =>
    .lI 0 r8 (fun c10 =>
     .ag 2 <|
     .ag 1 <|
     .cl (yD a2 (GStep.mk 0 x7 0)) fun r11 =>
     .ag 3 <|
     .ix eq_GValue a1.L i6 fun x12 =>
     .vw xY [] <|
     .vw (Qv za) [] <|
     .vw kr [] <|
     .pl zS [(GChange.mk r11 false (GValue.mk 0 0 [] [] []) true x12)] <|
     .ap 216 zS v5 [(GChange.mk r11 false (GValue.mk 0 0 [] [] []) true x12)] fun n13 =>
     .go (ih v1 (w64 (v2 + 1)) (v5 ++ [(GChange.mk r11 false (GValue.mk 0 0 [] [] []) true x12)]))) fun c10 =>
    .ag 4 <|
    .ix eq_GValue a0.L i4 fun x11 =>
    .ag 3 <|
    .ix eq_GValue a1.L i6 fun x12 =>
    .ag 6 <|
    .ag 5 <|
    .cl (yD a2 (GStep.mk 0 x5 0)) fun r13 =>
    .cl (H_spec_l3diff x11 x12 r13) fun r14 =>
    .ap 216 zS v5 r14 fun n15 =>
    .go (ih (w64 (v1 + 1)) (w64 (v2 + 1)) (v5 ++ r14))) fun c1 =>
   .le (zu za) a1.K <|
   .lI v2 (a1.K.length : Int) (fun c2 =>
    .le (zu za) a0.K <|
    .gI (a0.K.length : Int) v1 (fun c3 =>
     .q (.lFo 1 0 (by omega)) <|
     .q (.lTo 0 1 (by omega)) <|
     .na v2 fun i4 =>
     .ix0 (zu za) a1.K i4 fun x5 =>
     .cl (yD a2 (GStep.mk 0 x5 0)) fun r6 =>
     .ag 2 <|
     .ix eq_GValue a1.L i4 fun x7 =>
     .vw xY [] <|
     .vw (Qv za) [] <|
     .vw kr [] <|
     .pl zS [(GChange.mk r6 false (GValue.mk 0 0 [] [] []) true x7)] <|
     .ap 216 zS v5 [(GChange.mk r6 false (GValue.mk 0 0 [] [] []) true x7)] fun n8 =>
     .go (ih v1 (w64 (v2 + 1)) (v5 ++ [(GChange.mk r6 false (GValue.mk 0 0 [] [] []) true x7)]))) fun c3 =>
    .le (zu za) a1.K <|
    .gI (a1.K.length : Int) v2 (fun c4 =>
     .q (.lTo (-1) 0 (by omega)) <|
     .na v1 fun i5 =>
     .ix0 (zu za) a0.K i5 fun x6 =>
     .cl (yD a2 (GStep.mk 0 x6 0)) fun r7 =>
     .ag 2 <|
     .ix eq_GValue a0.L i5 fun x8 =>
     .vw xY [] <|
     .vw (Qv za) [] <|
     .vw kr [] <|
     .pl zS [(GChange.mk r7 true x8 false (GValue.mk 0 0 [] [] []))] <|
     .ap 216 zS v5 [(GChange.mk r7 true x8 false (GValue.mk 0 0 [] [] []))] fun n9 =>
     .go (ih (w64 (v1 + 1)) v2 (v5 ++ [(GChange.mk r7 true x8 false (GValue.mk 0 0 [] [] []))]))) fun c4 =>
    .na v1 fun i5 =>
    .ix0 (zu za) a0.K i5 fun x6 =>
    .na v2 fun i7 =>
    .ix0 (zu za) a1.K i7 fun x8 =>
    .cl (jM x6 x8) fun r9 =>
    .lI r9 0 (fun c10 =>
     .ag 4 <|
     .ag 3 <|
     .cl (yD a2 (GStep.mk 0 x6 0)) fun r11 =>
     .ag 5 <|
     .ix eq_GValue a0.L i5 fun x12 =>
     .vw xY [] <|
     .vw (Qv za) [] <|
     .vw kr [] <|
     .pl zS [(GChange.mk r11 true x12 false (GValue.mk 0 0 [] [] []))] <|
     .ap 216 zS v5 [(GChange.mk r11 true x12 false (GValue.mk 0 0 [] [] []))] fun n13 =>
     .go (ih (w64 (v1 + 1)) v2 (v5 ++ [(GChange.mk r11 true x12 false (GValue.mk 0 0 [] [] []))]))) fun c10 =>
    .lI 0 r9 (fun c11 =>
     .ag 2 <|
     .ag 1 <|
     .cl (yD a2 (GStep.mk 0 x8 0)) fun r12 =>
     .ag 3 <|
     .ix eq_GValue a1.L i7 fun x13 =>
     .vw xY [] <|
     .vw (Qv za) [] <|
     .vw kr [] <|
     .pl zS [(GChange.mk r12 false (GValue.mk 0 0 [] [] []) true x13)] <|
     .ap 216 zS v5 [(GChange.mk r12 false (GValue.mk 0 0 [] [] []) true x13)] fun n14 =>
     .go (ih v1 (w64 (v2 + 1)) (v5 ++ [(GChange.mk r12 false (GValue.mk 0 0 [] [] []) true x13)]))) fun c11 =>
    .ag 4 <|
    .ix eq_GValue a0.L i5 fun x12 =>
    .ag 3 <|
    .ix eq_GValue a1.L i7 fun x13 =>
    .ag 6 <|
    .ag 5 <|
    .cl (yD a2 (GStep.mk 0 x6 0)) fun r14 =>
    .cl (H_spec_l3diff x12 x13 r14) fun r15 =>
    .ap 216 zS v5 r15 fun n16 =>
    .go (ih (w64 (v1 + 1)) (w64 (v2 + 1)) (v5 ++ r15))) fun c2 =>
   .ret (v1, v2, v5))
def vd (G_spec_l3diff : GValue → GValue → (List GStep) → Option (List GChange)) (n : Nat) (a0 : GValue) (a1 : GValue) (a2 : (List GStep)) : Option (List GChange) :=
 (kg a0 a1).bind fun r1 =>
 if r1 = 0 then
  some []
 else
 if a0.Kind = 4 then
  if a1.Kind = 4 then
   if (a0.L.length : Int) = (a1.L.length : Int) then
    (w7 G_spec_l3diff a2 a0 a1 n 0 []).bind fun ⟨o6_0, o6_1⟩ =>
    some o6_1
   else
   if zA 40 (0 + a2.length) then
   some [(GChange.mk a2 true a0 true a1)]
   else none
  else
  if zA 40 (0 + a2.length) then
  some [(GChange.mk a2 true a0 true a1)]
  else none
 else
 if a0.Kind = 5 then
  if a1.Kind = 5 then
   (zp G_spec_l3diff a2 a0 a1 n 0 0 []).bind fun ⟨o6_0, o6_1, o6_2⟩ =>
   some o6_2
  else
  if zA 40 (0 + a2.length) then
  some [(GChange.mk a2 true a0 true a1)]
  else none
 else
 if zA 40 (0 + a2.length) then
 some [(GChange.mk a2 true a0 true a1)]
 else none
theorem T3 (G_spec_l3diff : GValue → GValue → (List GStep) → Option (List GChange)) (H_spec_l3diff : q6 G_spec_l3diff) (n : Nat) : q6 (vd G_spec_l3diff n) := fun a0 a1 a2 => tc (
 .cl (T2 a0 a1) fun r1 =>
 .eI r1 0 (fun c2 =>
  .vw zS [] <|
  .ret []) fun c2 =>
 .eI a0.Kind 4 (fun c3 =>
  .eI a1.Kind 4 (fun c4 =>
   .le zb a0.L <|
   .le zb a1.L <|
   .eI (a0.L.length : Int) (a1.L.length : Int) (fun c5 =>
    .lp (Jp G_spec_l3diff H_spec_l3diff a2 a0 a1 n 0 []) fun ⟨o6_0, o6_1⟩ =>
    .vw zS o6_1 <|
    .ret o6_1) fun c5 =>
   .q (.eFo a0.Kind 5 (by omega)) <|
   .ap 40 q7 [] a2 fun n6 =>
   .vw q7 a2 <|
   .vw zS [(GChange.mk a2 true a0 true a1)] <|
   .ret [(GChange.mk a2 true a0 true a1)]) fun c4 =>
  .q (.eFo a0.Kind 5 (by omega)) <|
  .ap 40 q7 [] a2 fun n5 =>
  .vw q7 a2 <|
  .vw zS [(GChange.mk a2 true a0 true a1)] <|
  .ret [(GChange.mk a2 true a0 true a1)]) fun c3 =>
 .eI a0.Kind 5 (fun c4 =>
  .eI a1.Kind 5 (fun c5 =>
   .lp (Jq G_spec_l3diff H_spec_l3diff a2 a0 a1 n 0 0 []) fun ⟨o6_0, o6_1, o6_2⟩ =>
   .vw zS o6_2 <|
   .ret o6_2) fun c5 =>
  .ap 40 q7 [] a2 fun n6 =>
  .vw q7 a2 <|
  .vw zS [(GChange.mk a2 true a0 true a1)] <|
  .ret [(GChange.mk a2 true a0 true a1)]) fun c4 =>
 .ap 40 q7 [] a2 fun n5 =>
 .vw q7 a2 <|
 .vw zS [(GChange.mk a2 true a0 true a1)] <|
 .ret [(GChange.mk a2 true a0 true a1)]) (zx Try.func46)
def yN : Nat → GValue → GValue → (List GStep) → Option (List GChange)
 | 0, _, _, _ => none
 | n + 1, a0, a1, a2 => vd (yN n) n a0 a1 a2
theorem Vf (n : Nat) : q6 (yN n) := by
 induction n with
 | zero => exact fun _ _ _ _ h => (by rw [yN] at h; cases h)
 | succ n ih =>
  have ih_spec_l3diff := ih
  exact fun a0 a1 a2 r h => T3 (yN n) ih_spec_l3diff n a0 a1 a2 r (by rw [yN] at h; exact h)
def ve (a0 : GValue) (a1 : GValue) (a2 : (List GStep)) : Option (List GChange) := yN (vsz a0 + vsz a1 + 4) a0 a1 a2
theorem JV (a0 : GValue) (a1 : GValue) (a2 : (List GStep)) (r : (List GChange)) (h : ve a0 a1 a2 = some r) : ∃ n, yN n a0 a1 a2 = some r := ⟨_, h⟩
theorem Rn : q6 ve := by
 intro a0 a1 a2 r h
 obtain ⟨n, hn⟩ := JV a0 a1 a2 r h
 exact (Vf n) a0 a1 a2 r hn
def qZ (F : GValue → Option GValue) : Prop := ∀ (a0 : GValue), Oc (F a0) 71 [] [.val true (ze a0)] fun r => (.val true (xe r), [])
def wM (G_spec_l2own : GValue → Option GValue) (a0 : GValue) (v2 : Int) (v3 : Int) (v4 : Int) (v5 : Int) (v6 : (List UInt8)) (v7 : (List (List UInt8))) (v8 : (List GValue)) (v9 : (List UInt8)) (v11 : (List GValue)) : Nat → Int → (List (List UInt8)) → Option (Int × (List (List UInt8)))
  | 0, _, _ => none
  | m + 1, v0, v10 =>
  if v0 < (a0.K.length : Int) then
   (zD v0).bind fun i2 =>
   (a0.K[i2]?).bind fun x3 =>
   if zA 1 (0 + x3.length) then
   if zA 24 (v10.length + [x3].length) then
   wM G_spec_l2own a0 v2 v3 v4 v5 v6 v7 v8 v9 v11 m (w64 (v0 + 1)) (v10 ++ [x3])
   else none
   else none
  else
  some (v0, v10)
theorem JW (G_spec_l2own : GValue → Option GValue) (H_spec_l2own : qZ G_spec_l2own) (a0 : GValue) (v2 : Int) (v3 : Int) (v4 : Int) (v5 : Int) (v6 : (List UInt8)) (v7 : (List (List UInt8))) (v8 : (List GValue)) (v9 : (List UInt8)) (v11 : (List GValue)) (m : Nat) : ∀ (v0 : Int) (v10 : (List (List UInt8))), Ol (wM G_spec_l2own a0 v2 v3 v4 v5 v6 v7 v8 v9 v11 m v0 v10) 71 (yg Try.f71 0) ⟨[(1, vp 0 0), (2, vp 1 0), (3, vp 2 0), (4, vi v0)], [.var (ze a0), .var [ci v2, ci v3, .ref 3, .ref 4, .ref 5], .var [ci v4, ci v5, .ref 6, .ref 7, .ref 8], .obj 1 (eL za v6), .obj 1 (eL (yf 1 za) v7), .obj 5 (eL zk v8), .obj 1 (eL za v9), .obj 1 (eL (yf 1 za) v10), .obj 5 (eL zk v11)], 0⟩ fun o => match o with | ⟨o_0, o_1⟩ => (.exit 0, ⟨[(1, vp 0 0), (2, vp 1 0), (3, vp 2 0), (4, vi o_0), (19, vb false)], [.var (ze a0), .var [ci v2, ci v3, .ref 3, .ref 4, .ref 5], .var [ci v4, ci v5, .ref 6, .ref 7, .ref 8], .obj 1 (eL za v6), .obj 1 (eL (yf 1 za) v7), .obj 5 (eL zk v8), .obj 1 (eL za v9), .obj 1 (eL (yf 1 za) o_1), .obj 5 (eL zk v11)], 0⟩) := by
  induction m with
  | zero => intro v0 v10 o h; cases h
  | succ m ih => exact fun v0 v10 => tlp (
   .le (zu za) a0.K <|
   .lI v0 (a0.K.length : Int) (fun c1 =>
    .na v0 fun i2 =>
    .ix0 (zu za) a0.K i2 fun x3 =>
    .ap 1 xY [] x3 fun n4 =>
    .ao 24 (wV 1 xW) v10 [x3] fun n5 =>
    .go (ih (w64 (v0 + 1)) (v10 ++ [x3]))) fun c1 =>
   .ret (v0, v10))
def wN (G_spec_l2own : GValue → Option GValue) (a0 : GValue) (v2 : Int) (v3 : Int) (v4 : Int) (v5 : Int) (v6 : (List UInt8)) (v7 : (List (List UInt8))) (v8 : (List GValue)) (v9 : (List UInt8)) (v10 : (List (List UInt8))) : Nat → Int → (List GValue) → Option (Int × (List GValue))
  | 0, _, _ => none
  | m + 1, v0, v11 =>
  if v0 < (a0.L.length : Int) then
   (zD v0).bind fun i2 =>
   (a0.L[i2]?).bind fun x3 =>
   (G_spec_l2own x3).bind fun r4 =>
   if zA 88 (v11.length + [r4].length) then
   wN G_spec_l2own a0 v2 v3 v4 v5 v6 v7 v8 v9 v10 m (w64 (v0 + 1)) (v11 ++ [r4])
   else none
  else
  some (v0, v11)
theorem JX (G_spec_l2own : GValue → Option GValue) (H_spec_l2own : qZ G_spec_l2own) (a0 : GValue) (v2 : Int) (v3 : Int) (v4 : Int) (v5 : Int) (v6 : (List UInt8)) (v7 : (List (List UInt8))) (v8 : (List GValue)) (v9 : (List UInt8)) (v10 : (List (List UInt8))) (m : Nat) : ∀ (v0 : Int) (v11 : (List GValue)), Ol (wN G_spec_l2own a0 v2 v3 v4 v5 v6 v7 v8 v9 v10 m v0 v11) 71 (yg Try.f71 1) ⟨[(1, vp 0 0), (2, vp 1 0), (3, vp 2 0), (5, vi v0)], [.var (ze a0), .var [ci v2, ci v3, .ref 3, .ref 4, .ref 5], .var [ci v4, ci v5, .ref 6, .ref 7, .ref 8], .obj 1 (eL za v6), .obj 1 (eL (yf 1 za) v7), .obj 5 (eL zk v8), .obj 1 (eL za v9), .obj 1 (eL (yf 1 za) v10), .obj 5 (eL zk v11)], 0⟩ fun o => match o with | ⟨o_0, o_1⟩ => (.exit 2, ⟨[(1, vp 0 0), (2, vp 1 0), (3, vp 2 0), (5, vi o_0), (38, vb false)], [.var (ze a0), .var [ci v2, ci v3, .ref 3, .ref 4, .ref 5], .var [ci v4, ci v5, .ref 6, .ref 7, .ref 8], .obj 1 (eL za v6), .obj 1 (eL (yf 1 za) v7), .obj 5 (eL zk v8), .obj 1 (eL za v9), .obj 1 (eL (yf 1 za) v10), .obj 5 (eL zk o_1)], 0⟩) := by
  induction m with
  | zero => intro v0 v11 o h; cases h
  | succ m ih => exact fun v0 v11 => tlp (
   .le zb a0.L <|
   .lI v0 (a0.L.length : Int) (fun c1 =>
    .na v0 fun i2 =>
    .ix eq_GValue a0.L i2 fun x3 =>
    .cl (H_spec_l2own x3) fun r4 =>
    .nd (zA 88 (v11.length + [r4].length)) fun n5 =>
    .q ⟨.room 88 (eL zk v11) ([(xe r4)] : List (List C)), .b true, by rw [(show ([(xe r4)] : List (List C)) = eL zk [r4] from (Zu (ym r4) Yr))]; exact (A.room n5)⟩ <|
    .q ⟨.uni 5 ([(xe r4)] : List (List C)), .b true, by rw [(show ([(xe r4)] : List (List C)) = eL zk [r4] from (Zu (ym r4) Yr))]; exact (A.uniO yE)⟩ <|
    .q ⟨.app (eL zk v11) ([(xe r4)] : List (List C)), .l (eL zk (v11 ++ [r4])), by rw [(show ([(xe r4)] : List (List C)) = eL zk [r4] from (Zu (ym r4) Yr))]; exact A.app⟩ <|
    .go (ih (w64 (v0 + 1)) (v11 ++ [r4]))) fun c1 =>
   .ret (v0, v11))
def Y4 (G_spec_l2own : GValue → Option GValue) (n : Nat) (a0 : GValue) : Option GValue :=
 if zA 1 (0 + a0.S.length) then
 (wM G_spec_l2own a0 0 0 a0.Kind a0.N [] [] [] a0.S [] n 0 []).bind fun ⟨o2_0, o2_1⟩ =>
 (wN G_spec_l2own a0 0 0 a0.Kind a0.N [] [] [] a0.S o2_1 n 0 []).bind fun ⟨o3_0, o3_1⟩ =>
 some (GValue.mk a0.Kind a0.N a0.S o2_1 o3_1)
 else none
theorem UR (G_spec_l2own : GValue → Option GValue) (H_spec_l2own : qZ G_spec_l2own) (n : Nat) : qZ (Y4 G_spec_l2own n) := fun a0 => tc (
 .ap 1 xY [] a0.S fun n1 =>
 .lp (JW G_spec_l2own H_spec_l2own a0 0 0 a0.Kind a0.N [] [] [] a0.S [] n 0 []) fun ⟨o2_0, o2_1⟩ =>
 .lp (JX G_spec_l2own H_spec_l2own a0 0 0 a0.Kind a0.N [] [] [] a0.S o2_1 n 0 []) fun ⟨o3_0, o3_1⟩ =>
 .ret (GValue.mk a0.Kind a0.N a0.S o2_1 o3_1)) (zx Try.func71)
def xG : Nat → GValue → Option GValue
 | 0, _ => none
 | n + 1, a0 => Y4 (xG n) n a0
theorem Ro (n : Nat) : qZ (xG n) := by
 induction n with
 | zero => exact fun _ _ h => (by rw [xG] at h; cases h)
 | succ n ih =>
  have ih_spec_l2own := ih
  exact fun a0 r h => UR (xG n) ih_spec_l2own n a0 r (by rw [xG] at h; exact h)
theorem P9 {G : GValue → Option GValue} {a : GValue} {v2 v3 v4 v5 : Int} {v6 : List UInt8} {v7 : List (List UInt8)} {v8 : List GValue} {v9 : List UInt8} {v11 : List GValue} (ha : bsz a.K <= 2 ^ 39) : ∀ (l p : List (List UInt8)) (m : Nat), a.K = p ++ l → l.length < m → ∃ z, wM G a v2 v3 v4 v5 v6 v7 v8 v9 v11 m (p.length : Int) p = some (z, a.K) := by
 have hl := wk a.K
 intro l
 induction l with
 | nil =>
  intro p m he hm
  obtain ⟨m, rfl, _⟩ := zg hm
  exact ⟨_, by rw [wM, he, if_neg (wl p)]; simp; rfl⟩
 | cons x l ih =>
  intro p m he hm
  obtain ⟨m, rfl, hm'⟩ := zg hm
  have hx : 1 + x.length <= bsz a.K := kI (by rw [he]; simp)
  have hlen : a.K.length = p.length + (l.length + 1) := by rw [he]; simp
  obtain ⟨z, hz⟩ := ih (p ++ [x]) m (by rw [he]; simp) (by simp only [List.length_cons] at hm'; omega)
  refine ⟨z, ?_⟩
  rw [wM, if_pos (by rw [he]; exact kw p x l), zd, Option.bind_some, show a.K[p.length]? = some x by rw [he]; exact zy p x l, Option.bind_some, if_pos (xo (by decide) (by omega)), if_pos (xo (by decide) (by simp only [List.length_cons, List.length_nil]; omega)), yt p x (by omega), hz]
theorem PA {G : GValue → Option GValue} {a : GValue} {v2 v3 v4 v5 : Int} {v6 : List UInt8} {v7 : List (List UInt8)} {v8 : List GValue} {v9 : List UInt8} {v10 : List (List UInt8)} (ha : yu a.L <= 2 ^ 39) : ∀ (l p : List GValue) (m : Nat), a.L = p ++ l → (∀ x ∈ l, G x = some x) → l.length < m → ∃ z, wN G a v2 v3 v4 v5 v6 v7 v8 v9 v10 m (p.length : Int) p = some (z, a.L) := by
 have hl := y0 a.L
 intro l
 induction l with
 | nil =>
  intro p m he _ hm
  obtain ⟨m, rfl, _⟩ := zg hm
  exact ⟨_, by rw [wN, he, if_neg (wl p)]; simp; rfl⟩
 | cons x l ih =>
  intro p m he hG hm
  obtain ⟨m, rfl, hm'⟩ := zg hm
  have hlen : a.L.length = p.length + (l.length + 1) := by rw [he]; simp
  obtain ⟨z, hz⟩ := ih (p ++ [x]) m (by rw [he]; simp) (fun y hy => hG y (List.mem_cons_of_mem _ hy)) (by simp only [List.length_cons] at hm'; omega)
  refine ⟨z, ?_⟩
  rw [wN, if_pos (by omega), zd, Option.bind_some, show a.L[p.length]? = some x by rw [he]; exact zy p x l, Option.bind_some, hG x List.mem_cons_self, Option.bind_some, if_pos (xo (by decide) (by simp only [List.length_cons, List.length_nil]; omega)), yt p x (by omega), hz]
theorem GE : ∀ (N : Nat) (v : GValue), vsz v < N → vsz v <= 2 ^ 39 → ∀ f : Nat, vsz v + 2 <= f → xG f v = some v := by
 intro N
 induction N with
 | zero => intro v hv; omega
 | succ N ih =>
  intro v hv hs f hf
  obtain ⟨f, rfl, _⟩ := zg (show 0 < f by omega)
  have he := y8 v
  have hl := y0 v.L
  have hb := wk v.K
  rw [xG]
  unfold Y4
  rw [if_pos (xo (by decide) (by omega))]
  obtain ⟨y, hy⟩ := P9 (G := xG f) (a := v) (v2 := 0) (v3 := 0) (v4 := v.Kind) (v5 := v.N) (v6 := []) (v7 := []) (v8 := []) (v9 := v.S) (v11 := []) (by omega) v.K [] f rfl (by omega)
  simp only [List.length_nil, Int.natCast_zero] at hy
  rw [hy, Option.bind_some]
  dsimp only
  obtain ⟨z, hz⟩ := PA (G := xG f) (a := v) (v2 := 0) (v3 := 0) (v4 := v.Kind) (v5 := v.N) (v6 := []) (v7 := []) (v8 := []) (v9 := v.S) (v10 := v.K) (by omega) v.L [] f rfl (fun x hx => by
   have := yw hx
   exact ih x (by omega) (by omega) f (by omega)) (by omega)
  simp only [List.length_nil, Int.natCast_zero] at hz
  rw [hz]
  exact congrArg some (GValue.eta v)
def ql (a0 : GValue) : Option GValue := if vsz a0 <= 2 ^ 39 then some a0 else none
theorem Vg (a0 : GValue) (r : GValue) (h : ql a0 = some r) : ∃ n, xG n a0 = some r := by
 unfold ql at h
 obtain ⟨ha, h⟩ := yd h
 exact ⟨vsz a0 + 2, by rw [<- h]; exact GE _ a0 (Nat.lt_succ_self _) ha _ (Nat.le_refl _)⟩
theorem WF : qZ ql := by
 intro a0 r h
 obtain ⟨n, hn⟩ := Vg a0 r h
 exact (Ro n) a0 r hn
def Q1 (F : (List GChange) → Option (List GChange)) : Prop := ∀ (a0 : (List GChange)), Oc (F a0) 45 [] [vq zL a0] fun r => (.val false [.own 13 (eL yp r)], [])
def wO (a0 : (List GChange)) (v1 : Int) (v3 : (List GChange)) (v4 : Bool) (v5 : Int) (v6 : Int) (v7 : Bool) (v8 : Int) (v9 : Int) (v11 : (List UInt8)) (v12 : (List (List UInt8))) (v13 : (List GValue)) (v14 : (List UInt8)) (v15 : (List (List UInt8))) (v16 : (List GValue)) : Nat → Int → (List GStep) → Option (Int × (List GStep))
  | 0, _, _ => none
  | m + 1, v2, v10 =>
  (zD v1).bind fun i1 =>
  (a0[i1]?).bind fun x2 =>
  if v2 < (x2.Path.length : Int) then
   (zD v2).bind fun i4 =>
   (x2.Path[i4]?).bind fun x5 =>
   if zA 1 (0 + x5.Key.length) then
   if zA 40 (v10.length + [x5].length) then
   wO a0 v1 v3 v4 v5 v6 v7 v8 v9 v11 v12 v13 v14 v15 v16 m (w64 (v2 + 1)) (v10 ++ [x5])
   else none
   else none
  else
  some (v2, v10)
theorem JY (a0 : (List GChange)) (v1 : Int) (v3 : (List GChange)) (v4 : Bool) (v5 : Int) (v6 : Int) (v7 : Bool) (v8 : Int) (v9 : Int) (v11 : (List UInt8)) (v12 : (List (List UInt8))) (v13 : (List GValue)) (v14 : (List UInt8)) (v15 : (List (List UInt8))) (v16 : (List GValue)) (m : Nat) : ∀ (v2 : Int) (v10 : (List GStep)), Ol (wO a0 v1 v3 v4 v5 v6 v7 v8 v9 v11 v12 v13 v14 v15 v16 m v2 v10) 45 (yg Try.f45 1) ⟨[(0, vq zL a0), (3, vr 0), (4, vi v1), (5, vp 1 0), (6, vi v2)], [.obj 13 (eL yp v3), .var [.ref 2, .bool v4, ci v5, ci v6, .ref 3, .ref 4, .ref 5, .bool v7, ci v8, ci v9, .ref 6, .ref 7, .ref 8], .obj 3 (eL wj v10), .obj 1 (eL za v11), .obj 1 (eL (yf 1 za) v12), .obj 5 (eL zk v13), .obj 1 (eL za v14), .obj 1 (eL (yf 1 za) v15), .obj 5 (eL zk v16)], 0⟩ fun o => match o with | ⟨o_0, o_1⟩ => (.exit 2, ⟨[(0, vq zL a0), (3, vr 0), (4, vi v1), (5, vp 1 0), (6, vi o_0), (44, vb false)], [.obj 13 (eL yp v3), .var [.ref 2, .bool v4, ci v5, ci v6, .ref 3, .ref 4, .ref 5, .bool v7, ci v8, ci v9, .ref 6, .ref 7, .ref 8], .obj 3 (eL wj o_1), .obj 1 (eL za v11), .obj 1 (eL (yf 1 za) v12), .obj 5 (eL zk v13), .obj 1 (eL za v14), .obj 1 (eL (yf 1 za) v15), .obj 5 (eL zk v16)], 0⟩) := by
  induction m with
  | zero => intro v2 v10 o h; cases h
  | succ m ih => exact fun v2 v10 => tlp (
   .na v1 fun i1 =>
   .ix qL a0 i1 fun x2 =>
   .le zP x2.Path <|
   .lI v2 (x2.Path.length : Int) (fun c3 =>
    .ag 1 <|
    .ag 0 <|
    .na v2 fun i4 =>
    .ix ku x2.Path i4 fun x5 =>
    .ap 1 xY [] x5.Key fun n6 =>
    .ao 40 vH v10 [x5] fun n7 =>
    .go (ih (w64 (v2 + 1)) (v10 ++ [x5]))) fun c3 =>
   .ret (v2, v10))
def wP (n : Nat) (a0 : (List GChange)) : Nat → Int → (List GChange) → Option (Int × (List GChange))
  | 0, _, _ => none
  | m + 1, v1, v2 =>
  if v1 < (a0.length : Int) then
   (zD v1).bind fun i2 =>
   (a0[i2]?).bind fun x3 =>
   (ql x3.Old).bind fun r4 =>
   (ql x3.New).bind fun r5 =>
   (wO a0 v1 v2 x3.Had r4.Kind r4.N x3.Has r5.Kind r5.N r4.S r4.K r4.L r5.S r5.K r5.L n 0 []).bind fun ⟨o6_0, o6_1⟩ =>
   if zA 216 (v2.length + [(GChange.mk o6_1 x3.Had r4 x3.Has r5)].length) then
   wP n a0 m (w64 (v1 + 1)) (v2 ++ [(GChange.mk o6_1 x3.Had r4 x3.Has r5)])
   else none
  else
  some (v1, v2)
theorem JZ (n : Nat) (a0 : (List GChange)) (m : Nat) : ∀ (v1 : Int) (v2 : (List GChange)), Ol (wP n a0 m v1 v2) 45 (yg Try.f45 0) ⟨[(0, vq zL a0), (3, vr 0), (4, vi v1)], [.obj 13 (eL yp v2)], 0⟩ fun o => match o with | ⟨o_0, o_1⟩ => (.exit 0, ⟨[(0, vq zL a0), (3, vr 0), (4, vi o_0), (11, vb false)], [.obj 13 (eL yp o_1)], 0⟩) := by
  induction m with
  | zero => intro v1 v2 o h; cases h
  | succ m ih => exact fun v1 v2 => tlp (
   .le zL a0 <|
   .lI v1 (a0.length : Int) (fun c1 =>
    .na v1 fun i2 =>
    .ix qL a0 i2 fun x3 =>
    .ag 1 <|
    .ag 0 <|
    .cl (WF x3.Old) fun r4 =>
    .ag 2 <|
    .ag 1 <|
    .ag 2 <|
    .ag 1 <|
    .cl (WF x3.New) fun r5 =>
    .lp (JY a0 v1 v2 x3.Had r4.Kind r4.N x3.Has r5.Kind r5.N r4.S r4.K r4.L r5.S r5.K r5.L n 0 []) fun ⟨o6_0, o6_1⟩ =>
    .ao 216 zG v2 [(GChange.mk o6_1 x3.Had r4 x3.Has r5)] fun n7 =>
    .go (ih (w64 (v1 + 1)) (v2 ++ [(GChange.mk o6_1 x3.Had r4 x3.Has r5)]))) fun c1 =>
   .ret (v1, v2))
def Y5 (n : Nat) (a0 : (List GChange)) : Option (List GChange) :=
 (wP n a0 n 0 []).bind fun ⟨o1_0, o1_1⟩ =>
 some o1_1
theorem US (n : Nat) : Q1 (Y5 n) := fun a0 => tc (
 .lp (JZ n a0 n 0 []) fun ⟨o1_0, o1_1⟩ =>
 .ret o1_1) (zx Try.func45)
theorem Nw {a : List GChange} {i : Nat} {v1 : Int} {v3 : List GChange} {v4 v7 : Bool} {v5 v6 v8 v9 : Int} {v11 : List UInt8} {v12 : List (List UInt8)} {v13 : List GValue} {v14 : List UInt8} {v15 : List (List UInt8)} {v16 : List GValue} {x : GChange} (h1 : zD v1 = some i) (h2 : a[i]? = some x) (ha : zT x.Path <= 2 ^ 38) : ∀ (l p : List GStep) (m : Nat), x.Path = p ++ l → l.length < m → ∃ z, wO a v1 v3 v4 v5 v6 v7 v8 v9 v11 v12 v13 v14 v15 v16 m (p.length : Int) p = some (z, x.Path) := by
 have hl := wX x.Path
 intro l
 induction l with
 | nil =>
  intro p m he hm
  obtain ⟨m, rfl, _⟩ := zg hm
  exact ⟨_, by rw [wO, h1, Option.bind_some, h2, Option.bind_some, he, List.append_nil, if_neg (by omega)]⟩
 | cons y l ih =>
  intro p m he hm
  obtain ⟨m, rfl, hm'⟩ := zg hm
  have hx : 1 + vy y <= zT x.Path := QO (by rw [he]; simp)
  unfold vy at hx
  have hlen : x.Path.length = p.length + (l.length + 1) := by rw [he]; simp
  obtain ⟨z, hz⟩ := ih (p ++ [y]) m (by rw [he]; simp) (by simp only [List.length_cons] at hm'; omega)
  refine ⟨z, ?_⟩
  rw [wO, h1, Option.bind_some, h2, Option.bind_some, if_pos (by omega), zd, Option.bind_some, show x.Path[p.length]? = some y by rw [he]; exact zy p y l, Option.bind_some, if_pos (xo (by decide) (by omega)), if_pos (xo (by decide) (by simp only [List.length_cons, List.length_nil]; omega)), yt p y (by omega), hz]
theorem OL {a : List GChange} {n : Nat} (ha : zE a <= 2 ^ 38) (hn : zE a < n) : ∀ (l p : List GChange) (m : Nat), a = p ++ l → l.length < m → ∃ z, wP n a m (p.length : Int) p = some (z, a) := by
 have hl := wY a
 intro l
 induction l with
 | nil =>
  intro p m he hm
  subst he
  obtain ⟨m, rfl, _⟩ := zg hm
  exact ⟨_, by rw [wP, if_neg (wl p)]; simp; rfl⟩
 | cons x l ih =>
  intro p m he hm
  obtain ⟨m, rfl, hm'⟩ := zg hm
  have hx : 1 + kS x <= zE a := Ti (by rw [he]; simp)
  unfold kS at hx
  have hlp := wX x.Path
  have hlen : a.length = p.length + (l.length + 1) := by rw [he]; simp
  have hg : a[p.length]? = some x := by rw [he]; exact zy p x l
  obtain ⟨z, hz⟩ := ih (p ++ [x]) m (by rw [he]; simp) (by simp only [List.length_cons] at hm'; omega)
  refine ⟨z, ?_⟩
  obtain ⟨y, hy⟩ := Nw (v3 := p) (v4 := x.Had) (v5 := x.Old.Kind) (v6 := x.Old.N) (v7 := x.Has) (v8 := x.New.Kind) (v9 := x.New.N) (v11 := x.Old.S) (v12 := x.Old.K) (v13 := x.Old.L) (v14 := x.New.S) (v15 := x.New.K) (v16 := x.New.L) (zd p.length) hg (by omega) x.Path [] n rfl (by omega)
  simp only [List.length_nil, Int.natCast_zero] at hy
  have ex : GChange.mk x.Path x.Had x.Old x.Has x.New = x := by cases x; rfl
  rw [wP, if_pos (by omega), zd, Option.bind_some, hg, Option.bind_some, show ql x.Old = some x.Old from if_pos (by omega), Option.bind_some, show ql x.New = some x.New from if_pos (by omega), Option.bind_some, hy, Option.bind_some]
  dsimp only
  rw [ex, if_pos (q8 (by simp only [List.length_cons, List.length_nil]; omega)), yt p x (by omega), hz]
def kh (a0 : (List GChange)) : Option (List GChange) := if zE a0 <= 2 ^ 38 then some a0 else none
theorem Vh (a0 : (List GChange)) (r : (List GChange)) (h : kh a0 = some r) : ∃ n, Y5 n a0 = some r := by
 unfold kh at h
 obtain ⟨ha, h⟩ := yd h
 have hl := wY a0
 refine ⟨zE a0 + 1, ?_⟩
 unfold Y5
 obtain ⟨z, hz⟩ := OL (n := zE a0 + 1) ha (Nat.lt_succ_self _) a0 [] (zE a0 + 1) rfl (by omega)
 simp only [List.length_nil, Int.natCast_zero] at hz
 rw [hz, <- h]; rfl
theorem T4 : Q1 kh := fun a0 r h => (Vh a0 r h).elim fun n hn => US n a0 r hn
def Z3 (a0 : GValue) (a1 : GValue) : Option ((List GChange) × Bool) :=
 (kc a0).bind fun r1 =>
 match r1 with
 | true =>
  (kc a1).bind fun r2 =>
  match r2 with
  | true =>
   (ve a0 a1 []).bind fun r3 =>
   (kh r3).bind fun r4 =>
   some (r4, true)
  | false =>
   some ([], false)
 | false =>
  some ([], false)
theorem UT (a0 : GValue) (a1 : GValue) : Oc (Z3 a0 a1) 15 [] [.val true (ze a0), .val true (ze a1)] fun r => (.tup [(false, [.own 13 (eL yp r.1)]), (false, [.bool r.2])], []) := tc (
 .cl (WE a0) fun r1 =>
 .vN 0 r1 (
  .an 0 0 <|
  .cl (WE a1) fun r2 =>
  .an 0 1 <|
  .an 0 1 <|
  .vN 0 r2 (
   .cl (Rn a0 a1 []) fun r3 =>
   .cl (T4 r3) fun r4 =>
   .ret (r4, true)) <|
  .ret ([], false)) <|
 .an 0 0 <|
 .an 0 0 <|
 .an 0 0 <|
 .ret ([], false)) (zx Try.func15)
def vE (a0 : Int) (a1 : Int) (a2 : Int) : Option Bool :=
 if a1 <= a0 then
  some (decide (a0 <= a2))
 else
 some false
theorem Wn (a0 : Int) (a1 : Int) (a2 : Int) : Oc (vE a0 a1 a2) 88 [] [vi a0, vi a1, vi a2] fun r => (vb r, []) := tc (
 .gI a1 a0 (fun c1 =>
  .gD a0 a2 <|
  .ret (decide (a0 <= a2))) fun c1 =>
 .ret false) (zx Try.func88)
def WG (F : (List UInt8) → Option Bool) : Prop := ∀ (a0 : (List UInt8)), Oc (F a0) 101 [] [vq za a0] fun r => (vb r, [])
def w8 (a0 : (List UInt8)) (v1 : Int) : Nat → Int → Option (Bool ⊕ Int)
  | 0, _ => none
  | m + 1, v2 =>
  if v2 < v1 then
   (zD v2).bind fun i2 =>
   (a0[i2]?).bind fun x3 =>
   if ((x3.toNat : Nat) : Int) < 32 then
    some (.inl false)
   else
   if 126 < ((x3.toNat : Nat) : Int) then
    some (.inl false)
   else
   w8 a0 v1 m (w64 (v2 + 1))
  else
  some (.inr v2)
theorem Jr (a0 : (List UInt8)) (v1 : Int) (m : Nat) : ∀ (v2 : Int), Ol (w8 a0 v1 m v2) 101 (yg Try.f101 0) ⟨[(0, vq za a0), (5, vq za a0), (6, vi v1), (7, vi v2)], [], 0⟩ fun o => match o with | .inl o_0 => (.ret, ⟨[(2, vb o_0)], [], 0⟩) | .inr (o_1) => (.exit 0, ⟨[(0, vq za a0), (5, vq za a0), (6, vi v1), (7, vi o_1), (8, vb false)], [], 0⟩) := by
  induction m with
  | zero => intro v2 o h; cases h
  | succ m ih => exact fun v2 => tlp (
   .lI v2 v1 (fun c1 =>
    .na v2 fun i2 =>
    .ix0 za a0 i2 fun x3 =>
    .lI ((x3.toNat : Nat) : Int) 32 (fun c4 =>
     .ret (.inl false)) fun c4 =>
    .lI 126 ((x3.toNat : Nat) : Int) (fun c5 =>
     .ret (.inl false)) fun c5 =>
    .go (ih (w64 (v2 + 1)))) fun c1 =>
   .ret (.inr v2))
def ZU (n : Nat) (a0 : (List UInt8)) : Option Bool :=
 (w8 a0 (a0.length : Int) n 0).bind fun o1 =>
 match o1 with
 | .inl o1_0 =>
  some o1_0
 | .inr (o1_1) =>
  some (decide ((a0.length : Int) <= 20))
theorem T5 (n : Nat) : WG (ZU n) := fun a0 => tc (
 .le za a0 <|
 .l2 (Jr a0 (a0.length : Int) n 0) (fun o1_0 =>
  .ret o1_0) fun o1_1 =>
 .le za a0 <|
 .gD (a0.length : Int) 20 <|
 .ret (decide ((a0.length : Int) <= 20))) (zx Try.func101)
theorem Ka {a : List UInt8} (ha : a.length <= 2 ^ 20) : ∀ (d i m : Nat), i + d = a.length → d < m → ∃ z, w8 a (a.length : Int) m (i : Int) = some (if (a.drop i).all (inB 32 126) = true then .inr z else .inl false) := by
 intro d
 induction d with
 | zero =>
  intro i m hi hm
  obtain ⟨m, rfl, _⟩ := zg hm
  exact ⟨_, by rw [w8, if_neg (by omega), List.drop_eq_nil_of_le (by omega)]; rfl⟩
 | succ d ih =>
  intro i m hi hm
  obtain ⟨m, rfl, hm'⟩ := zg hm
  have hil : i < a.length := by omega
  rw [w8, if_pos (by omega), zd, Option.bind_some, zq hil, Option.bind_some, yr (by omega), wH hil, List.all_cons]
  by_cases h1 : ((a[i].toNat : Nat) : Int) < 32
  ·exact ⟨0, by rw [if_pos h1, if_neg]; simp [inB]; omega⟩
  ·rw [if_neg h1]
   by_cases h2 : (126 : Int) < ((a[i].toNat : Nat) : Int)
   ·exact ⟨0, by rw [if_pos h2, if_neg]; simp [inB]; omega⟩
   ·rw [if_neg h2, show inB 32 126 a[i] = true by simp [inB]; omega, Bool.true_and]
    exact ih (i + 1) m (by omega) (by omega)
def jy (a0 : (List UInt8)) : Option Bool := if a0.length <= 2 ^ 20 then some (Ze a0) else none
theorem Kb (a0 : (List UInt8)) (r : Bool) (h : jy a0 = some r) : ∃ n, ZU n a0 = some r := by
 unfold jy at h
 obtain ⟨ha, h⟩ := yd h
 refine ⟨a0.length + 1, ?_⟩
 obtain ⟨z, hz⟩ := Ka ha a0.length 0 (a0.length + 1) (by omega) (by omega)
 rw [show ((0 : Nat) : Int) = 0 from rfl, List.drop_zero] at hz
 unfold ZU
 rw [<- h, hz]
 unfold Ze
 by_cases hl : a0.length <= 20
 ·rw [decide_eq_true hl]
  cases a0.all (inB 32 126)
  ·rfl
  ·show some (decide _) = _; rw [decide_eq_true (by omega)]; rfl
 ·rw [decide_eq_false hl]
  cases a0.all (inB 32 126)
  ·rfl
  ·show some (decide _) = _; rw [decide_eq_false (by omega)]; rfl
theorem Rp : WG jy := fun a0 r h => (Kb a0 r h).elim fun n hn => T5 n a0 r hn
def WH (F : (List UInt8) → Option Bool) : Prop := ∀ (a0 : (List UInt8)), Oc (F a0) 94 [] [vq za a0] fun r => (vb r, [])
def w9 (a0 : (List UInt8)) (v1 : Int) : Nat → Int → Option (Bool ⊕ Int)
  | 0, _ => none
  | m + 1, v2 =>
  if v2 < v1 then
   (zD v2).bind fun i2 =>
   (a0[i2]?).bind fun x3 =>
   if ((x3.toNat : Nat) : Int) < 97 then
    some (.inl false)
   else
   if 122 < ((x3.toNat : Nat) : Int) then
    some (.inl false)
   else
   w9 a0 v1 m (w64 (v2 + 1))
  else
  some (.inr v2)
theorem Js (a0 : (List UInt8)) (v1 : Int) (m : Nat) : ∀ (v2 : Int), Ol (w9 a0 v1 m v2) 94 (yg Try.f94 0) ⟨[(0, vq za a0), (5, vq za a0), (6, vi v1), (7, vi v2)], [], 0⟩ fun o => match o with | .inl o_0 => (.ret, ⟨[(2, vb o_0)], [], 0⟩) | .inr (o_1) => (.exit 0, ⟨[(0, vq za a0), (5, vq za a0), (6, vi v1), (7, vi o_1), (8, vb false)], [], 0⟩) := by
  induction m with
  | zero => intro v2 o h; cases h
  | succ m ih => exact fun v2 => tlp (
   .lI v2 v1 (fun c1 =>
    .na v2 fun i2 =>
    .ix0 za a0 i2 fun x3 =>
    .lI ((x3.toNat : Nat) : Int) 97 (fun c4 =>
     .ret (.inl false)) fun c4 =>
    .lI 122 ((x3.toNat : Nat) : Int) (fun c5 =>
     .ret (.inl false)) fun c5 =>
    .go (ih (w64 (v2 + 1)))) fun c1 =>
   .ret (.inr v2))
def ZV (n : Nat) (a0 : (List UInt8)) : Option Bool :=
 (w9 a0 (a0.length : Int) n 0).bind fun o1 =>
 match o1 with
 | .inl o1_0 =>
  some o1_0
 | .inr (o1_1) =>
  (vE (a0.length : Int) 1 8).bind fun r2 =>
  some r2
theorem T6 (n : Nat) : WH (ZV n) := fun a0 => tc (
 .le za a0 <|
 .l2 (Js a0 (a0.length : Int) n 0) (fun o1_0 =>
  .ret o1_0) fun o1_1 =>
 .le za a0 <|
 .cl (Wn (a0.length : Int) 1 8) fun r2 =>
 .ret r2) (zx Try.func94)
theorem Kc {a : List UInt8} (ha : a.length <= 2 ^ 20) : ∀ (d i m : Nat), i + d = a.length → d < m → ∃ z, w9 a (a.length : Int) m (i : Int) = some (if (a.drop i).all (inB 97 122) = true then .inr z else .inl false) := by
 intro d
 induction d with
 | zero =>
  intro i m hi hm
  obtain ⟨m, rfl, _⟩ := zg hm
  exact ⟨_, by rw [w9, if_neg (by omega), List.drop_eq_nil_of_le (by omega)]; rfl⟩
 | succ d ih =>
  intro i m hi hm
  obtain ⟨m, rfl, hm'⟩ := zg hm
  have hil : i < a.length := by omega
  rw [w9, if_pos (by omega), zd, Option.bind_some, zq hil, Option.bind_some, yr (by omega), wH hil, List.all_cons]
  by_cases h1 : ((a[i].toNat : Nat) : Int) < 97
  ·exact ⟨0, by rw [if_pos h1, if_neg]; simp [inB]; omega⟩
  ·rw [if_neg h1]
   by_cases h2 : (122 : Int) < ((a[i].toNat : Nat) : Int)
   ·exact ⟨0, by rw [if_pos h2, if_neg]; simp [inB]; omega⟩
   ·rw [if_neg h2, show inB 97 122 a[i] = true by simp [inB]; omega, Bool.true_and]
    exact ih (i + 1) m (by omega) (by omega)
theorem OM (a b c : Int) : vE a b c = some (decide (b <= a ∧ a <= c)) := by
 unfold vE
 by_cases h : b <= a
 ·rw [if_pos h]; simp [h]
 ·rw [if_neg h]; simp [h]
def jz (a0 : (List UInt8)) : Option Bool := if a0.length <= 2 ^ 20 then some (qT a0) else none
theorem Kd (a0 : (List UInt8)) (r : Bool) (h : jz a0 = some r) : ∃ n, ZV n a0 = some r := by
 unfold jz at h
 obtain ⟨ha, h⟩ := yd h
 refine ⟨a0.length + 1, ?_⟩
 obtain ⟨z, hz⟩ := Kc ha a0.length 0 (a0.length + 1) (by omega) (by omega)
 rw [show ((0 : Nat) : Int) = 0 from rfl, List.drop_zero] at hz
 unfold ZV
 rw [<- h, hz]
 unfold qT
 have hd : decide (1 <= a0.length ∧ a0.length <= 8) = decide ((1 : Int) <= (a0.length : Int) ∧ (a0.length : Int) <= 8) := decide_eq_decide.2 (by omega)
 rw [hd]
 cases a0.all (inB 97 122)
 ·rw [Bool.and_false]; rfl
 ·rw [Bool.and_true]
  simp only [if_true, Option.bind_some, OM]
theorem Rq : WH jz := fun a0 r h => (Kd a0 r h).elim fun n hn => T6 n a0 r hn
def yF (a0 : (List UInt8)) (a1 : (List UInt8)) : Option Int :=
 (xI a0 a1).bind fun r1 =>
 some r1
theorem qm (a0 : (List UInt8)) (a1 : (List UInt8)) : Oc (yF a0 a1) 68 [] [vq za a0, vq za a1] fun r => (vi r, []) := tc (
 .cl (ZH a0 a1) fun r1 =>
 .ret r1) (zx Try.func68)
end
end Go.Am.Try
