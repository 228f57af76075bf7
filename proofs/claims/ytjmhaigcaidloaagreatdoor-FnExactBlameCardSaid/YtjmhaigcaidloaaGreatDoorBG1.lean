/- The functions of the program in plain Lean, and that the machine answers as they do; conditions at each theorem. -/
import Derived.Test.YtjmhaigcaidloaaGreatDoorBP1
set_option linter.unusedVariables false
set_option linter.unusedSimpArgs false
namespace Go.Am.Try
open Go.Am Go.Proofs
set_option linter.unusedVariables false
set_option maxRecDepth 20000
set_option maxHeartbeats 2000000
noncomputable section
def xu (a0 : (List UInt8)) (a1 : Int) : Option Int :=
 if (w64 (a1 - (a0.length : Int))) < 0 then
  some (-1)
 else
 some (w64 (a1 - (a0.length : Int)))
theorem qH (a0 : (List UInt8)) (a1 : Int) : Oc (xu a0 a1) 66 [] [vq za a0, vi a1] fun r => (vi r, []) := tc (
 .le za a0 <|
 .lI (w64 (a1 - (a0.length : Int))) 0 (fun c1 =>
  .ret (-1)) fun c1 =>
 .ret (w64 (a1 - (a0.length : Int)))) (zh Tryz.func66)
def Q0 (F : (List (List UInt8)) → Int → Option Int) : Prop := ∀ (a0 : (List (List UInt8))) (a1 : Int), Oc (F a0 a1) 69 [] [vq (zt za) a0, vi a1] fun r => (vi r, [])
def wa (a0 : (List (List UInt8))) : Nat → Int → Int → Option (Int ⊕ (Int × Int))
  | 0, _, _ => none
  | m + 1, v1, v2 =>
  if v2 < (a0.length : Int) then
   (zv v2).bind fun i2 =>
   (a0[i2]?).bind fun x3 =>
   (xu x3 v1).bind fun r4 =>
   if r4 < 0 then
    some (.inl (-1))
   else
   wa a0 m r4 (w64 (v2 + 1))
  else
  some (.inr (v1, v2))
theorem Ku (a0 : (List (List UInt8))) (m : Nat) : ∀ (v1 : Int) (v2 : Int), Ol (wa a0 m v1 v2) 69 (zN Tryz.f69 0) ⟨[(0, vq (zt za) a0), (1, vi v1), (5, vi v2)], [], 0⟩ fun o => match o with | .inl o_0 => (.ret, ⟨[(4, vi o_0)], [], 0⟩) | .inr (⟨o_1_0, o_1_1⟩) => (.exit 0, ⟨[(0, vq (zt za) a0), (1, vi o_1_0), (5, vi o_1_1), (15, vb false)], [], 0⟩) := by
  induction m with
  | zero => intro v1 v2 o h; cases h
  | succ m ih => exact fun v1 v2 => tlp (
   .le (zt za) a0 <|
   .lI v2 (a0.length : Int) (fun c1 =>
    .na v2 fun i2 =>
    .ix0 (zt za) a0 i2 fun x3 =>
    .cl (qH x3 v1) fun r4 =>
    .lI r4 0 (fun c5 =>
     .ret (.inl (-1))) fun c5 =>
    .go (ih r4 (w64 (v2 + 1)))) fun c1 =>
   .ret (.inr (v1, v2)))
def vR (n : Nat) (a0 : (List (List UInt8))) (a1 : Int) : Option Int :=
 if (w64 (a1 - (a0.length : Int))) < 0 then
  some (-1)
 else
 (wa a0 n (w64 (a1 - (a0.length : Int))) 0).bind fun o2 =>
 match o2 with
 | .inl o2_0 =>
  some o2_0
 | .inr (⟨o2_1_0, o2_1_1⟩) =>
  some o2_1_0
theorem Uv (n : Nat) : Q0 (vR n) := fun a0 a1 => tc (
 .le (zt za) a0 <|
 .lI (w64 (a1 - (a0.length : Int))) 0 (fun c1 =>
  .ret (-1)) fun c1 =>
 .l2 (Ku a0 n (w64 (a1 - (a0.length : Int))) 0) (fun o2_0 =>
  .ret o2_0) fun ⟨o2_1_0, o2_1_1⟩ =>
 .ret o2_1_0) (zh Tryz.func69)
def MdB (k : List (List UInt8)) : Prop := k.length <= 2 ^ 63 - 1 ∧ ∀ b ∈ k, b.length <= 2 ^ 63 - 1
theorem ZA {a : List UInt8} {n : Int} (h : a.length <= 2 ^ 63 - 1) (h0 : 0 <= n) (h1 : n <= 2 ^ 20) : xu a n = some (if (a.length : Int) <= n then n - a.length else -1) := by
 unfold xu
 rw [xz (by omega) (by omega)]
 by_cases hc : (a.length : Int) <= n
 ·rw [if_neg (by omega), if_pos hc]
 ·rw [if_pos (by omega), if_neg hc]
theorem Li {a : List (List UInt8)} (ha : a.length <= 2 ^ 20) (hb : ∀ b ∈ a, b.length <= 2 ^ 63 - 1) : ∀ (d i m : Nat) (r : Int), i + d = a.length → d < m → 0 <= r → r <= 2 ^ 20 →
  ∃ z, wa a m r (i : Int) = some (if (((a.drop i).map List.length).sum : Int) <= r then .inr (r - ((a.drop i).map List.length).sum, z) else .inl (-1)) := by
 intro d
 induction d with
 | zero =>
  intro i m r hi hm h0 h1
  obtain ⟨m, rfl, _⟩ := zi hm
  refine ⟨(i : Int), ?_⟩
  rw [wa, if_neg (by omega), List.drop_eq_nil_of_le (by omega)]
  rw [List.map_nil, List.sum_nil, if_pos (by simpa using h0)]; simp
 | succ d ih =>
  intro i m r hi hm h0 h1
  obtain ⟨m, rfl, hm'⟩ := zi hm
  have hil : i < a.length := by omega
  have hx := hb a[i] (List.getElem_mem hil)
  rw [wa, if_pos (by omega), zb, Option.bind_some, zd hil, Option.bind_some, ZA hx h0 h1, Option.bind_some]
  rw [yU hil, List.map_cons, List.sum_cons]
  by_cases hc : ((a[i]).length : Int) <= r
  ·rw [if_pos hc, if_neg (by omega), z7 (by omega)]
   obtain ⟨z, hz⟩ := ih (i + 1) m (r - (a[i]).length) (by omega) (by omega) (by omega) (by omega)
   refine ⟨z, ?_⟩
   rw [hz]
   by_cases hd : (((a.drop (i + 1)).map List.length).sum : Int) <= r - (a[i]).length
   ·rw [if_pos hd, if_pos (by omega)]; congr 3; omega
   ·rw [if_neg hd, if_neg (by omega)]
  ·refine ⟨0, ?_⟩
   rw [if_neg hc, if_pos (by omega), if_neg (by omega)]
theorem MH {a : List (List UInt8)} {n : Int} (h : MdB a ∧ 0 <= n ∧ n <= 2 ^ 20) : vR (a.length + 1) a n = some (if (bsz a : Int) <= n then n - bsz a else -1) := by
 obtain ⟨⟨ha, hb⟩, h0, h1⟩ := h
 unfold vR
 rw [xz (by omega) (by omega)]
 unfold bsz
 by_cases hc : (a.length : Int) <= n
 ·rw [if_neg (by omega)]
  obtain ⟨z, hz⟩ := Li (by omega) hb a.length 0 (a.length + 1) (n - a.length) (by omega) (by omega) (by omega) (by omega)
  rw [show ((0 : Nat) : Int) = 0 from rfl] at hz
  rw [hz]
  simp only [List.drop_zero]
  by_cases hd : ((a.map List.length).sum : Int) <= n - a.length
  ·rw [if_pos hd, if_pos (by omega)]
   simp only [Option.bind_some]; congr 1; omega
  ·rw [if_neg hd, if_neg (by omega)]; rfl
 ·rw [if_pos (by omega), if_neg (by omega)]
open Classical in
noncomputable def yZ (a0 : (List (List UInt8))) (a1 : Int) : Option Int := if MdB a0 ∧ 0 <= a1 ∧ a1 <= 2 ^ 20 then some (if (bsz a0 : Int) <= a1 then a1 - bsz a0 else -1) else none
theorem Vc (a0 : (List (List UInt8))) (a1 : Int) (r : Int) (h : yZ a0 a1 = some r) : ∃ n, vR n a0 a1 = some r := by
 unfold yZ at h
 obtain ⟨hp, h⟩ := zF h
 exact ⟨_, by rw [<- h]; exact MH hp⟩
theorem Yp : Q0 yZ := fun a0 a1 r h => (Vc a0 a1 r h).elim fun n hn => Uv n a0 a1 r hn
def vS (F : (List GValue) → Int → Option Int) : Prop := ∀ (a0 : (List GValue)) (a1 : Int), Oc (F a0 a1) 123 [] [vq zf a0, vi a1] fun r => (vi r, [])
def ki (F : GValue → Int → Option Int) : Prop := ∀ (a0 : GValue) (a1 : Int), Oc (F a0 a1) 68 [] [.val true (zq a0), vi a1] fun r => (vi r, [])
def wb (G_laws_szValue : GValue → Int → Option Int) (a0 : (List GValue)) : Nat → Int → Int → Option (Int ⊕ (Int × Int))
  | 0, _, _ => none
  | m + 1, v1, v2 =>
  if v2 < (a0.length : Int) then
   (zv v2).bind fun i2 =>
   (a0[i2]?).bind fun x3 =>
   (G_laws_szValue x3 v1).bind fun r4 =>
   if r4 < 0 then
    some (.inl (-1))
   else
   wb G_laws_szValue a0 m r4 (w64 (v2 + 1))
  else
  some (.inr (v1, v2))
theorem Kv (G_laws_szValue : GValue → Int → Option Int) (H_laws_szValue : ki G_laws_szValue) (a0 : (List GValue)) (m : Nat) : ∀ (v1 : Int) (v2 : Int), Ol (wb G_laws_szValue a0 m v1 v2) 123 (zN Tryz.f123 0) ⟨[(0, vq zf a0), (1, vi v1), (5, vi v2)], [], 0⟩ fun o => match o with | .inl o_0 => (.ret, ⟨[(4, vi o_0)], [], 0⟩) | .inr (⟨o_1_0, o_1_1⟩) => (.exit 0, ⟨[(0, vq zf a0), (1, vi o_1_0), (5, vi o_1_1), (15, vb false)], [], 0⟩) := by
  induction m with
  | zero => intro v1 v2 o h; cases h
  | succ m ih => exact fun v1 v2 => tlp (
   .le zf a0 <|
   .lI v2 (a0.length : Int) (fun c1 =>
    .na v2 fun i2 =>
    .ix zO a0 i2 fun x3 =>
    .cl (H_laws_szValue x3 v1) fun r4 =>
    .lI r4 0 (fun c5 =>
     .ret (.inl (-1))) fun c5 =>
    .go (ih r4 (w64 (v2 + 1)))) fun c1 =>
   .ret (.inr (v1, v2)))
def vT (G_laws_szValue : GValue → Int → Option Int) (n : Nat) (a0 : (List GValue)) (a1 : Int) : Option Int :=
 if (w64 (a1 - (a0.length : Int))) < 0 then
  some (-1)
 else
 (wb G_laws_szValue a0 n (w64 (a1 - (a0.length : Int))) 0).bind fun o2 =>
 match o2 with
 | .inl o2_0 =>
  some o2_0
 | .inr (⟨o2_1_0, o2_1_1⟩) =>
  some o2_1_0
theorem Uw (G_laws_szValue : GValue → Int → Option Int) (H_laws_szValue : ki G_laws_szValue) (n : Nat) : vS (vT G_laws_szValue n) := fun a0 a1 => tc (
 .le zf a0 <|
 .lI (w64 (a1 - (a0.length : Int))) 0 (fun c1 =>
  .ret (-1)) fun c1 =>
 .l2 (Kv G_laws_szValue H_laws_szValue a0 n (w64 (a1 - (a0.length : Int))) 0) (fun o2_0 =>
  .ret o2_0) fun ⟨o2_1_0, o2_1_1⟩ =>
 .ret o2_1_0) (zh Tryz.func123)
def Xt (G_laws_szValueS : (List GValue) → Int → Option Int) (a0 : GValue) (a1 : Int) : Option Int :=
 (xu a0.S a1).bind fun r1 =>
 if r1 < 0 then
  some (-1)
 else
 (yZ a0.K r1).bind fun r3 =>
 if r3 < 0 then
  some (-1)
 else
 (G_laws_szValueS a0.L r3).bind fun r5 =>
 if r5 < 0 then
  some (-1)
 else
 some r5
theorem PQ (G_laws_szValueS : (List GValue) → Int → Option Int) (H_laws_szValueS : vS G_laws_szValueS) : ki (Xt G_laws_szValueS) := fun a0 a1 => tc (
 .cl (qH a0.S a1) fun r1 =>
 .lI r1 0 (fun c2 =>
  .ret (-1)) fun c2 =>
 .cl (Yp a0.K r1) fun r3 =>
 .lI r3 0 (fun c4 =>
  .ret (-1)) fun c4 =>
 .cl (H_laws_szValueS a0.L r3) fun r5 =>
 .lI r5 0 (fun c6 =>
  .ret (-1)) fun c6 =>
 .ret r5) (zh Tryz.func68)
mutual
def xI : Nat → (List GValue) → Int → Option Int
 | 0, _, _ => none
 | n + 1, a0, a1 => vT (wc n) n a0 a1
def wc : Nat → GValue → Int → Option Int
 | 0, _, _ => none
 | n + 1, a0, a1 => Xt (xI n) a0 a1
end
theorem Wl (n : Nat) : vS (xI n) ∧ ki (wc n) := by
 induction n with
 | zero => exact ⟨fun _ _ _ h => (by rw [xI] at h; cases h), fun _ _ _ h => (by rw [wc] at h; cases h)⟩
 | succ n ih =>
  obtain ⟨ih_laws_szValueS, ih_laws_szValue⟩ := ih
  exact ⟨fun a0 a1 r h => Uw (wc n) ih_laws_szValue n a0 a1 r (by rw [xI] at h; exact h),
   fun a0 a1 r h => PQ (xI n) ih_laws_szValueS a0 a1 r (by rw [wc] at h; exact h)⟩
mutual
def MdV : GValue → Prop
 | .mk _ _ s k l => s.length <= 2 ^ 63 - 1 ∧ MdB k ∧ l.length <= 2 ^ 63 - 1 ∧ JK l
def JK : List GValue → Prop
 | [] => True
 | v :: l => MdV v ∧ JK l
end
theorem MI {l : List GValue} (h : JK l) {v : GValue} (hv : v ∈ l) : MdV v := by
 induction l with
 | nil => cases hv
 | cons x l ih =>
  simp only [JK] at h
  rcases List.mem_cons.1 hv with rfl | hv
  ·exact h.1
  ·exact ih h.2 hv
theorem EE (v : GValue) : MdV v = (v.S.length <= 2 ^ 63 - 1 ∧ MdB v.K ∧ v.L.length <= 2 ^ 63 - 1 ∧ JK v.L) := by cases v; simp only [MdV, GValue.S, GValue.K, GValue.L]
def vin (l : List GValue) : Nat := (l.map vsz).sum
theorem Bv (l : List GValue) : qr l = l.length + vin l := by
 unfold vin
 induction l with
 | nil => rfl
 | cons v l ih => simp only [qr, ih, List.length_cons, List.map_cons, List.sum_cons]; omega
theorem Lj {G : GValue → Int → Option Int} {a : List GValue} (ha : a.length <= 2 ^ 20) (hG : ∀ v ∈ a, ∀ n : Int, 0 <= n → n <= 2 ^ 20 → G v n = some (yv (vsz v) n)) : ∀ (d i m : Nat) (r : Int), i + d = a.length → d < m → 0 <= r → r <= 2 ^ 20 →
  ∃ z, wb G a m r (i : Int) = some (if (vin (a.drop i) : Int) <= r then .inr (r - vin (a.drop i), z) else .inl (-1)) := by
 intro d
 induction d with
 | zero =>
  intro i m r hi hm h0 h1
  obtain ⟨m, rfl, _⟩ := zi hm
  refine ⟨(i : Int), ?_⟩
  rw [wb, if_neg (by omega), List.drop_eq_nil_of_le (by omega)]
  simp only [vin, List.map_nil, List.sum_nil]
  rw [if_pos (by simpa using h0)]; simp
 | succ d ih =>
  intro i m r hi hm h0 h1
  obtain ⟨m, rfl, hm'⟩ := zi hm
  have hil : i < a.length := by omega
  rw [wb, if_pos (by omega), zb, Option.bind_some, zd hil, Option.bind_some, hG _ (List.getElem_mem hil) r h0 h1, Option.bind_some]
  have hv : vin (a.drop i) = vsz a[i] + vin (a.drop (i + 1)) := by simp only [vin, yU hil, List.map_cons, List.sum_cons]
  rw [hv]
  unfold yv
  by_cases hc : (vsz a[i] : Int) <= r
  ·rw [if_pos hc, if_neg (by omega), z7 (by omega)]
   obtain ⟨z, hz⟩ := ih (i + 1) m (r - vsz a[i]) (by omega) (by omega) (by omega) (by omega)
   refine ⟨z, ?_⟩
   rw [hz]
   by_cases hd : (vin (a.drop (i + 1)) : Int) <= r - vsz a[i]
   ·rw [if_pos hd, if_pos (by omega)]; congr 3; omega
   ·rw [if_neg hd, if_neg (by omega)]
  ·refine ⟨0, ?_⟩
   rw [if_neg hc, if_pos (by omega), if_neg (by omega)]
theorem Ux {G : GValue → Int → Option Int} {a : List GValue} {f : Nat} {n : Int} (ha : a.length <= 2 ^ 63 - 1) (h0 : 0 <= n) (h1 : n <= 2 ^ 20) (hf : a.length < f ∨ n < a.length) (hG : ∀ v ∈ a, ∀ n : Int, 0 <= n → n <= 2 ^ 20 → G v n = some (yv (vsz v) n)) :
  vT G f a n = some (yv (qr a) n) := by
 unfold vT
 rw [xz (by omega) (by omega), Bv]
 unfold yv
 by_cases hc : (a.length : Int) <= n
 ·rw [if_neg (by omega)]
  obtain ⟨z, hz⟩ := Lj (G := G) (by omega) hG a.length 0 f (n - a.length) (by omega) (by omega) (by omega) (by omega)
  rw [show ((0 : Nat) : Int) = 0 from rfl] at hz
  rw [hz]
  simp only [List.drop_zero]
  by_cases hd : (vin a : Int) <= n - a.length
  ·rw [if_pos hd, if_pos (by omega)]
   simp only [Option.bind_some]; congr 1; omega
  ·rw [if_neg hd, if_neg (by omega)]; rfl
 ·rw [if_pos (by omega), if_neg (by omega)]
theorem OQ : ∀ (N : Nat) (v : GValue), vsz v < N → MdV v → ∀ (f : Nat) (n : Int), 2 * vsz v + 3 <= f → 0 <= n → n <= 2 ^ 20 → wc f v n = some (yv (vsz v) n) := by
 intro N
 induction N with
 | zero => intro v hv; omega
 | succ N ih =>
  intro v hv hmd f n hf h0 h1
  obtain ⟨f, rfl, _⟩ := zi (show 0 < f by omega)
  rw [EE] at hmd
  have he := jq v
  have hl := xm v.L
  obtain ⟨f, rfl, _⟩ := zi (show 0 < f by omega)
  rw [wc]
  unfold Xt
  rw [ZA hmd.1 h0 h1, Option.bind_some]
  unfold yv
  by_cases c1 : (v.S.length : Int) <= n
  ·rw [if_pos c1, if_neg (by omega)]
   unfold yZ
   rw [if_pos ⟨hmd.2.1, by omega, by omega⟩, Option.bind_some]
   by_cases c2 : (bsz v.K : Int) <= n - v.S.length
   ·rw [if_pos c2, if_neg (by omega)]
    rw [xI, Ux hmd.2.2.1 (by omega) (by omega) (.inl (by omega)) (fun x hx m g0 g1 => ?_), Option.bind_some]
    ·unfold yv
     by_cases c3 : (qr v.L : Int) <= n - v.S.length - bsz v.K
     ·rw [if_pos c3, if_neg (by omega), if_pos (by omega)]; congr 1; omega
     ·rw [if_neg c3, if_pos (by omega), if_neg (by omega)]
    ·have := qu hx
     exact ih x (by omega) (MI hmd.2.2.2 hx) f m (by omega) g0 g1
   ·rw [if_neg c2, if_pos (by omega), if_neg (by omega)]
  ·rw [if_neg c1, if_pos (by omega), if_neg (by omega)]
open Classical in
noncomputable def YK (a0 : (List GValue)) (a1 : Int) : Option Int := if a0.length <= 2 ^ 63 - 1 ∧ JK a0 ∧ 0 <= a1 ∧ a1 <= 2 ^ 20 then some (yv (qr a0) a1) else none
theorem Vd (a0 : (List GValue)) (a1 : Int) (r : Int) (h : YK a0 a1 = some r) : ∃ n, xI n a0 a1 = some r := by
 unfold YK at h
 obtain ⟨⟨hl, hm, h0, h1⟩, h⟩ := zF h
 refine ⟨2 * qr a0 + 5, ?_⟩
 have := xm a0
 rw [xI, Ux hl h0 h1 (.inl (by omega)) fun x hx m g0 g1 => ?_, h]
 have := qu hx
 exact OQ _ x (Nat.lt_succ_self _) (MI hm hx) _ m (by omega) g0 g1
open Classical in
noncomputable def qa (a0 : GValue) (a1 : Int) : Option Int := if MdV a0 ∧ 0 <= a1 ∧ a1 <= 2 ^ 20 then some (yv (vsz a0) a1) else none
theorem Rq (a0 : GValue) (a1 : Int) (r : Int) (h : qa a0 a1 = some r) : ∃ n, wc n a0 a1 = some r := by
 unfold qa at h
 obtain ⟨⟨hm, h0, h1⟩, h⟩ := zF h
 exact ⟨2 * vsz a0 + 3, by rw [<- h]; exact OQ _ a0 (Nat.lt_succ_self _) hm _ a1 (Nat.le_refl _) h0 h1⟩
theorem Bw : vS YK := by
 intro a0 a1 r h
 obtain ⟨n, hn⟩ := Vd a0 a1 r h
 exact (Wl n).1 a0 a1 r hn
theorem Q1 : ki qa := by
 intro a0 a1 r h
 obtain ⟨n, hn⟩ := Rq a0 a1 r h
 exact (Wl n).2 a0 a1 r hn
def kj (a0 : GEntry) (a1 : Int) : Option Int :=
 (xu a0.Addr a1).bind fun r1 =>
 if r1 < 0 then
  some (-1)
 else
 (qa a0.Val r1).bind fun r3 =>
 if r3 < 0 then
  some (-1)
 else
 (yZ a0.Deps r3).bind fun r5 =>
 if r5 < 0 then
  some (-1)
 else
 some r5
theorem Uy (a0 : GEntry) (a1 : Int) : Oc (kj a0 a1) 122 [] [.val true (jU a0), vi a1] fun r => (vi r, []) := tc (
 .cl (qH a0.Addr a1) fun r1 =>
 .lI r1 0 (fun c2 =>
  .ret (-1)) fun c2 =>
 .cl (Q1 a0.Val r1) fun r3 =>
 .lI r3 0 (fun c4 =>
  .ret (-1)) fun c4 =>
 .cl (Yp a0.Deps r3) fun r5 =>
 .lI r5 0 (fun c6 =>
  .ret (-1)) fun c6 =>
 .ret r5) (zh Tryz.func122)
def Q2 (F : (List GEntry) → Int → Option Int) : Prop := ∀ (a0 : (List GEntry)) (a1 : Int), Oc (F a0 a1) 67 [] [vq zl a0, vi a1] fun r => (vi r, [])
def wd (a0 : (List GEntry)) : Nat → Int → Int → Option (Int ⊕ (Int × Int))
  | 0, _, _ => none
  | m + 1, v1, v2 =>
  if v2 < (a0.length : Int) then
   (zv v2).bind fun i2 =>
   (a0[i2]?).bind fun x3 =>
   (kj x3 v1).bind fun r4 =>
   if r4 < 0 then
    some (.inl (-1))
   else
   wd a0 m r4 (w64 (v2 + 1))
  else
  some (.inr (v1, v2))
theorem Kw (a0 : (List GEntry)) (m : Nat) : ∀ (v1 : Int) (v2 : Int), Ol (wd a0 m v1 v2) 67 (zN Tryz.f67 0) ⟨[(0, vq zl a0), (1, vi v1), (5, vi v2)], [], 0⟩ fun o => match o with | .inl o_0 => (.ret, ⟨[(4, vi o_0)], [], 0⟩) | .inr (⟨o_1_0, o_1_1⟩) => (.exit 0, ⟨[(0, vq zl a0), (1, vi o_1_0), (5, vi o_1_1), (15, vb false)], [], 0⟩) := by
  induction m with
  | zero => intro v1 v2 o h; cases h
  | succ m ih => exact fun v1 v2 => tlp (
   .le zl a0 <|
   .lI v2 (a0.length : Int) (fun c1 =>
    .na v2 fun i2 =>
    .ix zX a0 i2 fun x3 =>
    .cl (Uy x3 v1) fun r4 =>
    .lI r4 0 (fun c5 =>
     .ret (.inl (-1))) fun c5 =>
    .go (ih r4 (w64 (v2 + 1)))) fun c1 =>
   .ret (.inr (v1, v2)))
def YL (n : Nat) (a0 : (List GEntry)) (a1 : Int) : Option Int :=
 if (w64 (a1 - (a0.length : Int))) < 0 then
  some (-1)
 else
 (wd a0 n (w64 (a1 - (a0.length : Int))) 0).bind fun o2 =>
 match o2 with
 | .inl o2_0 =>
  some o2_0
 | .inr (⟨o2_1_0, o2_1_1⟩) =>
  some o2_1_0
theorem Uz (n : Nat) : Q2 (YL n) := fun a0 a1 => tc (
 .le zl a0 <|
 .lI (w64 (a1 - (a0.length : Int))) 0 (fun c1 =>
  .ret (-1)) fun c1 =>
 .l2 (Kw a0 n (w64 (a1 - (a0.length : Int))) 0) (fun o2_0 =>
  .ret o2_0) fun ⟨o2_1_0, o2_1_1⟩ =>
 .ret o2_1_0) (zh Tryz.func67)
def MJ (e : GEntry) : Prop := e.Addr.length <= 2 ^ 63 - 1 ∧ MdV e.Val ∧ MdB e.Deps
def Wy : List GEntry → Prop
 | [] => True
 | v :: l => MJ v ∧ Wy l
theorem EF {l : List GEntry} (h : Wy l) {v : GEntry} (hv : v ∈ l) : MJ v := by
 induction l with
 | nil => cases hv
 | cons x l ih =>
  simp only [Wy] at h
  rcases List.mem_cons.1 hv with rfl | hv
  ·exact h.1
  ·exact ih h.2 hv
def XF (l : List GEntry) : Nat := (l.map esz).sum
theorem zb6 (l : List GEntry) : yr l = l.length + XF l := by
 unfold XF
 induction l with
 | nil => rfl
 | cons v l ih => simp only [yr, ih, List.length_cons, List.map_cons, List.sum_cons]; omega
theorem Lk {a : List GEntry} (ha : a.length <= 2 ^ 20) (hG : ∀ v ∈ a, ∀ n : Int, 0 <= n → n <= 2 ^ 20 → kj v n = some (yv (esz v) n)) : ∀ (d i m : Nat) (r : Int), i + d = a.length → d < m → 0 <= r → r <= 2 ^ 20 →
  ∃ z, wd a m r (i : Int) = some (if (XF (a.drop i) : Int) <= r then .inr (r - XF (a.drop i), z) else .inl (-1)) := by
 intro d
 induction d with
 | zero =>
  intro i m r hi hm h0 h1
  obtain ⟨m, rfl, _⟩ := zi hm
  refine ⟨(i : Int), ?_⟩
  rw [wd, if_neg (by omega), List.drop_eq_nil_of_le (by omega)]
  simp only [XF, List.map_nil, List.sum_nil]
  rw [if_pos (by simpa using h0)]; simp
 | succ d ih =>
  intro i m r hi hm h0 h1
  obtain ⟨m, rfl, hm'⟩ := zi hm
  have hil : i < a.length := by omega
  rw [wd, if_pos (by omega), zb, Option.bind_some, zd hil, Option.bind_some, hG _ (List.getElem_mem hil) r h0 h1, Option.bind_some]
  have hv : XF (a.drop i) = esz a[i] + XF (a.drop (i + 1)) := by simp only [XF, yU hil, List.map_cons, List.sum_cons]
  rw [hv]
  unfold yv
  by_cases hc : (esz a[i] : Int) <= r
  ·rw [if_pos hc, if_neg (by omega), z7 (by omega)]
   obtain ⟨z, hz⟩ := ih (i + 1) m (r - esz a[i]) (by omega) (by omega) (by omega) (by omega)
   refine ⟨z, ?_⟩
   rw [hz]
   by_cases hd : (XF (a.drop (i + 1)) : Int) <= r - esz a[i]
   ·rw [if_pos hd, if_pos (by omega)]; congr 3; omega
   ·rw [if_neg hd, if_neg (by omega)]
  ·refine ⟨0, ?_⟩
   rw [if_neg hc, if_pos (by omega), if_neg (by omega)]
theorem Hu {v : GEntry} {n : Int} (h : MJ v) (h0 : 0 <= n) (h1 : n <= 2 ^ 20) : kj v n = some (yv (esz v) n) := by
 unfold kj
 rw [ZA h.1 h0 h1, Option.bind_some]
 unfold yv esz
 by_cases c1 : (v.Addr.length : Int) <= n
 ·rw [if_pos c1, if_neg (by omega)]
  unfold qa
  rw [if_pos ⟨h.2.1, by omega, by omega⟩, Option.bind_some]
  unfold yv
  by_cases c2 : (vsz v.Val : Int) <= n - v.Addr.length
  ·rw [if_pos c2, if_neg (by omega)]
   unfold yZ
   rw [if_pos ⟨h.2.2, by omega, by omega⟩, Option.bind_some]
   by_cases c3 : (bsz v.Deps : Int) <= n - v.Addr.length - vsz v.Val
   ·rw [if_pos c3, if_neg (by omega), if_pos (by omega)]; congr 1; omega
   ·rw [if_neg c3, if_pos (by omega), if_neg (by omega)]
  ·rw [if_neg c2, if_pos (by omega), if_neg (by omega)]
 ·rw [if_neg c1, if_pos (by omega), if_neg (by omega)]
open Classical in
noncomputable def jB (a0 : (List GEntry)) (a1 : Int) : Option Int := if a0.length <= 2 ^ 63 - 1 ∧ Wy a0 ∧ 0 <= a1 ∧ a1 <= 2 ^ 20 then some (yv (yr a0) a1) else none
theorem Ve (a0 : (List GEntry)) (a1 : Int) (r : Int) (h : jB a0 a1 = some r) : ∃ n, YL n a0 a1 = some r := by
 unfold jB at h
 obtain ⟨⟨hl, hm, h0, h1⟩, h⟩ := zF h
 refine ⟨a0.length + 5, ?_⟩
 unfold YL
 rw [<- h, xz (by omega) (by omega), zb6]
 unfold yv
 by_cases hc : (a0.length : Int) <= a1
 ·rw [if_neg (by omega)]
  obtain ⟨z, hz⟩ := Lk (a := a0) (by omega) (fun v hv n h0 h1 => Hu (EF hm hv) h0 h1) a0.length 0 (a0.length + 5) (a1 - a0.length) (by omega) (by omega) (by omega) (by omega)
  rw [show ((0 : Nat) : Int) = 0 from rfl] at hz
  rw [hz]
  simp only [List.drop_zero]
  by_cases hd : (XF a0 : Int) <= a1 - a0.length
  ·rw [if_pos hd, if_pos (by omega)]
   simp only [Option.bind_some]; congr 1; omega
  ·rw [if_neg hd, if_neg (by omega)]; rfl
 ·rw [if_pos (by omega), if_neg (by omega)]
theorem Te : Q2 jB := fun a0 a1 r h => (Ve a0 a1 r h).elim fun n hn => Uz n a0 a1 r hn
def ZB (a0 : GState) (a1 : Int) : Option Int :=
 (xu a0.Pending a1).bind fun r1 =>
 if r1 < 0 then
  some (-1)
 else
 (jB a0.Entries r1).bind fun r3 =>
 if r3 < 0 then
  some (-1)
 else
 some r3
theorem U0 (a0 : GState) (a1 : Int) : Oc (ZB a0 a1) 15 [] [.val true (yn a0), vi a1] fun r => (vi r, []) := tc (
 .cl (qH a0.Pending a1) fun r1 =>
 .lI r1 0 (fun c2 =>
  .ret (-1)) fun c2 =>
 .cl (Te a0.Entries r1) fun r3 =>
 .lI r3 0 (fun c4 =>
  .ret (-1)) fun c4 =>
 .ret r3) (zh Tryz.func15)
def kl (a0 : GEvent) (a1 : Int) : Option Int :=
 (xu a0.Addr a1).bind fun r1 =>
 if r1 < 0 then
  some (-1)
 else
 (qa a0.Val r1).bind fun r3 =>
 if r3 < 0 then
  some (-1)
 else
 (yZ a0.Deps r3).bind fun r5 =>
 if r5 < 0 then
  some (-1)
 else
 some r5
theorem U1 (a0 : GEvent) (a1 : Int) : Oc (kl a0 a1) 16 [] [.val true (jp a0), vi a1] fun r => (vi r, []) := tc (
 .cl (qH a0.Addr a1) fun r1 =>
 .lI r1 0 (fun c2 =>
  .ret (-1)) fun c2 =>
 .cl (Q1 a0.Val r1) fun r3 =>
 .lI r3 0 (fun c4 =>
  .ret (-1)) fun c4 =>
 .cl (Yp a0.Deps r3) fun r5 =>
 .lI r5 0 (fun c6 =>
  .ret (-1)) fun c6 =>
 .ret r5) (zh Tryz.func16)
def Q3 (F : (List GEvent) → Int → Option Int) : Prop := ∀ (a0 : (List GEvent)) (a1 : Int), Oc (F a0 a1) 86 [] [vq zB a0, vi a1] fun r => (vi r, [])
def we (a0 : (List GEvent)) : Nat → Int → Int → Option (Int ⊕ (Int × Int))
  | 0, _, _ => none
  | m + 1, v1, v2 =>
  if v2 < (a0.length : Int) then
   (zv v2).bind fun i2 =>
   (a0[i2]?).bind fun x3 =>
   (kl x3 v1).bind fun r4 =>
   if r4 < 0 then
    some (.inl (-1))
   else
   we a0 m r4 (w64 (v2 + 1))
  else
  some (.inr (v1, v2))
theorem Kx (a0 : (List GEvent)) (m : Nat) : ∀ (v1 : Int) (v2 : Int), Ol (we a0 m v1 v2) 86 (zN Tryz.f86 0) ⟨[(0, vq zB a0), (1, vi v1), (5, vi v2)], [], 0⟩ fun o => match o with | .inl o_0 => (.ret, ⟨[(4, vi o_0)], [], 0⟩) | .inr (⟨o_1_0, o_1_1⟩) => (.exit 0, ⟨[(0, vq zB a0), (1, vi o_1_0), (5, vi o_1_1), (15, vb false)], [], 0⟩) := by
  induction m with
  | zero => intro v1 v2 o h; cases h
  | succ m ih => exact fun v1 v2 => tlp (
   .le zB a0 <|
   .lI v2 (a0.length : Int) (fun c1 =>
    .na v2 fun i2 =>
    .ix qD a0 i2 fun x3 =>
    .cl (U1 x3 v1) fun r4 =>
    .lI r4 0 (fun c5 =>
     .ret (.inl (-1))) fun c5 =>
    .go (ih r4 (w64 (v2 + 1)))) fun c1 =>
   .ret (.inr (v1, v2)))
def YM (n : Nat) (a0 : (List GEvent)) (a1 : Int) : Option Int :=
 if (w64 (a1 - (a0.length : Int))) < 0 then
  some (-1)
 else
 (we a0 n (w64 (a1 - (a0.length : Int))) 0).bind fun o2 =>
 match o2 with
 | .inl o2_0 =>
  some o2_0
 | .inr (⟨o2_1_0, o2_1_1⟩) =>
  some o2_1_0
theorem U2 (n : Nat) : Q3 (YM n) := fun a0 a1 => tc (
 .le zB a0 <|
 .lI (w64 (a1 - (a0.length : Int))) 0 (fun c1 =>
  .ret (-1)) fun c1 =>
 .l2 (Kx a0 n (w64 (a1 - (a0.length : Int))) 0) (fun o2_0 =>
  .ret o2_0) fun ⟨o2_1_0, o2_1_1⟩ =>
 .ret o2_1_0) (zh Tryz.func86)
def MK (e : GEvent) : Prop := e.Addr.length <= 2 ^ 63 - 1 ∧ MdV e.Val ∧ MdB e.Deps
def Wz : List GEvent → Prop
 | [] => True
 | v :: l => MK v ∧ Wz l
theorem EG {l : List GEvent} (h : Wz l) {v : GEvent} (hv : v ∈ l) : MK v := by
 induction l with
 | nil => cases hv
 | cons x l ih =>
  simp only [Wz] at h
  rcases List.mem_cons.1 hv with rfl | hv
  ·exact h.1
  ·exact ih h.2 hv
def Yc (l : List GEvent) : Nat := (l.map qE).sum
theorem Bx (l : List GEvent) : yk l = l.length + Yc l := by
 unfold Yc
 induction l with
 | nil => rfl
 | cons v l ih => simp only [yk, ih, List.length_cons, List.map_cons, List.sum_cons]; omega
theorem Ll {a : List GEvent} (ha : a.length <= 2 ^ 20) (hG : ∀ v ∈ a, ∀ n : Int, 0 <= n → n <= 2 ^ 20 → kl v n = some (yv (qE v) n)) : ∀ (d i m : Nat) (r : Int), i + d = a.length → d < m → 0 <= r → r <= 2 ^ 20 →
  ∃ z, we a m r (i : Int) = some (if (Yc (a.drop i) : Int) <= r then .inr (r - Yc (a.drop i), z) else .inl (-1)) := by
 intro d
 induction d with
 | zero =>
  intro i m r hi hm h0 h1
  obtain ⟨m, rfl, _⟩ := zi hm
  refine ⟨(i : Int), ?_⟩
  rw [we, if_neg (by omega), List.drop_eq_nil_of_le (by omega)]
  simp only [Yc, List.map_nil, List.sum_nil]
  rw [if_pos (by simpa using h0)]; simp
 | succ d ih =>
  intro i m r hi hm h0 h1
  obtain ⟨m, rfl, hm'⟩ := zi hm
  have hil : i < a.length := by omega
  rw [we, if_pos (by omega), zb, Option.bind_some, zd hil, Option.bind_some, hG _ (List.getElem_mem hil) r h0 h1, Option.bind_some]
  have hv : Yc (a.drop i) = qE a[i] + Yc (a.drop (i + 1)) := by simp only [Yc, yU hil, List.map_cons, List.sum_cons]
  rw [hv]
  unfold yv
  by_cases hc : (qE a[i] : Int) <= r
  ·rw [if_pos hc, if_neg (by omega), z7 (by omega)]
   obtain ⟨z, hz⟩ := ih (i + 1) m (r - qE a[i]) (by omega) (by omega) (by omega) (by omega)
   refine ⟨z, ?_⟩
   rw [hz]
   by_cases hd : (Yc (a.drop (i + 1)) : Int) <= r - qE a[i]
   ·rw [if_pos hd, if_pos (by omega)]; congr 3; omega
   ·rw [if_neg hd, if_neg (by omega)]
  ·refine ⟨0, ?_⟩
   rw [if_neg hc, if_pos (by omega), if_neg (by omega)]
theorem Hv {v : GEvent} {n : Int} (h : MK v) (h0 : 0 <= n) (h1 : n <= 2 ^ 20) : kl v n = some (yv (qE v) n) := by
 unfold kl
 rw [ZA h.1 h0 h1, Option.bind_some]
 unfold yv qE
 by_cases c1 : (v.Addr.length : Int) <= n
 ·rw [if_pos c1, if_neg (by omega)]
  unfold qa
  rw [if_pos ⟨h.2.1, by omega, by omega⟩, Option.bind_some]
  unfold yv
  by_cases c2 : (vsz v.Val : Int) <= n - v.Addr.length
  ·rw [if_pos c2, if_neg (by omega)]
   unfold yZ
   rw [if_pos ⟨h.2.2, by omega, by omega⟩, Option.bind_some]
   by_cases c3 : (bsz v.Deps : Int) <= n - v.Addr.length - vsz v.Val
   ·rw [if_pos c3, if_neg (by omega), if_pos (by omega)]; congr 1; omega
   ·rw [if_neg c3, if_pos (by omega), if_neg (by omega)]
  ·rw [if_neg c2, if_pos (by omega), if_neg (by omega)]
 ·rw [if_neg c1, if_pos (by omega), if_neg (by omega)]
open Classical in
noncomputable def jC (a0 : (List GEvent)) (a1 : Int) : Option Int := if a0.length <= 2 ^ 63 - 1 ∧ Wz a0 ∧ 0 <= a1 ∧ a1 <= 2 ^ 20 then some (yv (yk a0) a1) else none
theorem Vf (a0 : (List GEvent)) (a1 : Int) (r : Int) (h : jC a0 a1 = some r) : ∃ n, YM n a0 a1 = some r := by
 unfold jC at h
 obtain ⟨⟨hl, hm, h0, h1⟩, h⟩ := zF h
 refine ⟨a0.length + 5, ?_⟩
 unfold YM
 rw [<- h, xz (by omega) (by omega), Bx]
 unfold yv
 by_cases hc : (a0.length : Int) <= a1
 ·rw [if_neg (by omega)]
  obtain ⟨z, hz⟩ := Ll (a := a0) (by omega) (fun v hv n h0 h1 => Hv (EG hm hv) h0 h1) a0.length 0 (a0.length + 5) (a1 - a0.length) (by omega) (by omega) (by omega) (by omega)
  rw [show ((0 : Nat) : Int) = 0 from rfl] at hz
  rw [hz]
  simp only [List.drop_zero]
  by_cases hd : (Yc a0 : Int) <= a1 - a0.length
  ·rw [if_pos hd, if_pos (by omega)]
   simp only [Option.bind_some]; congr 1; omega
  ·rw [if_neg hd, if_neg (by omega)]; rfl
 ·rw [if_pos (by omega), if_neg (by omega)]
theorem Tf : Q3 jC := fun a0 a1 r h => (Vf a0 a1 r h).elim fun n hn => U2 n a0 a1 r hn
def kX (a0 : GHistory) (a1 : Int) : Option Int :=
 (ZB a0.Base a1).bind fun r1 =>
 if r1 < 0 then
  some (-1)
 else
 (jC a0.Events r1).bind fun r3 =>
 if r3 < 0 then
  some (-1)
 else
 some r3
theorem Rr (a0 : GHistory) (a1 : Int) : Oc (kX a0 a1) 26 [] [.val true (yh a0), vi a1] fun r => (vi r, []) := tc (
 .cl (U0 a0.Base a1) fun r1 =>
 .lI r1 0 (fun c2 =>
  .ret (-1)) fun c2 =>
 .cl (Tf a0.Events r1) fun r3 =>
 .lI r3 0 (fun c4 =>
  .ret (-1)) fun c4 =>
 .ret r3) (zh Tryz.func26)
def vf (a0 : GStep) (a1 : Int) : Option Int :=
 (xu a0.Key a1).bind fun r1 =>
 if r1 < 0 then
  some (-1)
 else
 some r1
theorem PR (a0 : GStep) (a1 : Int) : Oc (vf a0 a1) 106 [] [.val true (X7 a0), vi a1] fun r => (vi r, []) := tc (
 .cl (qH a0.Key a1) fun r1 =>
 .lI r1 0 (fun c2 =>
  .ret (-1)) fun c2 =>
 .ret r1) (zh Tryz.func106)
def Jf (F : (List GStep) → Int → Option Int) : Prop := ∀ (a0 : (List GStep)) (a1 : Int), Oc (F a0 a1) 56 [] [vq zw a0, vi a1] fun r => (vi r, [])
def wF (a0 : (List GStep)) : Nat → Int → Int → Option (Int ⊕ (Int × Int))
  | 0, _, _ => none
  | m + 1, v1, v2 =>
  if v2 < (a0.length : Int) then
   (zv v2).bind fun i2 =>
   (a0[i2]?).bind fun x3 =>
   (vf x3 v1).bind fun r4 =>
   if r4 < 0 then
    some (.inl (-1))
   else
   wF a0 m r4 (w64 (v2 + 1))
  else
  some (.inr (v1, v2))
theorem Vg (a0 : (List GStep)) (m : Nat) : ∀ (v1 : Int) (v2 : Int), Ol (wF a0 m v1 v2) 56 (zN Tryz.f56 0) ⟨[(0, vq zw a0), (1, vi v1), (5, vi v2)], [], 0⟩ fun o => match o with | .inl o_0 => (.ret, ⟨[(4, vi o_0)], [], 0⟩) | .inr (⟨o_1_0, o_1_1⟩) => (.exit 0, ⟨[(0, vq zw a0), (1, vi o_1_0), (5, vi o_1_1), (15, vb false)], [], 0⟩) := by
  induction m with
  | zero => intro v1 v2 o h; cases h
  | succ m ih => exact fun v1 v2 => tlp (
   .le zw a0 <|
   .lI v2 (a0.length : Int) (fun c1 =>
    .na v2 fun i2 =>
    .ix qO a0 i2 fun x3 =>
    .cl (PR x3 v1) fun r4 =>
    .lI r4 0 (fun c5 =>
     .ret (.inl (-1))) fun c5 =>
    .go (ih r4 (w64 (v2 + 1)))) fun c1 =>
   .ret (.inr (v1, v2)))
def Xu (n : Nat) (a0 : (List GStep)) (a1 : Int) : Option Int :=
 if (w64 (a1 - (a0.length : Int))) < 0 then
  some (-1)
 else
 (wF a0 n (w64 (a1 - (a0.length : Int))) 0).bind fun o2 =>
 match o2 with
 | .inl o2_0 =>
  some o2_0
 | .inr (⟨o2_1_0, o2_1_1⟩) =>
  some o2_1_0
theorem PS (n : Nat) : Jf (Xu n) := fun a0 a1 => tc (
 .le zw a0 <|
 .lI (w64 (a1 - (a0.length : Int))) 0 (fun c1 =>
  .ret (-1)) fun c1 =>
 .l2 (Vg a0 n (w64 (a1 - (a0.length : Int))) 0) (fun o2_0 =>
  .ret o2_0) fun ⟨o2_1_0, o2_1_1⟩ =>
 .ret o2_1_0) (zh Tryz.func56)
def ML (e : GStep) : Prop := e.Key.length <= 2 ^ 63 - 1
def W2 : List GStep → Prop
 | [] => True
 | v :: l => ML v ∧ W2 l
theorem EH {l : List GStep} (h : W2 l) {v : GStep} (hv : v ∈ l) : ML v := by
 induction l with
 | nil => cases hv
 | cons x l ih =>
  simp only [W2] at h
  rcases List.mem_cons.1 hv with rfl | hv
  ·exact h.1
  ·exact ih h.2 hv
def Yd (l : List GStep) : Nat := (l.map vK).sum
theorem By (l : List GStep) : wT l = l.length + Yd l := by
 unfold Yd
 induction l with
 | nil => rfl
 | cons v l ih => simp only [wT, ih, List.length_cons, List.map_cons, List.sum_cons]; omega
theorem MM {a : List GStep} (ha : a.length <= 2 ^ 20) (hG : ∀ v ∈ a, ∀ n : Int, 0 <= n → n <= 2 ^ 20 → vf v n = some (yv (vK v) n)) : ∀ (d i m : Nat) (r : Int), i + d = a.length → d < m → 0 <= r → r <= 2 ^ 20 →
  ∃ z, wF a m r (i : Int) = some (if (Yd (a.drop i) : Int) <= r then .inr (r - Yd (a.drop i), z) else .inl (-1)) := by
 intro d
 induction d with
 | zero =>
  intro i m r hi hm h0 h1
  obtain ⟨m, rfl, _⟩ := zi hm
  refine ⟨(i : Int), ?_⟩
  rw [wF, if_neg (by omega), List.drop_eq_nil_of_le (by omega)]
  simp only [Yd, List.map_nil, List.sum_nil]
  rw [if_pos (by simpa using h0)]; simp
 | succ d ih =>
  intro i m r hi hm h0 h1
  obtain ⟨m, rfl, hm'⟩ := zi hm
  have hil : i < a.length := by omega
  rw [wF, if_pos (by omega), zb, Option.bind_some, zd hil, Option.bind_some, hG _ (List.getElem_mem hil) r h0 h1, Option.bind_some]
  have hv : Yd (a.drop i) = vK a[i] + Yd (a.drop (i + 1)) := by simp only [Yd, yU hil, List.map_cons, List.sum_cons]
  rw [hv]
  unfold yv
  by_cases hc : (vK a[i] : Int) <= r
  ·rw [if_pos hc, if_neg (by omega), z7 (by omega)]
   obtain ⟨z, hz⟩ := ih (i + 1) m (r - vK a[i]) (by omega) (by omega) (by omega) (by omega)
   refine ⟨z, ?_⟩
   rw [hz]
   by_cases hd : (Yd (a.drop (i + 1)) : Int) <= r - vK a[i]
   ·rw [if_pos hd, if_pos (by omega)]; congr 3; omega
   ·rw [if_neg hd, if_neg (by omega)]
  ·refine ⟨0, ?_⟩
   rw [if_neg hc, if_pos (by omega), if_neg (by omega)]
theorem EI {v : GStep} {n : Int} (h : ML v) (h0 : 0 <= n) (h1 : n <= 2 ^ 20) : vf v n = some (yv (vK v) n) := by
 unfold vf
 rw [ZA h h0 h1, Option.bind_some]
 unfold yv vK
 by_cases c1 : (v.Key.length : Int) <= n
 ·rw [if_pos c1, if_neg (by omega)]
 ·rw [if_neg c1, if_pos (by omega)]
open Classical in
noncomputable def km (a0 : (List GStep)) (a1 : Int) : Option Int := if a0.length <= 2 ^ 63 - 1 ∧ W2 a0 ∧ 0 <= a1 ∧ a1 <= 2 ^ 20 then some (yv (wT a0) a1) else none
theorem Rs (a0 : (List GStep)) (a1 : Int) (r : Int) (h : km a0 a1 = some r) : ∃ n, Xu n a0 a1 = some r := by
 unfold km at h
 obtain ⟨⟨hl, hm, h0, h1⟩, h⟩ := zF h
 refine ⟨a0.length + 5, ?_⟩
 unfold Xu
 rw [<- h, xz (by omega) (by omega), By]
 unfold yv
 by_cases hc : (a0.length : Int) <= a1
 ·rw [if_neg (by omega)]
  obtain ⟨z, hz⟩ := MM (a := a0) (by omega) (fun v hv n h0 h1 => EI (EH hm hv) h0 h1) a0.length 0 (a0.length + 5) (a1 - a0.length) (by omega) (by omega) (by omega) (by omega)
  rw [show ((0 : Nat) : Int) = 0 from rfl] at hz
  rw [hz]
  simp only [List.drop_zero]
  by_cases hd : (Yd a0 : Int) <= a1 - a0.length
  ·rw [if_pos hd, if_pos (by omega)]
   simp only [Option.bind_some]; congr 1; omega
  ·rw [if_neg hd, if_neg (by omega)]; rfl
 ·rw [if_pos (by omega), if_neg (by omega)]
theorem U3 : Jf km := fun a0 a1 r h => (Rs a0 a1 r h).elim fun n hn => PS n a0 a1 r hn
def Jg (F : (List UInt8) → Option (List UInt8)) : Prop := ∀ (a0 : (List UInt8)), Oc (F a0) 51 [] [vq za a0] fun r => (.val false [.own 1 (eL za r)], [])
def wG (a0 : (List UInt8)) : Nat → Int → (List UInt8) → Option (Int × (List UInt8))
  | 0, _, _ => none
  | m + 1, v1, v2 =>
  if v1 < (a0.length : Int) then
   (zv v1).bind fun i2 =>
   (a0[i2]?).bind fun x3 =>
   (v2[i2]?).bind fun x4 =>
   wG a0 m (w64 (v1 + 1)) (v2.set i2 x3)
  else
  some (v1, v2)
theorem Vh (a0 : (List UInt8)) (m : Nat) : ∀ (v1 : Int) (v2 : (List UInt8)), Ol (wG a0 m v1 v2) 51 (zN Tryz.f51 0) ⟨[(0, vq za a0), (3, vr 0), (4, vi v1)], [.obj 1 (eL za v2)], 0⟩ fun o => match o with | ⟨o_0, o_1⟩ => (.exit 0, ⟨[(0, vq za a0), (3, vr 0), (4, vi o_0), (11, vb false)], [.obj 1 (eL za o_1)], 0⟩) := by
  induction m with
  | zero => intro v1 v2 o h; cases h
  | succ m ih => exact fun v1 v2 => tlp (
   .le za a0 <|
   .lI v1 (a0.length : Int) (fun c1 =>
    .na v1 fun i2 =>
    .ix0 za a0 i2 fun x3 =>
    .ag 1 <|
    .ix0 za v2 i2 fun x4 =>
    .ag 0 <|
    .sl (e := za) (x := x3) (c := [.int .u8 ((x3.toNat : Nat) : Int)]) rfl v2 i2 <|
    .go (ih (w64 (v1 + 1)) (v2.set i2 x3))) fun c1 =>
   .ret (v1, v2))
def Xv (n : Nat) (a0 : (List UInt8)) : Option (List UInt8) :=
 (YI 1 (a0.length : Int)).bind fun k1 =>
 (wG a0 n 0 (List.replicate k1 0)).bind fun ⟨o2_0, o2_1⟩ =>
 some o2_1
theorem PT (n : Nat) : Jg (Xv n) := fun a0 => tc (
 .le za a0 <|
 .q (.eTo (a0.length : Int) (a0.length : Int) rfl) <|
 .md 1 (a0.length : Int) fun k1 =>
 .q ⟨.rep k1 [.int .u8 0], .l (eL za (List.replicate k1 0)), A.rep rfl⟩ <|
 .lp (Vh a0 n 0 (List.replicate k1 0)) fun ⟨o2_0, o2_1⟩ =>
 .ret o2_1) (zh Tryz.func51)
theorem MN {a : List UInt8} (ha : a.length <= 2 ^ 20) : ∀ (d i m : Nat) (v : List UInt8), i + d = a.length → d < m → Pre a v i → ∃ z, wG a m (i : Int) v = some (z, a) := by
 intro d
 induction d with
 | zero =>
  intro i m v hi hm hp
  obtain ⟨m, rfl, _⟩ := zi hm
  exact ⟨_, by rw [wG, if_neg (by omega), hp.done (by omega)]⟩
 | succ d ih =>
  intro i m v hi hm hp
  obtain ⟨m, rfl, hm'⟩ := zi hm
  have hil : i < a.length := by omega
  rw [wG, if_pos (by omega), zb, Option.bind_some, zd hil, Option.bind_some, zd (by rw [hp.1]; exact hil), Option.bind_some, z7 (by omega)]
  exact ih (i + 1) m _ (by omega) (by omega) (hp.step hil)
def zW (a0 : (List UInt8)) : Option (List UInt8) := if a0.length <= 2 ^ 20 then some a0 else none
theorem Rt (a0 : (List UInt8)) (r : (List UInt8)) (h : zW a0 = some r) : ∃ n, Xv n a0 = some r := by
 unfold zW at h
 obtain ⟨ha, h⟩ := zF h
 refine ⟨a0.length + 1, ?_⟩
 obtain ⟨z, hz⟩ := MN ha a0.length 0 (a0.length + 1) (List.replicate a0.length 0) (by omega) (by omega) (Pre.start (by simp))
 unfold Xv
 rw [WE ha (by decide), Option.bind_some, show (0 : Int) = ((0 : Nat) : Int) from rfl, hz]
 exact h
theorem w7 : Jg zW := fun a0 r h => (Rt a0 r h).elim fun n hn => PT n a0 r hn
def Q4 (F : (List (List UInt8)) → Option (List (List UInt8))) : Prop := ∀ (a0 : (List (List UInt8))), Oc (F a0) 77 [] [vq (zt za) a0] fun r => (.val false [.own 1 (eL (q9 1 za) r)], [])
def wg (a0 : (List (List UInt8))) : Nat → Int → (List (List UInt8)) → Option (Int × (List (List UInt8)))
  | 0, _, _ => none
  | m + 1, v1, v2 =>
  if v1 < (a0.length : Int) then
   (zv v1).bind fun i2 =>
   (a0[i2]?).bind fun x3 =>
   (zW x3).bind fun r4 =>
   (v2[i2]?).bind fun x5 =>
   wg a0 m (w64 (v1 + 1)) (v2.set i2 r4)
  else
  some (v1, v2)
theorem Ky (a0 : (List (List UInt8))) (m : Nat) : ∀ (v1 : Int) (v2 : (List (List UInt8))), Ol (wg a0 m v1 v2) 77 (zN Tryz.f77 0) ⟨[(0, vq (zt za) a0), (3, vr 0), (4, vi v1)], [.obj 1 (eL (q9 1 za) v2)], 0⟩ fun o => match o with | ⟨o_0, o_1⟩ => (.exit 0, ⟨[(0, vq (zt za) a0), (3, vr 0), (4, vi o_0), (11, vb false)], [.obj 1 (eL (q9 1 za) o_1)], 0⟩) := by
  induction m with
  | zero => intro v1 v2 o h; cases h
  | succ m ih => exact fun v1 v2 => tlp (
   .le (zt za) a0 <|
   .lI v1 (a0.length : Int) (fun c1 =>
    .na v1 fun i2 =>
    .ix0 (zt za) a0 i2 fun x3 =>
    .cl (w7 x3) fun r4 =>
    .ag 2 <|
    .ix0 (q9 1 za) v2 i2 fun x5 =>
    .ag 0 <|
    .sl (e := (q9 1 za)) (x := r4) (c := [.own 1 (eL za r4)]) rfl v2 i2 <|
    .go (ih (w64 (v1 + 1)) (v2.set i2 r4))) fun c1 =>
   .ret (v1, v2))
def YN (n : Nat) (a0 : (List (List UInt8))) : Option (List (List UInt8)) :=
 (YI 24 (a0.length : Int)).bind fun k1 =>
 (wg a0 n 0 (List.replicate k1 [])).bind fun ⟨o2_0, o2_1⟩ =>
 some o2_1
theorem U4 (n : Nat) : Q4 (YN n) := fun a0 => tc (
 .le (zt za) a0 <|
 .q (.eTo (a0.length : Int) (a0.length : Int) rfl) <|
 .md 24 (a0.length : Int) fun k1 =>
 .q ⟨.rep k1 [.own 1 []], .l (eL (q9 1 za) (List.replicate k1 [])), A.rep rfl⟩ <|
 .lp (Ky a0 n 0 (List.replicate k1 [])) fun ⟨o2_0, o2_1⟩ =>
 .ret o2_1) (zh Tryz.func77)
theorem Lm {a : List (List UInt8)} (ha : bsz a <= 2 ^ 20) : ∀ (d i m : Nat) (v : List (List UInt8)), i + d = a.length → d < m → Pre a v i → ∃ z, wg a m (i : Int) v = some (z, a) := by
 have hl := vB a
 intro d
 induction d with
 | zero =>
  intro i m v hi hm hp
  obtain ⟨m, rfl, _⟩ := zi hm
  exact ⟨_, by rw [wg, if_neg (by omega), hp.done (by omega)]⟩
 | succ d ih =>
  intro i m v hi hm hp
  obtain ⟨m, rfl, hm'⟩ := zi hm
  have hil : i < a.length := by omega
  have hx := X8 (List.getElem_mem hil)
  rw [wg, if_pos (by omega), zb, Option.bind_some, zd hil, Option.bind_some]
  unfold zW
  rw [if_pos (by omega), Option.bind_some, zd (by rw [hp.1]; exact hil), Option.bind_some, z7 (by omega)]
  exact ih (i + 1) m _ (by omega) (by omega) (hp.step hil)
def xa (a0 : (List (List UInt8))) : Option (List (List UInt8)) := if bsz a0 <= 2 ^ 20 then some a0 else none
theorem Vi (a0 : (List (List UInt8))) (r : (List (List UInt8))) (h : xa a0 = some r) : ∃ n, YN n a0 = some r := by
 unfold xa at h
 obtain ⟨ha, h⟩ := zF h
 have hl := vB a0
 refine ⟨a0.length + 1, ?_⟩
 obtain ⟨z, hz⟩ := Lm ha a0.length 0 (a0.length + 1) (List.replicate a0.length []) (by omega) (by omega) (Pre.start (by simp))
 unfold YN
 rw [WE (by omega) (by decide), Option.bind_some, show (0 : Int) = ((0 : Nat) : Int) from rfl, hz]
 exact h
theorem Yq : Q4 xa := fun a0 r h => (Vi a0 r h).elim fun n hn => U4 n a0 r hn
def vU (F : (List GValue) → Option (List GValue)) : Prop := ∀ (a0 : (List GValue)), Oc (F a0) 132 [] [vq zf a0] fun r => (.val false [.own 5 (eL ye r)], [])
def kn (F : GValue → Option GValue) : Prop := ∀ (a0 : GValue), Oc (F a0) 76 [] [.val true (zq a0)] fun r => (.val true (jT r), [])
def wh (G_laws_toValue : GValue → Option GValue) (a0 : (List GValue)) : Nat → Int → (List GValue) → Option (Int × (List GValue))
  | 0, _, _ => none
  | m + 1, v1, v2 =>
  if v1 < (a0.length : Int) then
   (zv v1).bind fun i2 =>
   (a0[i2]?).bind fun x3 =>
   (G_laws_toValue x3).bind fun r4 =>
   (v2[i2]?).bind fun x5 =>
   wh G_laws_toValue a0 m (w64 (v1 + 1)) (v2.set i2 r4)
  else
  some (v1, v2)
theorem Kz (G_laws_toValue : GValue → Option GValue) (H_laws_toValue : kn G_laws_toValue) (a0 : (List GValue)) (m : Nat) : ∀ (v1 : Int) (v2 : (List GValue)), Ol (wh G_laws_toValue a0 m v1 v2) 132 (zN Tryz.f132 0) ⟨[(0, vq zf a0), (3, vr 0), (4, vi v1)], [.obj 5 (eL ye v2)], 0⟩ fun o => match o with | ⟨o_0, o_1⟩ => (.exit 0, ⟨[(0, vq zf a0), (3, vr 0), (4, vi o_0), (11, vb false)], [.obj 5 (eL ye o_1)], 0⟩) := by
  induction m with
  | zero => intro v1 v2 o h; cases h
  | succ m ih => exact fun v1 v2 => tlp (
   .le zf a0 <|
   .lI v1 (a0.length : Int) (fun c1 =>
    .na v1 fun i2 =>
    .ix zO a0 i2 fun x3 =>
    .cl (H_laws_toValue x3) fun r4 =>
    .ag 2 <|
    .ix vd v2 i2 fun x5 =>
    .ag 0 <|
    .sl (vd r4) v2 i2 <|
    .go (ih (w64 (v1 + 1)) (v2.set i2 r4))) fun c1 =>
   .ret (v1, v2))
def vV (G_laws_toValue : GValue → Option GValue) (n : Nat) (a0 : (List GValue)) : Option (List GValue) :=
 (YI 88 (a0.length : Int)).bind fun k1 =>
 (wh G_laws_toValue a0 n 0 (List.replicate k1 (GValue.mk 0 0 [] [] []))).bind fun ⟨o2_0, o2_1⟩ =>
 some o2_1
theorem U5 (G_laws_toValue : GValue → Option GValue) (H_laws_toValue : kn G_laws_toValue) (n : Nat) : vU (vV G_laws_toValue n) := fun a0 => tc (
 .le zf a0 <|
 .q (.eTo (a0.length : Int) (a0.length : Int) rfl) <|
 .md 88 (a0.length : Int) fun k1 =>
 .q ⟨.rep k1 [.int .i64 0, .int .i64 0, .own 1 [], .own 1 [], .own 5 []], .l (eL ye (List.replicate k1 (GValue.mk 0 0 [] [] []))), A.rep (vd (GValue.mk 0 0 [] [] []))⟩ <|
 .lp (Kz G_laws_toValue H_laws_toValue a0 n 0 (List.replicate k1 (GValue.mk 0 0 [] [] []))) fun ⟨o2_0, o2_1⟩ =>
 .ret o2_1) (zh Tryz.func132)
def Xw (G_laws_toValueS : (List GValue) → Option (List GValue)) (a0 : GValue) : Option GValue :=
 (zW a0.S).bind fun r1 =>
 (xa a0.K).bind fun r2 =>
 (G_laws_toValueS a0.L).bind fun r3 =>
 some (GValue.mk a0.Kind a0.N r1 r2 r3)
theorem PU (G_laws_toValueS : (List GValue) → Option (List GValue)) (H_laws_toValueS : vU G_laws_toValueS) : kn (Xw G_laws_toValueS) := fun a0 => tc (
 .cl (w7 a0.S) fun r1 =>
 .cl (Yq a0.K) fun r2 =>
 .cl (H_laws_toValueS a0.L) fun r3 =>
 .ret (GValue.mk a0.Kind a0.N r1 r2 r3)) (zh Tryz.func76)
mutual
def xJ : Nat → (List GValue) → Option (List GValue)
 | 0, _ => none
 | n + 1, a0 => vV (wj n) n a0
def wj : Nat → GValue → Option GValue
 | 0, _ => none
 | n + 1, a0 => Xw (xJ n) a0
end
theorem Wm (n : Nat) : vU (xJ n) ∧ kn (wj n) := by
 induction n with
 | zero => exact ⟨fun _ _ h => (by rw [xJ] at h; cases h), fun _ _ h => (by rw [wj] at h; cases h)⟩
 | succ n ih =>
  obtain ⟨ih_laws_toValueS, ih_laws_toValue⟩ := ih
  exact ⟨fun a0 r h => U5 (wj n) ih_laws_toValue n a0 r (by rw [xJ] at h; exact h),
   fun a0 r h => PU (xJ n) ih_laws_toValueS a0 r (by rw [wj] at h; exact h)⟩
theorem U6 {G : GValue → Option GValue} {a : List GValue} {f : Nat} (ha : a.length <= 2 ^ 20) (hf : a.length < f) (hG : ∀ v ∈ a, G v = some v) : vV G f a = some a := by
 have loop : ∀ (d i m : Nat) (v : List GValue), i + d = a.length → d < m → Pre a v i → ∃ z, wh G a m (i : Int) v = some (z, a) := by
  intro d
  induction d with
  | zero =>
   intro i m v hi hm hp
   obtain ⟨m, rfl, _⟩ := zi hm
   exact ⟨_, by rw [wh, if_neg (by omega), hp.done (by omega)]⟩
  | succ d ih =>
   intro i m v hi hm hp
   obtain ⟨m, rfl, hm'⟩ := zi hm
   have hil : i < a.length := by omega
   rw [wh, if_pos (by omega), zb, Option.bind_some, zd hil, Option.bind_some, hG _ (List.getElem_mem hil), Option.bind_some, zd (by rw [hp.1]; exact hil), Option.bind_some, z7 (by omega)]
   exact ih (i + 1) m _ (by omega) (by omega) (hp.step hil)
 obtain ⟨z, hz⟩ := loop a.length 0 f (List.replicate a.length (GValue.mk 0 0 [] [] [])) (by omega) (by omega) (Pre.start (by simp))
 rw [show ((0 : Nat) : Int) = 0 from rfl] at hz
 unfold vV
 rw [WE ha (by decide), Option.bind_some, hz]; rfl
theorem OR : ∀ (N : Nat) (v : GValue), vsz v < N → vsz v <= 2 ^ 20 → ∀ f : Nat, 2 * vsz v + 3 <= f → wj f v = some v := by
 intro N
 induction N with
 | zero => intro v hv; omega
 | succ N ih =>
  intro v hv hs f hf
  obtain ⟨f, rfl, _⟩ := zi (show 0 < f by omega)
  obtain ⟨f, rfl, _⟩ := zi (show 0 < f by omega)
  have he := jq v
  have hl := xm v.L
  rw [wj]
  unfold Xw zW xa
  rw [if_pos (by omega), Option.bind_some, if_pos (by omega), Option.bind_some, xJ, U6 (by omega) (by omega) fun x hx => ?_, Option.bind_some, GValue.eta]
  have := qu hx
  exact ih x (by omega) (by omega) f (by omega)
def YO (a0 : (List GValue)) : Option (List GValue) := if qr a0 <= 2 ^ 20 then some a0 else none
theorem Vj (a0 : (List GValue)) (r : (List GValue)) (h : YO a0 = some r) : ∃ n, xJ n a0 = some r := by
 unfold YO at h
 obtain ⟨ha, h⟩ := zF h
 have hl := xm a0
 refine ⟨2 * qr a0 + 5, ?_⟩
 rw [xJ, U6 (by omega) (by omega) fun x hx => ?_, h]
 have := qu hx
 exact OR _ x (Nat.lt_succ_self _) (by omega) _ (by omega)
def qc (a0 : GValue) : Option GValue := if vsz a0 <= 2 ^ 20 then some a0 else none
theorem Ru (a0 : GValue) (r : GValue) (h : qc a0 = some r) : ∃ n, wj n a0 = some r := by
 unfold qc at h
 obtain ⟨ha, h⟩ := zF h
 exact ⟨2 * vsz a0 + 3, by rw [<- h]; exact OR _ a0 (Nat.lt_succ_self _) ha _ (Nat.le_refl _)⟩
theorem Bz : vU YO := by
 intro a0 r h
 obtain ⟨n, hn⟩ := Vj a0 r h
 exact (Wm n).1 a0 r hn
theorem Q5 : kn qc := by
 intro a0 r h
 obtain ⟨n, hn⟩ := Ru a0 r h
 exact (Wm n).2 a0 r hn
def ko (a0 : GEntry) : Option GEntry :=
 (zW a0.Addr).bind fun r1 =>
 (qc a0.Val).bind fun r2 =>
 (xa a0.Deps).bind fun r3 =>
 some (GEntry.mk r1 r2 r3 a0.Taint a0.Turned)
theorem U7 (a0 : GEntry) : Oc (ko a0) 131 [] [.val true (jU a0)] fun r => (.val true (TM r), []) := tc (
 .cl (w7 a0.Addr) fun r1 =>
 .cl (Q5 a0.Val) fun r2 =>
 .cl (Yq a0.Deps) fun r3 =>
 .ret (GEntry.mk r1 r2 r3 a0.Taint a0.Turned)) (zh Tryz.func131)
def Q6 (F : (List GEntry) → Option (List GEntry)) : Prop := ∀ (a0 : (List GEntry)), Oc (F a0) 75 [] [vq zl a0] fun r => (.val false [.own 9 (eL yc r)], [])
def wk (a0 : (List GEntry)) : Nat → Int → (List GEntry) → Option (Int × (List GEntry))
  | 0, _, _ => none
  | m + 1, v1, v2 =>
  if v1 < (a0.length : Int) then
   (zv v1).bind fun i2 =>
   (a0[i2]?).bind fun x3 =>
   (ko x3).bind fun r4 =>
   (v2[i2]?).bind fun x5 =>
   wk a0 m (w64 (v1 + 1)) (v2.set i2 r4)
  else
  some (v1, v2)
theorem K0 (a0 : (List GEntry)) (m : Nat) : ∀ (v1 : Int) (v2 : (List GEntry)), Ol (wk a0 m v1 v2) 75 (zN Tryz.f75 0) ⟨[(0, vq zl a0), (3, vr 0), (4, vi v1)], [.obj 9 (eL yc v2)], 0⟩ fun o => match o with | ⟨o_0, o_1⟩ => (.exit 0, ⟨[(0, vq zl a0), (3, vr 0), (4, vi o_0), (11, vb false)], [.obj 9 (eL yc o_1)], 0⟩) := by
  induction m with
  | zero => intro v1 v2 o h; cases h
  | succ m ih => exact fun v1 v2 => tlp (
   .le zl a0 <|
   .lI v1 (a0.length : Int) (fun c1 =>
    .na v1 fun i2 =>
    .ix zX a0 i2 fun x3 =>
    .cl (U7 x3) fun r4 =>
    .ag 2 <|
    .ix xy v2 i2 fun x5 =>
    .ag 0 <|
    .sl (xy r4) v2 i2 <|
    .go (ih (w64 (v1 + 1)) (v2.set i2 r4))) fun c1 =>
   .ret (v1, v2))
def YP (n : Nat) (a0 : (List GEntry)) : Option (List GEntry) :=
 (YI 152 (a0.length : Int)).bind fun k1 =>
 (wk a0 n 0 (List.replicate k1 (GEntry.mk [] (GValue.mk 0 0 [] [] []) [] false 0))).bind fun ⟨o2_0, o2_1⟩ =>
 some o2_1
theorem U8 (n : Nat) : Q6 (YP n) := fun a0 => tc (
 .le zl a0 <|
 .q (.eTo (a0.length : Int) (a0.length : Int) rfl) <|
 .md 152 (a0.length : Int) fun k1 =>
 .q ⟨.rep k1 [.own 1 [], .int .i64 0, .int .i64 0, .own 1 [], .own 1 [], .own 5 [], .own 1 [], .bool false, .int .i64 0], .l (eL yc (List.replicate k1 (GEntry.mk [] (GValue.mk 0 0 [] [] []) [] false 0))), A.rep (xy (GEntry.mk [] (GValue.mk 0 0 [] [] []) [] false 0))⟩ <|
 .lp (K0 a0 n 0 (List.replicate k1 (GEntry.mk [] (GValue.mk 0 0 [] [] []) [] false 0))) fun ⟨o2_0, o2_1⟩ =>
 .ret o2_1) (zh Tryz.func75)
theorem Ln {a : List GEntry} (ha : a.length <= 2 ^ 20) (hG : ∀ v ∈ a, ko v = some v) : ∀ (d i m : Nat) (v : List GEntry), i + d = a.length → d < m → Pre a v i → ∃ z, wk a m (i : Int) v = some (z, a) := by
 intro d
 induction d with
 | zero =>
  intro i m v hi hm hp
  obtain ⟨m, rfl, _⟩ := zi hm
  exact ⟨_, by rw [wk, if_neg (by omega), hp.done (by omega)]⟩
 | succ d ih =>
  intro i m v hi hm hp
  obtain ⟨m, rfl, hm'⟩ := zi hm
  have hil : i < a.length := by omega
  rw [wk, if_pos (by omega), zb, Option.bind_some, zd hil, Option.bind_some, hG _ (List.getElem_mem hil), Option.bind_some, zd (by rw [hp.1]; exact hil), Option.bind_some, z7 (by omega)]
  exact ih (i + 1) m _ (by omega) (by omega) (hp.step hil)
theorem Hw {v : GEntry} (h : esz v <= 2 ^ 20) : ko v = some v := by
 unfold esz at h
 unfold ko zW qc xa
 rw [if_pos (by omega), Option.bind_some, if_pos (by omega), Option.bind_some, if_pos (by omega), Option.bind_some]
 cases v; rfl
def jD (a0 : (List GEntry)) : Option (List GEntry) := if yr a0 <= 2 ^ 20 then some a0 else none
theorem Vk (a0 : (List GEntry)) (r : (List GEntry)) (h : jD a0 = some r) : ∃ n, YP n a0 = some r := by
 unfold jD at h
 obtain ⟨ha, h⟩ := zF h
 have hl := qP a0
 refine ⟨a0.length + 1, ?_⟩
 obtain ⟨z, hz⟩ := Ln (a := a0) (by omega) (fun v hv => Hw (by have := Qh hv; omega)) a0.length 0 (a0.length + 1) (List.replicate a0.length (GEntry.mk [] (GValue.mk 0 0 [] [] []) [] false 0)) (by omega) (by omega) (Pre.start (by simp))
 unfold YP
 rw [WE (by omega) (by decide), Option.bind_some, show (0 : Int) = ((0 : Nat) : Int) from rfl]
 exact (congrArg (fun x => Option.bind x _) hz).trans h
theorem Tg : Q6 jD := fun a0 r h => (Vk a0 r h).elim fun n hn => U8 n a0 r hn
def ZC (a0 : GState) : Option GState :=
 (zW a0.Pending).bind fun r1 =>
 (jD a0.Entries).bind fun r2 =>
 some (GState.mk a0.Serial a0.Open r1 a0.Act r2)
theorem U9 (a0 : GState) : Oc (ZC a0) 18 [] [.val true (yn a0)] fun r => (.val true (Qf r), []) := tc (
 .cl (w7 a0.Pending) fun r1 =>
 .cl (Tg a0.Entries) fun r2 =>
 .ret (GState.mk a0.Serial a0.Open r1 a0.Act r2)) (zh Tryz.func18)
def kq (a0 : GEvent) : Option GEvent :=
 (zW a0.Addr).bind fun r1 =>
 (qc a0.Val).bind fun r2 =>
 (xa a0.Deps).bind fun r3 =>
 some (GEvent.mk a0.Kind r1 a0.Act r2 r3)
theorem UA (a0 : GEvent) : Oc (kq a0) 19 [] [.val true (jp a0)] fun r => (.val true (Nx r), []) := tc (
 .cl (w7 a0.Addr) fun r1 =>
 .cl (Q5 a0.Val) fun r2 =>
 .cl (Yq a0.Deps) fun r3 =>
 .ret (GEvent.mk a0.Kind r1 a0.Act r2 r3)) (zh Tryz.func19)
def Q7 (F : (List GEvent) → Option (List GEvent)) : Prop := ∀ (a0 : (List GEvent)), Oc (F a0) 88 [] [vq zB a0] fun r => (.val false [.own 9 (eL jV r)], [])
def wl (a0 : (List GEvent)) : Nat → Int → (List GEvent) → Option (Int × (List GEvent))
  | 0, _, _ => none
  | m + 1, v1, v2 =>
  if v1 < (a0.length : Int) then
   (zv v1).bind fun i2 =>
   (a0[i2]?).bind fun x3 =>
   (kq x3).bind fun r4 =>
   (v2[i2]?).bind fun x5 =>
   wl a0 m (w64 (v1 + 1)) (v2.set i2 r4)
  else
  some (v1, v2)
theorem K1 (a0 : (List GEvent)) (m : Nat) : ∀ (v1 : Int) (v2 : (List GEvent)), Ol (wl a0 m v1 v2) 88 (zN Tryz.f88 0) ⟨[(0, vq zB a0), (3, vr 0), (4, vi v1)], [.obj 9 (eL jV v2)], 0⟩ fun o => match o with | ⟨o_0, o_1⟩ => (.exit 0, ⟨[(0, vq zB a0), (3, vr 0), (4, vi o_0), (11, vb false)], [.obj 9 (eL jV o_1)], 0⟩) := by
  induction m with
  | zero => intro v1 v2 o h; cases h
  | succ m ih => exact fun v1 v2 => tlp (
   .le zB a0 <|
   .lI v1 (a0.length : Int) (fun c1 =>
    .na v1 fun i2 =>
    .ix qD a0 i2 fun x3 =>
    .cl (UA x3) fun r4 =>
    .ag 2 <|
    .ix JW v2 i2 fun x5 =>
    .ag 0 <|
    .sl (JW r4) v2 i2 <|
    .go (ih (w64 (v1 + 1)) (v2.set i2 r4))) fun c1 =>
   .ret (v1, v2))
def YQ (n : Nat) (a0 : (List GEvent)) : Option (List GEvent) :=
 (YI 152 (a0.length : Int)).bind fun k1 =>
 (wl a0 n 0 (List.replicate k1 (GEvent.mk 0 [] 0 (GValue.mk 0 0 [] [] []) []))).bind fun ⟨o2_0, o2_1⟩ =>
 some o2_1
theorem UB (n : Nat) : Q7 (YQ n) := fun a0 => tc (
 .le zB a0 <|
 .q (.eTo (a0.length : Int) (a0.length : Int) rfl) <|
 .md 152 (a0.length : Int) fun k1 =>
 .q ⟨.rep k1 [.int .i64 0, .own 1 [], .int .i64 0, .int .i64 0, .int .i64 0, .own 1 [], .own 1 [], .own 5 [], .own 1 []], .l (eL jV (List.replicate k1 (GEvent.mk 0 [] 0 (GValue.mk 0 0 [] [] []) []))), A.rep (JW (GEvent.mk 0 [] 0 (GValue.mk 0 0 [] [] []) []))⟩ <|
 .lp (K1 a0 n 0 (List.replicate k1 (GEvent.mk 0 [] 0 (GValue.mk 0 0 [] [] []) []))) fun ⟨o2_0, o2_1⟩ =>
 .ret o2_1) (zh Tryz.func88)
theorem Lo {a : List GEvent} (ha : a.length <= 2 ^ 20) (hG : ∀ v ∈ a, kq v = some v) : ∀ (d i m : Nat) (v : List GEvent), i + d = a.length → d < m → Pre a v i → ∃ z, wl a m (i : Int) v = some (z, a) := by
 intro d
 induction d with
 | zero =>
  intro i m v hi hm hp
  obtain ⟨m, rfl, _⟩ := zi hm
  exact ⟨_, by rw [wl, if_neg (by omega), hp.done (by omega)]⟩
 | succ d ih =>
  intro i m v hi hm hp
  obtain ⟨m, rfl, hm'⟩ := zi hm
  have hil : i < a.length := by omega
  rw [wl, if_pos (by omega), zb, Option.bind_some, zd hil, Option.bind_some, hG _ (List.getElem_mem hil), Option.bind_some, zd (by rw [hp.1]; exact hil), Option.bind_some, z7 (by omega)]
  exact ih (i + 1) m _ (by omega) (by omega) (hp.step hil)
theorem Hx {v : GEvent} (h : qE v <= 2 ^ 20) : kq v = some v := by
 unfold qE at h
 unfold kq zW qc xa
 rw [if_pos (by omega), Option.bind_some, if_pos (by omega), Option.bind_some, if_pos (by omega), Option.bind_some]
 cases v; rfl
def jE (a0 : (List GEvent)) : Option (List GEvent) := if yk a0 <= 2 ^ 20 then some a0 else none
theorem Vl (a0 : (List GEvent)) (r : (List GEvent)) (h : jE a0 = some r) : ∃ n, YQ n a0 = some r := by
 unfold jE at h
 obtain ⟨ha, h⟩ := zF h
 have hl := Zz a0
 refine ⟨a0.length + 1, ?_⟩
 obtain ⟨z, hz⟩ := Lo (a := a0) (by omega) (fun v hv => Hx (by have := VU hv; omega)) a0.length 0 (a0.length + 1) (List.replicate a0.length (GEvent.mk 0 [] 0 (GValue.mk 0 0 [] [] []) [])) (by omega) (by omega) (Pre.start (by simp))
 unfold YQ
 rw [WE (by omega) (by decide), Option.bind_some, show (0 : Int) = ((0 : Nat) : Int) from rfl]
 exact (congrArg (fun x => Option.bind x _) hz).trans h
theorem Th : Q7 jE := fun a0 r h => (Vl a0 r h).elim fun n hn => UB n a0 r hn
def kY (a0 : GHistory) : Option GHistory :=
 (ZC a0.Base).bind fun r1 =>
 (jE a0.Events).bind fun r2 =>
 some (GHistory.mk r1 r2 a0.Safe)
theorem Rv (a0 : GHistory) : Oc (kY a0) 28 [] [.val true (yh a0)] fun r => (.val true (Pl r), []) := tc (
 .cl (U9 a0.Base) fun r1 =>
 .cl (Th a0.Events) fun r2 =>
 .ret (GHistory.mk r1 r2 a0.Safe)) (zh Tryz.func28)
def vg (a0 : GStep) : Option GStep :=
 (zW a0.Key).bind fun r1 =>
 some (GStep.mk a0.Kind r1 a0.I)
theorem PV (a0 : GStep) : Oc (vg a0) 110 [] [.val true (X7 a0)] fun r => (.val true (G6 r), []) := tc (
 .cl (w7 a0.Key) fun r1 =>
 .ret (GStep.mk a0.Kind r1 a0.I)) (zh Tryz.func110)
def Jh (F : (List GStep) → Option (List GStep)) : Prop := ∀ (a0 : (List GStep)), Oc (F a0) 58 [] [vq zw a0] fun r => (.val false [.own 3 (eL Y7 r)], [])
def wH (a0 : (List GStep)) : Nat → Int → (List GStep) → Option (Int × (List GStep))
  | 0, _, _ => none
  | m + 1, v1, v2 =>
  if v1 < (a0.length : Int) then
   (zv v1).bind fun i2 =>
   (a0[i2]?).bind fun x3 =>
   (vg x3).bind fun r4 =>
   (v2[i2]?).bind fun x5 =>
   wH a0 m (w64 (v1 + 1)) (v2.set i2 r4)
  else
  some (v1, v2)
theorem Vm (a0 : (List GStep)) (m : Nat) : ∀ (v1 : Int) (v2 : (List GStep)), Ol (wH a0 m v1 v2) 58 (zN Tryz.f58 0) ⟨[(0, vq zw a0), (3, vr 0), (4, vi v1)], [.obj 3 (eL Y7 v2)], 0⟩ fun o => match o with | ⟨o_0, o_1⟩ => (.exit 0, ⟨[(0, vq zw a0), (3, vr 0), (4, vi o_0), (11, vb false)], [.obj 3 (eL Y7 o_1)], 0⟩) := by
  induction m with
  | zero => intro v1 v2 o h; cases h
  | succ m ih => exact fun v1 v2 => tlp (
   .le zw a0 <|
   .lI v1 (a0.length : Int) (fun c1 =>
    .na v1 fun i2 =>
    .ix qO a0 i2 fun x3 =>
    .cl (PV x3) fun r4 =>
    .ag 2 <|
    .ix VQ v2 i2 fun x5 =>
    .ag 0 <|
    .sl (VQ r4) v2 i2 <|
    .go (ih (w64 (v1 + 1)) (v2.set i2 r4))) fun c1 =>
   .ret (v1, v2))
def Xx (n : Nat) (a0 : (List GStep)) : Option (List GStep) :=
 (YI 40 (a0.length : Int)).bind fun k1 =>
 (wH a0 n 0 (List.replicate k1 (GStep.mk 0 [] 0))).bind fun ⟨o2_0, o2_1⟩ =>
 some o2_1
theorem PW (n : Nat) : Jh (Xx n) := fun a0 => tc (
 .le zw a0 <|
 .q (.eTo (a0.length : Int) (a0.length : Int) rfl) <|
 .md 40 (a0.length : Int) fun k1 =>
 .q ⟨.rep k1 [.int .i64 0, .own 1 [], .int .i64 0], .l (eL Y7 (List.replicate k1 (GStep.mk 0 [] 0))), A.rep (VQ (GStep.mk 0 [] 0))⟩ <|
 .lp (Vm a0 n 0 (List.replicate k1 (GStep.mk 0 [] 0))) fun ⟨o2_0, o2_1⟩ =>
 .ret o2_1) (zh Tryz.func58)
theorem MO {a : List GStep} (ha : a.length <= 2 ^ 20) (hG : ∀ v ∈ a, vg v = some v) : ∀ (d i m : Nat) (v : List GStep), i + d = a.length → d < m → Pre a v i → ∃ z, wH a m (i : Int) v = some (z, a) := by
 intro d
 induction d with
 | zero =>
  intro i m v hi hm hp
  obtain ⟨m, rfl, _⟩ := zi hm
  exact ⟨_, by rw [wH, if_neg (by omega), hp.done (by omega)]⟩
 | succ d ih =>
  intro i m v hi hm hp
  obtain ⟨m, rfl, hm'⟩ := zi hm
  have hil : i < a.length := by omega
  rw [wH, if_pos (by omega), zb, Option.bind_some, zd hil, Option.bind_some, hG _ (List.getElem_mem hil), Option.bind_some, zd (by rw [hp.1]; exact hil), Option.bind_some, z7 (by omega)]
  exact ih (i + 1) m _ (by omega) (by omega) (hp.step hil)
theorem EJ {v : GStep} (h : vK v <= 2 ^ 20) : vg v = some v := by
 unfold vK at h
 unfold vg zW
 rw [if_pos (by omega), Option.bind_some]
 cases v; rfl
def kr (a0 : (List GStep)) : Option (List GStep) := if wT a0 <= 2 ^ 20 then some a0 else none
theorem Rw (a0 : (List GStep)) (r : (List GStep)) (h : kr a0 = some r) : ∃ n, Xx n a0 = some r := by
 unfold kr at h
 obtain ⟨ha, h⟩ := zF h
 have hl := QO a0
 refine ⟨a0.length + 1, ?_⟩
 obtain ⟨z, hz⟩ := MO (a := a0) (by omega) (fun v hv => EJ (by have := QN hv; omega)) a0.length 0 (a0.length + 1) (List.replicate a0.length (GStep.mk 0 [] 0)) (by omega) (by omega) (Pre.start (by simp))
 unfold Xx
 rw [WE (by omega) (by decide), Option.bind_some, show (0 : Int) = ((0 : Nat) : Int) from rfl]
 exact (congrArg (fun x => Option.bind x _) hz).trans h
theorem UC : Jh kr := fun a0 r h => (Rw a0 r h).elim fun n hn => PW n a0 r hn
def Kg (F : (List UInt8) → Option Bool) : Prop := ∀ (a0 : (List UInt8)), Oc (F a0) 152 [] [vq za a0] fun r => (vb r, [])
def qd (a0 : (List UInt8)) : Nat → Int → Option (Bool ⊕ Int)
  | 0, _ => none
  | m + 1, v1 =>
  if v1 < (a0.length : Int) then
   (zv v1).bind fun i2 =>
   (a0[i2]?).bind fun x3 =>
   if ((x3.toNat : Nat) : Int) < 97 then
    some (.inl false)
   else
   if 122 < ((x3.toNat : Nat) : Int) then
    some (.inl false)
   else
   qd a0 m (w64 (v1 + 1))
  else
  some (.inr v1)
theorem Rx (a0 : (List UInt8)) (m : Nat) : ∀ (v1 : Int), Ol (qd a0 m v1) 152 (zN Tryz.f152 0) ⟨[(0, vq za a0), (3, vi v1)], [], 0⟩ fun o => match o with | .inl o_0 => (.ret, ⟨[(2, vb o_0)], [], 0⟩) | .inr (o_1) => (.exit 0, ⟨[(0, vq za a0), (3, vi o_1), (15, vb false)], [], 0⟩) := by
  induction m with
  | zero => intro v1 o h; cases h
  | succ m ih => exact fun v1 => tlp (
   .le za a0 <|
   .lI v1 (a0.length : Int) (fun c1 =>
    .na v1 fun i2 =>
    .ix0 za a0 i2 fun x3 =>
    .lI ((x3.toNat : Nat) : Int) 97 (fun c4 =>
     .ret (.inl false)) fun c4 =>
    .ag 1 <|
    .ag 0 <|
    .lI 122 ((x3.toNat : Nat) : Int) (fun c5 =>
     .ret (.inl false)) fun c5 =>
    .go (ih (w64 (v1 + 1)))) fun c1 =>
   .ret (.inr v1))
def XY (n : Nat) (a0 : (List UInt8)) : Option Bool :=
 if (a0.length : Int) < 1 then
  some false
 else
 if 8 < (a0.length : Int) then
  some false
 else
 (qd a0 n 0).bind fun o3 =>
 match o3 with
 | .inl o3_0 =>
  some o3_0
 | .inr (o3_1) =>
  some true
theorem Lq (n : Nat) : Kg (XY n) := fun a0 => tc (
 .le za a0 <|
 .lI (a0.length : Int) 1 (fun c1 =>
  .ret false) fun c1 =>
 .le za a0 <|
 .lI 8 (a0.length : Int) (fun c2 =>
  .ret false) fun c2 =>
 .l2 (Rx a0 n 0) (fun o3_0 =>
  .ret o3_0) fun o3_1 =>
 .ret true) (zh Tryz.func152)
theorem Ti {a : List UInt8} (ha : a.length <= 2 ^ 20) : ∀ (d i m : Nat), i + d = a.length → d < m → ∃ z, qd a m (i : Int) = some (if (a.drop i).all (inB 97 122) = true then .inr z else .inl false) := by
 intro d
 induction d with
 | zero =>
  intro i m hi hm
  obtain ⟨m, rfl, _⟩ := zi hm
  exact ⟨_, by rw [qd, if_neg (by omega), List.drop_eq_nil_of_le (by omega)]; rfl⟩
 | succ d ih =>
  intro i m hi hm
  obtain ⟨m, rfl, hm'⟩ := zi hm
  have hil : i < a.length := by omega
  rw [qd, if_pos (by omega), zb, Option.bind_some, zd hil, Option.bind_some, z7 (by omega), yU hil, List.all_cons]
  by_cases h1 : ((a[i].toNat : Nat) : Int) < 97
  ·exact ⟨0, by rw [if_pos h1, if_neg]; simp [inB]; omega⟩
  ·rw [if_neg h1]
   by_cases h2 : (122 : Int) < ((a[i].toNat : Nat) : Int)
   ·exact ⟨0, by rw [if_pos h2, if_neg]; simp [inB]; omega⟩
   ·rw [if_neg h2, show inB 97 122 a[i] = true by simp [inB]; omega, Bool.true_and]
    exact ih (i + 1) m (by omega) (by omega)
def xn (a0 : (List UInt8)) : Option Bool := if a0.length <= 2 ^ 20 then some (wD a0) else none
theorem Tj (a0 : (List UInt8)) (r : Bool) (h : xn a0 = some r) : ∃ n, XY n a0 = some r := by
 unfold xn at h
 obtain ⟨ha, h⟩ := zF h
 refine ⟨a0.length + 1, ?_⟩
 obtain ⟨z, hz⟩ := Ti ha a0.length 0 (a0.length + 1) (by omega) (by omega)
 rw [show ((0 : Nat) : Int) = 0 from rfl, List.drop_zero] at hz
 unfold XY
 rw [<- h, hz]
 unfold wD
 by_cases h1 : 1 <= a0.length
 ·rw [if_neg (by omega)]
  by_cases hl : a0.length <= 8
  ·rw [if_neg (by omega), decide_eq_true ⟨h1, hl⟩]
   cases a0.all (inB 97 122) <;> rfl
  ·rw [if_pos (by omega), decide_eq_false (fun h => hl h.2)]; rfl
 ·rw [if_pos (by omega), decide_eq_false (fun h => h1 h.1)]; rfl
theorem ZD : Kg xn := fun a0 r h => (Tj a0 r h).elim fun n hn => Lq n a0 r hn
def Ji (F : (List UInt8) → Option ((List UInt8) × (List UInt8) × Bool)) : Prop := ∀ (a0 : (List UInt8)), Oc (F a0) 167 [] [vq za a0] fun r => (.tup [(false, [cq za r.1]), (false, [cq za r.2.1]), (false, [.bool r.2.2])], [])
def wI (a0 : (List UInt8)) : Nat → Int → Option Int
  | 0, _ => none
  | m + 1, v1 =>
  if v1 < (a0.length : Int) then
   (zv v1).bind fun i2 =>
   (a0[i2]?).bind fun x3 =>
   if ((x3.toNat : Nat) : Int) = 91 then
    some v1
   else
   wI a0 m (w64 (v1 + 1))
  else
  some v1
theorem Vn (a0 : (List UInt8)) (m : Nat) : ∀ (v1 : Int), Ol (wI a0 m v1) 167 (zN Tryz.f167 0) ⟨[(0, vq za a0), (5, vi v1)], [], 0⟩ fun o => (.exit 0, ⟨[(0, vq za a0), (5, vi o), (20, vb false)], [], 0⟩) := by
  induction m with
  | zero => intro v1 o h; cases h
  | succ m ih => exact fun v1 => tlp (
   .le za a0 <|
   .lI v1 (a0.length : Int) (fun c1 =>
    .na v1 fun i2 =>
    .ix0 za a0 i2 fun x3 =>
    .eI ((x3.toNat : Nat) : Int) 91 (fun c4 =>
     .ret v1) fun c4 =>
    .go (ih (w64 (v1 + 1)))) fun c1 =>
   .ret v1)
def xD (a0 : (List UInt8)) (v1 : Int) (v2 : (List UInt8)) (v3 : (List UInt8)) : Nat → Int → Option ((Bool × (List UInt8)) ⊕ Int)
  | 0, _ => none
  | m + 1, v4 =>
  if v4 < (v3.length : Int) then
   (zv v4).bind fun i2 =>
   (v3[i2]?).bind fun x3 =>
   if ((x3.toNat : Nat) : Int) < 48 then
    some (.inl (false, []))
   else
   if 57 < ((x3.toNat : Nat) : Int) then
    some (.inl (false, []))
   else
   xD a0 v1 v2 v3 m (w64 (v4 + 1))
  else
  some (.inr v4)
theorem XN (a0 : (List UInt8)) (v1 : Int) (v2 : (List UInt8)) (v3 : (List UInt8)) (m : Nat) : ∀ (v4 : Int), Ol (xD a0 v1 v2 v3 m v4) 167 (zN Tryz.f167 1) ⟨[(0, vq za a0), (5, vi v1), (6, vq za v2), (8, vq za v3), (9, vi v4)], [], 0⟩ fun o => match o with | .inl ⟨o_0_0, o_0_1⟩ => (.ret, ⟨[(2, vr 0), (3, vr 1), (4, vb o_0_0)], [.obj 1 (eL za o_0_1), .obj 1 (eL za o_0_1)], 0⟩) | .inr (o_1) => (.exit 2, ⟨[(0, vq za a0), (5, vi v1), (6, vq za v2), (8, vq za v3), (9, vi o_1), (98, vb false)], [], 0⟩) := by
  induction m with
  | zero => intro v4 o h; cases h
  | succ m ih => exact fun v4 => tlp (
   .le za v3 <|
   .lI v4 (v3.length : Int) (fun c1 =>
    .na v4 fun i2 =>
    .ix0 za v3 i2 fun x3 =>
    .lI ((x3.toNat : Nat) : Int) 48 (fun c4 =>
     .ret (.inl (false, []))) fun c4 =>
    .ag 1 <|
    .ag 0 <|
    .lI 57 ((x3.toNat : Nat) : Int) (fun c5 =>
     .ret (.inl (false, []))) fun c5 =>
    .go (ih (w64 (v4 + 1)))) fun c1 =>
   .ret (.inr v4))
def ZE (n : Nat) (a0 : (List UInt8)) : Option ((List UInt8) × (List UInt8) × Bool) :=
 (wI a0 n 0).bind fun o1 =>
 (zv o1).bind fun i2 =>
 (w6 a0 none (some i2)).bind fun s3 =>
 (xn s3).bind fun r4 =>
 match r4 with
 | true =>
  (w6 a0 (some i2) none).bind fun s5 =>
  if (s5.length : Int) = 0 then
   some (a0, s5, true)
  else
  if (s5.length : Int) < 3 then
   some ([], [], false)
  else
  (zv (w64 ((s5.length : Int) - 1))).bind fun i8 =>
  (s5[i8]?).bind fun x9 =>
  if ((x9.toNat : Nat) : Int) = 93 then
   (w6 s5 (some 1) (some i8)).bind fun s11 =>
   (s11[0]?).bind fun x12 =>
   if ((x12.toNat : Nat) : Int) = 34 then
    if (s11.length : Int) < 3 then
     some ([], [], false)
    else
    (zv (w64 ((s11.length : Int) - 1))).bind fun i15 =>
    (s11[i15]?).bind fun x16 =>
    if ((x16.toNat : Nat) : Int) = 34 then
     (w6 s11 (some 1) (some i15)).bind fun s18 =>
     (xn s18).bind fun r19 =>
     match r19 with
     | true =>
      some (s3, s5, true)
     | false =>
      some ([], [], false)
    else
    some ([], [], false)
   else
   if 2 < (s11.length : Int) then
    some ([], [], false)
   else
   if (s11.length : Int) = 2 then
    if ((x12.toNat : Nat) : Int) = 48 then
     some ([], [], false)
    else
    (xD a0 o1 s5 s11 n 0).bind fun o17 =>
    match o17 with
    | .inl ⟨o17_0_0, o17_0_1⟩ =>
     some (o17_0_1, o17_0_1, o17_0_0)
    | .inr (o17_1) =>
     some (s3, s5, true)
   else
   (xD a0 o1 s5 s11 n 0).bind fun o16 =>
   match o16 with
   | .inl ⟨o16_0_0, o16_0_1⟩ =>
    some (o16_0_1, o16_0_1, o16_0_0)
   | .inr (o16_1) =>
    some (s3, s5, true)
  else
  some ([], [], false)
 | false =>
  some ([], [], false)
theorem PX (n : Nat) : Ji (ZE n) := fun a0 => tc (
 .lp (Vn a0 n 0) fun o1 =>
 .na o1 fun i2 =>
 .ct za a0 none (some i2) fun s3 =>
 .un zZ a0 <|
 .cl (ZD s3) fun r4 =>
 .vN 0 r4 (
  .ag 3 <|
  .ct za a0 (some i2) none fun s5 =>
  .un zZ a0 <|
  .le za s5 <|
  .eI (s5.length : Int) 0 (fun c6 =>
   .ret (a0, s5, true)) fun c6 =>
  .le za s5 <|
  .lI (s5.length : Int) 3 (fun c7 =>
   .vw zZ [] <|
   .vw zZ [] <|
   .ret ([], [], false)) fun c7 =>
  .na (w64 ((s5.length : Int) - 1)) fun i8 =>
  .ix0 za s5 i8 fun x9 =>
  .eI ((x9.toNat : Nat) : Int) 93 (fun c10 =>
   .nl 1 <|
   .ag 1 <|
   .ct za s5 (some 1) (some i8) fun s11 =>
   .un zZ s5 <|
   .nl 0 <|
   .ix0 za s11 0 fun x12 =>
   .eI ((x12.toNat : Nat) : Int) 34 (fun c13 =>
    .le za s11 <|
    .lI (s11.length : Int) 3 (fun c14 =>
     .vw zZ [] <|
     .vw zZ [] <|
     .ret ([], [], false)) fun c14 =>
    .le za s11 <|
    .na (w64 ((s11.length : Int) - 1)) fun i15 =>
    .ix0 za s11 i15 fun x16 =>
    .eI ((x16.toNat : Nat) : Int) 34 (fun c17 =>
     .le za s11 <|
     .nl 1 <|
     .ag 1 <|
     .ct za s11 (some 1) (some i15) fun s18 =>
     .un zZ s11 <|
     .cl (ZD s18) fun r19 =>
     .vN 2 r19 (
      .ag 13 <|
      .ag 12 <|
      .un zZ a0 <|
      .ret (s3, s5, true)) <|
     .vw zZ [] <|
     .vw zZ [] <|
     .ret ([], [], false)) fun c17 =>
    .vw zZ [] <|
    .vw zZ [] <|
    .ret ([], [], false)) fun c13 =>
   .le za s11 <|
   .lI 2 (s11.length : Int) (fun c14 =>
    .vw zZ [] <|
    .vw zZ [] <|
    .ret ([], [], false)) fun c14 =>
   .le za s11 <|
   .eI (s11.length : Int) 2 (fun c15 =>
    .nl 0 <|
    .ag 0 <|
    .eI ((x12.toNat : Nat) : Int) 48 (fun c16 =>
     .vw zZ [] <|
     .vw zZ [] <|
     .ret ([], [], false)) fun c16 =>
    .l2 (XN a0 o1 s5 s11 n 0) (fun ⟨o17_0_0, o17_0_1⟩ =>
     .vw zZ o17_0_1 <|
     .vw zZ o17_0_1 <|
     .ret (o17_0_1, o17_0_1, o17_0_0)) fun o17_1 =>
    .ag 9 <|
    .ag 8 <|
    .un zZ a0 <|
    .ret (s3, s5, true)) fun c15 =>
   .l2 (XN a0 o1 s5 s11 n 0) (fun ⟨o16_0_0, o16_0_1⟩ =>
    .vw zZ o16_0_1 <|
    .vw zZ o16_0_1 <|
    .ret (o16_0_1, o16_0_1, o16_0_0)) fun o16_1 =>
   .ag 9 <|
   .ag 8 <|
   .un zZ a0 <|
   .ret (s3, s5, true)) fun c10 =>
  .vw zZ [] <|
  .vw zZ [] <|
  .ret ([], [], false)) <|
 .vw zZ [] <|
 .vw zZ [] <|
 .ret ([], [], false)) (zh Tryz.func167)
theorem B0 {a : List UInt8} (ha : a.length <= 2 ^ 20) : ∀ (d i m : Nat), i + d = a.length → d < m → wI a m (i : Int) = some ((i + (vJ (a.drop i)).length : Nat) : Int) := by
 intro d
 induction d with
 | zero =>
  intro i m hi hm
  obtain ⟨m, rfl, _⟩ := zi hm
  rw [wI, if_neg (by omega), List.drop_eq_nil_of_le (by omega)]; rfl
 | succ d ih =>
  intro i m hi hm
  obtain ⟨m, rfl, hm'⟩ := zi hm
  have hil : i < a.length := by omega
  rw [wI, if_pos (by omega), zb, Option.bind_some, zd hil, Option.bind_some, yU hil]
  unfold vJ
  rw [List.takeWhile_cons]
  by_cases h : a[i] = 91
  ·rw [h, if_pos (by decide), if_neg (by simp)]; rfl
  ·have : ¬ ((a[i].toNat : Nat) : Int) = 91 := fun e => h (UInt8.toNat_inj.1 (by show a[i].toNat = 91; omega))
   rw [if_neg this, if_pos (by simpa using h), z7 (by omega), ih (i + 1) m (by omega) (by omega)]
   unfold vJ
   rw [List.length_cons]
   congr 2; omega
theorem zb7 {a v2 l : List UInt8} {v1 : Int} (hl : l.length <= 2 ^ 20) : ∀ (d i m : Nat), i + d = l.length → d < m → ∃ z, xD a v1 v2 l m (i : Int) = some (if (l.drop i).all (inB 48 57) = true then .inr z else .inl (false, [])) := by
 intro d
 induction d with
 | zero =>
  intro i m hi hm
  obtain ⟨m, rfl, _⟩ := zi hm
  exact ⟨_, by rw [xD, if_neg (by omega), List.drop_eq_nil_of_le (by omega)]; rfl⟩
 | succ d ih =>
  intro i m hi hm
  obtain ⟨m, rfl, hm'⟩ := zi hm
  have hil : i < l.length := by omega
  rw [xD, if_pos (by omega), zb, Option.bind_some, zd hil, Option.bind_some, z7 (by omega), yU hil, List.all_cons]
  by_cases h1 : ((l[i].toNat : Nat) : Int) < 48
  ·exact ⟨0, by rw [if_pos h1, if_neg]; simp [inB]; omega⟩
  ·rw [if_neg h1]
   by_cases h2 : (57 : Int) < ((l[i].toNat : Nat) : Int)
   ·exact ⟨0, by rw [if_pos h2, if_neg]; simp [inB]; omega⟩
   ·rw [if_neg h2, show inB 48 57 l[i] = true by simp [inB]; omega, Bool.true_and]
    exact ih (i + 1) m (by omega) (by omega)
def UD (a : List UInt8) : (List UInt8) × (List UInt8) × Bool := if yj a = true then (vJ a, jX a, true) else ([], [], false)
theorem LM {x : UInt8} {n : Nat} (hn : n < 256) : ((x.toNat : Nat) : Int) = (n : Int) ↔ x = UInt8.ofNat n := by
 constructor
 ·intro h
  refine UInt8.toNat_inj.1 ?_
  rw [UInt8.toNat_ofNat_of_lt' hn]; omega
 ·intro h
  subst h
  rw [UInt8.toNat_ofNat_of_lt' hn]
theorem NO {a : List UInt8} (ha : a.length <= 2 ^ 20) : ZE (a.length + 5) a = some (UD a) := by
 have hlen := N4 a
 have h0 := B0 ha a.length 0 (a.length + 5) (by omega) (by omega)
 rw [List.drop_zero, Nat.zero_add, show ((0 : Nat) : Int) = 0 from rfl] at h0
 unfold ZE
 rw [h0, Option.bind_some, zb, Option.bind_some, Pm (by omega), Option.bind_some, G9]
 unfold xn
 rw [if_pos (by omega), Option.bind_some]
 unfold UD
 have hfalse : ∀ {x : (List UInt8) × (List UInt8) × Bool}, yj a = false → some (([] : List UInt8), ([] : List UInt8), false) = some (if yj a = true then x else ([], [], false)) := fun h => by rw [h]; rfl
 cases hn : wD (vJ a) with
 | false => exact hfalse (by unfold yj; rw [hn]; rfl)
 | true =>
  dsimp only
  have hA : yj a = (if jX a = [] then true else if ((jX a).drop 1).getLast? = some 93 then HF ((jX a).drop 1).dropLast else false) := by unfold yj; rw [hn, Bool.true_and]
  rw [JZ (by omega), Option.bind_some, GA]
  by_cases hr : jX a = []
  ·rw [hr, if_pos (by simp), hA, if_pos hr]
   have := Pn a
   rw [hr, List.append_nil] at this
   rw [this]; rfl
  obtain ⟨t, ht⟩ := GB hr
  rw [ht] at hlen hA ⊢
  rw [if_neg (by simp)] at hA
  simp only [List.drop_succ_cons, List.drop_zero] at hA
  rw [if_neg (by simp; omega)]
  by_cases h3 : ((91 :: t : List UInt8).length : Int) < 3
  ·rw [if_pos h3]
   refine hfalse ?_
   rw [hA]
   simp only [List.length_cons] at h3
   match t, h3 with
   | [], _ => rfl
   | [x], _ =>
    split
    ·rfl
    ·rfl
   | x :: y :: t, h3 => simp at h3; omega
  rw [if_neg h3]
  simp only [List.length_cons] at h3
  have ht0 : 0 < t.length := by omega
  rw [show w64 (((91 :: t : List UInt8).length : Int) - 1) = (((91 :: t : List UInt8).length - 1 : Nat) : Int) from jR (by simp only [List.length_cons] at hlen ⊢; omega) (by simp), zb, Option.bind_some]
  have hlast : (91 :: t : List UInt8)[(91 :: t : List UInt8).length - 1]? = t.getLast? := by
   rw [N3 (by simp), List.getLast?_cons]
   cases t with
   | nil => simp at ht0
   | cons x t => rw [List.getLast?_cons]; rfl
  rw [hlast]
  obtain ⟨x, hx⟩ : ∃ x, t.getLast? = some x := by
   cases t with
   | nil => simp at ht0
   | cons y t => exact ⟨_, List.getLast?_cons⟩
  rw [hx, Option.bind_some]
  rw [hx] at hA
  have htrue : ∀ {x : (List UInt8) × (List UInt8) × Bool}, yj a = true → some x = some (if yj a = true then x else ([], [], false)) := fun h => by rw [h]; rfl
  by_cases h93 : ¬ x = 93
  ·rw [if_neg (show ¬ ((x.toNat : Nat) : Int) = 93 from fun h => h93 ((LM (n := 93) (by decide)).1 h))]
   refine hfalse ?_
   rw [hA, if_neg (by simpa using h93)]
  have h93 : x = 93 := Classical.not_not.1 h93
  subst h93
  rw [if_pos (by decide)]
  rw [if_pos rfl] at hA
  have hmid := G8 (l := 91 :: t) (by simp; omega)
  rw [List.drop_succ_cons, List.drop_zero] at hmid
  rw [hmid, Option.bind_some]
  have hdl : t.dropLast.length = t.length - 1 := List.length_dropLast
  generalize t.dropLast = l at hdl hA ⊢
  cases l with
  | nil => simp at hdl; omega
  | cons c r =>
  rw [show (c :: r : List UInt8)[0]? = some c from rfl, Option.bind_some]
  unfold HF at hA
  rw [show (c :: r : List UInt8)[0]? = some c from rfl, List.drop_succ_cons, List.drop_zero] at hA
  have hcl : (c :: r : List UInt8).length <= 2 ^ 20 := by simp only [List.length_cons] at hdl hlen ⊢; omega
  by_cases h34 : c = 34
  ·subst h34
   rw [if_pos (by decide)]
   rw [if_pos rfl] at hA
   by_cases hl3 : ((34 :: r : List UInt8).length : Int) < 3
   ·rw [if_pos hl3]
    refine hfalse ?_
    rw [hA]
    simp only [List.length_cons] at hl3
    match r, hl3 with
    | [], _ => rfl
    | [y], _ =>
     split
     ·rfl
     ·rfl
    | x :: y :: r, h => simp at h; omega
   rw [if_neg hl3]
   simp only [List.length_cons] at hl3
   have hr0 : 0 < r.length := by omega
   rw [show w64 (((34 :: r : List UInt8).length : Int) - 1) = (((34 :: r : List UInt8).length - 1 : Nat) : Int) from jR (by omega) (by simp), zb, Option.bind_some]
   have hlast2 : (34 :: r : List UInt8)[(34 :: r : List UInt8).length - 1]? = r.getLast? := by
    rw [N3 (by simp), List.getLast?_cons]
    cases r with
    | nil => simp at hr0
    | cons x r => rw [List.getLast?_cons]; rfl
   obtain ⟨y, hy⟩ : ∃ y, r.getLast? = some y := by
    cases r with
    | nil => simp at hr0
    | cons y r => exact ⟨_, List.getLast?_cons⟩
   rw [hlast2, hy, Option.bind_some]
   rw [hy] at hA
   by_cases hy34 : y = 34
   ·subst hy34
    rw [if_pos (by decide)]
    rw [if_pos rfl] at hA
    have hm2 := G8 (l := 34 :: r) (by simp; omega)
    rw [List.drop_succ_cons, List.drop_zero] at hm2
    rw [hm2, Option.bind_some, if_pos (by rw [List.length_dropLast]; simp only [List.length_cons] at hcl; omega), Option.bind_some]
    cases hk : wD r.dropLast with
    | true => exact htrue (by rw [hA, hk])
    | false => exact hfalse (by rw [hA, hk])
   ·rw [if_neg (show ¬ ((y.toNat : Nat) : Int) = 34 from fun h => hy34 ((LM (n := 34) (by decide)).1 h))]
    exact hfalse (by rw [hA, if_neg (by simpa using hy34)])
  ·rw [if_neg (show ¬ ((c.toNat : Nat) : Int) = 34 from fun h => h34 ((LM (n := 34) (by decide)).1 h))]
   rw [if_neg (by simpa using h34)] at hA
   unfold Ka at hA
   rw [show (c :: r : List UInt8)[0]? = some c from rfl] at hA
   obtain ⟨z, hz⟩ := zb7 (a := a) (v2 := 91 :: t) (l := c :: r) (v1 := ((vJ a).length : Int)) hcl (c :: r).length 0 (a.length + 5) (by omega) (by simp only [List.length_cons] at hlen hdl ⊢; omega)
   rw [List.drop_zero, show ((0 : Nat) : Int) = 0 from rfl] at hz
   by_cases h2 : (2 : Int) < ((c :: r : List UInt8).length : Int)
   ·rw [if_pos h2]
    exact hfalse (by rw [hA, decide_eq_false (by omega)]; rfl)
   rw [if_neg h2]
   have h12 : decide (1 <= (c :: r : List UInt8).length ∧ (c :: r : List UInt8).length <= 2) = true := decide_eq_true ⟨by simp, by omega⟩
   rw [h12, Bool.true_and] at hA
   have fin : (decide ((c :: r : List UInt8).length = 2) && decide (some c = some 48)) = false → yj a = (c :: r : List UInt8).all (inB 48 57) := fun h => by
    rw [h, Bool.not_false, Bool.true_and] at hA
    exact hA
   by_cases he : ((c :: r : List UInt8).length : Int) = 2
   ·rw [if_pos he]
    by_cases h48 : c = 48
    ·subst h48
     rw [if_pos (by decide)]
     exact hfalse (by rw [hA, decide_eq_true (by omega)]; rfl)
    ·rw [if_neg (show ¬ ((c.toNat : Nat) : Int) = 48 from fun h => h48 ((LM (n := 48) (by decide)).1 h)), hz, Option.bind_some, fin (by rw [decide_eq_false (p := some c = some 48) (by simpa using h48), Bool.and_false])]
     cases (c :: r : List UInt8).all (inB 48 57) <;> rfl
   ·rw [if_neg he, hz, Option.bind_some, fin (by rw [decide_eq_false (by omega), Bool.false_and])]
    cases (c :: r : List UInt8).all (inB 48 57) <;> rfl
def qX (a0 : (List UInt8)) : Option ((List UInt8) × (List UInt8) × Bool) := if a0.length <= 2 ^ 20 then some (UD a0) else none
theorem Ry (a0 : (List UInt8)) (r : ((List UInt8) × (List UInt8) × Bool)) (h : qX a0 = some r) : ∃ n, ZE n a0 = some r := by
 unfold qX at h
 obtain ⟨ha, h⟩ := zF h
 exact ⟨a0.length + 5, by rw [<- h]; exact NO ha⟩
theorem B1 {a : List UInt8} (h : a.length <= 2 ^ 20) : (qX a).bind (fun r => some r.2.2) = some (yj a) := by
 unfold qX UD
 rw [if_pos h, Option.bind_some]
 cases yj a <;> rfl
theorem UE : Ji qX := fun a0 r h => (Ry a0 r h).elim fun n hn => PX n a0 r hn
def xS (a0 : (List UInt8)) : Option Bool :=
 (qX a0).bind fun ⟨r1_0, r1_1, r1_2⟩ =>
 some r1_2
theorem qe (a0 : (List UInt8)) : Oc (xS a0) 124 [] [vq za a0] fun r => (vb r, []) := tc (
 .cl (UE a0) fun ⟨r1_0, r1_1, r1_2⟩ =>
 .ret r1_2) (zh Tryz.func124)
def Kh (F : GState → (List UInt8) → Option Int) : Prop := ∀ (a0 : GState) (a1 : (List UInt8)), Oc (F a0 a1) 115 [] [.val true (yn a0), vq za a1] fun r => (vi r, [])
def qf (a1 : (List UInt8)) (a0 : GState) : Nat → Int → Option (Int ⊕ Int)
  | 0, _ => none
  | m + 1, v1 =>
  if v1 < (a0.Entries.length : Int) then
   (zv v1).bind fun i2 =>
   (a0.Entries[i2]?).bind fun x3 =>
   if x3.Addr = a1 then
    some (.inl v1)
   else
   qf a1 a0 m (w64 (v1 + 1))
  else
  some (.inr v1)
theorem Rz (a1 : (List UInt8)) (a0 : GState) (m : Nat) : ∀ (v1 : Int), Ol (qf a1 a0 m v1) 115 (zN Tryz.f115 0) ⟨[(1, vq za a1), (2, vp 0 0), (5, vi v1)], [.var (yn a0)], 0⟩ fun o => match o with | .inl o_0 => (.ret, ⟨[(4, vi o_0)], [], 0⟩) | .inr (o_1) => (.exit 0, ⟨[(1, vq za a1), (2, vp 0 0), (5, vi o_1), (10, vb false)], [.var (yn a0)], 0⟩) := by
  induction m with
  | zero => intro v1 o h; cases h
  | succ m ih => exact fun v1 => tlp (
   .le zl a0.Entries <|
   .lI v1 (a0.Entries.length : Int) (fun c1 =>
    .na v1 fun i2 =>
    .ix zX a0.Entries i2 fun x3 =>
    .bt x3.Addr <|
    .bt a1 <|
    .sI x3.Addr a1 (fun c4 =>
     .ret (.inl v1)) fun c4 =>
    .go (ih (w64 (v1 + 1)))) fun c1 =>
   .ret (.inr v1))
def XZ (n : Nat) (a0 : GState) (a1 : (List UInt8)) : Option Int :=
 (qf a1 a0 n 0).bind fun o1 =>
 match o1 with
 | .inl o1_0 =>
  some o1_0
 | .inr (o1_1) =>
  some (-1)
theorem Lr (n : Nat) : Kh (XZ n) := fun a0 a1 => tc (
 .l2 (Rz a1 a0 n 0) (fun o1_0 =>
  .ret o1_0) fun o1_1 =>
 .ret (-1)) (zh Tryz.func115)
def ZF : List GEntry → List UInt8 → Nat → Int
 | [], _, _ => -1
 | e :: l, a, i => if e.Addr = a then (i : Int) else ZF l a (i + 1)
theorem Vo : ∀ (l : List GEntry) (a : List UInt8) (i : Nat), 0 <= ZF l a i ↔ yB l a = true
 | [], a, i => by simp [ZF, yB]
 | e :: l, a, i => by
  have ih := Vo l a (i + 1)
  unfold yB at ih ⊢
  rw [ZF, List.any_cons]
  by_cases h : e.Addr = a
  ·rw [if_pos h, decide_eq_true h]; simp
  ·rw [if_neg h, decide_eq_false h, Bool.false_or, ih]
theorem NP {s : GState} {a : List UInt8} (ha : s.Entries.length <= 2 ^ 40) : ∀ (l p : List GEntry) (m : Nat), s.Entries = p ++ l → l.length < m → ∃ z, qf a s m (p.length : Int) = some (if yB l a = true then .inl (ZF l a p.length) else .inr z) := by
 intro l
 induction l with
 | nil =>
  intro p m he hm
  obtain ⟨m, rfl, _⟩ := zi hm
  exact ⟨_, by rw [qf, if_neg (by rw [he]; exact XA p)]; rfl⟩
 | cons x l ih =>
  intro p m he hm
  obtain ⟨m, rfl, hm'⟩ := zi hm
  have hlen : s.Entries.length = p.length + (l.length + 1) := by rw [he]; simp
  rw [qf, if_pos (by omega), zb, Option.bind_some, show s.Entries[p.length]? = some x by rw [he]; exact wP p x l, Option.bind_some]
  unfold yB
  rw [List.any_cons, ZF]
  by_cases h : x.Addr = a
  ·rw [if_pos h, decide_eq_true h, if_pos h]
   exact ⟨0, rfl⟩
  ·rw [if_neg h, decide_eq_false h, Bool.false_or, if_neg h, qw p x (by omega)]
   obtain ⟨z, hz⟩ := ih (p ++ [x]) m (by rw [he]; simp) (by simp only [List.length_cons] at hm'; omega)
   rw [List.length_append, List.length_cons, List.length_nil] at hz
   rw [List.length_append, List.length_cons, List.length_nil]
   exact ⟨z, hz⟩
def yS (a0 : GState) (a1 : (List UInt8)) : Option Int := if a0.Entries.length <= 2 ^ 40 then some (ZF a0.Entries a1 0) else none
theorem W3 {l : List GEntry} {a : List UInt8} (h : yB l a = false) : ∀ i, ZF l a i = -1 := by
 induction l with
 | nil => intro i; rfl
 | cons e l ih =>
  intro i
  unfold yB at h ih
  rw [List.any_cons, Bool.or_eq_false_iff] at h
  rw [ZF, if_neg (of_decide_eq_false h.1), ih h.2]
theorem Tk (a0 : GState) (a1 : (List UInt8)) (r : Int) (h : yS a0 a1 = some r) : ∃ n, XZ n a0 a1 = some r := by
 unfold yS at h
 obtain ⟨ha, h⟩ := zF h
 obtain ⟨z, hz⟩ := NP (a := a1) ha a0.Entries [] (a0.Entries.length + 1) rfl (by omega)
 refine ⟨a0.Entries.length + 1, ?_⟩
 unfold XZ
 simp only [List.length_nil, Int.natCast_zero] at hz
 rw [hz, Option.bind_some, <- h]
 cases hb : yB a0.Entries a1 with
 | true => rfl
 | false => rw [if_neg (by simp), W3 hb]
theorem ZG : Kh yS := fun a0 a1 r h => (Tk a0 a1 r h).elim fun n hn => Lr n a0 a1 r hn
def Ki (F : (List UInt8) → Option Bool) : Prop := ∀ (a0 : (List UInt8)), Oc (F a0) 195 [] [vq za a0] fun r => (vb r, [])
def qg (a0 : (List UInt8)) : Nat → Int → Option (Bool ⊕ Int)
  | 0, _ => none
  | m + 1, v1 =>
  if v1 < (a0.length : Int) then
   (zv v1).bind fun i2 =>
   (a0[i2]?).bind fun x3 =>
   if ((x3.toNat : Nat) : Int) < 32 then
    some (.inl false)
   else
   if 126 < ((x3.toNat : Nat) : Int) then
    some (.inl false)
   else
   qg a0 m (w64 (v1 + 1))
  else
  some (.inr v1)
theorem R1 (a0 : (List UInt8)) (m : Nat) : ∀ (v1 : Int), Ol (qg a0 m v1) 195 (zN Tryz.f195 0) ⟨[(0, vq za a0), (3, vi v1)], [], 0⟩ fun o => match o with | .inl o_0 => (.ret, ⟨[(2, vb o_0)], [], 0⟩) | .inr (o_1) => (.exit 0, ⟨[(0, vq za a0), (3, vi o_1), (10, vb false)], [], 0⟩) := by
  induction m with
  | zero => intro v1 o h; cases h
  | succ m ih => exact fun v1 => tlp (
   .le za a0 <|
   .lI v1 (a0.length : Int) (fun c1 =>
    .na v1 fun i2 =>
    .ix0 za a0 i2 fun x3 =>
    .lI ((x3.toNat : Nat) : Int) 32 (fun c4 =>
     .ret (.inl false)) fun c4 =>
    .ag 1 <|
    .ag 0 <|
    .lI 126 ((x3.toNat : Nat) : Int) (fun c5 =>
     .ret (.inl false)) fun c5 =>
    .go (ih (w64 (v1 + 1)))) fun c1 =>
   .ret (.inr v1))
def Wa (n : Nat) (a0 : (List UInt8)) : Option Bool :=
 if 20 < (a0.length : Int) then
  some false
 else
 (qg a0 n 0).bind fun o2 =>
 match o2 with
 | .inl o2_0 =>
  some o2_0
 | .inr (o2_1) =>
  some true
theorem Ls (n : Nat) : Ki (Wa n) := fun a0 => tc (
 .le za a0 <|
 .lI 20 (a0.length : Int) (fun c1 =>
  .ret false) fun c1 =>
 .l2 (R1 a0 n 0) (fun o2_0 =>
  .ret o2_0) fun o2_1 =>
 .ret true) (zh Tryz.func195)
theorem Tn {a : List UInt8} (ha : a.length <= 2 ^ 20) : ∀ (d i m : Nat), i + d = a.length → d < m → ∃ z, qg a m (i : Int) = some (if (a.drop i).all (inB 32 126) = true then .inr z else .inl false) := by
 intro d
 induction d with
 | zero =>
  intro i m hi hm
  obtain ⟨m, rfl, _⟩ := zi hm
  exact ⟨_, by rw [qg, if_neg (by omega), List.drop_eq_nil_of_le (by omega)]; rfl⟩
 | succ d ih =>
  intro i m hi hm
  obtain ⟨m, rfl, hm'⟩ := zi hm
  have hil : i < a.length := by omega
  rw [qg, if_pos (by omega), zb, Option.bind_some, zd hil, Option.bind_some, z7 (by omega), yU hil, List.all_cons]
  by_cases h1 : ((a[i].toNat : Nat) : Int) < 32
  ·exact ⟨0, by rw [if_pos h1, if_neg]; simp [inB]; omega⟩
  ·rw [if_neg h1]
   by_cases h2 : (126 : Int) < ((a[i].toNat : Nat) : Int)
   ·exact ⟨0, by rw [if_pos h2, if_neg]; simp [inB]; omega⟩
   ·rw [if_neg h2, show inB 32 126 a[i] = true by simp [inB]; omega, Bool.true_and]
    exact ih (i + 1) m (by omega) (by omega)
def vh (a0 : (List UInt8)) : Option Bool := if a0.length <= 2 ^ 20 then some (Xl a0) else none
theorem To (a0 : (List UInt8)) (r : Bool) (h : vh a0 = some r) : ∃ n, Wa n a0 = some r := by
 unfold vh at h
 obtain ⟨ha, h⟩ := zF h
 refine ⟨a0.length + 1, ?_⟩
 obtain ⟨z, hz⟩ := Tn ha a0.length 0 (a0.length + 1) (by omega) (by omega)
 rw [show ((0 : Nat) : Int) = 0 from rfl, List.drop_zero] at hz
 unfold Wa
 rw [<- h, hz]
 unfold Xl
 by_cases hl : a0.length <= 20
 ·rw [if_neg (by omega), decide_eq_true hl]
  cases a0.all (inB 32 126) <;> rfl
 ·rw [if_pos (by omega), decide_eq_false hl]; rfl
theorem PY : Ki vh := fun a0 r h => (To a0 r h).elim fun n hn => Ls n a0 r hn
def YR (a0 : Int) : Option Bool :=
 if (-1000000000000) <= a0 then
  some (decide (a0 <= 1000000000000))
 else
 some false
theorem Lt (a0 : Int) : Oc (YR a0) 194 [] [vi a0] fun r => (vb r, []) := tc (
 .gI (-1000000000000) a0 (fun c1 =>
  .gD a0 1000000000000 <|
  .ret (decide (a0 <= 1000000000000))) fun c1 =>
 .ret false) (zh Tryz.func194)
end
end Go.Am.Try
