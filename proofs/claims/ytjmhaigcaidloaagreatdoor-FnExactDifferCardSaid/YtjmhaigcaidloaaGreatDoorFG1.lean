/- The functions of the program in plain Lean, and that the machine answers as they do; conditions at each theorem. -/
import Derived.Test.YtjmhaigcaidloaaGreatDoorFP1
set_option linter.unusedVariables false
set_option linter.unusedSimpArgs false
namespace Go.Am.Try
open Go.Am Go.Proofs
set_option linter.unusedVariables false
set_option maxRecDepth 20000
set_option maxHeartbeats 2000000
noncomputable section
def wq (a0 : (List UInt8)) (a1 : Int) : Option Int :=
 if (w64 (a1 - (a0.length : Int))) < 0 then
  some (-1)
 else
 some (w64 (a1 - (a0.length : Int)))
theorem jZ (a0 : (List UInt8)) (a1 : Int) : Oc (wq a0 a1) 66 [] [vq za a0, vi a1] fun r => (vi r, []) := tc (
 .le za a0 <|
 .lI (w64 (a1 - (a0.length : Int))) 0 (fun c1 =>
  .ret (-1)) fun c1 =>
 .ret (w64 (a1 - (a0.length : Int)))) (zj Tryz.func66)
def X4 (F : (List (List UInt8)) → Int → Option Int) : Prop := ∀ (a0 : (List (List UInt8))) (a1 : Int), Oc (F a0 a1) 69 [] [vq (zq za) a0, vi a1] fun r => (vi r, [])
def xx (a0 : (List (List UInt8))) : Nat → Int → Int → Option (Int ⊕ (Int × Int))
  | 0, _, _ => none
  | m + 1, v1, v2 =>
  if v2 < (a0.length : Int) then
   (zy v2).bind fun i2 =>
   (a0[i2]?).bind fun x3 =>
   (wq x3 v1).bind fun r4 =>
   if r4 < 0 then
    some (.inl (-1))
   else
   xx a0 m r4 (w64 (v2 + 1))
  else
  some (.inr (v1, v2))
theorem Qo (a0 : (List (List UInt8))) (m : Nat) : ∀ (v1 : Int) (v2 : Int), Ol (xx a0 m v1 v2) 69 (zL Tryz.f69 0) ⟨[(0, vq (zq za) a0), (1, vi v1), (5, vi v2)], [], 0⟩ fun o => match o with | .inl o_0 => (.ret, ⟨[(4, vi o_0)], [], 0⟩) | .inr (⟨o_1_0, o_1_1⟩) => (.exit 0, ⟨[(0, vq (zq za) a0), (1, vi o_1_0), (5, vi o_1_1), (15, vb false)], [], 0⟩) := by
  induction m with
  | zero => intro v1 v2 o h; cases h
  | succ m ih => exact fun v1 v2 => tlp (
   .le (zq za) a0 <|
   .lI v2 (a0.length : Int) (fun c1 =>
    .na v2 fun i2 =>
    .ix0 (zq za) a0 i2 fun x3 =>
    .cl (jZ x3 v1) fun r4 =>
    .lI r4 0 (fun c5 =>
     .ret (.inl (-1))) fun c5 =>
    .go (ih r4 (w64 (v2 + 1)))) fun c1 =>
   .ret (.inr (v1, v2)))
def ka (n : Nat) (a0 : (List (List UInt8))) (a1 : Int) : Option Int :=
 if (w64 (a1 - (a0.length : Int))) < 0 then
  some (-1)
 else
 (xx a0 n (w64 (a1 - (a0.length : Int))) 0).bind fun o2 =>
 match o2 with
 | .inl o2_0 =>
  some o2_0
 | .inr (⟨o2_1_0, o2_1_1⟩) =>
  some o2_1_0
theorem V1 (n : Nat) : X4 (ka n) := fun a0 a1 => tc (
 .le (zq za) a0 <|
 .lI (w64 (a1 - (a0.length : Int))) 0 (fun c1 =>
  .ret (-1)) fun c1 =>
 .l2 (Qo a0 n (w64 (a1 - (a0.length : Int))) 0) (fun o2_0 =>
  .ret o2_0) fun ⟨o2_1_0, o2_1_1⟩ =>
 .ret o2_1_0) (zj Tryz.func69)
def MdB (k : List (List UInt8)) : Prop := k.length <= 2 ^ 63 - 1 ∧ ∀ b ∈ k, b.length <= 2 ^ 63 - 1
theorem Y9 {a : List UInt8} {n : Int} (h : a.length <= 2 ^ 63 - 1) (h0 : 0 <= n) (h1 : n <= 2 ^ 20) : wq a n = some (if (a.length : Int) <= n then n - a.length else -1) := by
 unfold wq
 rw [xt (by omega) (by omega)]
 by_cases hc : (a.length : Int) <= n
 ·rw [if_neg (by omega), if_pos hc]
 ·rw [if_pos (by omega), if_neg hc]
theorem TV {a : List (List UInt8)} (ha : a.length <= 2 ^ 20) (hb : ∀ b ∈ a, b.length <= 2 ^ 63 - 1) : ∀ (d i m : Nat) (r : Int), i + d = a.length → d < m → 0 <= r → r <= 2 ^ 20 →
  ∃ z, xx a m r (i : Int) = some (if (((a.drop i).map List.length).sum : Int) <= r then .inr (r - ((a.drop i).map List.length).sum, z) else .inl (-1)) := by
 intro d
 induction d with
 | zero =>
  intro i m r hi hm h0 h1
  obtain ⟨m, rfl, _⟩ := zf hm
  refine ⟨(i : Int), ?_⟩
  rw [xx, if_neg (by omega), List.drop_eq_nil_of_le (by omega)]
  rw [List.map_nil, List.sum_nil, if_pos (by simpa using h0)]; simp
 | succ d ih =>
  intro i m r hi hm h0 h1
  obtain ⟨m, rfl, hm'⟩ := zf hm
  have hil : i < a.length := by omega
  have hx := hb a[i] (List.getElem_mem hil)
  rw [xx, if_pos (by omega), zc, Option.bind_some, zg hil, Option.bind_some, Y9 hx h0 h1, Option.bind_some]
  rw [xi hil, List.map_cons, List.sum_cons]
  by_cases hc : ((a[i]).length : Int) <= r
  ·rw [if_pos hc, if_neg (by omega), zC (by omega)]
   obtain ⟨z, hz⟩ := ih (i + 1) m (r - (a[i]).length) (by omega) (by omega) (by omega) (by omega)
   refine ⟨z, ?_⟩
   rw [hz]
   by_cases hd : (((a.drop (i + 1)).map List.length).sum : Int) <= r - (a[i]).length
   ·rw [if_pos hd, if_pos (by omega)]; congr 3; omega
   ·rw [if_neg hd, if_neg (by omega)]
  ·refine ⟨0, ?_⟩
   rw [if_neg hc, if_pos (by omega), if_neg (by omega)]
theorem P1 {a : List (List UInt8)} {n : Int} (h : MdB a ∧ 0 <= n ∧ n <= 2 ^ 20) : ka (a.length + 1) a n = some (if (bsz a : Int) <= n then n - bsz a else -1) := by
 obtain ⟨⟨ha, hb⟩, h0, h1⟩ := h
 unfold ka
 rw [xt (by omega) (by omega)]
 unfold bsz
 by_cases hc : (a.length : Int) <= n
 ·rw [if_neg (by omega)]
  obtain ⟨z, hz⟩ := TV (by omega) hb a.length 0 (a.length + 1) (n - a.length) (by omega) (by omega) (by omega) (by omega)
  rw [show ((0 : Nat) : Int) = 0 from rfl] at hz
  rw [hz]
  simp only [List.drop_zero]
  by_cases hd : ((a.map List.length).sum : Int) <= n - a.length
  ·rw [if_pos hd, if_pos (by omega)]
   simp only [Option.bind_some]; congr 1; omega
  ·rw [if_neg hd, if_neg (by omega)]; rfl
 ·rw [if_pos (by omega), if_neg (by omega)]
open Classical in
noncomputable def xN (a0 : (List (List UInt8))) (a1 : Int) : Option Int := if MdB a0 ∧ 0 <= a1 ∧ a1 <= 2 ^ 20 then some (if (bsz a0 : Int) <= a1 then a1 - bsz a0 else -1) else none
theorem QP (a0 : (List (List UInt8))) (a1 : Int) (r : Int) (h : xN a0 a1 = some r) : ∃ n, ka n a0 a1 = some r := by
 unfold xN at h
 obtain ⟨hp, h⟩ := zM h
 exact ⟨_, by rw [<- h]; exact P1 hp⟩
theorem YV : X4 xN := fun a0 a1 r h => (QP a0 a1 r h).elim fun n hn => V1 n a0 a1 r hn
def kb (F : (List GValue) → Int → Option Int) : Prop := ∀ (a0 : (List GValue)) (a1 : Int), Oc (F a0 a1) 123 [] [vq zd a0, vi a1] fun r => (vi r, [])
def jc (F : GValue → Int → Option Int) : Prop := ∀ (a0 : GValue) (a1 : Int), Oc (F a0 a1) 68 [] [.val true (z8 a0), vi a1] fun r => (vi r, [])
def xy (G_laws_szValue : GValue → Int → Option Int) (a0 : (List GValue)) : Nat → Int → Int → Option (Int ⊕ (Int × Int))
  | 0, _, _ => none
  | m + 1, v1, v2 =>
  if v2 < (a0.length : Int) then
   (zy v2).bind fun i2 =>
   (a0[i2]?).bind fun x3 =>
   (G_laws_szValue x3 v1).bind fun r4 =>
   if r4 < 0 then
    some (.inl (-1))
   else
   xy G_laws_szValue a0 m r4 (w64 (v2 + 1))
  else
  some (.inr (v1, v2))
theorem Qp (G_laws_szValue : GValue → Int → Option Int) (H_laws_szValue : jc G_laws_szValue) (a0 : (List GValue)) (m : Nat) : ∀ (v1 : Int) (v2 : Int), Ol (xy G_laws_szValue a0 m v1 v2) 123 (zL Tryz.f123 0) ⟨[(0, vq zd a0), (1, vi v1), (5, vi v2)], [], 0⟩ fun o => match o with | .inl o_0 => (.ret, ⟨[(4, vi o_0)], [], 0⟩) | .inr (⟨o_1_0, o_1_1⟩) => (.exit 0, ⟨[(0, vq zd a0), (1, vi o_1_0), (5, vi o_1_1), (15, vb false)], [], 0⟩) := by
  induction m with
  | zero => intro v1 v2 o h; cases h
  | succ m ih => exact fun v1 v2 => tlp (
   .le zd a0 <|
   .lI v2 (a0.length : Int) (fun c1 =>
    .na v2 fun i2 =>
    .ix zR a0 i2 fun x3 =>
    .cl (H_laws_szValue x3 v1) fun r4 =>
    .lI r4 0 (fun c5 =>
     .ret (.inl (-1))) fun c5 =>
    .go (ih r4 (w64 (v2 + 1)))) fun c1 =>
   .ret (.inr (v1, v2)))
def kc (G_laws_szValue : GValue → Int → Option Int) (n : Nat) (a0 : (List GValue)) (a1 : Int) : Option Int :=
 if (w64 (a1 - (a0.length : Int))) < 0 then
  some (-1)
 else
 (xy G_laws_szValue a0 n (w64 (a1 - (a0.length : Int))) 0).bind fun o2 =>
 match o2 with
 | .inl o2_0 =>
  some o2_0
 | .inr (⟨o2_1_0, o2_1_1⟩) =>
  some o2_1_0
theorem V2 (G_laws_szValue : GValue → Int → Option Int) (H_laws_szValue : jc G_laws_szValue) (n : Nat) : kb (kc G_laws_szValue n) := fun a0 a1 => tc (
 .le zd a0 <|
 .lI (w64 (a1 - (a0.length : Int))) 0 (fun c1 =>
  .ret (-1)) fun c1 =>
 .l2 (Qp G_laws_szValue H_laws_szValue a0 n (w64 (a1 - (a0.length : Int))) 0) (fun o2_0 =>
  .ret o2_0) fun ⟨o2_1_0, o2_1_1⟩ =>
 .ret o2_1_0) (zj Tryz.func123)
def Zy (G_laws_szValueS : (List GValue) → Int → Option Int) (a0 : GValue) (a1 : Int) : Option Int :=
 (wq a0.S a1).bind fun r1 =>
 if r1 < 0 then
  some (-1)
 else
 (xN a0.K r1).bind fun r3 =>
 if r3 < 0 then
  some (-1)
 else
 (G_laws_szValueS a0.L r3).bind fun r5 =>
 if r5 < 0 then
  some (-1)
 else
 some r5
theorem RP (G_laws_szValueS : (List GValue) → Int → Option Int) (H_laws_szValueS : kb G_laws_szValueS) : jc (Zy G_laws_szValueS) := fun a0 a1 => tc (
 .cl (jZ a0.S a1) fun r1 =>
 .lI r1 0 (fun c2 =>
  .ret (-1)) fun c2 =>
 .cl (YV a0.K r1) fun r3 =>
 .lI r3 0 (fun c4 =>
  .ret (-1)) fun c4 =>
 .cl (H_laws_szValueS a0.L r3) fun r5 =>
 .lI r5 0 (fun c6 =>
  .ret (-1)) fun c6 =>
 .ret r5) (zj Tryz.func68)
mutual
def xj : Nat → (List GValue) → Int → Option Int
 | 0, _, _ => none
 | n + 1, a0, a1 => kc (xz n) n a0 a1
def xz : Nat → GValue → Int → Option Int
 | 0, _, _ => none
 | n + 1, a0, a1 => Zy (xj n) a0 a1
end
theorem Ys (n : Nat) : kb (xj n) ∧ jc (xz n) := by
 induction n with
 | zero => exact ⟨fun _ _ _ h => (by rw [xj] at h; cases h), fun _ _ _ h => (by rw [xz] at h; cases h)⟩
 | succ n ih =>
  obtain ⟨ih_laws_szValueS, ih_laws_szValue⟩ := ih
  exact ⟨fun a0 a1 r h => V2 (xz n) ih_laws_szValue n a0 a1 r (by rw [xj] at h; exact h),
   fun a0 a1 r h => RP (xj n) ih_laws_szValueS a0 a1 r (by rw [xz] at h; exact h)⟩
mutual
def MdV : GValue → Prop
 | .mk _ _ s k l => s.length <= 2 ^ 63 - 1 ∧ MdB k ∧ l.length <= 2 ^ 63 - 1 ∧ WG l
def WG : List GValue → Prop
 | [] => True
 | v :: l => MdV v ∧ WG l
end
theorem P2 {l : List GValue} (h : WG l) {v : GValue} (hv : v ∈ l) : MdV v := by
 induction l with
 | nil => cases hv
 | cons x l ih =>
  simp only [WG] at h
  rcases List.mem_cons.1 hv with rfl | hv
  ·exact h.1
  ·exact ih h.2 hv
theorem MT (v : GValue) : MdV v = (v.S.length <= 2 ^ 63 - 1 ∧ MdB v.K ∧ v.L.length <= 2 ^ 63 - 1 ∧ WG v.L) := by cases v; simp only [MdV, GValue.S, GValue.K, GValue.L]
def vin (l : List GValue) : Nat := (l.map vsz).sum
theorem Gz (l : List GValue) : yK l = l.length + vin l := by
 unfold vin
 induction l with
 | nil => rfl
 | cons v l ih => simp only [yK, ih, List.length_cons, List.map_cons, List.sum_cons]; omega
theorem TW {G : GValue → Int → Option Int} {a : List GValue} (ha : a.length <= 2 ^ 20) (hG : ∀ v ∈ a, ∀ n : Int, 0 <= n → n <= 2 ^ 20 → G v n = some (wk (vsz v) n)) : ∀ (d i m : Nat) (r : Int), i + d = a.length → d < m → 0 <= r → r <= 2 ^ 20 →
  ∃ z, xy G a m r (i : Int) = some (if (vin (a.drop i) : Int) <= r then .inr (r - vin (a.drop i), z) else .inl (-1)) := by
 intro d
 induction d with
 | zero =>
  intro i m r hi hm h0 h1
  obtain ⟨m, rfl, _⟩ := zf hm
  refine ⟨(i : Int), ?_⟩
  rw [xy, if_neg (by omega), List.drop_eq_nil_of_le (by omega)]
  simp only [vin, List.map_nil, List.sum_nil]
  rw [if_pos (by simpa using h0)]; simp
 | succ d ih =>
  intro i m r hi hm h0 h1
  obtain ⟨m, rfl, hm'⟩ := zf hm
  have hil : i < a.length := by omega
  rw [xy, if_pos (by omega), zc, Option.bind_some, zg hil, Option.bind_some, hG _ (List.getElem_mem hil) r h0 h1, Option.bind_some]
  have hv : vin (a.drop i) = vsz a[i] + vin (a.drop (i + 1)) := by simp only [vin, xi hil, List.map_cons, List.sum_cons]
  rw [hv]
  unfold wk
  by_cases hc : (vsz a[i] : Int) <= r
  ·rw [if_pos hc, if_neg (by omega), zC (by omega)]
   obtain ⟨z, hz⟩ := ih (i + 1) m (r - vsz a[i]) (by omega) (by omega) (by omega) (by omega)
   refine ⟨z, ?_⟩
   rw [hz]
   by_cases hd : (vin (a.drop (i + 1)) : Int) <= r - vsz a[i]
   ·rw [if_pos hd, if_pos (by omega)]; congr 3; omega
   ·rw [if_neg hd, if_neg (by omega)]
  ·refine ⟨0, ?_⟩
   rw [if_neg hc, if_pos (by omega), if_neg (by omega)]
theorem V3 {G : GValue → Int → Option Int} {a : List GValue} {f : Nat} {n : Int} (ha : a.length <= 2 ^ 63 - 1) (h0 : 0 <= n) (h1 : n <= 2 ^ 20) (hf : a.length < f ∨ n < a.length) (hG : ∀ v ∈ a, ∀ n : Int, 0 <= n → n <= 2 ^ 20 → G v n = some (wk (vsz v) n)) :
  kc G f a n = some (wk (yK a) n) := by
 unfold kc
 rw [xt (by omega) (by omega), Gz]
 unfold wk
 by_cases hc : (a.length : Int) <= n
 ·rw [if_neg (by omega)]
  obtain ⟨z, hz⟩ := TW (G := G) (by omega) hG a.length 0 f (n - a.length) (by omega) (by omega) (by omega) (by omega)
  rw [show ((0 : Nat) : Int) = 0 from rfl] at hz
  rw [hz]
  simp only [List.drop_zero]
  by_cases hd : (vin a : Int) <= n - a.length
  ·rw [if_pos hd, if_pos (by omega)]
   simp only [Option.bind_some]; congr 1; omega
  ·rw [if_neg hd, if_neg (by omega)]; rfl
 ·rw [if_pos (by omega), if_neg (by omega)]
theorem TA : ∀ (N : Nat) (v : GValue), vsz v < N → MdV v → ∀ (f : Nat) (n : Int), 2 * vsz v + 3 <= f → 0 <= n → n <= 2 ^ 20 → xz f v n = some (wk (vsz v) n) := by
 intro N
 induction N with
 | zero => intro v hv; omega
 | succ N ih =>
  intro v hv hmd f n hf h0 h1
  obtain ⟨f, rfl, _⟩ := zf (show 0 < f by omega)
  rw [MT] at hmd
  have he := qa v
  have hl := yR v.L
  obtain ⟨f, rfl, _⟩ := zf (show 0 < f by omega)
  rw [xz]
  unfold Zy
  rw [Y9 hmd.1 h0 h1, Option.bind_some]
  unfold wk
  by_cases c1 : (v.S.length : Int) <= n
  ·rw [if_pos c1, if_neg (by omega)]
   unfold xN
   rw [if_pos ⟨hmd.2.1, by omega, by omega⟩, Option.bind_some]
   by_cases c2 : (bsz v.K : Int) <= n - v.S.length
   ·rw [if_pos c2, if_neg (by omega)]
    rw [xj, V3 hmd.2.2.1 (by omega) (by omega) (.inl (by omega)) (fun x hx m g0 g1 => ?_), Option.bind_some]
    ·unfold wk
     by_cases c3 : (yK v.L : Int) <= n - v.S.length - bsz v.K
     ·rw [if_pos c3, if_neg (by omega), if_pos (by omega)]; congr 1; omega
     ·rw [if_neg c3, if_pos (by omega), if_neg (by omega)]
    ·have := w6 hx
     exact ih x (by omega) (P2 hmd.2.2.2 hx) f m (by omega) g0 g1
   ·rw [if_neg c2, if_pos (by omega), if_neg (by omega)]
  ·rw [if_neg c1, if_pos (by omega), if_neg (by omega)]
open Classical in
noncomputable def vY (a0 : (List GValue)) (a1 : Int) : Option Int := if a0.length <= 2 ^ 63 - 1 ∧ WG a0 ∧ 0 <= a1 ∧ a1 <= 2 ^ 20 then some (wk (yK a0) a1) else none
theorem QQ (a0 : (List GValue)) (a1 : Int) (r : Int) (h : vY a0 a1 = some r) : ∃ n, xj n a0 a1 = some r := by
 unfold vY at h
 obtain ⟨⟨hl, hm, h0, h1⟩, h⟩ := zM h
 refine ⟨2 * yK a0 + 5, ?_⟩
 have := yR a0
 rw [xj, V3 hl h0 h1 (.inl (by omega)) fun x hx m g0 g1 => ?_, h]
 have := w6 hx
 exact TA _ x (Nat.lt_succ_self _) (P2 hm hx) _ m (by omega) g0 g1
open Classical in
noncomputable def jd (a0 : GValue) (a1 : Int) : Option Int := if MdV a0 ∧ 0 <= a1 ∧ a1 <= 2 ^ 20 then some (wk (vsz a0) a1) else none
theorem JM (a0 : GValue) (a1 : Int) (r : Int) (h : jd a0 a1 = some r) : ∃ n, xz n a0 a1 = some r := by
 unfold jd at h
 obtain ⟨⟨hm, h0, h1⟩, h⟩ := zM h
 exact ⟨2 * vsz a0 + 3, by rw [<- h]; exact TA _ a0 (Nat.lt_succ_self _) hm _ a1 (Nat.le_refl _) h0 h1⟩
theorem G0 : kb vY := by
 intro a0 a1 r h
 obtain ⟨n, hn⟩ := QQ a0 a1 r h
 exact (Ys n).1 a0 a1 r hn
theorem V4 : jc jd := by
 intro a0 a1 r h
 obtain ⟨n, hn⟩ := JM a0 a1 r h
 exact (Ys n).2 a0 a1 r hn
def je (a0 : GEntry) (a1 : Int) : Option Int :=
 (wq a0.Addr a1).bind fun r1 =>
 if r1 < 0 then
  some (-1)
 else
 (jd a0.Val r1).bind fun r3 =>
 if r3 < 0 then
  some (-1)
 else
 (xN a0.Deps r3).bind fun r5 =>
 if r5 < 0 then
  some (-1)
 else
 some r5
theorem V5 (a0 : GEntry) (a1 : Int) : Oc (je a0 a1) 122 [] [.val true (ZA a0), vi a1] fun r => (vi r, []) := tc (
 .cl (jZ a0.Addr a1) fun r1 =>
 .lI r1 0 (fun c2 =>
  .ret (-1)) fun c2 =>
 .cl (V4 a0.Val r1) fun r3 =>
 .lI r3 0 (fun c4 =>
  .ret (-1)) fun c4 =>
 .cl (YV a0.Deps r3) fun r5 =>
 .lI r5 0 (fun c6 =>
  .ret (-1)) fun c6 =>
 .ret r5) (zj Tryz.func122)
def X5 (F : (List GEntry) → Int → Option Int) : Prop := ∀ (a0 : (List GEntry)) (a1 : Int), Oc (F a0 a1) 67 [] [vq zr a0, vi a1] fun r => (vi r, [])
def xA (a0 : (List GEntry)) : Nat → Int → Int → Option (Int ⊕ (Int × Int))
  | 0, _, _ => none
  | m + 1, v1, v2 =>
  if v2 < (a0.length : Int) then
   (zy v2).bind fun i2 =>
   (a0[i2]?).bind fun x3 =>
   (je x3 v1).bind fun r4 =>
   if r4 < 0 then
    some (.inl (-1))
   else
   xA a0 m r4 (w64 (v2 + 1))
  else
  some (.inr (v1, v2))
theorem Qq (a0 : (List GEntry)) (m : Nat) : ∀ (v1 : Int) (v2 : Int), Ol (xA a0 m v1 v2) 67 (zL Tryz.f67 0) ⟨[(0, vq zr a0), (1, vi v1), (5, vi v2)], [], 0⟩ fun o => match o with | .inl o_0 => (.ret, ⟨[(4, vi o_0)], [], 0⟩) | .inr (⟨o_1_0, o_1_1⟩) => (.exit 0, ⟨[(0, vq zr a0), (1, vi o_1_0), (5, vi o_1_1), (15, vb false)], [], 0⟩) := by
  induction m with
  | zero => intro v1 v2 o h; cases h
  | succ m ih => exact fun v1 v2 => tlp (
   .le zr a0 <|
   .lI v2 (a0.length : Int) (fun c1 =>
    .na v2 fun i2 =>
    .ix zS a0 i2 fun x3 =>
    .cl (V5 x3 v1) fun r4 =>
    .lI r4 0 (fun c5 =>
     .ret (.inl (-1))) fun c5 =>
    .go (ih r4 (w64 (v2 + 1)))) fun c1 =>
   .ret (.inr (v1, v2)))
def vZ (n : Nat) (a0 : (List GEntry)) (a1 : Int) : Option Int :=
 if (w64 (a1 - (a0.length : Int))) < 0 then
  some (-1)
 else
 (xA a0 n (w64 (a1 - (a0.length : Int))) 0).bind fun o2 =>
 match o2 with
 | .inl o2_0 =>
  some o2_0
 | .inr (⟨o2_1_0, o2_1_1⟩) =>
  some o2_1_0
theorem V6 (n : Nat) : X5 (vZ n) := fun a0 a1 => tc (
 .le zr a0 <|
 .lI (w64 (a1 - (a0.length : Int))) 0 (fun c1 =>
  .ret (-1)) fun c1 =>
 .l2 (Qq a0 n (w64 (a1 - (a0.length : Int))) 0) (fun o2_0 =>
  .ret o2_0) fun ⟨o2_1_0, o2_1_1⟩ =>
 .ret o2_1_0) (zj Tryz.func67)
def P3 (e : GEntry) : Prop := e.Addr.length <= 2 ^ 63 - 1 ∧ MdV e.Val ∧ MdB e.Deps
def YA : List GEntry → Prop
 | [] => True
 | v :: l => P3 v ∧ YA l
theorem MU {l : List GEntry} (h : YA l) {v : GEntry} (hv : v ∈ l) : P3 v := by
 induction l with
 | nil => cases hv
 | cons x l ih =>
  simp only [YA] at h
  rcases List.mem_cons.1 hv with rfl | hv
  ·exact h.1
  ·exact ih h.2 hv
def ZL (l : List GEntry) : Nat := (l.map esz).sum
theorem E5 (l : List GEntry) : xT l = l.length + ZL l := by
 unfold ZL
 induction l with
 | nil => rfl
 | cons v l ih => simp only [xT, ih, List.length_cons, List.map_cons, List.sum_cons]; omega
theorem TX {a : List GEntry} (ha : a.length <= 2 ^ 20) (hG : ∀ v ∈ a, ∀ n : Int, 0 <= n → n <= 2 ^ 20 → je v n = some (wk (esz v) n)) : ∀ (d i m : Nat) (r : Int), i + d = a.length → d < m → 0 <= r → r <= 2 ^ 20 →
  ∃ z, xA a m r (i : Int) = some (if (ZL (a.drop i) : Int) <= r then .inr (r - ZL (a.drop i), z) else .inl (-1)) := by
 intro d
 induction d with
 | zero =>
  intro i m r hi hm h0 h1
  obtain ⟨m, rfl, _⟩ := zf hm
  refine ⟨(i : Int), ?_⟩
  rw [xA, if_neg (by omega), List.drop_eq_nil_of_le (by omega)]
  simp only [ZL, List.map_nil, List.sum_nil]
  rw [if_pos (by simpa using h0)]; simp
 | succ d ih =>
  intro i m r hi hm h0 h1
  obtain ⟨m, rfl, hm'⟩ := zf hm
  have hil : i < a.length := by omega
  rw [xA, if_pos (by omega), zc, Option.bind_some, zg hil, Option.bind_some, hG _ (List.getElem_mem hil) r h0 h1, Option.bind_some]
  have hv : ZL (a.drop i) = esz a[i] + ZL (a.drop (i + 1)) := by simp only [ZL, xi hil, List.map_cons, List.sum_cons]
  rw [hv]
  unfold wk
  by_cases hc : (esz a[i] : Int) <= r
  ·rw [if_pos hc, if_neg (by omega), zC (by omega)]
   obtain ⟨z, hz⟩ := ih (i + 1) m (r - esz a[i]) (by omega) (by omega) (by omega) (by omega)
   refine ⟨z, ?_⟩
   rw [hz]
   by_cases hd : (ZL (a.drop (i + 1)) : Int) <= r - esz a[i]
   ·rw [if_pos hd, if_pos (by omega)]; congr 3; omega
   ·rw [if_neg hd, if_neg (by omega)]
  ·refine ⟨0, ?_⟩
   rw [if_neg hc, if_pos (by omega), if_neg (by omega)]
theorem LI {v : GEntry} {n : Int} (h : P3 v) (h0 : 0 <= n) (h1 : n <= 2 ^ 20) : je v n = some (wk (esz v) n) := by
 unfold je
 rw [Y9 h.1 h0 h1, Option.bind_some]
 unfold wk esz
 by_cases c1 : (v.Addr.length : Int) <= n
 ·rw [if_pos c1, if_neg (by omega)]
  unfold jd
  rw [if_pos ⟨h.2.1, by omega, by omega⟩, Option.bind_some]
  unfold wk
  by_cases c2 : (vsz v.Val : Int) <= n - v.Addr.length
  ·rw [if_pos c2, if_neg (by omega)]
   unfold xN
   rw [if_pos ⟨h.2.2, by omega, by omega⟩, Option.bind_some]
   by_cases c3 : (bsz v.Deps : Int) <= n - v.Addr.length - vsz v.Val
   ·rw [if_pos c3, if_neg (by omega), if_pos (by omega)]; congr 1; omega
   ·rw [if_neg c3, if_pos (by omega), if_neg (by omega)]
  ·rw [if_neg c2, if_pos (by omega), if_neg (by omega)]
 ·rw [if_neg c1, if_pos (by omega), if_neg (by omega)]
open Classical in
noncomputable def qH (a0 : (List GEntry)) (a1 : Int) : Option Int := if a0.length <= 2 ^ 63 - 1 ∧ YA a0 ∧ 0 <= a1 ∧ a1 <= 2 ^ 20 then some (wk (xT a0) a1) else none
theorem QR (a0 : (List GEntry)) (a1 : Int) (r : Int) (h : qH a0 a1 = some r) : ∃ n, vZ n a0 a1 = some r := by
 unfold qH at h
 obtain ⟨⟨hl, hm, h0, h1⟩, h⟩ := zM h
 refine ⟨a0.length + 5, ?_⟩
 unfold vZ
 rw [<- h, xt (by omega) (by omega), E5]
 unfold wk
 by_cases hc : (a0.length : Int) <= a1
 ·rw [if_neg (by omega)]
  obtain ⟨z, hz⟩ := TX (a := a0) (by omega) (fun v hv n h0 h1 => LI (MU hm hv) h0 h1) a0.length 0 (a0.length + 5) (a1 - a0.length) (by omega) (by omega) (by omega) (by omega)
  rw [show ((0 : Nat) : Int) = 0 from rfl] at hz
  rw [hz]
  simp only [List.drop_zero]
  by_cases hd : (ZL a0 : Int) <= a1 - a0.length
  ·rw [if_pos hd, if_pos (by omega)]
   simp only [Option.bind_some]; congr 1; omega
  ·rw [if_neg hd, if_neg (by omega)]; rfl
 ·rw [if_pos (by omega), if_neg (by omega)]
theorem K6 : X5 qH := fun a0 a1 r h => (QR a0 a1 r h).elim fun n hn => V6 n a0 a1 r hn
def jf (a0 : GState) (a1 : Int) : Option Int :=
 (wq a0.Pending a1).bind fun r1 =>
 if r1 < 0 then
  some (-1)
 else
 (qH a0.Entries r1).bind fun r3 =>
 if r3 < 0 then
  some (-1)
 else
 some r3
theorem X6 (a0 : GState) (a1 : Int) : Oc (jf a0 a1) 15 [] [.val true (zw a0), vi a1] fun r => (vi r, []) := tc (
 .cl (jZ a0.Pending a1) fun r1 =>
 .lI r1 0 (fun c2 =>
  .ret (-1)) fun c2 =>
 .cl (K6 a0.Entries r1) fun r3 =>
 .lI r3 0 (fun c4 =>
  .ret (-1)) fun c4 =>
 .ret r3) (zj Tryz.func15)
def XY (F : (List UInt8) → Option (List UInt8)) : Prop := ∀ (a0 : (List UInt8)), Oc (F a0) 51 [] [vq za a0] fun r => (.val false [.own 1 (eL za r)], [])
def xV (a0 : (List UInt8)) : Nat → Int → (List UInt8) → Option (Int × (List UInt8))
  | 0, _, _ => none
  | m + 1, v1, v2 =>
  if v1 < (a0.length : Int) then
   (zy v1).bind fun i2 =>
   (a0[i2]?).bind fun x3 =>
   (v2[i2]?).bind fun x4 =>
   xV a0 m (w64 (v1 + 1)) (v2.set i2 x3)
  else
  some (v1, v2)
theorem QS (a0 : (List UInt8)) (m : Nat) : ∀ (v1 : Int) (v2 : (List UInt8)), Ol (xV a0 m v1 v2) 51 (zL Tryz.f51 0) ⟨[(0, vq za a0), (3, vr 0), (4, vi v1)], [.obj 1 (eL za v2)], 0⟩ fun o => match o with | ⟨o_0, o_1⟩ => (.exit 0, ⟨[(0, vq za a0), (3, vr 0), (4, vi o_0), (11, vb false)], [.obj 1 (eL za o_1)], 0⟩) := by
  induction m with
  | zero => intro v1 v2 o h; cases h
  | succ m ih => exact fun v1 v2 => tlp (
   .le za a0 <|
   .lI v1 (a0.length : Int) (fun c1 =>
    .na v1 fun i2 =>
    .ix0 za a0 i2 fun x3 =>
    .ag 1 <|
    .ix0 za v2 i2 fun x4 =>
    .ag 0 <|
    .sl (e := za) (x := x3) (c := [.int .u8 ((x3.toNat : Nat) : Int)]) rfl v2 i2 <|
    .go (ih (w64 (v1 + 1)) (v2.set i2 x3))) fun c1 =>
   .ret (v1, v2))
def Zz (n : Nat) (a0 : (List UInt8)) : Option (List UInt8) :=
 (Y8 1 (a0.length : Int)).bind fun k1 =>
 (xV a0 n 0 (List.replicate k1 0)).bind fun ⟨o2_0, o2_1⟩ =>
 some o2_1
theorem RQ (n : Nat) : XY (Zz n) := fun a0 => tc (
 .le za a0 <|
 .q (.eTo (a0.length : Int) (a0.length : Int) rfl) <|
 .md 1 (a0.length : Int) fun k1 =>
 .q ⟨.rep k1 [.int .u8 0], .l (eL za (List.replicate k1 0)), A.rep rfl⟩ <|
 .lp (QS a0 n 0 (List.replicate k1 0)) fun ⟨o2_0, o2_1⟩ =>
 .ret o2_1) (zj Tryz.func51)
theorem P4 {a : List UInt8} (ha : a.length <= 2 ^ 20) : ∀ (d i m : Nat) (v : List UInt8), i + d = a.length → d < m → Pre a v i → ∃ z, xV a m (i : Int) v = some (z, a) := by
 intro d
 induction d with
 | zero =>
  intro i m v hi hm hp
  obtain ⟨m, rfl, _⟩ := zf hm
  exact ⟨_, by rw [xV, if_neg (by omega), hp.done (by omega)]⟩
 | succ d ih =>
  intro i m v hi hm hp
  obtain ⟨m, rfl, hm'⟩ := zf hm
  have hil : i < a.length := by omega
  rw [xV, if_pos (by omega), zc, Option.bind_some, zg hil, Option.bind_some, zg (by rw [hp.1]; exact hil), Option.bind_some, zC (by omega)]
  exact ih (i + 1) m _ (by omega) (by omega) (hp.step hil)
def yz (a0 : (List UInt8)) : Option (List UInt8) := if a0.length <= 2 ^ 20 then some a0 else none
theorem JN (a0 : (List UInt8)) (r : (List UInt8)) (h : yz a0 = some r) : ∃ n, Zz n a0 = some r := by
 unfold yz at h
 obtain ⟨ha, h⟩ := zM h
 refine ⟨a0.length + 1, ?_⟩
 obtain ⟨z, hz⟩ := P4 ha a0.length 0 (a0.length + 1) (List.replicate a0.length 0) (by omega) (by omega) (Pre.start (by simp))
 unfold Zz
 rw [JF ha (by decide), Option.bind_some, show (0 : Int) = ((0 : Nat) : Int) from rfl, hz]
 exact h
theorem kf : XY yz := fun a0 r h => (JN a0 r h).elim fun n hn => RQ n a0 r hn
def X7 (F : (List (List UInt8)) → Option (List (List UInt8))) : Prop := ∀ (a0 : (List (List UInt8))), Oc (F a0) 77 [] [vq (zq za) a0] fun r => (.val false [.own 1 (eL (yD 1 za) r)], [])
def xB (a0 : (List (List UInt8))) : Nat → Int → (List (List UInt8)) → Option (Int × (List (List UInt8)))
  | 0, _, _ => none
  | m + 1, v1, v2 =>
  if v1 < (a0.length : Int) then
   (zy v1).bind fun i2 =>
   (a0[i2]?).bind fun x3 =>
   (yz x3).bind fun r4 =>
   (v2[i2]?).bind fun x5 =>
   xB a0 m (w64 (v1 + 1)) (v2.set i2 r4)
  else
  some (v1, v2)
theorem Qr (a0 : (List (List UInt8))) (m : Nat) : ∀ (v1 : Int) (v2 : (List (List UInt8))), Ol (xB a0 m v1 v2) 77 (zL Tryz.f77 0) ⟨[(0, vq (zq za) a0), (3, vr 0), (4, vi v1)], [.obj 1 (eL (yD 1 za) v2)], 0⟩ fun o => match o with | ⟨o_0, o_1⟩ => (.exit 0, ⟨[(0, vq (zq za) a0), (3, vr 0), (4, vi o_0), (11, vb false)], [.obj 1 (eL (yD 1 za) o_1)], 0⟩) := by
  induction m with
  | zero => intro v1 v2 o h; cases h
  | succ m ih => exact fun v1 v2 => tlp (
   .le (zq za) a0 <|
   .lI v1 (a0.length : Int) (fun c1 =>
    .na v1 fun i2 =>
    .ix0 (zq za) a0 i2 fun x3 =>
    .cl (kf x3) fun r4 =>
    .ag 2 <|
    .ix0 (yD 1 za) v2 i2 fun x5 =>
    .ag 0 <|
    .sl (e := (yD 1 za)) (x := r4) (c := [.own 1 (eL za r4)]) rfl v2 i2 <|
    .go (ih (w64 (v1 + 1)) (v2.set i2 r4))) fun c1 =>
   .ret (v1, v2))
def Za (n : Nat) (a0 : (List (List UInt8))) : Option (List (List UInt8)) :=
 (Y8 24 (a0.length : Int)).bind fun k1 =>
 (xB a0 n 0 (List.replicate k1 [])).bind fun ⟨o2_0, o2_1⟩ =>
 some o2_1
theorem V7 (n : Nat) : X7 (Za n) := fun a0 => tc (
 .le (zq za) a0 <|
 .q (.eTo (a0.length : Int) (a0.length : Int) rfl) <|
 .md 24 (a0.length : Int) fun k1 =>
 .q ⟨.rep k1 [.own 1 []], .l (eL (yD 1 za) (List.replicate k1 [])), A.rep rfl⟩ <|
 .lp (Qr a0 n 0 (List.replicate k1 [])) fun ⟨o2_0, o2_1⟩ =>
 .ret o2_1) (zj Tryz.func77)
theorem TY {a : List (List UInt8)} (ha : bsz a <= 2 ^ 20) : ∀ (d i m : Nat) (v : List (List UInt8)), i + d = a.length → d < m → Pre a v i → ∃ z, xB a m (i : Int) v = some (z, a) := by
 have hl := wQ a
 intro d
 induction d with
 | zero =>
  intro i m v hi hm hp
  obtain ⟨m, rfl, _⟩ := zf hm
  exact ⟨_, by rw [xB, if_neg (by omega), hp.done (by omega)]⟩
 | succ d ih =>
  intro i m v hi hm hp
  obtain ⟨m, rfl, hm'⟩ := zf hm
  have hil : i < a.length := by omega
  have hx := ZB (List.getElem_mem hil)
  rw [xB, if_pos (by omega), zc, Option.bind_some, zg hil, Option.bind_some]
  unfold yz
  rw [if_pos (by omega), Option.bind_some, zg (by rw [hp.1]; exact hil), Option.bind_some, zC (by omega)]
  exact ih (i + 1) m _ (by omega) (by omega) (hp.step hil)
def xO (a0 : (List (List UInt8))) : Option (List (List UInt8)) := if bsz a0 <= 2 ^ 20 then some a0 else none
theorem QT (a0 : (List (List UInt8))) (r : (List (List UInt8))) (h : xO a0 = some r) : ∃ n, Za n a0 = some r := by
 unfold xO at h
 obtain ⟨ha, h⟩ := zM h
 have hl := wQ a0
 refine ⟨a0.length + 1, ?_⟩
 obtain ⟨z, hz⟩ := TY ha a0.length 0 (a0.length + 1) (List.replicate a0.length []) (by omega) (by omega) (Pre.start (by simp))
 unfold Za
 rw [JF (by omega) (by decide), Option.bind_some, show (0 : Int) = ((0 : Nat) : Int) from rfl, hz]
 exact h
theorem YW : X7 xO := fun a0 r h => (QT a0 r h).elim fun n hn => V7 n a0 r hn
def kg (F : (List GValue) → Option (List GValue)) : Prop := ∀ (a0 : (List GValue)), Oc (F a0) 132 [] [vq zd a0] fun r => (.val false [.own 5 (eL yp r)], [])
def jg (F : GValue → Option GValue) : Prop := ∀ (a0 : GValue), Oc (F a0) 76 [] [.val true (z8 a0)] fun r => (.val true (KS r), [])
def xC (G_laws_toValue : GValue → Option GValue) (a0 : (List GValue)) : Nat → Int → (List GValue) → Option (Int × (List GValue))
  | 0, _, _ => none
  | m + 1, v1, v2 =>
  if v1 < (a0.length : Int) then
   (zy v1).bind fun i2 =>
   (a0[i2]?).bind fun x3 =>
   (G_laws_toValue x3).bind fun r4 =>
   (v2[i2]?).bind fun x5 =>
   xC G_laws_toValue a0 m (w64 (v1 + 1)) (v2.set i2 r4)
  else
  some (v1, v2)
theorem Qs (G_laws_toValue : GValue → Option GValue) (H_laws_toValue : jg G_laws_toValue) (a0 : (List GValue)) (m : Nat) : ∀ (v1 : Int) (v2 : (List GValue)), Ol (xC G_laws_toValue a0 m v1 v2) 132 (zL Tryz.f132 0) ⟨[(0, vq zd a0), (3, vr 0), (4, vi v1)], [.obj 5 (eL yp v2)], 0⟩ fun o => match o with | ⟨o_0, o_1⟩ => (.exit 0, ⟨[(0, vq zd a0), (3, vr 0), (4, vi o_0), (11, vb false)], [.obj 5 (eL yp o_1)], 0⟩) := by
  induction m with
  | zero => intro v1 v2 o h; cases h
  | succ m ih => exact fun v1 v2 => tlp (
   .le zd a0 <|
   .lI v1 (a0.length : Int) (fun c1 =>
    .na v1 fun i2 =>
    .ix zR a0 i2 fun x3 =>
    .cl (H_laws_toValue x3) fun r4 =>
    .ag 2 <|
    .ix yJ v2 i2 fun x5 =>
    .ag 0 <|
    .sl (yJ r4) v2 i2 <|
    .go (ih (w64 (v1 + 1)) (v2.set i2 r4))) fun c1 =>
   .ret (v1, v2))
def kh (G_laws_toValue : GValue → Option GValue) (n : Nat) (a0 : (List GValue)) : Option (List GValue) :=
 (Y8 88 (a0.length : Int)).bind fun k1 =>
 (xC G_laws_toValue a0 n 0 (List.replicate k1 (GValue.mk 0 0 [] [] []))).bind fun ⟨o2_0, o2_1⟩ =>
 some o2_1
theorem V8 (G_laws_toValue : GValue → Option GValue) (H_laws_toValue : jg G_laws_toValue) (n : Nat) : kg (kh G_laws_toValue n) := fun a0 => tc (
 .le zd a0 <|
 .q (.eTo (a0.length : Int) (a0.length : Int) rfl) <|
 .md 88 (a0.length : Int) fun k1 =>
 .q ⟨.rep k1 [.int .i64 0, .int .i64 0, .own 1 [], .own 1 [], .own 5 []], .l (eL yp (List.replicate k1 (GValue.mk 0 0 [] [] []))), A.rep (yJ (GValue.mk 0 0 [] [] []))⟩ <|
 .lp (Qs G_laws_toValue H_laws_toValue a0 n 0 (List.replicate k1 (GValue.mk 0 0 [] [] []))) fun ⟨o2_0, o2_1⟩ =>
 .ret o2_1) (zj Tryz.func132)
def Z0 (G_laws_toValueS : (List GValue) → Option (List GValue)) (a0 : GValue) : Option GValue :=
 (yz a0.S).bind fun r1 =>
 (xO a0.K).bind fun r2 =>
 (G_laws_toValueS a0.L).bind fun r3 =>
 some (GValue.mk a0.Kind a0.N r1 r2 r3)
theorem RR (G_laws_toValueS : (List GValue) → Option (List GValue)) (H_laws_toValueS : kg G_laws_toValueS) : jg (Z0 G_laws_toValueS) := fun a0 => tc (
 .cl (kf a0.S) fun r1 =>
 .cl (YW a0.K) fun r2 =>
 .cl (H_laws_toValueS a0.L) fun r3 =>
 .ret (GValue.mk a0.Kind a0.N r1 r2 r3)) (zj Tryz.func76)
mutual
def xl : Nat → (List GValue) → Option (List GValue)
 | 0, _ => none
 | n + 1, a0 => kh (xD n) n a0
def xD : Nat → GValue → Option GValue
 | 0, _ => none
 | n + 1, a0 => Z0 (xl n) a0
end
theorem Yt (n : Nat) : kg (xl n) ∧ jg (xD n) := by
 induction n with
 | zero => exact ⟨fun _ _ h => (by rw [xl] at h; cases h), fun _ _ h => (by rw [xD] at h; cases h)⟩
 | succ n ih =>
  obtain ⟨ih_laws_toValueS, ih_laws_toValue⟩ := ih
  exact ⟨fun a0 r h => V8 (xD n) ih_laws_toValue n a0 r (by rw [xl] at h; exact h),
   fun a0 r h => RR (xl n) ih_laws_toValueS a0 r (by rw [xD] at h; exact h)⟩
theorem V9 {G : GValue → Option GValue} {a : List GValue} {f : Nat} (ha : a.length <= 2 ^ 20) (hf : a.length < f) (hG : ∀ v ∈ a, G v = some v) : kh G f a = some a := by
 have loop : ∀ (d i m : Nat) (v : List GValue), i + d = a.length → d < m → Pre a v i → ∃ z, xC G a m (i : Int) v = some (z, a) := by
  intro d
  induction d with
  | zero =>
   intro i m v hi hm hp
   obtain ⟨m, rfl, _⟩ := zf hm
   exact ⟨_, by rw [xC, if_neg (by omega), hp.done (by omega)]⟩
  | succ d ih =>
   intro i m v hi hm hp
   obtain ⟨m, rfl, hm'⟩ := zf hm
   have hil : i < a.length := by omega
   rw [xC, if_pos (by omega), zc, Option.bind_some, zg hil, Option.bind_some, hG _ (List.getElem_mem hil), Option.bind_some, zg (by rw [hp.1]; exact hil), Option.bind_some, zC (by omega)]
   exact ih (i + 1) m _ (by omega) (by omega) (hp.step hil)
 obtain ⟨z, hz⟩ := loop a.length 0 f (List.replicate a.length (GValue.mk 0 0 [] [] [])) (by omega) (by omega) (Pre.start (by simp))
 rw [show ((0 : Nat) : Int) = 0 from rfl] at hz
 unfold kh
 rw [JF ha (by decide), Option.bind_some, hz]; rfl
theorem TB : ∀ (N : Nat) (v : GValue), vsz v < N → vsz v <= 2 ^ 20 → ∀ f : Nat, 2 * vsz v + 3 <= f → xD f v = some v := by
 intro N
 induction N with
 | zero => intro v hv; omega
 | succ N ih =>
  intro v hv hs f hf
  obtain ⟨f, rfl, _⟩ := zf (show 0 < f by omega)
  obtain ⟨f, rfl, _⟩ := zf (show 0 < f by omega)
  have he := qa v
  have hl := yR v.L
  rw [xD]
  unfold Z0 yz xO
  rw [if_pos (by omega), Option.bind_some, if_pos (by omega), Option.bind_some, xl, V9 (by omega) (by omega) fun x hx => ?_, Option.bind_some, GValue.eta]
  have := w6 hx
  exact ih x (by omega) (by omega) f (by omega)
def Zb (a0 : (List GValue)) : Option (List GValue) := if yK a0 <= 2 ^ 20 then some a0 else none
theorem QU (a0 : (List GValue)) (r : (List GValue)) (h : Zb a0 = some r) : ∃ n, xl n a0 = some r := by
 unfold Zb at h
 obtain ⟨ha, h⟩ := zM h
 have hl := yR a0
 refine ⟨2 * yK a0 + 5, ?_⟩
 rw [xl, V9 (by omega) (by omega) fun x hx => ?_, h]
 have := w6 hx
 exact TB _ x (Nat.lt_succ_self _) (by omega) _ (by omega)
def jh (a0 : GValue) : Option GValue := if vsz a0 <= 2 ^ 20 then some a0 else none
theorem JO (a0 : GValue) (r : GValue) (h : jh a0 = some r) : ∃ n, xD n a0 = some r := by
 unfold jh at h
 obtain ⟨ha, h⟩ := zM h
 exact ⟨2 * vsz a0 + 3, by rw [<- h]; exact TB _ a0 (Nat.lt_succ_self _) ha _ (Nat.le_refl _)⟩
theorem G1 : kg Zb := by
 intro a0 r h
 obtain ⟨n, hn⟩ := QU a0 r h
 exact (Yt n).1 a0 r hn
theorem VA : jg jh := by
 intro a0 r h
 obtain ⟨n, hn⟩ := JO a0 r h
 exact (Yt n).2 a0 r hn
def ji (a0 : GEntry) : Option GEntry :=
 (yz a0.Addr).bind fun r1 =>
 (jh a0.Val).bind fun r2 =>
 (xO a0.Deps).bind fun r3 =>
 some (GEntry.mk r1 r2 r3 a0.Taint a0.Turned)
theorem VB (a0 : GEntry) : Oc (ji a0) 131 [] [.val true (ZA a0)] fun r => (.val true (PP r), []) := tc (
 .cl (kf a0.Addr) fun r1 =>
 .cl (VA a0.Val) fun r2 =>
 .cl (YW a0.Deps) fun r3 =>
 .ret (GEntry.mk r1 r2 r3 a0.Taint a0.Turned)) (zj Tryz.func131)
def X8 (F : (List GEntry) → Option (List GEntry)) : Prop := ∀ (a0 : (List GEntry)), Oc (F a0) 75 [] [vq zr a0] fun r => (.val false [.own 9 (eL yQ r)], [])
def xE (a0 : (List GEntry)) : Nat → Int → (List GEntry) → Option (Int × (List GEntry))
  | 0, _, _ => none
  | m + 1, v1, v2 =>
  if v1 < (a0.length : Int) then
   (zy v1).bind fun i2 =>
   (a0[i2]?).bind fun x3 =>
   (ji x3).bind fun r4 =>
   (v2[i2]?).bind fun x5 =>
   xE a0 m (w64 (v1 + 1)) (v2.set i2 r4)
  else
  some (v1, v2)
theorem Qt (a0 : (List GEntry)) (m : Nat) : ∀ (v1 : Int) (v2 : (List GEntry)), Ol (xE a0 m v1 v2) 75 (zL Tryz.f75 0) ⟨[(0, vq zr a0), (3, vr 0), (4, vi v1)], [.obj 9 (eL yQ v2)], 0⟩ fun o => match o with | ⟨o_0, o_1⟩ => (.exit 0, ⟨[(0, vq zr a0), (3, vr 0), (4, vi o_0), (11, vb false)], [.obj 9 (eL yQ o_1)], 0⟩) := by
  induction m with
  | zero => intro v1 v2 o h; cases h
  | succ m ih => exact fun v1 v2 => tlp (
   .le zr a0 <|
   .lI v1 (a0.length : Int) (fun c1 =>
    .na v1 fun i2 =>
    .ix zS a0 i2 fun x3 =>
    .cl (VB x3) fun r4 =>
    .ag 2 <|
    .ix zW v2 i2 fun x5 =>
    .ag 0 <|
    .sl (zW r4) v2 i2 <|
    .go (ih (w64 (v1 + 1)) (v2.set i2 r4))) fun c1 =>
   .ret (v1, v2))
def Zc (n : Nat) (a0 : (List GEntry)) : Option (List GEntry) :=
 (Y8 152 (a0.length : Int)).bind fun k1 =>
 (xE a0 n 0 (List.replicate k1 (GEntry.mk [] (GValue.mk 0 0 [] [] []) [] false 0))).bind fun ⟨o2_0, o2_1⟩ =>
 some o2_1
theorem VC (n : Nat) : X8 (Zc n) := fun a0 => tc (
 .le zr a0 <|
 .q (.eTo (a0.length : Int) (a0.length : Int) rfl) <|
 .md 152 (a0.length : Int) fun k1 =>
 .q ⟨.rep k1 [.own 1 [], .int .i64 0, .int .i64 0, .own 1 [], .own 1 [], .own 5 [], .own 1 [], .bool false, .int .i64 0], .l (eL yQ (List.replicate k1 (GEntry.mk [] (GValue.mk 0 0 [] [] []) [] false 0))), A.rep (zW (GEntry.mk [] (GValue.mk 0 0 [] [] []) [] false 0))⟩ <|
 .lp (Qt a0 n 0 (List.replicate k1 (GEntry.mk [] (GValue.mk 0 0 [] [] []) [] false 0))) fun ⟨o2_0, o2_1⟩ =>
 .ret o2_1) (zj Tryz.func75)
theorem TZ {a : List GEntry} (ha : a.length <= 2 ^ 20) (hG : ∀ v ∈ a, ji v = some v) : ∀ (d i m : Nat) (v : List GEntry), i + d = a.length → d < m → Pre a v i → ∃ z, xE a m (i : Int) v = some (z, a) := by
 intro d
 induction d with
 | zero =>
  intro i m v hi hm hp
  obtain ⟨m, rfl, _⟩ := zf hm
  exact ⟨_, by rw [xE, if_neg (by omega), hp.done (by omega)]⟩
 | succ d ih =>
  intro i m v hi hm hp
  obtain ⟨m, rfl, hm'⟩ := zf hm
  have hil : i < a.length := by omega
  rw [xE, if_pos (by omega), zc, Option.bind_some, zg hil, Option.bind_some, hG _ (List.getElem_mem hil), Option.bind_some, zg (by rw [hp.1]; exact hil), Option.bind_some, zC (by omega)]
  exact ih (i + 1) m _ (by omega) (by omega) (hp.step hil)
theorem LJ {v : GEntry} (h : esz v <= 2 ^ 20) : ji v = some v := by
 unfold esz at h
 unfold ji yz jh xO
 rw [if_pos (by omega), Option.bind_some, if_pos (by omega), Option.bind_some, if_pos (by omega), Option.bind_some]
 cases v; rfl
def qI (a0 : (List GEntry)) : Option (List GEntry) := if xT a0 <= 2 ^ 20 then some a0 else none
theorem QV (a0 : (List GEntry)) (r : (List GEntry)) (h : qI a0 = some r) : ∃ n, Zc n a0 = some r := by
 unfold qI at h
 obtain ⟨ha, h⟩ := zM h
 have hl := qx a0
 refine ⟨a0.length + 1, ?_⟩
 obtain ⟨z, hz⟩ := TZ (a := a0) (by omega) (fun v hv => LJ (by have := ZE hv; omega)) a0.length 0 (a0.length + 1) (List.replicate a0.length (GEntry.mk [] (GValue.mk 0 0 [] [] []) [] false 0)) (by omega) (by omega) (Pre.start (by simp))
 unfold Zc
 rw [JF (by omega) (by decide), Option.bind_some, show (0 : Int) = ((0 : Nat) : Int) from rfl]
 exact (congrArg (fun x => Option.bind x _) hz).trans h
theorem K7 : X8 qI := fun a0 r h => (QV a0 r h).elim fun n hn => VC n a0 r hn
def jj (a0 : GState) : Option GState :=
 (yz a0.Pending).bind fun r1 =>
 (qI a0.Entries).bind fun r2 =>
 some (GState.mk a0.Serial a0.Open r1 a0.Act r2)
theorem X9 (a0 : GState) : Oc (jj a0) 18 [] [.val true (zw a0)] fun r => (.val true (PQ r), []) := tc (
 .cl (kf a0.Pending) fun r1 =>
 .cl (K7 a0.Entries) fun r2 =>
 .ret (GState.mk a0.Serial a0.Open r1 a0.Act r2)) (zj Tryz.func18)
def Qe (F : (List UInt8) → Option Bool) : Prop := ∀ (a0 : (List UInt8)), Oc (F a0) 152 [] [vq za a0] fun r => (vb r, [])
def wr (a0 : (List UInt8)) : Nat → Int → Option (Bool ⊕ Int)
  | 0, _ => none
  | m + 1, v1 =>
  if v1 < (a0.length : Int) then
   (zy v1).bind fun i2 =>
   (a0[i2]?).bind fun x3 =>
   if ((x3.toNat : Nat) : Int) < 97 then
    some (.inl false)
   else
   if 122 < ((x3.toNat : Nat) : Int) then
    some (.inl false)
   else
   wr a0 m (w64 (v1 + 1))
  else
  some (.inr v1)
theorem JP (a0 : (List UInt8)) (m : Nat) : ∀ (v1 : Int), Ol (wr a0 m v1) 152 (zL Tryz.f152 0) ⟨[(0, vq za a0), (3, vi v1)], [], 0⟩ fun o => match o with | .inl o_0 => (.ret, ⟨[(2, vb o_0)], [], 0⟩) | .inr (o_1) => (.exit 0, ⟨[(0, vq za a0), (3, vi o_1), (15, vb false)], [], 0⟩) := by
  induction m with
  | zero => intro v1 o h; cases h
  | succ m ih => exact fun v1 => tlp (
   .le za a0 <|
   .lI v1 (a0.length : Int) (fun c1 =>
    .na v1 fun i2 =>
    .ix0 za a0 i2 fun x3 =>
    .lI ((x3.toNat : Nat) : Int) 97 (fun c4 =>
     .ret (.inl false)) fun c4 =>
    .ag 1 <|
    .ag 0 <|
    .lI 122 ((x3.toNat : Nat) : Int) (fun c5 =>
     .ret (.inl false)) fun c5 =>
    .go (ih (w64 (v1 + 1)))) fun c1 =>
   .ret (.inr v1))
def Yk (n : Nat) (a0 : (List UInt8)) : Option Bool :=
 if (a0.length : Int) < 1 then
  some false
 else
 if 8 < (a0.length : Int) then
  some false
 else
 (wr a0 n 0).bind fun o3 =>
 match o3 with
 | .inl o3_0 =>
  some o3_0
 | .inr (o3_1) =>
  some true
theorem Ua (n : Nat) : Qe (Yk n) := fun a0 => tc (
 .le za a0 <|
 .lI (a0.length : Int) 1 (fun c1 =>
  .ret false) fun c1 =>
 .le za a0 <|
 .lI 8 (a0.length : Int) (fun c2 =>
  .ret false) fun c2 =>
 .l2 (JP a0 n 0) (fun o3_0 =>
  .ret o3_0) fun o3_1 =>
 .ret true) (zj Tryz.func152)
theorem K8 {a : List UInt8} (ha : a.length <= 2 ^ 20) : ∀ (d i m : Nat), i + d = a.length → d < m → ∃ z, wr a m (i : Int) = some (if (a.drop i).all (inB 97 122) = true then .inr z else .inl false) := by
 intro d
 induction d with
 | zero =>
  intro i m hi hm
  obtain ⟨m, rfl, _⟩ := zf hm
  exact ⟨_, by rw [wr, if_neg (by omega), List.drop_eq_nil_of_le (by omega)]; rfl⟩
 | succ d ih =>
  intro i m hi hm
  obtain ⟨m, rfl, hm'⟩ := zf hm
  have hil : i < a.length := by omega
  rw [wr, if_pos (by omega), zc, Option.bind_some, zg hil, Option.bind_some, zC (by omega), xi hil, List.all_cons]
  by_cases h1 : ((a[i].toNat : Nat) : Int) < 97
  ·exact ⟨0, by rw [if_pos h1, if_neg]; simp [inB]; omega⟩
  ·rw [if_neg h1]
   by_cases h2 : (122 : Int) < ((a[i].toNat : Nat) : Int)
   ·exact ⟨0, by rw [if_pos h2, if_neg]; simp [inB]; omega⟩
   ·rw [if_neg h2, show inB 97 122 a[i] = true by simp [inB]; omega, Bool.true_and]
    exact ih (i + 1) m (by omega) (by omega)
def wd (a0 : (List UInt8)) : Option Bool := if a0.length <= 2 ^ 20 then some (qf a0) else none
theorem K9 (a0 : (List UInt8)) (r : Bool) (h : wd a0 = some r) : ∃ n, Yk n a0 = some r := by
 unfold wd at h
 obtain ⟨ha, h⟩ := zM h
 refine ⟨a0.length + 1, ?_⟩
 obtain ⟨z, hz⟩ := K8 ha a0.length 0 (a0.length + 1) (by omega) (by omega)
 rw [show ((0 : Nat) : Int) = 0 from rfl, List.drop_zero] at hz
 unfold Yk
 rw [<- h, hz]
 unfold qf
 by_cases h1 : 1 <= a0.length
 ·rw [if_neg (by omega)]
  by_cases hl : a0.length <= 8
  ·rw [if_neg (by omega), decide_eq_true ⟨h1, hl⟩]
   cases a0.all (inB 97 122) <;> rfl
  ·rw [if_pos (by omega), decide_eq_false (fun h => hl h.2)]; rfl
 ·rw [if_pos (by omega), decide_eq_false (fun h => h1 h.1)]; rfl
theorem Z1 : Qe wd := fun a0 r h => (K9 a0 r h).elim fun n hn => Ua n a0 r hn
def XZ (F : (List UInt8) → Option ((List UInt8) × (List UInt8) × Bool)) : Prop := ∀ (a0 : (List UInt8)), Oc (F a0) 167 [] [vq za a0] fun r => (.tup [(false, [cq za r.1]), (false, [cq za r.2.1]), (false, [.bool r.2.2])], [])
def xW (a0 : (List UInt8)) : Nat → Int → Option Int
  | 0, _ => none
  | m + 1, v1 =>
  if v1 < (a0.length : Int) then
   (zy v1).bind fun i2 =>
   (a0[i2]?).bind fun x3 =>
   if ((x3.toNat : Nat) : Int) = 91 then
    some v1
   else
   xW a0 m (w64 (v1 + 1))
  else
  some v1
theorem QW (a0 : (List UInt8)) (m : Nat) : ∀ (v1 : Int), Ol (xW a0 m v1) 167 (zL Tryz.f167 0) ⟨[(0, vq za a0), (5, vi v1)], [], 0⟩ fun o => (.exit 0, ⟨[(0, vq za a0), (5, vi o), (20, vb false)], [], 0⟩) := by
  induction m with
  | zero => intro v1 o h; cases h
  | succ m ih => exact fun v1 => tlp (
   .le za a0 <|
   .lI v1 (a0.length : Int) (fun c1 =>
    .na v1 fun i2 =>
    .ix0 za a0 i2 fun x3 =>
    .eI ((x3.toNat : Nat) : Int) 91 (fun c4 =>
     .ret v1) fun c4 =>
    .go (ih (w64 (v1 + 1)))) fun c1 =>
   .ret v1)
def xd (a0 : (List UInt8)) (v1 : Int) (v2 : (List UInt8)) (v3 : (List UInt8)) : Nat → Int → Option ((Bool × (List UInt8)) ⊕ Int)
  | 0, _ => none
  | m + 1, v4 =>
  if v4 < (v3.length : Int) then
   (zy v4).bind fun i2 =>
   (v3[i2]?).bind fun x3 =>
   if ((x3.toNat : Nat) : Int) < 48 then
    some (.inl (false, []))
   else
   if 57 < ((x3.toNat : Nat) : Int) then
    some (.inl (false, []))
   else
   xd a0 v1 v2 v3 m (w64 (v4 + 1))
  else
  some (.inr v4)
theorem ZV (a0 : (List UInt8)) (v1 : Int) (v2 : (List UInt8)) (v3 : (List UInt8)) (m : Nat) : ∀ (v4 : Int), Ol (xd a0 v1 v2 v3 m v4) 167 (zL Tryz.f167 1) ⟨[(0, vq za a0), (5, vi v1), (6, vq za v2), (8, vq za v3), (9, vi v4)], [], 0⟩ fun o => match o with | .inl ⟨o_0_0, o_0_1⟩ => (.ret, ⟨[(2, vr 0), (3, vr 1), (4, vb o_0_0)], [.obj 1 (eL za o_0_1), .obj 1 (eL za o_0_1)], 0⟩) | .inr (o_1) => (.exit 2, ⟨[(0, vq za a0), (5, vi v1), (6, vq za v2), (8, vq za v3), (9, vi o_1), (98, vb false)], [], 0⟩) := by
  induction m with
  | zero => intro v4 o h; cases h
  | succ m ih => exact fun v4 => tlp (
   .le za v3 <|
   .lI v4 (v3.length : Int) (fun c1 =>
    .na v4 fun i2 =>
    .ix0 za v3 i2 fun x3 =>
    .lI ((x3.toNat : Nat) : Int) 48 (fun c4 =>
     .ret (.inl (false, []))) fun c4 =>
    .ag 1 <|
    .ag 0 <|
    .lI 57 ((x3.toNat : Nat) : Int) (fun c5 =>
     .ret (.inl (false, []))) fun c5 =>
    .go (ih (w64 (v4 + 1)))) fun c1 =>
   .ret (.inr v4))
def kQ (n : Nat) (a0 : (List UInt8)) : Option ((List UInt8) × (List UInt8) × Bool) :=
 (xW a0 n 0).bind fun o1 =>
 (zy o1).bind fun i2 =>
 (qc a0 none (some i2)).bind fun s3 =>
 (wd s3).bind fun r4 =>
 match r4 with
 | true =>
  (qc a0 (some i2) none).bind fun s5 =>
  if (s5.length : Int) = 0 then
   some (a0, s5, true)
  else
  if (s5.length : Int) < 3 then
   some ([], [], false)
  else
  (zy (w64 ((s5.length : Int) - 1))).bind fun i8 =>
  (s5[i8]?).bind fun x9 =>
  if ((x9.toNat : Nat) : Int) = 93 then
   (qc s5 (some 1) (some i8)).bind fun s11 =>
   (s11[0]?).bind fun x12 =>
   if ((x12.toNat : Nat) : Int) = 34 then
    if (s11.length : Int) < 3 then
     some ([], [], false)
    else
    (zy (w64 ((s11.length : Int) - 1))).bind fun i15 =>
    (s11[i15]?).bind fun x16 =>
    if ((x16.toNat : Nat) : Int) = 34 then
     (qc s11 (some 1) (some i15)).bind fun s18 =>
     (wd s18).bind fun r19 =>
     match r19 with
     | true =>
      some (s3, s5, true)
     | false =>
      some ([], [], false)
    else
    some ([], [], false)
   else
   if 2 < (s11.length : Int) then
    some ([], [], false)
   else
   if (s11.length : Int) = 2 then
    if ((x12.toNat : Nat) : Int) = 48 then
     some ([], [], false)
    else
    (xd a0 o1 s5 s11 n 0).bind fun o17 =>
    match o17 with
    | .inl ⟨o17_0_0, o17_0_1⟩ =>
     some (o17_0_1, o17_0_1, o17_0_0)
    | .inr (o17_1) =>
     some (s3, s5, true)
   else
   (xd a0 o1 s5 s11 n 0).bind fun o16 =>
   match o16 with
   | .inl ⟨o16_0_0, o16_0_1⟩ =>
    some (o16_0_1, o16_0_1, o16_0_0)
   | .inr (o16_1) =>
    some (s3, s5, true)
  else
  some ([], [], false)
 | false =>
  some ([], [], false)
theorem RS (n : Nat) : XZ (kQ n) := fun a0 => tc (
 .lp (QW a0 n 0) fun o1 =>
 .na o1 fun i2 =>
 .ct za a0 none (some i2) fun s3 =>
 .un yd a0 <|
 .cl (Z1 s3) fun r4 =>
 .vN 0 r4 (
  .ag 3 <|
  .ct za a0 (some i2) none fun s5 =>
  .un yd a0 <|
  .le za s5 <|
  .eI (s5.length : Int) 0 (fun c6 =>
   .ret (a0, s5, true)) fun c6 =>
  .le za s5 <|
  .lI (s5.length : Int) 3 (fun c7 =>
   .vw yd [] <|
   .vw yd [] <|
   .ret ([], [], false)) fun c7 =>
  .na (w64 ((s5.length : Int) - 1)) fun i8 =>
  .ix0 za s5 i8 fun x9 =>
  .eI ((x9.toNat : Nat) : Int) 93 (fun c10 =>
   .nl 1 <|
   .ag 1 <|
   .ct za s5 (some 1) (some i8) fun s11 =>
   .un yd s5 <|
   .nl 0 <|
   .ix0 za s11 0 fun x12 =>
   .eI ((x12.toNat : Nat) : Int) 34 (fun c13 =>
    .le za s11 <|
    .lI (s11.length : Int) 3 (fun c14 =>
     .vw yd [] <|
     .vw yd [] <|
     .ret ([], [], false)) fun c14 =>
    .le za s11 <|
    .na (w64 ((s11.length : Int) - 1)) fun i15 =>
    .ix0 za s11 i15 fun x16 =>
    .eI ((x16.toNat : Nat) : Int) 34 (fun c17 =>
     .le za s11 <|
     .nl 1 <|
     .ag 1 <|
     .ct za s11 (some 1) (some i15) fun s18 =>
     .un yd s11 <|
     .cl (Z1 s18) fun r19 =>
     .vN 2 r19 (
      .ag 13 <|
      .ag 12 <|
      .un yd a0 <|
      .ret (s3, s5, true)) <|
     .vw yd [] <|
     .vw yd [] <|
     .ret ([], [], false)) fun c17 =>
    .vw yd [] <|
    .vw yd [] <|
    .ret ([], [], false)) fun c13 =>
   .le za s11 <|
   .lI 2 (s11.length : Int) (fun c14 =>
    .vw yd [] <|
    .vw yd [] <|
    .ret ([], [], false)) fun c14 =>
   .le za s11 <|
   .eI (s11.length : Int) 2 (fun c15 =>
    .nl 0 <|
    .ag 0 <|
    .eI ((x12.toNat : Nat) : Int) 48 (fun c16 =>
     .vw yd [] <|
     .vw yd [] <|
     .ret ([], [], false)) fun c16 =>
    .l2 (ZV a0 o1 s5 s11 n 0) (fun ⟨o17_0_0, o17_0_1⟩ =>
     .vw yd o17_0_1 <|
     .vw yd o17_0_1 <|
     .ret (o17_0_1, o17_0_1, o17_0_0)) fun o17_1 =>
    .ag 9 <|
    .ag 8 <|
    .un yd a0 <|
    .ret (s3, s5, true)) fun c15 =>
   .l2 (ZV a0 o1 s5 s11 n 0) (fun ⟨o16_0_0, o16_0_1⟩ =>
    .vw yd o16_0_1 <|
    .vw yd o16_0_1 <|
    .ret (o16_0_1, o16_0_1, o16_0_0)) fun o16_1 =>
   .ag 9 <|
   .ag 8 <|
   .un yd a0 <|
   .ret (s3, s5, true)) fun c10 =>
  .vw yd [] <|
  .vw yd [] <|
  .ret ([], [], false)) <|
 .vw yd [] <|
 .vw yd [] <|
 .ret ([], [], false)) (zj Tryz.func167)
theorem G2 {a : List UInt8} (ha : a.length <= 2 ^ 20) : ∀ (d i m : Nat), i + d = a.length → d < m → xW a m (i : Int) = some ((i + (jX (a.drop i)).length : Nat) : Int) := by
 intro d
 induction d with
 | zero =>
  intro i m hi hm
  obtain ⟨m, rfl, _⟩ := zf hm
  rw [xW, if_neg (by omega), List.drop_eq_nil_of_le (by omega)]; rfl
 | succ d ih =>
  intro i m hi hm
  obtain ⟨m, rfl, hm'⟩ := zf hm
  have hil : i < a.length := by omega
  rw [xW, if_pos (by omega), zc, Option.bind_some, zg hil, Option.bind_some, xi hil]
  unfold jX
  rw [List.takeWhile_cons]
  by_cases h : a[i] = 91
  ·rw [h, if_pos (by decide), if_neg (by simp)]; rfl
  ·have : ¬ ((a[i].toNat : Nat) : Int) = 91 := fun e => h (UInt8.toNat_inj.1 (by show a[i].toNat = 91; omega))
   rw [if_neg this, if_pos (by simpa using h), zC (by omega), ih (i + 1) m (by omega) (by omega)]
   unfold jX
   rw [List.length_cons]
   congr 2; omega
theorem E6 {a v2 l : List UInt8} {v1 : Int} (hl : l.length <= 2 ^ 20) : ∀ (d i m : Nat), i + d = l.length → d < m → ∃ z, xd a v1 v2 l m (i : Int) = some (if (l.drop i).all (inB 48 57) = true then .inr z else .inl (false, [])) := by
 intro d
 induction d with
 | zero =>
  intro i m hi hm
  obtain ⟨m, rfl, _⟩ := zf hm
  exact ⟨_, by rw [xd, if_neg (by omega), List.drop_eq_nil_of_le (by omega)]; rfl⟩
 | succ d ih =>
  intro i m hi hm
  obtain ⟨m, rfl, hm'⟩ := zf hm
  have hil : i < l.length := by omega
  rw [xd, if_pos (by omega), zc, Option.bind_some, zg hil, Option.bind_some, zC (by omega), xi hil, List.all_cons]
  by_cases h1 : ((l[i].toNat : Nat) : Int) < 48
  ·exact ⟨0, by rw [if_pos h1, if_neg]; simp [inB]; omega⟩
  ·rw [if_neg h1]
   by_cases h2 : (57 : Int) < ((l[i].toNat : Nat) : Int)
   ·exact ⟨0, by rw [if_pos h2, if_neg]; simp [inB]; omega⟩
   ·rw [if_neg h2, show inB 48 57 l[i] = true by simp [inB]; omega, Bool.true_and]
    exact ih (i + 1) m (by omega) (by omega)
def VD (a : List UInt8) : (List UInt8) × (List UInt8) × Bool := if yA a = true then (jX a, qU a, true) else ([], [], false)
theorem U6 {x : UInt8} {n : Nat} (hn : n < 256) : ((x.toNat : Nat) : Int) = (n : Int) ↔ x = UInt8.ofNat n := by
 constructor
 ·intro h
  refine UInt8.toNat_inj.1 ?_
  rw [UInt8.toNat_ofNat_of_lt' hn]; omega
 ·intro h
  subst h
  rw [UInt8.toNat_ofNat_of_lt' hn]
theorem Oz {a : List UInt8} (ha : a.length <= 2 ^ 20) : kQ (a.length + 5) a = some (VD a) := by
 have hlen := PX a
 have h0 := G2 ha a.length 0 (a.length + 5) (by omega) (by omega)
 rw [List.drop_zero, Nat.zero_add, show ((0 : Nat) : Int) = 0 from rfl] at h0
 unfold kQ
 rw [h0, Option.bind_some, zc, Option.bind_some, Rf (by omega), Option.bind_some, OW]
 unfold wd
 rw [if_pos (by omega), Option.bind_some]
 unfold VD
 have hfalse : ∀ {x : (List UInt8) × (List UInt8) × Bool}, yA a = false → some (([] : List UInt8), ([] : List UInt8), false) = some (if yA a = true then x else ([], [], false)) := fun h => by rw [h]; rfl
 cases hn : qf (jX a) with
 | false => exact hfalse (by unfold yA; rw [hn]; rfl)
 | true =>
  dsimp only
  have hA : yA a = (if qU a = [] then true else if ((qU a).drop 1).getLast? = some 93 then LV ((qU a).drop 1).dropLast else false) := by unfold yA; rw [hn, Bool.true_and]
  rw [WX (by omega), Option.bind_some, OX]
  by_cases hr : qU a = []
  ·rw [hr, if_pos (by simp), hA, if_pos hr]
   have := Rh a
   rw [hr, List.append_nil] at this
   rw [this]; rfl
  obtain ⟨t, ht⟩ := OY hr
  rw [ht] at hlen hA ⊢
  rw [if_neg (by simp)] at hA
  simp only [List.drop_succ_cons, List.drop_zero] at hA
  rw [if_neg (by simp; omega)]
  by_cases h3 : ((91 :: t : List UInt8).length : Int) < 3
  ·rw [if_pos h3]
   refine hfalse ?_
   rw [hA]
   simp only [List.length_cons] at h3
   match t, h3 with
   | [], _ => rfl
   | [x], _ =>
    split
    ·rfl
    ·rfl
   | x :: y :: t, h3 => simp at h3; omega
  rw [if_neg h3]
  simp only [List.length_cons] at h3
  have ht0 : 0 < t.length := by omega
  rw [show w64 (((91 :: t : List UInt8).length : Int) - 1) = (((91 :: t : List UInt8).length - 1 : Nat) : Int) from qS (by simp only [List.length_cons] at hlen ⊢; omega) (by simp), zc, Option.bind_some]
  have hlast : (91 :: t : List UInt8)[(91 :: t : List UInt8).length - 1]? = t.getLast? := by
   rw [PW (by simp), List.getLast?_cons]
   cases t with
   | nil => simp at ht0
   | cons x t => rw [List.getLast?_cons]; rfl
  rw [hlast]
  obtain ⟨x, hx⟩ : ∃ x, t.getLast? = some x := by
   cases t with
   | nil => simp at ht0
   | cons y t => exact ⟨_, List.getLast?_cons⟩
  rw [hx, Option.bind_some]
  rw [hx] at hA
  have htrue : ∀ {x : (List UInt8) × (List UInt8) × Bool}, yA a = true → some x = some (if yA a = true then x else ([], [], false)) := fun h => by rw [h]; rfl
  by_cases h93 : ¬ x = 93
  ·rw [if_neg (show ¬ ((x.toNat : Nat) : Int) = 93 from fun h => h93 ((U6 (n := 93) (by decide)).1 h))]
   refine hfalse ?_
   rw [hA, if_neg (by simpa using h93)]
  have h93 : x = 93 := Classical.not_not.1 h93
  subst h93
  rw [if_pos (by decide)]
  rw [if_pos rfl] at hA
  have hmid := OV (l := 91 :: t) (by simp; omega)
  rw [List.drop_succ_cons, List.drop_zero] at hmid
  rw [hmid, Option.bind_some]
  have hdl : t.dropLast.length = t.length - 1 := List.length_dropLast
  generalize t.dropLast = l at hdl hA ⊢
  cases l with
  | nil => simp at hdl; omega
  | cons c r =>
  rw [show (c :: r : List UInt8)[0]? = some c from rfl, Option.bind_some]
  unfold LV at hA
  rw [show (c :: r : List UInt8)[0]? = some c from rfl, List.drop_succ_cons, List.drop_zero] at hA
  have hcl : (c :: r : List UInt8).length <= 2 ^ 20 := by simp only [List.length_cons] at hdl hlen ⊢; omega
  by_cases h34 : c = 34
  ·subst h34
   rw [if_pos (by decide)]
   rw [if_pos rfl] at hA
   by_cases hl3 : ((34 :: r : List UInt8).length : Int) < 3
   ·rw [if_pos hl3]
    refine hfalse ?_
    rw [hA]
    simp only [List.length_cons] at hl3
    match r, hl3 with
    | [], _ => rfl
    | [y], _ =>
     split
     ·rfl
     ·rfl
    | x :: y :: r, h => simp at h; omega
   rw [if_neg hl3]
   simp only [List.length_cons] at hl3
   have hr0 : 0 < r.length := by omega
   rw [show w64 (((34 :: r : List UInt8).length : Int) - 1) = (((34 :: r : List UInt8).length - 1 : Nat) : Int) from qS (by omega) (by simp), zc, Option.bind_some]
   have hlast2 : (34 :: r : List UInt8)[(34 :: r : List UInt8).length - 1]? = r.getLast? := by
    rw [PW (by simp), List.getLast?_cons]
    cases r with
    | nil => simp at hr0
    | cons x r => rw [List.getLast?_cons]; rfl
   obtain ⟨y, hy⟩ : ∃ y, r.getLast? = some y := by
    cases r with
    | nil => simp at hr0
    | cons y r => exact ⟨_, List.getLast?_cons⟩
   rw [hlast2, hy, Option.bind_some]
   rw [hy] at hA
   by_cases hy34 : y = 34
   ·subst hy34
    rw [if_pos (by decide)]
    rw [if_pos rfl] at hA
    have hm2 := OV (l := 34 :: r) (by simp; omega)
    rw [List.drop_succ_cons, List.drop_zero] at hm2
    rw [hm2, Option.bind_some, if_pos (by rw [List.length_dropLast]; simp only [List.length_cons] at hcl; omega), Option.bind_some]
    cases hk : qf r.dropLast with
    | true => exact htrue (by rw [hA, hk])
    | false => exact hfalse (by rw [hA, hk])
   ·rw [if_neg (show ¬ ((y.toNat : Nat) : Int) = 34 from fun h => hy34 ((U6 (n := 34) (by decide)).1 h))]
    exact hfalse (by rw [hA, if_neg (by simpa using hy34)])
  ·rw [if_neg (show ¬ ((c.toNat : Nat) : Int) = 34 from fun h => h34 ((U6 (n := 34) (by decide)).1 h))]
   rw [if_neg (by simpa using h34)] at hA
   unfold WY at hA
   rw [show (c :: r : List UInt8)[0]? = some c from rfl] at hA
   obtain ⟨z, hz⟩ := E6 (a := a) (v2 := 91 :: t) (l := c :: r) (v1 := ((jX a).length : Int)) hcl (c :: r).length 0 (a.length + 5) (by omega) (by simp only [List.length_cons] at hlen hdl ⊢; omega)
   rw [List.drop_zero, show ((0 : Nat) : Int) = 0 from rfl] at hz
   by_cases h2 : (2 : Int) < ((c :: r : List UInt8).length : Int)
   ·rw [if_pos h2]
    exact hfalse (by rw [hA, decide_eq_false (by omega)]; rfl)
   rw [if_neg h2]
   have h12 : decide (1 <= (c :: r : List UInt8).length ∧ (c :: r : List UInt8).length <= 2) = true := decide_eq_true ⟨by simp, by omega⟩
   rw [h12, Bool.true_and] at hA
   have fin : (decide ((c :: r : List UInt8).length = 2) && decide (some c = some 48)) = false → yA a = (c :: r : List UInt8).all (inB 48 57) := fun h => by
    rw [h, Bool.not_false, Bool.true_and] at hA
    exact hA
   by_cases he : ((c :: r : List UInt8).length : Int) = 2
   ·rw [if_pos he]
    by_cases h48 : c = 48
    ·subst h48
     rw [if_pos (by decide)]
     exact hfalse (by rw [hA, decide_eq_true (by omega)]; rfl)
    ·rw [if_neg (show ¬ ((c.toNat : Nat) : Int) = 48 from fun h => h48 ((U6 (n := 48) (by decide)).1 h)), hz, Option.bind_some, fin (by rw [decide_eq_false (p := some c = some 48) (by simpa using h48), Bool.and_false])]
     cases (c :: r : List UInt8).all (inB 48 57) <;> rfl
   ·rw [if_neg he, hz, Option.bind_some, fin (by rw [decide_eq_false (by omega), Bool.false_and])]
    cases (c :: r : List UInt8).all (inB 48 57) <;> rfl
def qg (a0 : (List UInt8)) : Option ((List UInt8) × (List UInt8) × Bool) := if a0.length <= 2 ^ 20 then some (VD a0) else none
theorem JQ (a0 : (List UInt8)) (r : ((List UInt8) × (List UInt8) × Bool)) (h : qg a0 = some r) : ∃ n, kQ n a0 = some r := by
 unfold qg at h
 obtain ⟨ha, h⟩ := zM h
 exact ⟨a0.length + 5, by rw [<- h]; exact Oz ha⟩
theorem G3 {a : List UInt8} (h : a.length <= 2 ^ 20) : (qg a).bind (fun r => some r.2.2) = some (yA a) := by
 unfold qg VD
 rw [if_pos h, Option.bind_some]
 cases yA a <;> rfl
theorem VE : XZ qg := fun a0 r h => (JQ a0 r h).elim fun n hn => RS n a0 r hn
def jJ (a0 : (List UInt8)) : Option Bool :=
 (qg a0).bind fun ⟨r1_0, r1_1, r1_2⟩ =>
 some r1_2
theorem Z2 (a0 : (List UInt8)) : Oc (jJ a0) 124 [] [vq za a0] fun r => (vb r, []) := tc (
 .cl (VE a0) fun ⟨r1_0, r1_1, r1_2⟩ =>
 .ret r1_2) (zj Tryz.func124)
def Qf (F : GState → (List UInt8) → Option Int) : Prop := ∀ (a0 : GState) (a1 : (List UInt8)), Oc (F a0 a1) 115 [] [.val true (zw a0), vq za a1] fun r => (vi r, [])
def wt (a1 : (List UInt8)) (a0 : GState) : Nat → Int → Option (Int ⊕ Int)
  | 0, _ => none
  | m + 1, v1 =>
  if v1 < (a0.Entries.length : Int) then
   (zy v1).bind fun i2 =>
   (a0.Entries[i2]?).bind fun x3 =>
   if x3.Addr = a1 then
    some (.inl v1)
   else
   wt a1 a0 m (w64 (v1 + 1))
  else
  some (.inr v1)
theorem JR (a1 : (List UInt8)) (a0 : GState) (m : Nat) : ∀ (v1 : Int), Ol (wt a1 a0 m v1) 115 (zL Tryz.f115 0) ⟨[(1, vq za a1), (2, vp 0 0), (5, vi v1)], [.var (zw a0)], 0⟩ fun o => match o with | .inl o_0 => (.ret, ⟨[(4, vi o_0)], [], 0⟩) | .inr (o_1) => (.exit 0, ⟨[(1, vq za a1), (2, vp 0 0), (5, vi o_1), (10, vb false)], [.var (zw a0)], 0⟩) := by
  induction m with
  | zero => intro v1 o h; cases h
  | succ m ih => exact fun v1 => tlp (
   .le zr a0.Entries <|
   .lI v1 (a0.Entries.length : Int) (fun c1 =>
    .na v1 fun i2 =>
    .ix zS a0.Entries i2 fun x3 =>
    .bt x3.Addr <|
    .bt a1 <|
    .sI x3.Addr a1 (fun c4 =>
     .ret (.inl v1)) fun c4 =>
    .go (ih (w64 (v1 + 1)))) fun c1 =>
   .ret (.inr v1))
def Yl (n : Nat) (a0 : GState) (a1 : (List UInt8)) : Option Int :=
 (wt a1 a0 n 0).bind fun o1 =>
 match o1 with
 | .inl o1_0 =>
  some o1_0
 | .inr (o1_1) =>
  some (-1)
theorem Ub (n : Nat) : Qf (Yl n) := fun a0 a1 => tc (
 .l2 (JR a1 a0 n 0) (fun o1_0 =>
  .ret o1_0) fun o1_1 =>
 .ret (-1)) (zj Tryz.func115)
def kR : List GEntry → List UInt8 → Nat → Int
 | [], _, _ => -1
 | e :: l, a, i => if e.Addr = a then (i : Int) else kR l a (i + 1)
theorem TC : ∀ (l : List GEntry) (a : List UInt8) (i : Nat), 0 <= kR l a i ↔ y5 l a = true
 | [], a, i => by simp [kR, y5]
 | e :: l, a, i => by
  have ih := TC l a (i + 1)
  unfold y5 at ih ⊢
  rw [kR, List.any_cons]
  by_cases h : e.Addr = a
  ·rw [if_pos h, decide_eq_true h]; simp
  ·rw [if_neg h, decide_eq_false h, Bool.false_or, ih]
theorem O0 {s : GState} {a : List UInt8} (ha : s.Entries.length <= 2 ^ 40) : ∀ (l p : List GEntry) (m : Nat), s.Entries = p ++ l → l.length < m → ∃ z, wt a s m (p.length : Int) = some (if y5 l a = true then .inl (kR l a p.length) else .inr z) := by
 intro l
 induction l with
 | nil =>
  intro p m he hm
  obtain ⟨m, rfl, _⟩ := zf hm
  exact ⟨_, by rw [wt, if_neg (by rw [he]; exact jz p)]; rfl⟩
 | cons x l ih =>
  intro p m he hm
  obtain ⟨m, rfl, hm'⟩ := zf hm
  have hlen : s.Entries.length = p.length + (l.length + 1) := by rw [he]; simp
  rw [wt, if_pos (by omega), zc, Option.bind_some, show s.Entries[p.length]? = some x by rw [he]; exact yh p x l, Option.bind_some]
  unfold y5
  rw [List.any_cons, kR]
  by_cases h : x.Addr = a
  ·rw [if_pos h, decide_eq_true h, if_pos h]
   exact ⟨0, rfl⟩
  ·rw [if_neg h, decide_eq_false h, Bool.false_or, if_neg h, xK p x (by omega)]
   obtain ⟨z, hz⟩ := ih (p ++ [x]) m (by rw [he]; simp) (by simp only [List.length_cons] at hm'; omega)
   rw [List.length_append, List.length_cons, List.length_nil] at hz
   rw [List.length_append, List.length_cons, List.length_nil]
   exact ⟨z, hz⟩
def yy (a0 : GState) (a1 : (List UInt8)) : Option Int := if a0.Entries.length <= 2 ^ 40 then some (kR a0.Entries a1 0) else none
theorem VF {l : List GEntry} {a : List UInt8} (h : y5 l a = false) : ∀ i, kR l a i = -1 := by
 induction l with
 | nil => intro i; rfl
 | cons e l ih =>
  intro i
  unfold y5 at h ih
  rw [List.any_cons, Bool.or_eq_false_iff] at h
  rw [kR, if_neg (of_decide_eq_false h.1), ih h.2]
theorem KA (a0 : GState) (a1 : (List UInt8)) (r : Int) (h : yy a0 a1 = some r) : ∃ n, Yl n a0 a1 = some r := by
 unfold yy at h
 obtain ⟨ha, h⟩ := zM h
 obtain ⟨z, hz⟩ := O0 (a := a1) ha a0.Entries [] (a0.Entries.length + 1) rfl (by omega)
 refine ⟨a0.Entries.length + 1, ?_⟩
 unfold Yl
 simp only [List.length_nil, Int.natCast_zero] at hz
 rw [hz, Option.bind_some, <- h]
 cases hb : y5 a0.Entries a1 with
 | true => rfl
 | false => rw [if_neg (by simp), VF hb]
theorem jk : Qf yy := fun a0 a1 r h => (KA a0 a1 r h).elim fun n hn => Ub n a0 a1 r hn
def Qg (F : (List UInt8) → Option Bool) : Prop := ∀ (a0 : (List UInt8)), Oc (F a0) 195 [] [vq za a0] fun r => (vb r, [])
def wu (a0 : (List UInt8)) : Nat → Int → Option (Bool ⊕ Int)
  | 0, _ => none
  | m + 1, v1 =>
  if v1 < (a0.length : Int) then
   (zy v1).bind fun i2 =>
   (a0[i2]?).bind fun x3 =>
   if ((x3.toNat : Nat) : Int) < 32 then
    some (.inl false)
   else
   if 126 < ((x3.toNat : Nat) : Int) then
    some (.inl false)
   else
   wu a0 m (w64 (v1 + 1))
  else
  some (.inr v1)
theorem JS (a0 : (List UInt8)) (m : Nat) : ∀ (v1 : Int), Ol (wu a0 m v1) 195 (zL Tryz.f195 0) ⟨[(0, vq za a0), (3, vi v1)], [], 0⟩ fun o => match o with | .inl o_0 => (.ret, ⟨[(2, vb o_0)], [], 0⟩) | .inr (o_1) => (.exit 0, ⟨[(0, vq za a0), (3, vi o_1), (10, vb false)], [], 0⟩) := by
  induction m with
  | zero => intro v1 o h; cases h
  | succ m ih => exact fun v1 => tlp (
   .le za a0 <|
   .lI v1 (a0.length : Int) (fun c1 =>
    .na v1 fun i2 =>
    .ix0 za a0 i2 fun x3 =>
    .lI ((x3.toNat : Nat) : Int) 32 (fun c4 =>
     .ret (.inl false)) fun c4 =>
    .ag 1 <|
    .ag 0 <|
    .lI 126 ((x3.toNat : Nat) : Int) (fun c5 =>
     .ret (.inl false)) fun c5 =>
    .go (ih (w64 (v1 + 1)))) fun c1 =>
   .ret (.inr v1))
def Ym (n : Nat) (a0 : (List UInt8)) : Option Bool :=
 if 20 < (a0.length : Int) then
  some false
 else
 (wu a0 n 0).bind fun o2 =>
 match o2 with
 | .inl o2_0 =>
  some o2_0
 | .inr (o2_1) =>
  some true
theorem Uc (n : Nat) : Qg (Ym n) := fun a0 => tc (
 .le za a0 <|
 .lI 20 (a0.length : Int) (fun c1 =>
  .ret false) fun c1 =>
 .l2 (JS a0 n 0) (fun o2_0 =>
  .ret o2_0) fun o2_1 =>
 .ret true) (zj Tryz.func195)
theorem KB {a : List UInt8} (ha : a.length <= 2 ^ 20) : ∀ (d i m : Nat), i + d = a.length → d < m → ∃ z, wu a m (i : Int) = some (if (a.drop i).all (inB 32 126) = true then .inr z else .inl false) := by
 intro d
 induction d with
 | zero =>
  intro i m hi hm
  obtain ⟨m, rfl, _⟩ := zf hm
  exact ⟨_, by rw [wu, if_neg (by omega), List.drop_eq_nil_of_le (by omega)]; rfl⟩
 | succ d ih =>
  intro i m hi hm
  obtain ⟨m, rfl, hm'⟩ := zf hm
  have hil : i < a.length := by omega
  rw [wu, if_pos (by omega), zc, Option.bind_some, zg hil, Option.bind_some, zC (by omega), xi hil, List.all_cons]
  by_cases h1 : ((a[i].toNat : Nat) : Int) < 32
  ·exact ⟨0, by rw [if_pos h1, if_neg]; simp [inB]; omega⟩
  ·rw [if_neg h1]
   by_cases h2 : (126 : Int) < ((a[i].toNat : Nat) : Int)
   ·exact ⟨0, by rw [if_pos h2, if_neg]; simp [inB]; omega⟩
   ·rw [if_neg h2, show inB 32 126 a[i] = true by simp [inB]; omega, Bool.true_and]
    exact ih (i + 1) m (by omega) (by omega)
def jK (a0 : (List UInt8)) : Option Bool := if a0.length <= 2 ^ 20 then some (Zo a0) else none
theorem KC (a0 : (List UInt8)) (r : Bool) (h : jK a0 = some r) : ∃ n, Ym n a0 = some r := by
 unfold jK at h
 obtain ⟨ha, h⟩ := zM h
 refine ⟨a0.length + 1, ?_⟩
 obtain ⟨z, hz⟩ := KB ha a0.length 0 (a0.length + 1) (by omega) (by omega)
 rw [show ((0 : Nat) : Int) = 0 from rfl, List.drop_zero] at hz
 unfold Ym
 rw [<- h, hz]
 unfold Zo
 by_cases hl : a0.length <= 20
 ·rw [if_neg (by omega), decide_eq_true hl]
  cases a0.all (inB 32 126) <;> rfl
 ·rw [if_pos (by omega), decide_eq_false hl]; rfl
theorem RT : Qg jK := fun a0 r h => (KC a0 r h).elim fun n hn => Uc n a0 r hn
def Zd (a0 : Int) : Option Bool :=
 if (-1000000000000) <= a0 then
  some (decide (a0 <= 1000000000000))
 else
 some false
theorem Ud (a0 : Int) : Oc (Zd a0) 194 [] [vi a0] fun r => (vb r, []) := tc (
 .gI (-1000000000000) a0 (fun c1 =>
  .gD a0 1000000000000 <|
  .ret (decide (a0 <= 1000000000000))) fun c1 =>
 .ret false) (zj Tryz.func194)
def vu (F : GValue → Int → Int → Option Int) : Prop := ∀ (a0 : GValue) (a1 : Int) (a2 : Int), Oc (F a0 a1 a2) 169 [] [.val true (z8 a0), vi a1, vi a2] fun r => (vi r, [])
def y0 (G_spec_l2ok : GValue → Int → Int → Option Int) (a1 : Int) (a0 : GValue) : Nat → Int → Int → Option (Int ⊕ (Int × Int))
  | 0, _, _ => none
  | m + 1, v1, v2 =>
  if v2 < (a0.L.length : Int) then
   if a0.Kind = 5 then
    (zy v2).bind fun i3 =>
    (a0.K[i3]?).bind fun x4 =>
    (wd x4).bind fun r5 =>
    match r5 with
    | true =>
     if 0 < v2 then
      (zy (w64 (v2 - 1))).bind fun i7 =>
      (a0.K[i7]?).bind fun x8 =>
      if Op.bytesLess x8 x4 = true then
       (a0.L[i3]?).bind fun x10 =>
       (G_spec_l2ok x10 (w64 (a1 + 1)) v1).bind fun r11 =>
       if r11 < 0 then
        some (.inl (-1))
       else
       y0 G_spec_l2ok a1 a0 m r11 (w64 (v2 + 1))
      else
      some (.inl (-1))
     else
     (a0.L[i3]?).bind fun x7 =>
     (G_spec_l2ok x7 (w64 (a1 + 1)) v1).bind fun r8 =>
     if r8 < 0 then
      some (.inl (-1))
     else
     y0 G_spec_l2ok a1 a0 m r8 (w64 (v2 + 1))
    | false =>
     some (.inl (-1))
   else
   (zy v2).bind fun i3 =>
   (a0.L[i3]?).bind fun x4 =>
   (G_spec_l2ok x4 (w64 (a1 + 1)) v1).bind fun r5 =>
   if r5 < 0 then
    some (.inl (-1))
   else
   y0 G_spec_l2ok a1 a0 m r5 (w64 (v2 + 1))
  else
  some (.inr (v1, v2))
theorem XA (G_spec_l2ok : GValue → Int → Int → Option Int) (H_spec_l2ok : vu G_spec_l2ok) (a1 : Int) (a0 : GValue) (m : Nat) : ∀ (v1 : Int) (v2 : Int), Ol (y0 G_spec_l2ok a1 a0 m v1 v2) 169 (zL Tryz.f169 0) ⟨[(1, vi a1), (2, vi v1), (3, vp 0 0), (7, vi v2)], [.var (z8 a0)], 0⟩ fun o => match o with | .inl o_0 => (.ret, ⟨[(6, vi o_0)], [], 0⟩) | .inr (⟨o_1_0, o_1_1⟩) => (.exit 1, ⟨[(1, vi a1), (2, vi o_1_0), (3, vp 0 0), (7, vi o_1_1), (117, vb false)], [.var (z8 a0)], 0⟩) := by
  induction m with
  | zero => intro v1 v2 o h; cases h
  | succ m ih => exact fun v1 v2 => tlp (
   .le zd a0.L <|
   .lI v2 (a0.L.length : Int) (fun c1 =>
    .eI a0.Kind 5 (fun c2 =>
     .na v2 fun i3 =>
     .ix0 (zq za) a0.K i3 fun x4 =>
     .cl (Z1 x4) fun r5 =>
     .vN 2 r5 (
      .an 0 0 <|
      .lI 0 v2 (fun c6 =>
       .an 0 0 <|
       .na (w64 (v2 - 1)) fun i7 =>
       .ix0 (zq za) a0.K i7 fun x8 =>
       .bt x8 <|
       .ag 5 <|
       .ag 4 <|
       .bt x4 <|
       .bI x8 x4 (fun c9 =>
        .an 0 2 <|
        .an 2 2 <|
        .ag 5 <|
        .ix zR a0.L i3 fun x10 =>
        .cl (H_spec_l2ok x10 (w64 (a1 + 1)) v1) fun r11 =>
        .lI r11 0 (fun c12 =>
         .ret (.inl (-1))) fun c12 =>
        .go (ih r11 (w64 (v2 + 1)))) fun c9 =>
       .an 0 2 <|
       .an 2 2 <|
       .ret (.inl (-1))) fun c6 =>
      .an 0 0 <|
      .an 14 0 <|
      .an 2 0 <|
      .ag 3 <|
      .ix zR a0.L i3 fun x7 =>
      .cl (H_spec_l2ok x7 (w64 (a1 + 1)) v1) fun r8 =>
      .lI r8 0 (fun c9 =>
       .ret (.inl (-1))) fun c9 =>
      .go (ih r8 (w64 (v2 + 1)))) <|
     .an 0 0 <|
     .an 0 0 <|
     .an 0 0 <|
     .an 1 0 <|
     .ret (.inl (-1))) fun c2 =>
    .na v2 fun i3 =>
    .ix zR a0.L i3 fun x4 =>
    .cl (H_spec_l2ok x4 (w64 (a1 + 1)) v1) fun r5 =>
    .lI r5 0 (fun c6 =>
     .ret (.inl (-1))) fun c6 =>
    .go (ih r5 (w64 (v2 + 1)))) fun c1 =>
   .ret (.inr (v1, v2)))
def ZM (G_spec_l2ok : GValue → Int → Int → Option Int) (n : Nat) (a0 : GValue) (a1 : Int) (a2 : Int) : Option Int :=
 if (w64 (a2 - 1)) < 0 then
  some (-1)
 else
 if 5 < a1 then
  some (-1)
 else
 if a0.Kind = 3 then
  if 0 < (a0.K.length : Int) then
   some (-1)
  else
  if a0.N = 0 then
   if 0 < (a0.L.length : Int) then
    some (-1)
   else
   (jK a0.S).bind fun r7 =>
   match r7 with
   | true =>
    some (w64 (a2 - 1))
   | false =>
    some (-1)
  else
  some (-1)
 else
 if 0 < (a0.S.length : Int) then
  some (-1)
 else
 if a0.Kind = 5 then
  if a0.N = 0 then
   if (a0.K.length : Int) = (a0.L.length : Int) then
    (y0 G_spec_l2ok a1 a0 n (w64 (a2 - 1)) 0).bind fun o8 =>
    match o8 with
    | .inl o8_0 =>
     some o8_0
    | .inr (⟨o8_1_0, o8_1_1⟩) =>
     some o8_1_0
   else
   some (-1)
  else
  some (-1)
 else
 if 0 < (a0.K.length : Int) then
  some (-1)
 else
 if a0.Kind = 1 then
  if 0 < (a0.L.length : Int) then
   some (-1)
  else
  if a0.N < 0 then
   some (-1)
  else
  if 1 < a0.N then
   some (-1)
  else
  some (w64 (a2 - 1))
 else
 if a0.Kind = 2 then
  if 0 < (a0.L.length : Int) then
   some (-1)
  else
  (Zd a0.N).bind fun r10 =>
  match r10 with
  | true =>
   some (w64 (a2 - 1))
  | false =>
   some (-1)
 else
 if a0.N = 0 then
  if a0.Kind = 4 then
   (y0 G_spec_l2ok a1 a0 n (w64 (a2 - 1)) 0).bind fun o11 =>
   match o11 with
   | .inl o11_0 =>
    some o11_0
   | .inr (⟨o11_1_0, o11_1_1⟩) =>
    some o11_1_0
  else
  if 0 < (a0.L.length : Int) then
   some (-1)
  else
  if a0.Kind = 0 then
   some (w64 (a2 - 1))
  else
  if a0.Kind = 6 then
   some (w64 (a2 - 1))
  else
  some (-1)
 else
 some (-1)
theorem O1 (G_spec_l2ok : GValue → Int → Int → Option Int) (H_spec_l2ok : vu G_spec_l2ok) (n : Nat) : vu (ZM G_spec_l2ok n) := fun a0 a1 a2 => tc (
 .lI (w64 (a2 - 1)) 0 (fun c1 =>
  .ret (-1)) fun c1 =>
 .lI 5 a1 (fun c2 =>
  .ret (-1)) fun c2 =>
 .eI a0.Kind 3 (fun c3 =>
  .q (.eFo a0.Kind 5 (by omega)) <|
  .le (zq za) a0.K <|
  .lI 0 (a0.K.length : Int) (fun c4 =>
   .ret (-1)) fun c4 =>
  .q (.eFo a0.Kind 1 (by omega)) <|
  .q (.eFo a0.Kind 2 (by omega)) <|
  .eI a0.N 0 (fun c5 =>
   .q (.eFo a0.Kind 4 (by omega)) <|
   .q (.eFo a0.Kind 5 (by omega)) <|
   .le zd a0.L <|
   .lI 0 (a0.L.length : Int) (fun c6 =>
    .ret (-1)) fun c6 =>
   .q (.eFo a0.Kind 0 (by omega)) <|
   .q (.eFo a0.Kind 6 (by omega)) <|
   .q (.eFo a0.Kind 1 (by omega)) <|
   .q (.eFo a0.Kind 2 (by omega)) <|
   .q (.eT c3) <|
   .cl (RT a0.S) fun r7 =>
   .vN 0 r7 (
    .ret (w64 (a2 - 1))) <|
   .ret (-1)) fun c5 =>
  .ret (-1)) fun c3 =>
 .le za a0.S <|
 .lI 0 (a0.S.length : Int) (fun c4 =>
  .ret (-1)) fun c4 =>
 .eI a0.Kind 5 (fun c5 =>
  .q (.eFo a0.Kind 1 (by omega)) <|
  .q (.eFo a0.Kind 2 (by omega)) <|
  .eI a0.N 0 (fun c6 =>
   .q (.eFo a0.Kind 4 (by omega)) <|
   .q (.eT c5) <|
   .q (.eFo a0.Kind 0 (by omega)) <|
   .q (.eFo a0.Kind 6 (by omega)) <|
   .q (.eFo a0.Kind 1 (by omega)) <|
   .q (.eFo a0.Kind 2 (by omega)) <|
   .q (.eF c3) <|
   .q (.eFo a0.Kind 4 (by omega)) <|
   .q (.eT c5) <|
   .q (.eT c5) <|
   .le (zq za) a0.K <|
   .le zd a0.L <|
   .eI (a0.K.length : Int) (a0.L.length : Int) (fun c7 =>
    .l2 (XA G_spec_l2ok H_spec_l2ok a1 a0 n (w64 (a2 - 1)) 0) (fun o8_0 =>
     .ret o8_0) fun ⟨o8_1_0, o8_1_1⟩ =>
    .ret o8_1_0) fun c7 =>
   .ret (-1)) fun c6 =>
  .ret (-1)) fun c5 =>
 .le (zq za) a0.K <|
 .lI 0 (a0.K.length : Int) (fun c6 =>
  .ret (-1)) fun c6 =>
 .eI a0.Kind 1 (fun c7 =>
  .q (.eFo a0.Kind 4 (by omega)) <|
  .q (.eF c5) <|
  .le zd a0.L <|
  .lI 0 (a0.L.length : Int) (fun c8 =>
   .ret (-1)) fun c8 =>
  .q (.eFo a0.Kind 0 (by omega)) <|
  .q (.eFo a0.Kind 6 (by omega)) <|
  .q (.eT c7) <|
  .lI a0.N 0 (fun c9 =>
   .ret (-1)) fun c9 =>
  .lI 1 a0.N (fun c10 =>
   .ret (-1)) fun c10 =>
  .ret (w64 (a2 - 1))) fun c7 =>
 .eI a0.Kind 2 (fun c8 =>
  .q (.eFo a0.Kind 4 (by omega)) <|
  .q (.eF c5) <|
  .le zd a0.L <|
  .lI 0 (a0.L.length : Int) (fun c9 =>
   .ret (-1)) fun c9 =>
  .q (.eFo a0.Kind 0 (by omega)) <|
  .q (.eFo a0.Kind 6 (by omega)) <|
  .q (.eF c7) <|
  .q (.eT c8) <|
  .cl (Ud a0.N) fun r10 =>
  .vN 0 r10 (
   .ret (w64 (a2 - 1))) <|
  .ret (-1)) fun c8 =>
 .eI a0.N 0 (fun c9 =>
  .eI a0.Kind 4 (fun c10 =>
   .q (.eFo a0.Kind 0 (by omega)) <|
   .q (.eFo a0.Kind 6 (by omega)) <|
   .q (.eF c7) <|
   .q (.eF c8) <|
   .q (.eF c3) <|
   .q (.eT c10) <|
   .q (.eF c5) <|
   .l2 (XA G_spec_l2ok H_spec_l2ok a1 a0 n (w64 (a2 - 1)) 0) (fun o11_0 =>
    .ret o11_0) fun ⟨o11_1_0, o11_1_1⟩ =>
   .ret o11_1_0) fun c10 =>
  .q (.eF c5) <|
  .le zd a0.L <|
  .lI 0 (a0.L.length : Int) (fun c11 =>
   .ret (-1)) fun c11 =>
  .eI a0.Kind 0 (fun c12 =>
   .ret (w64 (a2 - 1))) fun c12 =>
  .eI a0.Kind 6 (fun c13 =>
   .ret (w64 (a2 - 1))) fun c13 =>
  .q (.eF c7) <|
  .q (.eF c8) <|
  .q (.eF c3) <|
  .q (.eF c10) <|
  .q (.eF c5) <|
  .ret (-1)) fun c9 =>
 .ret (-1)) (zj Tryz.func169)
def w8 : Nat → GValue → Int → Int → Option Int
 | 0, _, _, _ => none
 | n + 1, a0, a1, a2 => ZM (w8 n) n a0 a1 a2
theorem Ue (n : Nat) : vu (w8 n) := by
 induction n with
 | zero => exact fun _ _ _ _ h => (by rw [w8] at h; cases h)
 | succ n ih =>
  have ih_spec_l2ok := ih
  exact fun a0 a1 a2 r h => O1 (w8 n) ih_spec_l2ok n a0 a1 a2 r (by rw [w8] at h; exact h)
def okV (d : Nat) (left : Int) (v : GValue) : Int := if shV d v = true ∧ (ptV v : Int) <= left then left - ptV v else -1
theorem MV {a : List UInt8} (h : a.length <= 2 ^ 20) : wd a = some (qf a) := if_pos h
theorem MW {a : List UInt8} (h : a.length <= 2 ^ 20) : jK a = some (Zo a) := if_pos h
theorem G4 (n : Int) : Zd n = some (decide (-1000000000000 <= n ∧ n <= 1000000000000)) := by
 unfold Zd
 by_cases h : (-1000000000000 : Int) <= n
 ·rw [if_pos h]; simp [h]
 ·rw [if_neg h]; simp [h]
theorem MX {G : GValue → Int → Int → Option Int} {v : GValue} {dd : Nat} {deep : Int} (hdd : deep + dd = 5) (h1d : 1 <= deep) (hs : vsz v <= 2 ^ 20) (hk : v.Kind = 4 ∨ (v.Kind = 5 ∧ v.K.length = v.L.length))
  (hG : ∀ x ∈ v.L, ∀ r : Int, 0 <= r → r <= 40 → G x (deep + 1) r = some (okV dd r x)) : ∀ (d i m : Nat) (r : Int), i + d = v.L.length → d < m → 0 <= r → r <= 40 →
  ∃ z, y0 G deep v m r (i : Int) = some (if ((v.Kind = 5 → q7 v.K i d = true) ∧ (v.L.drop i).all (shV dd) = true) ∧ (xS (v.L.drop i) : Int) <= r then .inr (r - xS (v.L.drop i), z) else .inl (-1)) := by
 have he := qa v
 have hl := yR v.L
 intro d
 induction d with
 | zero =>
  intro i m r hi hm h0 h1
  obtain ⟨m, rfl, _⟩ := zf hm
  refine ⟨(i : Int), ?_⟩
  rw [y0, if_neg (by omega), List.drop_eq_nil_of_le (by omega), if_pos ⟨⟨fun _ => rfl, rfl⟩, by simpa [xS] using h0⟩]
  simp [xS]
 | succ d ih =>
  intro i m r hi hm h0 h1
  obtain ⟨m, rfl, hm'⟩ := zf hm
  have hil : i < v.L.length := by omega
  have hp : xS (v.L.drop i) = ptV v.L[i] + xS (v.L.drop (i + 1)) := by rw [xi hil]; simp only [xS]
  have ha : (v.L.drop i).all (shV dd) = (shV dd v.L[i] && (v.L.drop (i + 1)).all (shV dd)) := by rw [xi hil, List.all_cons]
  have hd1 : w64 (deep + 1) = deep + 1 := xt (by omega) (by omega)
  have tail : (v.Kind = 5 → kOk v.K i = true) → ∃ z, ((G v.L[i] (w64 (deep + 1)) r).bind fun r12 => if r12 < 0 then some (.inl (-1)) else y0 G deep v m r12 (w64 ((i : Int) + 1))) =
    some (if ((v.Kind = 5 → q7 v.K i (d + 1) = true) ∧ (v.L.drop i).all (shV dd) = true) ∧ (xS (v.L.drop i) : Int) <= r then .inr (r - xS (v.L.drop i), z) else .inl (-1)) := by
   intro hki
   rw [hd1, hG _ (List.getElem_mem hil) r h0 h1, Option.bind_some, zC (by omega), hp, ha]
   unfold okV
   by_cases hc : shV dd v.L[i] = true ∧ (ptV v.L[i] : Int) <= r
   ·rw [if_pos hc, if_neg (by omega)]
    obtain ⟨z, hz⟩ := ih (i + 1) m (r - ptV v.L[i]) (by omega) (by omega) (by omega) (by omega)
    refine ⟨z, ?_⟩
    rw [hz, hc.1, Bool.true_and]
    have hcond : (((v.Kind = 5 → q7 v.K (i + 1) d = true) ∧ (v.L.drop (i + 1)).all (shV dd) = true) ∧ (xS (v.L.drop (i + 1)) : Int) <= r - ptV v.L[i]) ↔
      (((v.Kind = 5 → q7 v.K i (d + 1) = true) ∧ (v.L.drop (i + 1)).all (shV dd) = true) ∧ ((ptV v.L[i] + xS (v.L.drop (i + 1)) : Nat) : Int) <= r) := by
     have hka : (v.Kind = 5 → q7 v.K (i + 1) d = true) ↔ (v.Kind = 5 → q7 v.K i (d + 1) = true) := by
      constructor
      ·intro h hk; rw [XJ, hki hk, h hk]; rfl
      ·intro h hk; have := h hk; rw [XJ, hki hk, Bool.true_and] at this; exact this
     rw [hka]
     constructor
     ·rintro ⟨h1, h2⟩; exact ⟨h1, by omega⟩
     ·rintro ⟨h1, h2⟩; exact ⟨h1, by omega⟩
    by_cases hd : ((v.Kind = 5 → q7 v.K (i + 1) d = true) ∧ (v.L.drop (i + 1)).all (shV dd) = true) ∧ (xS (v.L.drop (i + 1)) : Int) <= r - ptV v.L[i]
    ·rw [if_pos hd, if_pos (hcond.1 hd)]; congr 3; omega
    ·rw [if_neg hd, if_neg (fun h => hd (hcond.2 h))]
   ·refine ⟨0, ?_⟩
    rw [if_neg hc, if_pos (by omega), if_neg]
    rintro ⟨⟨_, h2⟩, h3⟩
    rw [Bool.and_eq_true] at h2
    exact hc ⟨h2.1, by omega⟩
  have bad : v.Kind = 5 → kOk v.K i = false → ∃ z, (some (.inl (-1)) : Option (Int ⊕ (Int × Int))) = some (if ((v.Kind = 5 → q7 v.K i (d + 1) = true) ∧ (v.L.drop i).all (shV dd) = true) ∧ (xS (v.L.drop i) : Int) <= r then .inr (r - xS (v.L.drop i), z) else .inl (-1)) := by
   intro hk hki
   refine ⟨0, ?_⟩
   rw [if_neg]
   rintro ⟨⟨h1, _⟩, _⟩
   have := h1 hk
   rw [XJ, hki] at this
   cases this
  rw [y0, if_pos (by omega)]
  rcases hk with hk | ⟨hk, hkl⟩
  ·rw [if_neg (by omega), zc, Option.bind_some, zg hil, Option.bind_some]
   exact tail fun h => by omega
  ·have hik : i < v.K.length := by omega
   have hx := ZB (List.getElem_mem hik)
   rw [if_pos hk, zc, Option.bind_some, zg hik, Option.bind_some, MV (by omega), Option.bind_some]
   cases hnm : qf v.K[i] with
   | false =>
    dsimp only
    refine bad hk ?_
    by_cases h0 : i = 0
    ·subst h0; rw [WU hik, hnm]
    ·rw [Xi hik (by omega), hnm]; rfl
   | true =>
    dsimp only
    by_cases h0 : 0 < i
    ·rw [if_pos (by omega), qS (by omega) h0, zc, Option.bind_some, zg (show i - 1 < v.K.length by omega), Option.bind_some]
     by_cases hb : Op.bytesLess (v.K[i - 1]'(by omega)) v.K[i] = true
     ·rw [if_pos hb, zg hil, Option.bind_some]
      exact tail fun _ => by rw [Xi hik h0, hnm, hb]; rfl
     ·rw [if_neg hb]
      refine bad hk ?_
      rw [Xi hik h0, hnm]; simpa using hb
    ·have : i = 0 := by omega
     subst this
     rw [if_neg (by omega), zg hil, Option.bind_some]
     exact tail fun _ => by rw [WU hik, hnm]
theorem DH {G : GValue → Int → Int → Option Int} {v : GValue} {f dd : Nat} {deep left : Int} (hdd : deep + dd = 5 ∨ (deep = 6 ∧ dd = 0)) (h1d : 1 <= deep) (hs : vsz v <= 2 ^ 20) (hf : v.L.length < f) (h0 : 0 <= left) (h1 : left <= 40)
  (hG : deep <= 5 → ∀ x ∈ v.L, ∀ r : Int, 0 <= r → r <= 40 → G x (deep + 1) r = some (okV dd r x)) : ZM G f v deep left = some (okV (if deep <= 5 then dd + 1 else 0) left v) := by
 have he := qa v
 have hl := yR v.L
 have hpt := PR v
 have hpl := GB v.L
 unfold ZM
 rw [xt (by omega) (by omega)]
 by_cases hleft : left - 1 < 0
 ·rw [if_pos hleft]
  unfold okV; rw [if_neg (by rintro ⟨_, h⟩; omega)]
 rw [if_neg hleft]
 by_cases hdeep : 5 < deep
 ·rw [if_pos hdeep, if_neg (show ¬ deep <= 5 by omega)]
  unfold okV; rw [if_neg (by rintro ⟨h, _⟩; simp [shV] at h)]
 rw [if_neg hdeep, if_pos (show deep <= 5 by omega)]
 have hdd : deep + dd = 5 := by omega
 have hG := hG (by omega)
 unfold okV
 simp only [shV]
 have fin0 : v.L.length = 0 → (v.L.all (shV dd) = true ∧ ptV v = 1) := fun h => by
  have : v.L = [] := List.eq_nil_of_length_eq_zero h
  rw [hpt, this]; exact ⟨rfl, rfl⟩
 have yes : yq v = true → v.L.length = 0 → some (left - 1) = some (if (yq v && v.L.all (shV dd)) = true ∧ (ptV v : Int) <= left then left - ptV v else -1) := fun h1 h2 => by
  obtain ⟨a1, a2⟩ := fin0 h2
  rw [h1, a1, a2, if_pos ⟨rfl, by omega⟩]; rfl
 have no : yq v = false → some (-1) = some (if (yq v && v.L.all (shV dd)) = true ∧ (ptV v : Int) <= left then left - ptV v else -1) := fun h1 => by
  rw [h1, if_neg (by rintro ⟨h, _⟩; cases h)]
 have lp : v.Kind = 4 ∨ (v.Kind = 5 ∧ v.K.length = v.L.length) → (∀ b : Bool, v.L.length <= 40 → ((v.Kind = 5 → q7 v.K 0 v.L.length = true) ↔ b = true) → yq v = b) → ((y0 G deep v f (left - 1) 0).bind fun o8 => match o8 with | .inl o8_0 => some o8_0 | .inr (⟨o8_1_0, o8_1_1⟩) => some o8_1_0) =
   some (if (yq v && v.L.all (shV dd)) = true ∧ (ptV v : Int) <= left then left - ptV v else -1) := fun hk hloc => by
  obtain ⟨z, hz⟩ := MX (G := G) hdd h1d hs hk hG v.L.length 0 f (left - 1) (by omega) (by omega) (by omega) (by omega)
  rw [show ((0 : Nat) : Int) = 0 from rfl, List.drop_zero] at hz
  rw [hz, Option.bind_some]
  by_cases hc : ((v.Kind = 5 → q7 v.K 0 v.L.length = true) ∧ v.L.all (shV dd) = true) ∧ (xS v.L : Int) <= left - 1
  ·rw [if_pos hc]
   have h40 : v.L.length <= 40 := by omega
   have := hloc true h40 ⟨fun _ => rfl, fun _ => hc.1.1⟩
   rw [this, hc.1.2, if_pos ⟨rfl, by omega⟩, hpt]
   dsimp only
   congr 1; omega
  ·rw [if_neg hc, if_neg]
   rintro ⟨h2, h3⟩
   rw [Bool.and_eq_true] at h2
   refine hc ⟨⟨?_, h2.2⟩, by omega⟩
   by_cases h40 : v.L.length <= 40
   ·by_cases hb : (v.Kind = 5 → q7 v.K 0 v.L.length = true)
    ·exact hb
    ·have := hloc false h40 ⟨fun h => (hb h).elim, fun h => by cases h⟩
     rw [this] at h2; cases h2.1
   ·omega
 have hloc : ∀ k, v.Kind = k → yq v = (if k = 0 ∨ k = 6 then decide (v.N = 0 ∧ v.S.length = 0 ∧ v.K.length = 0 ∧ v.L.length = 0)
   else if k = 1 then decide ((0 <= v.N ∧ v.N <= 1) ∧ v.S.length = 0 ∧ v.K.length = 0 ∧ v.L.length = 0)
   else if k = 2 then decide ((-1000000000000 <= v.N ∧ v.N <= 1000000000000) ∧ v.S.length = 0 ∧ v.K.length = 0 ∧ v.L.length = 0)
   else if k = 3 then Zo v.S && decide (v.N = 0 ∧ v.K.length = 0 ∧ v.L.length = 0)
   else if k = 4 then decide (v.N = 0 ∧ v.S.length = 0 ∧ v.K.length = 0 ∧ v.L.length <= 40)
   else if k = 5 then decide (v.K.length = v.L.length ∧ v.N = 0 ∧ v.S.length = 0 ∧ v.L.length <= 40) && q7 v.K 0 v.K.length
   else false) := fun k hk => by unfold yq; rw [hk]
 by_cases k3 : v.Kind = 3
 ·have hv := hloc 3 k3
  simp only [show ¬ ((3 : Int) = 0 ∨ (3 : Int) = 6) by omega, if_false, show ¬ ((3 : Int) = 1) by omega, show ¬ ((3 : Int) = 2) by omega, if_true] at hv
  rw [if_pos k3]
  by_cases a1 : 0 < (v.K.length : Int)
  ·rw [if_pos a1]; exact no (by rw [hv, decide_eq_false (by omega)]; simp)
  ·rw [if_neg a1]
   by_cases a2 : v.N = 0
   ·rw [if_pos a2]
    by_cases a3 : 0 < (v.L.length : Int)
    ·rw [if_pos a3]; exact no (by rw [hv, decide_eq_false (by omega)]; simp)
    ·rw [if_neg a3, MW (by omega), Option.bind_some]
     rw [decide_eq_true (by omega), Bool.and_true] at hv
     cases ht : Zo v.S with
     | true => exact yes (by rw [hv, ht]) (by omega)
     | false => exact no (by rw [hv, ht])
   ·rw [if_neg a2]; exact no (by rw [hv, decide_eq_false (by omega)]; simp)
 rw [if_neg k3]
 by_cases hS : 0 < (v.S.length : Int)
 ·rw [if_pos hS]
  refine no ?_
  unfold yq
  simp only [k3, if_false]
  repeat' split
  all_goals first | rfl | (rw [decide_eq_false (by omega)]; try rfl)
 rw [if_neg hS]
 by_cases k5 : v.Kind = 5
 ·have hv := hloc 5 k5
  simp only [show ¬ ((5 : Int) = 0 ∨ (5 : Int) = 6) by omega, if_false, show ¬ ((5 : Int) = 1) by omega, show ¬ ((5 : Int) = 2) by omega, show ¬ ((5 : Int) = 3) by omega, show ¬ ((5 : Int) = 4) by omega, if_true] at hv
  rw [if_pos k5]
  by_cases a2 : v.N = 0
  ·rw [if_pos a2]
   by_cases a3 : (v.K.length : Int) = (v.L.length : Int)
   ·rw [if_pos a3]
    refine lp (.inr ⟨k5, by omega⟩) fun b h40 hb => ?_
    rw [hv, decide_eq_true (by omega), Bool.true_and, show v.K.length = v.L.length by omega, Bool.eq_iff_iff, <- hb]
    exact ⟨fun h _ => h, fun h => h k5⟩
   ·rw [if_neg a3]; exact no (by rw [hv, decide_eq_false (by omega)]; rfl)
  ·rw [if_neg a2]; exact no (by rw [hv, decide_eq_false (by omega)]; rfl)
 rw [if_neg k5]
 by_cases hK : 0 < (v.K.length : Int)
 ·rw [if_pos hK]
  refine no ?_
  unfold yq
  simp only [k3, k5, if_false]
  repeat' split
  all_goals first | rfl | (rw [decide_eq_false (by omega)]; try rfl)
 rw [if_neg hK]
 by_cases k1 : v.Kind = 1
 ·have hv := hloc 1 k1
  simp only [show ¬ ((1 : Int) = 0 ∨ (1 : Int) = 6) by omega, if_false, if_true] at hv
  rw [if_pos k1]
  by_cases a3 : 0 < (v.L.length : Int)
  ·rw [if_pos a3]; exact no (by rw [hv, decide_eq_false (by omega)])
  ·rw [if_neg a3]
   by_cases a4 : v.N < 0
   ·rw [if_pos a4]; exact no (by rw [hv, decide_eq_false (by omega)])
   ·rw [if_neg a4]
    by_cases a5 : 1 < v.N
    ·rw [if_pos a5]; exact no (by rw [hv, decide_eq_false (by omega)])
    ·rw [if_neg a5]; exact yes (by rw [hv, decide_eq_true (by omega)]) (by omega)
 rw [if_neg k1]
 by_cases k2 : v.Kind = 2
 ·have hv := hloc 2 k2
  simp only [show ¬ ((2 : Int) = 0 ∨ (2 : Int) = 6) by omega, if_false, show ¬ ((2 : Int) = 1) by omega, if_true] at hv
  rw [if_pos k2]
  by_cases a3 : 0 < (v.L.length : Int)
  ·rw [if_pos a3]; exact no (by rw [hv, decide_eq_false (by omega)])
  ·rw [if_neg a3, G4, Option.bind_some]
   by_cases a4 : -1000000000000 <= v.N ∧ v.N <= 1000000000000
   ·rw [decide_eq_true a4]; exact yes (by rw [hv, decide_eq_true (by omega)]) (by omega)
   ·rw [decide_eq_false a4]; exact no (by rw [hv, decide_eq_false (by omega)])
 rw [if_neg k2]
 by_cases a2 : v.N = 0
 ·rw [if_pos a2]
  by_cases k4 : v.Kind = 4
  ·have hv := hloc 4 k4
   simp only [show ¬ ((4 : Int) = 0 ∨ (4 : Int) = 6) by omega, if_false, show ¬ ((4 : Int) = 1) by omega, show ¬ ((4 : Int) = 2) by omega, show ¬ ((4 : Int) = 3) by omega, if_true] at hv
   rw [if_pos k4]
   refine lp (.inl k4) fun b h40 hb => ?_
   rw [hv, decide_eq_true (by omega)]
   exact (hb.1 fun h => by omega).symm
  ·rw [if_neg k4]
   by_cases a3 : 0 < (v.L.length : Int)
   ·rw [if_pos a3]
    refine no ?_
    unfold yq
    simp only [k1, k2, k3, k4, k5, if_false]
    repeat' split
    all_goals first | rfl | (rw [decide_eq_false (by omega)])
   ·rw [if_neg a3]
    by_cases k0 : v.Kind = 0
    ·rw [if_pos k0]; exact yes (by unfold yq; rw [if_pos (.inl k0), decide_eq_true (by omega)]) (by omega)
    ·rw [if_neg k0]
     by_cases k6 : v.Kind = 6
     ·rw [if_pos k6]; exact yes (by unfold yq; rw [if_pos (.inr k6), decide_eq_true (by omega)]) (by omega)
     ·rw [if_neg k6]
      exact no (by unfold yq; simp only [k0, k1, k2, k3, k4, k5, k6, or_self, if_false])
 ·rw [if_neg a2]
  refine no ?_
  unfold yq
  simp only [k1, k2, k3, k5, if_false]
  repeat' split
  all_goals first | rfl | (rw [decide_eq_false (by omega)])
theorem DI : ∀ (N : Nat) (v : GValue), vsz v < N → vsz v <= 2 ^ 20 → ∀ (f : Nat) (deep left : Int), vsz v + 2 <= f → 1 <= deep → deep <= 6 → 0 <= left → left <= 40 → w8 f v deep left = some (okV (6 - deep).toNat left v) := by
 intro N
 induction N with
 | zero => intro v hv; omega
 | succ N ih =>
  intro v hv hs f deep left hf h1 h2 h3 h4
  obtain ⟨f, rfl, _⟩ := zf (show 0 < f by omega)
  have he := qa v
  have hl := yR v.L
  rw [w8]
  have := DH (G := w8 f) (f := f) (dd := (5 - deep).toNat) (deep := deep) (left := left) (by omega) h1 hs (by omega) h3 h4 fun hd x hx r g0 g1 => by
   have hm := w6 hx
   have := ih x (by omega) (by omega) f (deep + 1) r (by omega) (by omega) (by omega) g0 g1
   rw [show (6 - (deep + 1)).toNat = (5 - deep).toNat by omega] at this
   exact this
  rw [this]
  congr 2
  by_cases hd : deep <= 5
  ·rw [if_pos hd]; omega
  ·rw [if_neg hd]; omega
def jR (a0 : GValue) (a1 : Int) (a2 : Int) : Option Int := if vsz a0 <= 2 ^ 20 ∧ (1 <= a1 ∧ a1 <= 6) ∧ 0 <= a2 ∧ a2 <= 40 then some (okV (6 - a1).toNat a2 a0) else none
theorem RU (a0 : GValue) (a1 : Int) (a2 : Int) (r : Int) (h : jR a0 a1 a2 = some r) : ∃ n, w8 n a0 a1 a2 = some r := by
 unfold jR at h
 obtain ⟨⟨hs, ⟨h1, h2⟩, h3, h4⟩, h⟩ := zM h
 exact ⟨vsz a0 + 2, by rw [<- h]; exact DI _ a0 (Nat.lt_succ_self _) hs _ a1 a2 (Nat.le_refl _) h1 h2 h3 h4⟩
theorem P5 : vu jR := by
 intro a0 a1 a2 r h
 obtain ⟨n, hn⟩ := RU a0 a1 a2 r h
 exact (Ue n) a0 a1 a2 r hn
def jl (a0 : GValue) : Option Bool :=
 (jR a0 1 40).bind fun r1 =>
 some (decide (0 <= r1))
theorem Uf (a0 : GValue) : Oc (jl a0) 127 [] [.val true (z8 a0)] fun r => (vb r, []) := tc (
 .cl (P5 a0 1 40) fun r1 =>
 .gD 0 r1 <|
 .ret (decide (0 <= r1))) (zj Tryz.func127)
def jm (F : GValue → Option Bool) : Prop := ∀ (a0 : GValue), Oc (F a0) 168 [] [.val true (z8 a0)] fun r => (vb r, [])
def xX (G_spec_l2known : GValue → Option Bool) (a0 : GValue) : Nat → Int → Option (Bool ⊕ Int)
  | 0, _ => none
  | m + 1, v0 =>
  if v0 < (a0.L.length : Int) then
   (zy v0).bind fun i2 =>
   (a0.L[i2]?).bind fun x3 =>
   (G_spec_l2known x3).bind fun r4 =>
   match r4 with
   | true =>
    xX G_spec_l2known a0 m (w64 (v0 + 1))
   | false =>
    some (.inl false)
  else
  some (.inr v0)
theorem QX (G_spec_l2known : GValue → Option Bool) (H_spec_l2known : jm G_spec_l2known) (a0 : GValue) (m : Nat) : ∀ (v0 : Int), Ol (xX G_spec_l2known a0 m v0) 168 (zL Tryz.f168 0) ⟨[(1, vp 0 0), (3, vi v0)], [.var (z8 a0)], 0⟩ fun o => match o with | .inl o_0 => (.ret, ⟨[(2, vb o_0)], [], 0⟩) | .inr (o_1) => (.exit 0, ⟨[(1, vp 0 0), (3, vi o_1), (11, vb false)], [.var (z8 a0)], 0⟩) := by
  induction m with
  | zero => intro v0 o h; cases h
  | succ m ih => exact fun v0 => tlp (
   .le zd a0.L <|
   .lI v0 (a0.L.length : Int) (fun c1 =>
    .na v0 fun i2 =>
    .ix zR a0.L i2 fun x3 =>
    .cl (H_spec_l2known x3) fun r4 =>
    .vN 0 r4 (
     .go (ih (w64 (v0 + 1)))) <|
    .ret (.inl false)) fun c1 =>
   .ret (.inr v0))
def Z3 (G_spec_l2known : GValue → Option Bool) (n : Nat) (a0 : GValue) : Option Bool :=
 if a0.Kind = 6 then
  some false
 else
 (xX G_spec_l2known a0 n 0).bind fun o2 =>
 match o2 with
 | .inl o2_0 =>
  some o2_0
 | .inr (o2_1) =>
  some true
theorem RV (G_spec_l2known : GValue → Option Bool) (H_spec_l2known : jm G_spec_l2known) (n : Nat) : jm (Z3 G_spec_l2known n) := fun a0 => tc (
 .eI a0.Kind 6 (fun c1 =>
  .ret false) fun c1 =>
 .l2 (QX G_spec_l2known H_spec_l2known a0 n 0) (fun o2_0 =>
  .ret o2_0) fun o2_1 =>
 .ret true) (zj Tryz.func168)
def yV : Nat → GValue → Option Bool
 | 0, _ => none
 | n + 1, a0 => Z3 (yV n) n a0
theorem KD (n : Nat) : jm (yV n) := by
 induction n with
 | zero => exact fun _ _ h => (by rw [yV] at h; cases h)
 | succ n ih =>
  have ih_spec_l2known := ih
  exact fun a0 r h => RV (yV n) ih_spec_l2known n a0 r (by rw [yV] at h; exact h)
theorem P6 {G : GValue → Option Bool} {v : GValue} (ha : v.L.length <= 2 ^ 40) (hG : ∀ x ∈ v.L, G x = some (knV x)) : ∀ (l p : List GValue) (m : Nat), v.L = p ++ l → l.length < m → ∃ z, xX G v m (p.length : Int) = some (if Yq l = true then .inr z else .inl false) := by
 intro l
 induction l with
 | nil =>
  intro p m he hm
  obtain ⟨m, rfl, _⟩ := zf hm
  exact ⟨_, by rw [xX, if_neg (by rw [he]; exact jz p)]; rfl⟩
 | cons x l ih =>
  intro p m he hm
  obtain ⟨m, rfl, hm'⟩ := zf hm
  have hlen : v.L.length = p.length + (l.length + 1) := by rw [he]; simp
  rw [xX, if_pos (by omega), zc, Option.bind_some, show v.L[p.length]? = some x by rw [he]; exact yh p x l, Option.bind_some, hG x (by rw [he]; simp), Option.bind_some, Yq]
  cases hx : knV x with
  | true =>
   dsimp only
   rw [xK p x (by omega), Bool.true_and]
   exact ih (p ++ [x]) m (by rw [he]; simp) (by simp only [List.length_cons] at hm'; omega)
  | false => exact ⟨0, rfl⟩
theorem MY : ∀ (N : Nat) (v : GValue), vsz v < N → vsz v <= 2 ^ 39 → ∀ f, vsz v + 2 <= f → yV f v = some (knV v) := by
 intro N
 induction N with
 | zero => intro v hv; omega
 | succ N ih =>
  intro v hv hs f hf
  have he := qa v
  have hl := yR v.L
  obtain ⟨f, rfl, _⟩ := zf (show 0 < f by omega)
  rw [yV]
  unfold Z3
  rw [Nu]
  by_cases h6 : v.Kind = 6
  ·rw [if_pos h6, h6]; rfl
  ·rw [if_neg h6]
   obtain ⟨z, hz⟩ := P6 (G := yV f) (v := v) (by omega) (fun x hx => by
    have := w6 hx
    exact ih x (by omega) (by omega) f (by omega)) v.L [] f rfl (by omega)
   simp only [List.length_nil, Int.natCast_zero] at hz
   rw [hz, Option.bind_some, decide_eq_true h6, Bool.true_and]
   cases Yq v.L <;> rfl
def jn (a0 : GValue) : Option Bool := if vsz a0 <= 2 ^ 39 then some (knV a0) else none
theorem JT (a0 : GValue) (r : Bool) (h : jn a0 = some r) : ∃ n, yV n a0 = some r := by
 unfold jn at h
 obtain ⟨ha, h⟩ := zM h
 exact ⟨vsz a0 + 2, by rw [<- h]; exact MY _ a0 (Nat.lt_succ_self _) ha _ (Nat.le_refl _)⟩
theorem VG : jm jn := by
 intro a0 r h
 obtain ⟨n, hn⟩ := JT a0 r h
 exact (KD n) a0 r hn
def Ze (a0 : GValue) : Option Bool :=
 if a0.Kind = 5 then
  (jl a0).bind fun r2 =>
  match r2 with
  | true =>
   (jn a0).bind fun r3 =>
   some r3
  | false =>
   some false
 else
 some false
theorem Ug (a0 : GValue) : Oc (Ze a0) 125 [] [.val true (z8 a0)] fun r => (vb r, []) := tc (
 .eI a0.Kind 5 (fun c1 =>
  .cl (Uf a0) fun r2 =>
  .vM 1 r2 (
   .az 0 0 <|
   .cl (VG a0) fun r3 =>
   .az 0 1 <|
   .ret r3) <|
  .az 0 0 <|
  .az 0 0 <|
  .ret false) fun c1 =>
 .ret false) (zj Tryz.func125)
def Wa (F : (List (List UInt8)) → Option Bool) : Prop := ∀ (a0 : (List (List UInt8))), Oc (F a0) 126 [] [vq (zq za) a0] fun r => (vb r, [])
def xe (a0 : (List (List UInt8))) : Nat → Int → Option (Bool ⊕ Int)
  | 0, _ => none
  | m + 1, v1 =>
  if v1 < (a0.length : Int) then
   (zy v1).bind fun i2 =>
   (a0[i2]?).bind fun x3 =>
   (jJ x3).bind fun r4 =>
   match r4 with
   | true =>
    if 0 < v1 then
     (zy (w64 (v1 - 1))).bind fun i6 =>
     (a0[i6]?).bind fun x7 =>
     if Op.bytesLess x7 x3 = true then
      xe a0 m (w64 (v1 + 1))
     else
     some (.inl false)
    else
    xe a0 m (w64 (v1 + 1))
   | false =>
    some (.inl false)
  else
  some (.inr v1)
theorem QY (a0 : (List (List UInt8))) (m : Nat) : ∀ (v1 : Int), Ol (xe a0 m v1) 126 (zL Tryz.f126 0) ⟨[(0, vq (zq za) a0), (3, vi v1)], [], 0⟩ fun o => match o with | .inl o_0 => (.ret, ⟨[(2, vb o_0)], [], 0⟩) | .inr (o_1) => (.exit 0, ⟨[(0, vq (zq za) a0), (3, vi o_1), (10, vb false)], [], 0⟩) := by
  induction m with
  | zero => intro v1 o h; cases h
  | succ m ih => exact fun v1 => tlp (
   .le (zq za) a0 <|
   .lI v1 (a0.length : Int) (fun c1 =>
    .na v1 fun i2 =>
    .ix0 (zq za) a0 i2 fun x3 =>
    .cl (Z2 x3) fun r4 =>
    .vN 0 r4 (
     .an 0 0 <|
     .lI 0 v1 (fun c5 =>
      .an 0 0 <|
      .na (w64 (v1 - 1)) fun i6 =>
      .ix0 (zq za) a0 i6 fun x7 =>
      .bt x7 <|
      .ag 5 <|
      .ag 4 <|
      .bt x3 <|
      .bI x7 x3 (fun c8 =>
       .an 0 2 <|
       .an 1 2 <|
       .go (ih (w64 (v1 + 1)))) fun c8 =>
      .an 0 2 <|
      .an 1 2 <|
      .ret (.inl false)) fun c5 =>
     .an 0 0 <|
     .an 12 0 <|
     .an 1 0 <|
     .go (ih (w64 (v1 + 1)))) <|
    .an 0 0 <|
    .an 0 0 <|
    .an 0 0 <|
    .an 0 0 <|
    .ret (.inl false)) fun c1 =>
   .ret (.inr v1))
def Z4 (n : Nat) (a0 : (List (List UInt8))) : Option Bool :=
 if 8 < (a0.length : Int) then
  some false
 else
 (xe a0 n 0).bind fun o2 =>
 match o2 with
 | .inl o2_0 =>
  some o2_0
 | .inr (o2_1) =>
  some true
theorem RW (n : Nat) : Wa (Z4 n) := fun a0 => tc (
 .le (zq za) a0 <|
 .lI 8 (a0.length : Int) (fun c1 =>
  .ret false) fun c1 =>
 .l2 (QY a0 n 0) (fun o2_0 =>
  .ret o2_0) fun o2_1 =>
 .ret true) (zj Tryz.func126)
theorem QZ {a : List UInt8} (h : a.length <= 2 ^ 20) : jJ a = some (yA a) := G3 h
theorem P7 {a : List (List UInt8)} (hs : ∀ x ∈ a, x.length <= 2 ^ 20) (ha : a.length <= 2 ^ 40) : ∀ (d i m : Nat), i + d = a.length → d < m → ∃ z, xe a m (i : Int) = some (if q8 yA id a i d = true then .inr z else .inl false) := by
 intro d
 induction d with
 | zero =>
  intro i m hi hm
  obtain ⟨m, rfl, _⟩ := zf hm
  exact ⟨_, by rw [xe, if_neg (by omega)]; rfl⟩
 | succ d ih =>
  intro i m hi hm
  obtain ⟨m, rfl, hm'⟩ := zf hm
  have hil : i < a.length := by omega
  rw [xe, if_pos (by omega), zc, Option.bind_some, zg hil, Option.bind_some, QZ (hs _ (List.getElem_mem hil)), Option.bind_some, XL]
  obtain ⟨z, hz⟩ := ih (i + 1) m (by omega) (by omega)
  cases hx : yA a[i] with
  | false =>
   refine ⟨0, ?_⟩
   have : gOk yA id a i = false := by
    unfold gOk; rw [zg hil]; simp [hx]
   rw [this]; rfl
  | true =>
   dsimp only
   by_cases h0 : 0 < i
   ·rw [if_pos (by omega), qS (by omega) h0, zc, Option.bind_some, zg (show i - 1 < a.length by omega), Option.bind_some, J1 hil h0, hx, Bool.true_and, zC (by omega), hz]
    by_cases hl : Op.bytesLess a[i - 1] a[i] = true
    ·rw [if_pos hl, show Op.bytesLess (id a[i - 1]) (id a[i]) = true from hl, Bool.true_and]; exact ⟨z, rfl⟩
    ·rw [if_neg hl, show Op.bytesLess (id a[i - 1]) (id a[i]) = false from Bool.eq_false_iff.2 hl]; exact ⟨z, rfl⟩
   ·obtain rfl : i = 0 := by omega
    rw [if_neg (by omega), WZ hil, hx, Bool.true_and, zC (by omega), hz]
    exact ⟨z, rfl⟩
def jo (a0 : (List (List UInt8))) : Option Bool := if bsz a0 <= 2 ^ 20 then some (kD a0) else none
theorem JU (a0 : (List (List UInt8))) (r : Bool) (h : jo a0 = some r) : ∃ n, Z4 n a0 = some r := by
 unfold jo at h
 obtain ⟨ha, h⟩ := zM h
 have hl := wQ a0
 obtain ⟨z, hz⟩ := P7 (a := a0) (fun x hx => by have := ZB hx; omega) (by omega) a0.length 0 (a0.length + 1) (by omega) (by omega)
 refine ⟨a0.length + 1, ?_⟩
 unfold Z4
 rw [show ((0 : Nat) : Int) = 0 from rfl] at hz
 rw [<- h]
 unfold kD
 by_cases h8 : (8 : Int) < (a0.length : Int)
 ·rw [if_pos h8, decide_eq_false (by omega)]; rfl
 ·rw [if_neg h8, hz, Option.bind_some, decide_eq_true (by omega), Bool.true_and]
  cases q8 yA id a0 0 a0.length <;> rfl
theorem VH : Wa jo := fun a0 r h => (JU a0 r h).elim fun n hn => RW n a0 r hn
end
end Go.Am.Try
