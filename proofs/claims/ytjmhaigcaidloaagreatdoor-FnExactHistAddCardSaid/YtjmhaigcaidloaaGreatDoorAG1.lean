
/- The functions of the program in plain Lean, and that the machine answers as they do; conditions at each theorem. -/
import Derived.Test.YtjmhaigcaidloaaGreatDoorAP1
set_option linter.unusedVariables false
set_option linter.unusedSimpArgs false
namespace Go.Am.Try
open Go.Am Go.Proofs
set_option linter.unusedVariables false
set_option maxRecDepth 20000
set_option maxHeartbeats 2000000
noncomputable section
def wu (a0 : (List UInt8)) (a1 : Int) : Option Int :=
 if (w64 (a1 - (a0.length : Int))) < 0 then
  some (-1)
 else
 some (w64 (a1 - (a0.length : Int)))
theorem jN (a0 : (List UInt8)) (a1 : Int) : Oc (wu a0 a1) 66 [] [vq za a0, vi a1] fun r => (vi r, []) := tc (
 .le za a0 <|
 .lI (w64 (a1 - (a0.length : Int))) 0 (fun c1 =>
  .ret (-1)) fun c1 =>
 .ret (w64 (a1 - (a0.length : Int)))) (zf Tryz.func66)
def QA (F : (List (List UInt8)) → Int → Option Int) : Prop := ∀ (a0 : (List (List UInt8))) (a1 : Int), Oc (F a0 a1) 69 [] [vq (zu za) a0, vi a1] fun r => (vi r, [])
def wv (a0 : (List (List UInt8))) : Nat → Int → Int → Option (Int ⊕ (Int × Int))
  | 0, _, _ => none
  | m + 1, v1, v2 =>
  if v2 < (a0.length : Int) then
   (zv v2).bind fun i2 =>
   (a0[i2]?).bind fun x3 =>
   (wu x3 v1).bind fun r4 =>
   if r4 < 0 then
    some (.inl (-1))
   else
   wv a0 m r4 (w64 (v2 + 1))
  else
  some (.inr (v1, v2))
theorem KF (a0 : (List (List UInt8))) (m : Nat) : ∀ (v1 : Int) (v2 : Int), Ol (wv a0 m v1 v2) 69 (zJ Tryz.f69 0) ⟨[(0, vq (zu za) a0), (1, vi v1), (5, vi v2)], [], 0⟩ fun o => match o with | .inl o_0 => (.ret, ⟨[(4, vi o_0)], [], 0⟩) | .inr (⟨o_1_0, o_1_1⟩) => (.exit 0, ⟨[(0, vq (zu za) a0), (1, vi o_1_0), (5, vi o_1_1), (15, vb false)], [], 0⟩) := by
  induction m with
  | zero => intro v1 v2 o h; cases h
  | succ m ih => exact fun v1 v2 => tlp (
   .le (zu za) a0 <|
   .lI v2 (a0.length : Int) (fun c1 =>
    .na v2 fun i2 =>
    .ix0 (zu za) a0 i2 fun x3 =>
    .cl (jN x3 v1) fun r4 =>
    .lI r4 0 (fun c5 =>
     .ret (.inl (-1))) fun c5 =>
    .go (ih r4 (w64 (v2 + 1)))) fun c1 =>
   .ret (.inr (v1, v2)))
def vZ (n : Nat) (a0 : (List (List UInt8))) (a1 : Int) : Option Int :=
 if (w64 (a1 - (a0.length : Int))) < 0 then
  some (-1)
 else
 (wv a0 n (w64 (a1 - (a0.length : Int))) 0).bind fun o2 =>
 match o2 with
 | .inl o2_0 =>
  some o2_0
 | .inr (⟨o2_1_0, o2_1_1⟩) =>
  some o2_1_0
theorem U5 (n : Nat) : QA (vZ n) := fun a0 a1 => tc (
 .le (zu za) a0 <|
 .lI (w64 (a1 - (a0.length : Int))) 0 (fun c1 =>
  .ret (-1)) fun c1 =>
 .l2 (KF a0 n (w64 (a1 - (a0.length : Int))) 0) (fun o2_0 =>
  .ret o2_0) fun ⟨o2_1_0, o2_1_1⟩ =>
 .ret o2_1_0) (zf Tryz.func69)
def MdB (k : List (List UInt8)) : Prop := k.length <= 2 ^ 63 - 1 ∧ ∀ b ∈ k, b.length <= 2 ^ 63 - 1
theorem ZF {a : List UInt8} {n : Int} (h : a.length <= 2 ^ 63 - 1) (h0 : 0 <= n) (h1 : n <= 2 ^ 20) : wu a n = some (if (a.length : Int) <= n then n - a.length else -1) := by
 unfold wu
 rw [yc (by omega) (by omega)]
 by_cases hc : (a.length : Int) <= n
 ·rw [if_neg (by omega), if_pos hc]
 ·rw [if_pos (by omega), if_neg hc]
theorem Lt {a : List (List UInt8)} (ha : a.length <= 2 ^ 20) (hb : ∀ b ∈ a, b.length <= 2 ^ 63 - 1) : ∀ (d i m : Nat) (r : Int), i + d = a.length → d < m → 0 <= r → r <= 2 ^ 20 →
  ∃ z, wv a m r (i : Int) = some (if (((a.drop i).map List.length).sum : Int) <= r then .inr (r - ((a.drop i).map List.length).sum, z) else .inl (-1)) := by
 intro d
 induction d with
 | zero =>
  intro i m r hi hm h0 h1
  obtain ⟨m, rfl, _⟩ := zg hm
  refine ⟨(i : Int), ?_⟩
  rw [wv, if_neg (by omega), List.drop_eq_nil_of_le (by omega)]
  rw [List.map_nil, List.sum_nil, if_pos (by simpa using h0)]; simp
 | succ d ih =>
  intro i m r hi hm h0 h1
  obtain ⟨m, rfl, hm'⟩ := zg hm
  have hil : i < a.length := by omega
  have hx := hb a[i] (List.getElem_mem hil)
  rw [wv, if_pos (by omega), zb, oB, zl hil, oB, ZF hx h0 h1, oB]
  rw [xU hil, List.map_cons, List.sum_cons]
  by_cases hc : ((a[i]).length : Int) <= r
  ·rw [if_pos hc, if_neg (by omega), zH (by omega)]
   obtain ⟨z, hz⟩ := ih (i + 1) m (r - (a[i]).length) (by omega) (by omega) (by omega) (by omega)
   refine ⟨z, ?_⟩
   rw [hz]
   by_cases hd : (((a.drop (i + 1)).map List.length).sum : Int) <= r - (a[i]).length
   ·rw [if_pos hd, if_pos (by omega)]; congr 3; omega
   ·rw [if_neg hd, if_neg (by omega)]
  ·refine ⟨0, ?_⟩
   rw [if_neg hc, if_pos (by omega), if_neg (by omega)]
theorem MP {a : List (List UInt8)} {n : Int} (h : MdB a ∧ 0 <= n ∧ n <= 2 ^ 20) : vZ (a.length + 1) a n = some (if (bsz a : Int) <= n then n - bsz a else -1) := by
 obtain ⟨⟨ha, hb⟩, h0, h1⟩ := h
 unfold vZ
 rw [yc (by omega) (by omega)]
 unfold bsz
 by_cases hc : (a.length : Int) <= n
 ·rw [if_neg (by omega)]
  obtain ⟨z, hz⟩ := Lt (by omega) hb a.length 0 (a.length + 1) (n - a.length) (by omega) (by omega) (by omega) (by omega)
  rw [show ((0 : Nat) : Int) = 0 from rfl] at hz
  rw [hz]
  simp only [List.drop_zero]
  by_cases hd : ((a.map List.length).sum : Int) <= n - a.length
  ·rw [if_pos hd, if_pos (by omega)]
   simp only [oB]; congr 1; omega
  ·rw [if_neg hd, if_neg (by omega)]; rfl
 ·rw [if_pos (by omega), if_neg (by omega)]
open Classical in
noncomputable def yU (a0 : (List (List UInt8))) (a1 : Int) : Option Int := if MdB a0 ∧ 0 <= a1 ∧ a1 <= 2 ^ 20 then some (if (bsz a0 : Int) <= a1 then a1 - bsz a0 else -1) else none
theorem Vy (a0 : (List (List UInt8))) (a1 : Int) (r : Int) (h : yU a0 a1 = some r) : ∃ n, vZ n a0 a1 = some r := by
 unfold yU at h
 obtain ⟨hp, h⟩ := zC h
 exact ⟨_, by rw [<- h]; exact MP hp⟩
theorem Yw : QA yU := fun a0 a1 r h => (Vy a0 a1 r h).elim fun n hn => U5 n a0 a1 r hn
def Za (F : (List GValue) → Int → Option Int) : Prop := ∀ (a0 : (List GValue)) (a1 : Int), Oc (F a0 a1) 123 [] [vq zh a0, vi a1] fun r => (vi r, [])
def k8 (F : GValue → Int → Option Int) : Prop := ∀ (a0 : GValue) (a1 : Int), Oc (F a0 a1) 68 [] [.val true (zD a0), vi a1] fun r => (vi r, [])
def ww (G_laws_szValue : GValue → Int → Option Int) (a0 : (List GValue)) : Nat → Int → Int → Option (Int ⊕ (Int × Int))
  | 0, _, _ => none
  | m + 1, v1, v2 =>
  if v2 < (a0.length : Int) then
   (zv v2).bind fun i2 =>
   (a0[i2]?).bind fun x3 =>
   (G_laws_szValue x3 v1).bind fun r4 =>
   if r4 < 0 then
    some (.inl (-1))
   else
   ww G_laws_szValue a0 m r4 (w64 (v2 + 1))
  else
  some (.inr (v1, v2))
theorem KG (G_laws_szValue : GValue → Int → Option Int) (H_laws_szValue : k8 G_laws_szValue) (a0 : (List GValue)) (m : Nat) : ∀ (v1 : Int) (v2 : Int), Ol (ww G_laws_szValue a0 m v1 v2) 123 (zJ Tryz.f123 0) ⟨[(0, vq zh a0), (1, vi v1), (5, vi v2)], [], 0⟩ fun o => match o with | .inl o_0 => (.ret, ⟨[(4, vi o_0)], [], 0⟩) | .inr (⟨o_1_0, o_1_1⟩) => (.exit 0, ⟨[(0, vq zh a0), (1, vi o_1_0), (5, vi o_1_1), (15, vb false)], [], 0⟩) := by
  induction m with
  | zero => intro v1 v2 o h; cases h
  | succ m ih => exact fun v1 v2 => tlp (
   .le zh a0 <|
   .lI v2 (a0.length : Int) (fun c1 =>
    .na v2 fun i2 =>
    .ix yz a0 i2 fun x3 =>
    .cl (H_laws_szValue x3 v1) fun r4 =>
    .lI r4 0 (fun c5 =>
     .ret (.inl (-1))) fun c5 =>
    .go (ih r4 (w64 (v2 + 1)))) fun c1 =>
   .ret (.inr (v1, v2)))
def Zb (G_laws_szValue : GValue → Int → Option Int) (n : Nat) (a0 : (List GValue)) (a1 : Int) : Option Int :=
 if (w64 (a1 - (a0.length : Int))) < 0 then
  some (-1)
 else
 (ww G_laws_szValue a0 n (w64 (a1 - (a0.length : Int))) 0).bind fun o2 =>
 match o2 with
 | .inl o2_0 =>
  some o2_0
 | .inr (⟨o2_1_0, o2_1_1⟩) =>
  some o2_1_0
theorem U6 (G_laws_szValue : GValue → Int → Option Int) (H_laws_szValue : k8 G_laws_szValue) (n : Nat) : Za (Zb G_laws_szValue n) := fun a0 a1 => tc (
 .le zh a0 <|
 .lI (w64 (a1 - (a0.length : Int))) 0 (fun c1 =>
  .ret (-1)) fun c1 =>
 .l2 (KG G_laws_szValue H_laws_szValue a0 n (w64 (a1 - (a0.length : Int))) 0) (fun o2_0 =>
  .ret o2_0) fun ⟨o2_1_0, o2_1_1⟩ =>
 .ret o2_1_0) (zf Tryz.func123)
def Xu (G_laws_szValueS : (List GValue) → Int → Option Int) (a0 : GValue) (a1 : Int) : Option Int :=
 (wu a0.S a1).bind fun r1 =>
 if r1 < 0 then
  some (-1)
 else
 (yU a0.K r1).bind fun r3 =>
 if r3 < 0 then
  some (-1)
 else
 (G_laws_szValueS a0.L r3).bind fun r5 =>
 if r5 < 0 then
  some (-1)
 else
 some r5
theorem Ob (G_laws_szValueS : (List GValue) → Int → Option Int) (H_laws_szValueS : Za G_laws_szValueS) : k8 (Xu G_laws_szValueS) := fun a0 a1 => tc (
 .cl (jN a0.S a1) fun r1 =>
 .lI r1 0 (fun c2 =>
  .ret (-1)) fun c2 =>
 .cl (Yw a0.K r1) fun r3 =>
 .lI r3 0 (fun c4 =>
  .ret (-1)) fun c4 =>
 .cl (H_laws_szValueS a0.L r3) fun r5 =>
 .lI r5 0 (fun c6 =>
  .ret (-1)) fun c6 =>
 .ret r5) (zf Tryz.func68)
mutual
def xV : Nat → (List GValue) → Int → Option Int
 | 0, _, _ => none
 | n + 1, a0, a1 => Zb (wx n) n a0 a1
def wx : Nat → GValue → Int → Option Int
 | 0, _, _ => none
 | n + 1, a0, a1 => Xu (xV n) a0 a1
end
theorem Wq (n : Nat) : Za (xV n) ∧ k8 (wx n) := by
 induction n with
 | zero => exact ⟨fun _ _ _ h => (by rw [xV] at h; cases h), fun _ _ _ h => (by rw [wx] at h; cases h)⟩
 | succ n ih =>
  obtain ⟨ih_laws_szValueS, ih_laws_szValue⟩ := ih
  exact ⟨fun a0 a1 r h => U6 (wx n) ih_laws_szValue n a0 a1 r (by rw [xV] at h; exact h),
   fun a0 a1 r h => Ob (xV n) ih_laws_szValueS a0 a1 r (by rw [wx] at h; exact h)⟩
mutual
def MdV : GValue → Prop
 | .mk _ _ s k l => s.length <= 2 ^ 63 - 1 ∧ MdB k ∧ l.length <= 2 ^ 63 - 1 ∧ JU l
def JU : List GValue → Prop
 | [] => True
 | v :: l => MdV v ∧ JU l
end
theorem MQ {l : List GValue} (h : JU l) {v : GValue} (hv : v ∈ l) : MdV v := by
 induction l with
 | nil => cases hv
 | cons x l ih =>
  simp only [JU] at h
  rcases List.mem_cons.1 hv with rfl | hv
  ·exact h.1
  ·exact ih h.2 hv
theorem EE (v : GValue) : MdV v = (v.S.length <= 2 ^ 63 - 1 ∧ MdB v.K ∧ v.L.length <= 2 ^ 63 - 1 ∧ JU v.L) := by cases v; simp only [MdV, GValue.S, GValue.K, GValue.L]
def vin (l : List GValue) : Nat := (l.map vsz).sum
theorem Bk (l : List GValue) : yA l = l.length + vin l := by
 unfold vin
 induction l with
 | nil => rfl
 | cons v l ih => simp only [yA, ih, List.length_cons, List.map_cons, List.sum_cons]; omega
theorem Lu {G : GValue → Int → Option Int} {a : List GValue} (ha : a.length <= 2 ^ 20) (hG : ∀ v ∈ a, ∀ n : Int, 0 <= n → n <= 2 ^ 20 → G v n = some (y3 (vsz v) n)) : ∀ (d i m : Nat) (r : Int), i + d = a.length → d < m → 0 <= r → r <= 2 ^ 20 →
  ∃ z, ww G a m r (i : Int) = some (if (vin (a.drop i) : Int) <= r then .inr (r - vin (a.drop i), z) else .inl (-1)) := by
 intro d
 induction d with
 | zero =>
  intro i m r hi hm h0 h1
  obtain ⟨m, rfl, _⟩ := zg hm
  refine ⟨(i : Int), ?_⟩
  rw [ww, if_neg (by omega), List.drop_eq_nil_of_le (by omega)]
  simp only [vin, List.map_nil, List.sum_nil]
  rw [if_pos (by simpa using h0)]; simp
 | succ d ih =>
  intro i m r hi hm h0 h1
  obtain ⟨m, rfl, hm'⟩ := zg hm
  have hil : i < a.length := by omega
  rw [ww, if_pos (by omega), zb, oB, zl hil, oB, hG _ (List.getElem_mem hil) r h0 h1, oB]
  have hv : vin (a.drop i) = vsz a[i] + vin (a.drop (i + 1)) := by simp only [vin, xU hil, List.map_cons, List.sum_cons]
  rw [hv]
  unfold y3
  by_cases hc : (vsz a[i] : Int) <= r
  ·rw [if_pos hc, if_neg (by omega), zH (by omega)]
   obtain ⟨z, hz⟩ := ih (i + 1) m (r - vsz a[i]) (by omega) (by omega) (by omega) (by omega)
   refine ⟨z, ?_⟩
   rw [hz]
   by_cases hd : (vin (a.drop (i + 1)) : Int) <= r - vsz a[i]
   ·rw [if_pos hd, if_pos (by omega)]; congr 3; omega
   ·rw [if_neg hd, if_neg (by omega)]
  ·refine ⟨0, ?_⟩
   rw [if_neg hc, if_pos (by omega), if_neg (by omega)]
theorem U7 {G : GValue → Int → Option Int} {a : List GValue} {f : Nat} {n : Int} (ha : a.length <= 2 ^ 63 - 1) (h0 : 0 <= n) (h1 : n <= 2 ^ 20) (hf : a.length < f ∨ n < a.length) (hG : ∀ v ∈ a, ∀ n : Int, 0 <= n → n <= 2 ^ 20 → G v n = some (y3 (vsz v) n)) :
  Zb G f a n = some (y3 (yA a) n) := by
 unfold Zb
 rw [yc (by omega) (by omega), Bk]
 unfold y3
 by_cases hc : (a.length : Int) <= n
 ·rw [if_neg (by omega)]
  obtain ⟨z, hz⟩ := Lu (G := G) (by omega) hG a.length 0 f (n - a.length) (by omega) (by omega) (by omega) (by omega)
  rw [show ((0 : Nat) : Int) = 0 from rfl] at hz
  rw [hz]
  simp only [List.drop_zero]
  by_cases hd : (vin a : Int) <= n - a.length
  ·rw [if_pos hd, if_pos (by omega)]
   simp only [oB]; congr 1; omega
  ·rw [if_neg hd, if_neg (by omega)]; rfl
 ·rw [if_pos (by omega), if_neg (by omega)]
theorem OX : ∀ (N : Nat) (v : GValue), vsz v < N → MdV v → ∀ (f : Nat) (n : Int), 2 * vsz v + 3 <= f → 0 <= n → n <= 2 ^ 20 → wx f v n = some (y3 (vsz v) n) := by
 intro N
 induction N with
 | zero => intro v hv; omega
 | succ N ih =>
  intro v hv hmd f n hf h0 h1
  obtain ⟨f, rfl, _⟩ := zg (show 0 < f by omega)
  rw [EE] at hmd
  have he := xw v
  have hl := yR v.L
  obtain ⟨f, rfl, _⟩ := zg (show 0 < f by omega)
  rw [wx]
  unfold Xu
  rw [ZF hmd.1 h0 h1, oB]
  unfold y3
  by_cases c1 : (v.S.length : Int) <= n
  ·rw [if_pos c1, if_neg (by omega)]
   unfold yU
   rw [if_pos ⟨hmd.2.1, by omega, by omega⟩, oB]
   by_cases c2 : (bsz v.K : Int) <= n - v.S.length
   ·rw [if_pos c2, if_neg (by omega)]
    rw [xV, U7 hmd.2.2.1 (by omega) (by omega) (.inl (by omega)) (fun x hx m g0 g1 => ?_), oB]
    ·unfold y3
     by_cases c3 : (yA v.L : Int) <= n - v.S.length - bsz v.K
     ·rw [if_pos c3, if_neg (by omega), if_pos (by omega)]; congr 1; omega
     ·rw [if_neg c3, if_pos (by omega), if_neg (by omega)]
    ·have := wr hx
     exact ih x (by omega) (MQ hmd.2.2.2 hx) f m (by omega) g0 g1
   ·rw [if_neg c2, if_pos (by omega), if_neg (by omega)]
  ·rw [if_neg c1, if_pos (by omega), if_neg (by omega)]
open Classical in
noncomputable def YN (a0 : (List GValue)) (a1 : Int) : Option Int := if a0.length <= 2 ^ 63 - 1 ∧ JU a0 ∧ 0 <= a1 ∧ a1 <= 2 ^ 20 then some (y3 (yA a0) a1) else none
theorem Vz (a0 : (List GValue)) (a1 : Int) (r : Int) (h : YN a0 a1 = some r) : ∃ n, xV n a0 a1 = some r := by
 unfold YN at h
 obtain ⟨⟨hl, hm, h0, h1⟩, h⟩ := zC h
 refine ⟨2 * yA a0 + 5, ?_⟩
 have := yR a0
 rw [xV, U7 hl h0 h1 (.inl (by omega)) fun x hx m g0 g1 => ?_, h]
 have := wr hx
 exact OX _ x (Nat.lt_succ_self _) (MQ hm hx) _ m (by omega) g0 g1
open Classical in
noncomputable def wy (a0 : GValue) (a1 : Int) : Option Int := if MdV a0 ∧ 0 <= a1 ∧ a1 <= 2 ^ 20 then some (y3 (vsz a0) a1) else none
theorem R1 (a0 : GValue) (a1 : Int) (r : Int) (h : wy a0 a1 = some r) : ∃ n, wx n a0 a1 = some r := by
 unfold wy at h
 obtain ⟨⟨hm, h0, h1⟩, h⟩ := zC h
 exact ⟨2 * vsz a0 + 3, by rw [<- h]; exact OX _ a0 (Nat.lt_succ_self _) hm _ a1 (Nat.le_refl _) h0 h1⟩
theorem Bl : Za YN := by
 intro a0 a1 r h
 obtain ⟨n, hn⟩ := Vz a0 a1 r h
 exact (Wq n).1 a0 a1 r hn
theorem QB : k8 wy := by
 intro a0 a1 r h
 obtain ⟨n, hn⟩ := R1 a0 a1 r h
 exact (Wq n).2 a0 a1 r hn
def k9 (a0 : GEntry) (a1 : Int) : Option Int :=
 (wu a0.Addr a1).bind fun r1 =>
 if r1 < 0 then
  some (-1)
 else
 (wy a0.Val r1).bind fun r3 =>
 if r3 < 0 then
  some (-1)
 else
 (yU a0.Deps r3).bind fun r5 =>
 if r5 < 0 then
  some (-1)
 else
 some r5
theorem U8 (a0 : GEntry) (a1 : Int) : Oc (k9 a0 a1) 122 [] [.val true (j9 a0), vi a1] fun r => (vi r, []) := tc (
 .cl (jN a0.Addr a1) fun r1 =>
 .lI r1 0 (fun c2 =>
  .ret (-1)) fun c2 =>
 .cl (QB a0.Val r1) fun r3 =>
 .lI r3 0 (fun c4 =>
  .ret (-1)) fun c4 =>
 .cl (Yw a0.Deps r3) fun r5 =>
 .lI r5 0 (fun c6 =>
  .ret (-1)) fun c6 =>
 .ret r5) (zf Tryz.func122)
def QC (F : (List GEntry) → Int → Option Int) : Prop := ∀ (a0 : (List GEntry)) (a1 : Int), Oc (F a0 a1) 67 [] [vq zj a0, vi a1] fun r => (vi r, [])
def wz (a0 : (List GEntry)) : Nat → Int → Int → Option (Int ⊕ (Int × Int))
  | 0, _, _ => none
  | m + 1, v1, v2 =>
  if v2 < (a0.length : Int) then
   (zv v2).bind fun i2 =>
   (a0[i2]?).bind fun x3 =>
   (k9 x3 v1).bind fun r4 =>
   if r4 < 0 then
    some (.inl (-1))
   else
   wz a0 m r4 (w64 (v2 + 1))
  else
  some (.inr (v1, v2))
theorem KH (a0 : (List GEntry)) (m : Nat) : ∀ (v1 : Int) (v2 : Int), Ol (wz a0 m v1 v2) 67 (zJ Tryz.f67 0) ⟨[(0, vq zj a0), (1, vi v1), (5, vi v2)], [], 0⟩ fun o => match o with | .inl o_0 => (.ret, ⟨[(4, vi o_0)], [], 0⟩) | .inr (⟨o_1_0, o_1_1⟩) => (.exit 0, ⟨[(0, vq zj a0), (1, vi o_1_0), (5, vi o_1_1), (15, vb false)], [], 0⟩) := by
  induction m with
  | zero => intro v1 v2 o h; cases h
  | succ m ih => exact fun v1 v2 => tlp (
   .le zj a0 <|
   .lI v2 (a0.length : Int) (fun c1 =>
    .na v2 fun i2 =>
    .ix zV a0 i2 fun x3 =>
    .cl (U8 x3 v1) fun r4 =>
    .lI r4 0 (fun c5 =>
     .ret (.inl (-1))) fun c5 =>
    .go (ih r4 (w64 (v2 + 1)))) fun c1 =>
   .ret (.inr (v1, v2)))
def YO (n : Nat) (a0 : (List GEntry)) (a1 : Int) : Option Int :=
 if (w64 (a1 - (a0.length : Int))) < 0 then
  some (-1)
 else
 (wz a0 n (w64 (a1 - (a0.length : Int))) 0).bind fun o2 =>
 match o2 with
 | .inl o2_0 =>
  some o2_0
 | .inr (⟨o2_1_0, o2_1_1⟩) =>
  some o2_1_0
theorem U9 (n : Nat) : QC (YO n) := fun a0 a1 => tc (
 .le zj a0 <|
 .lI (w64 (a1 - (a0.length : Int))) 0 (fun c1 =>
  .ret (-1)) fun c1 =>
 .l2 (KH a0 n (w64 (a1 - (a0.length : Int))) 0) (fun o2_0 =>
  .ret o2_0) fun ⟨o2_1_0, o2_1_1⟩ =>
 .ret o2_1_0) (zf Tryz.func67)
def MR (e : GEntry) : Prop := e.Addr.length <= 2 ^ 63 - 1 ∧ MdV e.Val ∧ MdB e.Deps
def WB : List GEntry → Prop
 | [] => True
 | v :: l => MR v ∧ WB l
theorem EF {l : List GEntry} (h : WB l) {v : GEntry} (hv : v ∈ l) : MR v := by
 induction l with
 | nil => cases hv
 | cons x l ih =>
  simp only [WB] at h
  rcases List.mem_cons.1 hv with rfl | hv
  ·exact h.1
  ·exact ih h.2 hv
def XG (l : List GEntry) : Nat := (l.map esz).sum
theorem zbb (l : List GEntry) : zZ l = l.length + XG l := by
 unfold XG
 induction l with
 | nil => rfl
 | cons v l ih => simp only [zZ, ih, List.length_cons, List.map_cons, List.sum_cons]; omega
theorem Lv {a : List GEntry} (ha : a.length <= 2 ^ 20) (hG : ∀ v ∈ a, ∀ n : Int, 0 <= n → n <= 2 ^ 20 → k9 v n = some (y3 (esz v) n)) : ∀ (d i m : Nat) (r : Int), i + d = a.length → d < m → 0 <= r → r <= 2 ^ 20 →
  ∃ z, wz a m r (i : Int) = some (if (XG (a.drop i) : Int) <= r then .inr (r - XG (a.drop i), z) else .inl (-1)) := by
 intro d
 induction d with
 | zero =>
  intro i m r hi hm h0 h1
  obtain ⟨m, rfl, _⟩ := zg hm
  refine ⟨(i : Int), ?_⟩
  rw [wz, if_neg (by omega), List.drop_eq_nil_of_le (by omega)]
  simp only [XG, List.map_nil, List.sum_nil]
  rw [if_pos (by simpa using h0)]; simp
 | succ d ih =>
  intro i m r hi hm h0 h1
  obtain ⟨m, rfl, hm'⟩ := zg hm
  have hil : i < a.length := by omega
  rw [wz, if_pos (by omega), zb, oB, zl hil, oB, hG _ (List.getElem_mem hil) r h0 h1, oB]
  have hv : XG (a.drop i) = esz a[i] + XG (a.drop (i + 1)) := by simp only [XG, xU hil, List.map_cons, List.sum_cons]
  rw [hv]
  unfold y3
  by_cases hc : (esz a[i] : Int) <= r
  ·rw [if_pos hc, if_neg (by omega), zH (by omega)]
   obtain ⟨z, hz⟩ := ih (i + 1) m (r - esz a[i]) (by omega) (by omega) (by omega) (by omega)
   refine ⟨z, ?_⟩
   rw [hz]
   by_cases hd : (XG (a.drop (i + 1)) : Int) <= r - esz a[i]
   ·rw [if_pos hd, if_pos (by omega)]; congr 3; omega
   ·rw [if_neg hd, if_neg (by omega)]
  ·refine ⟨0, ?_⟩
   rw [if_neg hc, if_pos (by omega), if_neg (by omega)]
theorem Ht {v : GEntry} {n : Int} (h : MR v) (h0 : 0 <= n) (h1 : n <= 2 ^ 20) : k9 v n = some (y3 (esz v) n) := by
 unfold k9
 rw [ZF h.1 h0 h1, oB]
 unfold y3 esz
 by_cases c1 : (v.Addr.length : Int) <= n
 ·rw [if_pos c1, if_neg (by omega)]
  unfold wy
  rw [if_pos ⟨h.2.1, by omega, by omega⟩, oB]
  unfold y3
  by_cases c2 : (vsz v.Val : Int) <= n - v.Addr.length
  ·rw [if_pos c2, if_neg (by omega)]
   unfold yU
   rw [if_pos ⟨h.2.2, by omega, by omega⟩, oB]
   by_cases c3 : (bsz v.Deps : Int) <= n - v.Addr.length - vsz v.Val
   ·rw [if_pos c3, if_neg (by omega), if_pos (by omega)]; congr 1; omega
   ·rw [if_neg c3, if_pos (by omega), if_neg (by omega)]
  ·rw [if_neg c2, if_pos (by omega), if_neg (by omega)]
 ·rw [if_neg c1, if_pos (by omega), if_neg (by omega)]
open Classical in
noncomputable def jO (a0 : (List GEntry)) (a1 : Int) : Option Int := if a0.length <= 2 ^ 63 - 1 ∧ WB a0 ∧ 0 <= a1 ∧ a1 <= 2 ^ 20 then some (y3 (zZ a0) a1) else none
theorem V0 (a0 : (List GEntry)) (a1 : Int) (r : Int) (h : jO a0 a1 = some r) : ∃ n, YO n a0 a1 = some r := by
 unfold jO at h
 obtain ⟨⟨hl, hm, h0, h1⟩, h⟩ := zC h
 refine ⟨a0.length + 5, ?_⟩
 unfold YO
 rw [<- h, yc (by omega) (by omega), zbb]
 unfold y3
 by_cases hc : (a0.length : Int) <= a1
 ·rw [if_neg (by omega)]
  obtain ⟨z, hz⟩ := Lv (a := a0) (by omega) (fun v hv n h0 h1 => Ht (EF hm hv) h0 h1) a0.length 0 (a0.length + 5) (a1 - a0.length) (by omega) (by omega) (by omega) (by omega)
  rw [show ((0 : Nat) : Int) = 0 from rfl] at hz
  rw [hz]
  simp only [List.drop_zero]
  by_cases hd : (XG a0 : Int) <= a1 - a0.length
  ·rw [if_pos hd, if_pos (by omega)]
   simp only [oB]; congr 1; omega
  ·rw [if_neg hd, if_neg (by omega)]; rfl
 ·rw [if_pos (by omega), if_neg (by omega)]
theorem Tv : QC jO := fun a0 a1 r h => (V0 a0 a1 r h).elim fun n hn => U9 n a0 a1 r hn
def ZG (a0 : GState) (a1 : Int) : Option Int :=
 (wu a0.Pending a1).bind fun r1 =>
 if r1 < 0 then
  some (-1)
 else
 (jO a0.Entries r1).bind fun r3 =>
 if r3 < 0 then
  some (-1)
 else
 some r3
theorem UA (a0 : GState) (a1 : Int) : Oc (ZG a0 a1) 15 [] [.val true (zX a0), vi a1] fun r => (vi r, []) := tc (
 .cl (jN a0.Pending a1) fun r1 =>
 .lI r1 0 (fun c2 =>
  .ret (-1)) fun c2 =>
 .cl (Tv a0.Entries r1) fun r3 =>
 .lI r3 0 (fun c4 =>
  .ret (-1)) fun c4 =>
 .ret r3) (zf Tryz.func15)
def w4 (a0 : GEvent) (a1 : Int) : Option Int :=
 (wu a0.Addr a1).bind fun r1 =>
 if r1 < 0 then
  some (-1)
 else
 (wy a0.Val r1).bind fun r3 =>
 if r3 < 0 then
  some (-1)
 else
 (yU a0.Deps r3).bind fun r5 =>
 if r5 < 0 then
  some (-1)
 else
 some r5
theorem QD (a0 : GEvent) (a1 : Int) : Oc (w4 a0 a1) 16 [] [.val true (xS a0), vi a1] fun r => (vi r, []) := tc (
 .cl (jN a0.Addr a1) fun r1 =>
 .lI r1 0 (fun c2 =>
  .ret (-1)) fun c2 =>
 .cl (QB a0.Val r1) fun r3 =>
 .lI r3 0 (fun c4 =>
  .ret (-1)) fun c4 =>
 .cl (Yw a0.Deps r3) fun r5 =>
 .lI r5 0 (fun c6 =>
  .ret (-1)) fun c6 =>
 .ret r5) (zf Tryz.func16)
def QE (F : (List GEvent) → Int → Option Int) : Prop := ∀ (a0 : (List GEvent)) (a1 : Int), Oc (F a0 a1) 86 [] [vq zw a0, vi a1] fun r => (vi r, [])
def w5 (a0 : (List GEvent)) : Nat → Int → Int → Option (Int ⊕ (Int × Int))
  | 0, _, _ => none
  | m + 1, v1, v2 =>
  if v2 < (a0.length : Int) then
   (zv v2).bind fun i2 =>
   (a0[i2]?).bind fun x3 =>
   (w4 x3 v1).bind fun r4 =>
   if r4 < 0 then
    some (.inl (-1))
   else
   w5 a0 m r4 (w64 (v2 + 1))
  else
  some (.inr (v1, v2))
theorem KI (a0 : (List GEvent)) (m : Nat) : ∀ (v1 : Int) (v2 : Int), Ol (w5 a0 m v1 v2) 86 (zJ Tryz.f86 0) ⟨[(0, vq zw a0), (1, vi v1), (5, vi v2)], [], 0⟩ fun o => match o with | .inl o_0 => (.ret, ⟨[(4, vi o_0)], [], 0⟩) | .inr (⟨o_1_0, o_1_1⟩) => (.exit 0, ⟨[(0, vq zw a0), (1, vi o_1_0), (5, vi o_1_1), (15, vb false)], [], 0⟩) := by
  induction m with
  | zero => intro v1 v2 o h; cases h
  | succ m ih => exact fun v1 v2 => tlp (
   .le zw a0 <|
   .lI v2 (a0.length : Int) (fun c1 =>
    .na v2 fun i2 =>
    .ix eq_GEvent a0 i2 fun x3 =>
    .cl (QD x3 v1) fun r4 =>
    .lI r4 0 (fun c5 =>
     .ret (.inl (-1))) fun c5 =>
    .go (ih r4 (w64 (v2 + 1)))) fun c1 =>
   .ret (.inr (v1, v2)))
def YP (n : Nat) (a0 : (List GEvent)) (a1 : Int) : Option Int :=
 if (w64 (a1 - (a0.length : Int))) < 0 then
  some (-1)
 else
 (w5 a0 n (w64 (a1 - (a0.length : Int))) 0).bind fun o2 =>
 match o2 with
 | .inl o2_0 =>
  some o2_0
 | .inr (⟨o2_1_0, o2_1_1⟩) =>
  some o2_1_0
theorem UB (n : Nat) : QE (YP n) := fun a0 a1 => tc (
 .le zw a0 <|
 .lI (w64 (a1 - (a0.length : Int))) 0 (fun c1 =>
  .ret (-1)) fun c1 =>
 .l2 (KI a0 n (w64 (a1 - (a0.length : Int))) 0) (fun o2_0 =>
  .ret o2_0) fun ⟨o2_1_0, o2_1_1⟩ =>
 .ret o2_1_0) (zf Tryz.func86)
def Tx (e : GEvent) : Prop := e.Addr.length <= 2 ^ 63 - 1 ∧ MdV e.Val ∧ MdB e.Deps
def WC : List GEvent → Prop
 | [] => True
 | v :: l => Tx v ∧ WC l
theorem EG {l : List GEvent} (h : WC l) {v : GEvent} (hv : v ∈ l) : Tx v := by
 induction l with
 | nil => cases hv
 | cons x l ih =>
  simp only [WC] at h
  rcases List.mem_cons.1 hv with rfl | hv
  ·exact h.1
  ·exact ih h.2 hv
def Ym (l : List GEvent) : Nat := (l.map yy).sum
theorem Bm (l : List GEvent) : zT l = l.length + Ym l := by
 unfold Ym
 induction l with
 | nil => rfl
 | cons v l ih => simp only [zT, ih, List.length_cons, List.map_cons, List.sum_cons]; omega
theorem Lw {a : List GEvent} (ha : a.length <= 2 ^ 20) (hG : ∀ v ∈ a, ∀ n : Int, 0 <= n → n <= 2 ^ 20 → w4 v n = some (y3 (yy v) n)) : ∀ (d i m : Nat) (r : Int), i + d = a.length → d < m → 0 <= r → r <= 2 ^ 20 →
  ∃ z, w5 a m r (i : Int) = some (if (Ym (a.drop i) : Int) <= r then .inr (r - Ym (a.drop i), z) else .inl (-1)) := by
 intro d
 induction d with
 | zero =>
  intro i m r hi hm h0 h1
  obtain ⟨m, rfl, _⟩ := zg hm
  refine ⟨(i : Int), ?_⟩
  rw [w5, if_neg (by omega), List.drop_eq_nil_of_le (by omega)]
  simp only [Ym, List.map_nil, List.sum_nil]
  rw [if_pos (by simpa using h0)]; simp
 | succ d ih =>
  intro i m r hi hm h0 h1
  obtain ⟨m, rfl, hm'⟩ := zg hm
  have hil : i < a.length := by omega
  rw [w5, if_pos (by omega), zb, oB, zl hil, oB, hG _ (List.getElem_mem hil) r h0 h1, oB]
  have hv : Ym (a.drop i) = yy a[i] + Ym (a.drop (i + 1)) := by simp only [Ym, xU hil, List.map_cons, List.sum_cons]
  rw [hv]
  unfold y3
  by_cases hc : (yy a[i] : Int) <= r
  ·rw [if_pos hc, if_neg (by omega), zH (by omega)]
   obtain ⟨z, hz⟩ := ih (i + 1) m (r - yy a[i]) (by omega) (by omega) (by omega) (by omega)
   refine ⟨z, ?_⟩
   rw [hz]
   by_cases hd : (Ym (a.drop (i + 1)) : Int) <= r - yy a[i]
   ·rw [if_pos hd, if_pos (by omega)]; congr 3; omega
   ·rw [if_neg hd, if_neg (by omega)]
  ·refine ⟨0, ?_⟩
   rw [if_neg hc, if_pos (by omega), if_neg (by omega)]
theorem Hu {v : GEvent} {n : Int} (h : Tx v) (h0 : 0 <= n) (h1 : n <= 2 ^ 20) : w4 v n = some (y3 (yy v) n) := by
 unfold w4
 rw [ZF h.1 h0 h1, oB]
 unfold y3 yy
 by_cases c1 : (v.Addr.length : Int) <= n
 ·rw [if_pos c1, if_neg (by omega)]
  unfold wy
  rw [if_pos ⟨h.2.1, by omega, by omega⟩, oB]
  unfold y3
  by_cases c2 : (vsz v.Val : Int) <= n - v.Addr.length
  ·rw [if_pos c2, if_neg (by omega)]
   unfold yU
   rw [if_pos ⟨h.2.2, by omega, by omega⟩, oB]
   by_cases c3 : (bsz v.Deps : Int) <= n - v.Addr.length - vsz v.Val
   ·rw [if_pos c3, if_neg (by omega), if_pos (by omega)]; congr 1; omega
   ·rw [if_neg c3, if_pos (by omega), if_neg (by omega)]
  ·rw [if_neg c2, if_pos (by omega), if_neg (by omega)]
 ·rw [if_neg c1, if_pos (by omega), if_neg (by omega)]
open Classical in
noncomputable def jP (a0 : (List GEvent)) (a1 : Int) : Option Int := if a0.length <= 2 ^ 63 - 1 ∧ WC a0 ∧ 0 <= a1 ∧ a1 <= 2 ^ 20 then some (y3 (zT a0) a1) else none
theorem V1 (a0 : (List GEvent)) (a1 : Int) (r : Int) (h : jP a0 a1 = some r) : ∃ n, YP n a0 a1 = some r := by
 unfold jP at h
 obtain ⟨⟨hl, hm, h0, h1⟩, h⟩ := zC h
 refine ⟨a0.length + 5, ?_⟩
 unfold YP
 rw [<- h, yc (by omega) (by omega), Bm]
 unfold y3
 by_cases hc : (a0.length : Int) <= a1
 ·rw [if_neg (by omega)]
  obtain ⟨z, hz⟩ := Lw (a := a0) (by omega) (fun v hv n h0 h1 => Hu (EG hm hv) h0 h1) a0.length 0 (a0.length + 5) (a1 - a0.length) (by omega) (by omega) (by omega) (by omega)
  rw [show ((0 : Nat) : Int) = 0 from rfl] at hz
  rw [hz]
  simp only [List.drop_zero]
  by_cases hd : (Ym a0 : Int) <= a1 - a0.length
  ·rw [if_pos hd, if_pos (by omega)]
   simp only [oB]; congr 1; omega
  ·rw [if_neg hd, if_neg (by omega)]; rfl
 ·rw [if_pos (by omega), if_neg (by omega)]
theorem Ty : QE jP := fun a0 a1 r h => (V1 a0 a1 r h).elim fun n hn => UB n a0 a1 r hn
def vh (a0 : GHistory) (a1 : Int) : Option Int :=
 (ZG a0.Base a1).bind fun r1 =>
 if r1 < 0 then
  some (-1)
 else
 (jP a0.Events r1).bind fun r3 =>
 if r3 < 0 then
  some (-1)
 else
 some r3
theorem R2 (a0 : GHistory) (a1 : Int) : Oc (vh a0 a1) 26 [] [.val true (yq a0), vi a1] fun r => (vi r, []) := tc (
 .cl (UA a0.Base a1) fun r1 =>
 .lI r1 0 (fun c2 =>
  .ret (-1)) fun c2 =>
 .cl (Ty a0.Events r1) fun r3 =>
 .lI r3 0 (fun c4 =>
  .ret (-1)) fun c4 =>
 .ret r3) (zf Tryz.func26)
def Jo (F : (List UInt8) → Option (List UInt8)) : Prop := ∀ (a0 : (List UInt8)), Oc (F a0) 51 [] [vq za a0] fun r => (.val false [.own 1 (eL za r)], [])
def wY (a0 : (List UInt8)) : Nat → Int → (List UInt8) → Option (Int × (List UInt8))
  | 0, _, _ => none
  | m + 1, v1, v2 =>
  if v1 < (a0.length : Int) then
   (zv v1).bind fun i2 =>
   (a0[i2]?).bind fun x3 =>
   (v2[i2]?).bind fun x4 =>
   wY a0 m (w64 (v1 + 1)) (v2.set i2 x3)
  else
  some (v1, v2)
theorem V2 (a0 : (List UInt8)) (m : Nat) : ∀ (v1 : Int) (v2 : (List UInt8)), Ol (wY a0 m v1 v2) 51 (zJ Tryz.f51 0) ⟨[(0, vq za a0), (3, vr 0), (4, vi v1)], [.obj 1 (eL za v2)], 0⟩ fun o => match o with | ⟨o_0, o_1⟩ => (.exit 0, ⟨[(0, vq za a0), (3, vr 0), (4, vi o_0), (11, vb false)], [.obj 1 (eL za o_1)], 0⟩) := by
  induction m with
  | zero => intro v1 v2 o h; cases h
  | succ m ih => exact fun v1 v2 => tlp (
   .le za a0 <|
   .lI v1 (a0.length : Int) (fun c1 =>
    .na v1 fun i2 =>
    .ix0 za a0 i2 fun x3 =>
    .ag 1 <|
    .ix0 za v2 i2 fun x4 =>
    .ag 0 <|
    .sl (e := za) (x := x3) (c := [.int .u8 ((x3.toNat : Nat) : Int)]) rfl v2 i2 <|
    .go (ih (w64 (v1 + 1)) (v2.set i2 x3))) fun c1 =>
   .ret (v1, v2))
def Xv (n : Nat) (a0 : (List UInt8)) : Option (List UInt8) :=
 (XF 1 (a0.length : Int)).bind fun k1 =>
 (wY a0 n 0 (List.replicate k1 0)).bind fun ⟨o2_0, o2_1⟩ =>
 some o2_1
theorem Od (n : Nat) : Jo (Xv n) := fun a0 => tc (
 .le za a0 <|
 .q (.eTo (a0.length : Int) (a0.length : Int) rfl) <|
 .md 1 (a0.length : Int) fun k1 =>
 .q ⟨.rep k1 [.int .u8 0], .l (eL za (List.replicate k1 0)), A.rep rfl⟩ <|
 .lp (V2 a0 n 0 (List.replicate k1 0)) fun ⟨o2_0, o2_1⟩ =>
 .ret o2_1) (zf Tryz.func51)
theorem MS {a : List UInt8} (ha : a.length <= 2 ^ 20) : ∀ (d i m : Nat) (v : List UInt8), i + d = a.length → d < m → Pre a v i → ∃ z, wY a m (i : Int) v = some (z, a) := by
 intro d
 induction d with
 | zero =>
  intro i m v hi hm hp
  obtain ⟨m, rfl, _⟩ := zg hm
  exact ⟨_, by rw [wY, if_neg (by omega), hp.done (by omega)]⟩
 | succ d ih =>
  intro i m v hi hm hp
  obtain ⟨m, rfl, hm'⟩ := zg hm
  have hil : i < a.length := by omega
  rw [wY, if_pos (by omega), zb, oB, zl hil, oB, zl (by rw [hp.1]; exact hil), oB, zH (by omega)]
  exact ih (i + 1) m _ (by omega) (by omega) (hp.step hil)
def yo (a0 : (List UInt8)) : Option (List UInt8) := if a0.length <= 2 ^ 20 then some a0 else none
theorem R3 (a0 : (List UInt8)) (r : (List UInt8)) (h : yo a0 = some r) : ∃ n, Xv n a0 = some r := by
 unfold yo at h
 obtain ⟨ha, h⟩ := zC h
 refine ⟨a0.length + 1, ?_⟩
 obtain ⟨z, hz⟩ := MS ha a0.length 0 (a0.length + 1) (List.replicate a0.length 0) (by omega) (by omega) (Pre.start (by simp))
 unfold Xv
 rw [Jn ha (by decide), oB, show (0 : Int) = ((0 : Nat) : Int) from rfl, hz]
 exact h
theorem jQ : Jo yo := fun a0 r h => (R3 a0 r h).elim fun n hn => Od n a0 r hn
def QF (F : (List (List UInt8)) → Option (List (List UInt8))) : Prop := ∀ (a0 : (List (List UInt8))), Oc (F a0) 77 [] [vq (zu za) a0] fun r => (.val false [.own 1 (eL (yv 1 za) r)], [])
def w6 (a0 : (List (List UInt8))) : Nat → Int → (List (List UInt8)) → Option (Int × (List (List UInt8)))
  | 0, _, _ => none
  | m + 1, v1, v2 =>
  if v1 < (a0.length : Int) then
   (zv v1).bind fun i2 =>
   (a0[i2]?).bind fun x3 =>
   (yo x3).bind fun r4 =>
   (v2[i2]?).bind fun x5 =>
   w6 a0 m (w64 (v1 + 1)) (v2.set i2 r4)
  else
  some (v1, v2)
theorem KJ (a0 : (List (List UInt8))) (m : Nat) : ∀ (v1 : Int) (v2 : (List (List UInt8))), Ol (w6 a0 m v1 v2) 77 (zJ Tryz.f77 0) ⟨[(0, vq (zu za) a0), (3, vr 0), (4, vi v1)], [.obj 1 (eL (yv 1 za) v2)], 0⟩ fun o => match o with | ⟨o_0, o_1⟩ => (.exit 0, ⟨[(0, vq (zu za) a0), (3, vr 0), (4, vi o_0), (11, vb false)], [.obj 1 (eL (yv 1 za) o_1)], 0⟩) := by
  induction m with
  | zero => intro v1 v2 o h; cases h
  | succ m ih => exact fun v1 v2 => tlp (
   .le (zu za) a0 <|
   .lI v1 (a0.length : Int) (fun c1 =>
    .na v1 fun i2 =>
    .ix0 (zu za) a0 i2 fun x3 =>
    .cl (jQ x3) fun r4 =>
    .ag 2 <|
    .ix0 (yv 1 za) v2 i2 fun x5 =>
    .ag 0 <|
    .sl (e := (yv 1 za)) (x := r4) (c := [.own 1 (eL za r4)]) rfl v2 i2 <|
    .go (ih (w64 (v1 + 1)) (v2.set i2 r4))) fun c1 =>
   .ret (v1, v2))
def YQ (n : Nat) (a0 : (List (List UInt8))) : Option (List (List UInt8)) :=
 (XF 24 (a0.length : Int)).bind fun k1 =>
 (w6 a0 n 0 (List.replicate k1 [])).bind fun ⟨o2_0, o2_1⟩ =>
 some o2_1
theorem UC (n : Nat) : QF (YQ n) := fun a0 => tc (
 .le (zu za) a0 <|
 .q (.eTo (a0.length : Int) (a0.length : Int) rfl) <|
 .md 24 (a0.length : Int) fun k1 =>
 .q ⟨.rep k1 [.own 1 []], .l (eL (yv 1 za) (List.replicate k1 [])), A.rep rfl⟩ <|
 .lp (KJ a0 n 0 (List.replicate k1 [])) fun ⟨o2_0, o2_1⟩ =>
 .ret o2_1) (zf Tryz.func77)
theorem Lx {a : List (List UInt8)} (ha : bsz a <= 2 ^ 20) : ∀ (d i m : Nat) (v : List (List UInt8)), i + d = a.length → d < m → Pre a v i → ∃ z, w6 a m (i : Int) v = some (z, a) := by
 have hl := q7 a
 intro d
 induction d with
 | zero =>
  intro i m v hi hm hp
  obtain ⟨m, rfl, _⟩ := zg hm
  exact ⟨_, by rw [w6, if_neg (by omega), hp.done (by omega)]⟩
 | succ d ih =>
  intro i m v hi hm hp
  obtain ⟨m, rfl, hm'⟩ := zg hm
  have hil : i < a.length := by omega
  have hx := ZT (List.getElem_mem hil)
  rw [w6, if_pos (by omega), zb, oB, zl hil, oB]
  unfold yo
  rw [if_pos (by omega), oB, zl (by rw [hp.1]; exact hil), oB, zH (by omega)]
  exact ih (i + 1) m _ (by omega) (by omega) (hp.step hil)
def yV (a0 : (List (List UInt8))) : Option (List (List UInt8)) := if bsz a0 <= 2 ^ 20 then some a0 else none
theorem V3 (a0 : (List (List UInt8))) (r : (List (List UInt8))) (h : yV a0 = some r) : ∃ n, YQ n a0 = some r := by
 unfold yV at h
 obtain ⟨ha, h⟩ := zC h
 have hl := q7 a0
 refine ⟨a0.length + 1, ?_⟩
 obtain ⟨z, hz⟩ := Lx ha a0.length 0 (a0.length + 1) (List.replicate a0.length []) (by omega) (by omega) (Pre.start (by simp))
 unfold YQ
 rw [Jn (by omega) (by decide), oB, show (0 : Int) = ((0 : Nat) : Int) from rfl, hz]
 exact h
theorem Yx : QF yV := fun a0 r h => (V3 a0 r h).elim fun n hn => UC n a0 r hn
def Zc (F : (List GValue) → Option (List GValue)) : Prop := ∀ (a0 : (List GValue)), Oc (F a0) 132 [] [vq zh a0] fun r => (.val false [.own 5 (eL zq r)], [])
def kC (F : GValue → Option GValue) : Prop := ∀ (a0 : GValue), Oc (F a0) 76 [] [.val true (zD a0)] fun r => (.val true (xv r), [])
def w7 (G_laws_toValue : GValue → Option GValue) (a0 : (List GValue)) : Nat → Int → (List GValue) → Option (Int × (List GValue))
  | 0, _, _ => none
  | m + 1, v1, v2 =>
  if v1 < (a0.length : Int) then
   (zv v1).bind fun i2 =>
   (a0[i2]?).bind fun x3 =>
   (G_laws_toValue x3).bind fun r4 =>
   (v2[i2]?).bind fun x5 =>
   w7 G_laws_toValue a0 m (w64 (v1 + 1)) (v2.set i2 r4)
  else
  some (v1, v2)
theorem KK (G_laws_toValue : GValue → Option GValue) (H_laws_toValue : kC G_laws_toValue) (a0 : (List GValue)) (m : Nat) : ∀ (v1 : Int) (v2 : (List GValue)), Ol (w7 G_laws_toValue a0 m v1 v2) 132 (zJ Tryz.f132 0) ⟨[(0, vq zh a0), (3, vr 0), (4, vi v1)], [.obj 5 (eL zq v2)], 0⟩ fun o => match o with | ⟨o_0, o_1⟩ => (.exit 0, ⟨[(0, vq zh a0), (3, vr 0), (4, vi o_0), (11, vb false)], [.obj 5 (eL zq o_1)], 0⟩) := by
  induction m with
  | zero => intro v1 v2 o h; cases h
  | succ m ih => exact fun v1 v2 => tlp (
   .le zh a0 <|
   .lI v1 (a0.length : Int) (fun c1 =>
    .na v1 fun i2 =>
    .ix yz a0 i2 fun x3 =>
    .cl (H_laws_toValue x3) fun r4 =>
    .ag 2 <|
    .ix yp v2 i2 fun x5 =>
    .ag 0 <|
    .sl (yp r4) v2 i2 <|
    .go (ih (w64 (v1 + 1)) (v2.set i2 r4))) fun c1 =>
   .ret (v1, v2))
def Zd (G_laws_toValue : GValue → Option GValue) (n : Nat) (a0 : (List GValue)) : Option (List GValue) :=
 (XF 88 (a0.length : Int)).bind fun k1 =>
 (w7 G_laws_toValue a0 n 0 (List.replicate k1 (GValue.mk 0 0 [] [] []))).bind fun ⟨o2_0, o2_1⟩ =>
 some o2_1
theorem UD (G_laws_toValue : GValue → Option GValue) (H_laws_toValue : kC G_laws_toValue) (n : Nat) : Zc (Zd G_laws_toValue n) := fun a0 => tc (
 .le zh a0 <|
 .q (.eTo (a0.length : Int) (a0.length : Int) rfl) <|
 .md 88 (a0.length : Int) fun k1 =>
 .q ⟨.rep k1 [.int .i64 0, .int .i64 0, .own 1 [], .own 1 [], .own 5 []], .l (eL zq (List.replicate k1 (GValue.mk 0 0 [] [] []))), A.rep (yp (GValue.mk 0 0 [] [] []))⟩ <|
 .lp (KK G_laws_toValue H_laws_toValue a0 n 0 (List.replicate k1 (GValue.mk 0 0 [] [] []))) fun ⟨o2_0, o2_1⟩ =>
 .ret o2_1) (zf Tryz.func132)
def Xw (G_laws_toValueS : (List GValue) → Option (List GValue)) (a0 : GValue) : Option GValue :=
 (yo a0.S).bind fun r1 =>
 (yV a0.K).bind fun r2 =>
 (G_laws_toValueS a0.L).bind fun r3 =>
 some (GValue.mk a0.Kind a0.N r1 r2 r3)
theorem Oe (G_laws_toValueS : (List GValue) → Option (List GValue)) (H_laws_toValueS : Zc G_laws_toValueS) : kC (Xw G_laws_toValueS) := fun a0 => tc (
 .cl (jQ a0.S) fun r1 =>
 .cl (Yx a0.K) fun r2 =>
 .cl (H_laws_toValueS a0.L) fun r3 =>
 .ret (GValue.mk a0.Kind a0.N r1 r2 r3)) (zf Tryz.func76)
mutual
def xW : Nat → (List GValue) → Option (List GValue)
 | 0, _ => none
 | n + 1, a0 => Zd (w8 n) n a0
def w8 : Nat → GValue → Option GValue
 | 0, _ => none
 | n + 1, a0 => Xw (xW n) a0
end
theorem Wr (n : Nat) : Zc (xW n) ∧ kC (w8 n) := by
 induction n with
 | zero => exact ⟨fun _ _ h => (by rw [xW] at h; cases h), fun _ _ h => (by rw [w8] at h; cases h)⟩
 | succ n ih =>
  obtain ⟨ih_laws_toValueS, ih_laws_toValue⟩ := ih
  exact ⟨fun a0 r h => UD (w8 n) ih_laws_toValue n a0 r (by rw [xW] at h; exact h),
   fun a0 r h => Oe (xW n) ih_laws_toValueS a0 r (by rw [w8] at h; exact h)⟩
theorem UE {G : GValue → Option GValue} {a : List GValue} {f : Nat} (ha : a.length <= 2 ^ 20) (hf : a.length < f) (hG : ∀ v ∈ a, G v = some v) : Zd G f a = some a := by
 have loop : ∀ (d i m : Nat) (v : List GValue), i + d = a.length → d < m → Pre a v i → ∃ z, w7 G a m (i : Int) v = some (z, a) := by
  intro d
  induction d with
  | zero =>
   intro i m v hi hm hp
   obtain ⟨m, rfl, _⟩ := zg hm
   exact ⟨_, by rw [w7, if_neg (by omega), hp.done (by omega)]⟩
  | succ d ih =>
   intro i m v hi hm hp
   obtain ⟨m, rfl, hm'⟩ := zg hm
   have hil : i < a.length := by omega
   rw [w7, if_pos (by omega), zb, oB, zl hil, oB, hG _ (List.getElem_mem hil), oB, zl (by rw [hp.1]; exact hil), oB, zH (by omega)]
   exact ih (i + 1) m _ (by omega) (by omega) (hp.step hil)
 obtain ⟨z, hz⟩ := loop a.length 0 f (List.replicate a.length (GValue.mk 0 0 [] [] [])) (by omega) (by omega) (Pre.start (by simp))
 rw [show ((0 : Nat) : Int) = 0 from rfl] at hz
 unfold Zd
 rw [Jn ha (by decide), oB, hz]; rfl
theorem OY : ∀ (N : Nat) (v : GValue), vsz v < N → vsz v <= 2 ^ 20 → ∀ f : Nat, 2 * vsz v + 3 <= f → w8 f v = some v := by
 intro N
 induction N with
 | zero => intro v hv; omega
 | succ N ih =>
  intro v hv hs f hf
  obtain ⟨f, rfl, _⟩ := zg (show 0 < f by omega)
  obtain ⟨f, rfl, _⟩ := zg (show 0 < f by omega)
  have he := xw v
  have hl := yR v.L
  rw [w8]
  unfold Xw yo yV
  rw [if_pos (by omega), oB, if_pos (by omega), oB, xW, UE (by omega) (by omega) fun x hx => ?_, oB, GValue.eta]
  have := wr hx
  exact ih x (by omega) (by omega) f (by omega)
def YR (a0 : (List GValue)) : Option (List GValue) := if yA a0 <= 2 ^ 20 then some a0 else none
theorem V4 (a0 : (List GValue)) (r : (List GValue)) (h : YR a0 = some r) : ∃ n, xW n a0 = some r := by
 unfold YR at h
 obtain ⟨ha, h⟩ := zC h
 have hl := yR a0
 refine ⟨2 * yA a0 + 5, ?_⟩
 rw [xW, UE (by omega) (by omega) fun x hx => ?_, h]
 have := wr hx
 exact OY _ x (Nat.lt_succ_self _) (by omega) _ (by omega)
def w9 (a0 : GValue) : Option GValue := if vsz a0 <= 2 ^ 20 then some a0 else none
theorem R4 (a0 : GValue) (r : GValue) (h : w9 a0 = some r) : ∃ n, w8 n a0 = some r := by
 unfold w9 at h
 obtain ⟨ha, h⟩ := zC h
 exact ⟨2 * vsz a0 + 3, by rw [<- h]; exact OY _ a0 (Nat.lt_succ_self _) ha _ (Nat.le_refl _)⟩
theorem Bn : Zc YR := by
 intro a0 r h
 obtain ⟨n, hn⟩ := V4 a0 r h
 exact (Wr n).1 a0 r hn
theorem QG : kC w9 := by
 intro a0 r h
 obtain ⟨n, hn⟩ := R4 a0 r h
 exact (Wr n).2 a0 r hn
def kD (a0 : GEntry) : Option GEntry :=
 (yo a0.Addr).bind fun r1 =>
 (w9 a0.Val).bind fun r2 =>
 (yV a0.Deps).bind fun r3 =>
 some (GEntry.mk r1 r2 r3 a0.Taint a0.Turned)
theorem UF (a0 : GEntry) : Oc (kD a0) 131 [] [.val true (j9 a0)] fun r => (.val true (Kp r), []) := tc (
 .cl (jQ a0.Addr) fun r1 =>
 .cl (QG a0.Val) fun r2 =>
 .cl (Yx a0.Deps) fun r3 =>
 .ret (GEntry.mk r1 r2 r3 a0.Taint a0.Turned)) (zf Tryz.func131)
def QH (F : (List GEntry) → Option (List GEntry)) : Prop := ∀ (a0 : (List GEntry)), Oc (F a0) 75 [] [vq zj a0] fun r => (.val false [.own 9 (eL zt r)], [])
def wA (a0 : (List GEntry)) : Nat → Int → (List GEntry) → Option (Int × (List GEntry))
  | 0, _, _ => none
  | m + 1, v1, v2 =>
  if v1 < (a0.length : Int) then
   (zv v1).bind fun i2 =>
   (a0[i2]?).bind fun x3 =>
   (kD x3).bind fun r4 =>
   (v2[i2]?).bind fun x5 =>
   wA a0 m (w64 (v1 + 1)) (v2.set i2 r4)
  else
  some (v1, v2)
theorem KM (a0 : (List GEntry)) (m : Nat) : ∀ (v1 : Int) (v2 : (List GEntry)), Ol (wA a0 m v1 v2) 75 (zJ Tryz.f75 0) ⟨[(0, vq zj a0), (3, vr 0), (4, vi v1)], [.obj 9 (eL zt v2)], 0⟩ fun o => match o with | ⟨o_0, o_1⟩ => (.exit 0, ⟨[(0, vq zj a0), (3, vr 0), (4, vi o_0), (11, vb false)], [.obj 9 (eL zt o_1)], 0⟩) := by
  induction m with
  | zero => intro v1 v2 o h; cases h
  | succ m ih => exact fun v1 v2 => tlp (
   .le zj a0 <|
   .lI v1 (a0.length : Int) (fun c1 =>
    .na v1 fun i2 =>
    .ix zV a0 i2 fun x3 =>
    .cl (UF x3) fun r4 =>
    .ag 2 <|
    .ix zA v2 i2 fun x5 =>
    .ag 0 <|
    .sl (zA r4) v2 i2 <|
    .go (ih (w64 (v1 + 1)) (v2.set i2 r4))) fun c1 =>
   .ret (v1, v2))
def YS (n : Nat) (a0 : (List GEntry)) : Option (List GEntry) :=
 (XF 152 (a0.length : Int)).bind fun k1 =>
 (wA a0 n 0 (List.replicate k1 (GEntry.mk [] (GValue.mk 0 0 [] [] []) [] false 0))).bind fun ⟨o2_0, o2_1⟩ =>
 some o2_1
theorem UG (n : Nat) : QH (YS n) := fun a0 => tc (
 .le zj a0 <|
 .q (.eTo (a0.length : Int) (a0.length : Int) rfl) <|
 .md 152 (a0.length : Int) fun k1 =>
 .q ⟨.rep k1 [.own 1 [], .int .i64 0, .int .i64 0, .own 1 [], .own 1 [], .own 5 [], .own 1 [], .bool false, .int .i64 0], .l (eL zt (List.replicate k1 (GEntry.mk [] (GValue.mk 0 0 [] [] []) [] false 0))), A.rep (zA (GEntry.mk [] (GValue.mk 0 0 [] [] []) [] false 0))⟩ <|
 .lp (KM a0 n 0 (List.replicate k1 (GEntry.mk [] (GValue.mk 0 0 [] [] []) [] false 0))) fun ⟨o2_0, o2_1⟩ =>
 .ret o2_1) (zf Tryz.func75)
theorem Ly {a : List GEntry} (ha : a.length <= 2 ^ 20) (hG : ∀ v ∈ a, kD v = some v) : ∀ (d i m : Nat) (v : List GEntry), i + d = a.length → d < m → Pre a v i → ∃ z, wA a m (i : Int) v = some (z, a) := by
 intro d
 induction d with
 | zero =>
  intro i m v hi hm hp
  obtain ⟨m, rfl, _⟩ := zg hm
  exact ⟨_, by rw [wA, if_neg (by omega), hp.done (by omega)]⟩
 | succ d ih =>
  intro i m v hi hm hp
  obtain ⟨m, rfl, hm'⟩ := zg hm
  have hil : i < a.length := by omega
  rw [wA, if_pos (by omega), zb, oB, zl hil, oB, hG _ (List.getElem_mem hil), oB, zl (by rw [hp.1]; exact hil), oB, zH (by omega)]
  exact ih (i + 1) m _ (by omega) (by omega) (hp.step hil)
theorem Hv {v : GEntry} (h : esz v <= 2 ^ 20) : kD v = some v := by
 unfold esz at h
 unfold kD yo w9 yV
 rw [if_pos (by omega), oB, if_pos (by omega), oB, if_pos (by omega), oB]
 cases v; rfl
def jR (a0 : (List GEntry)) : Option (List GEntry) := if zZ a0 <= 2 ^ 20 then some a0 else none
theorem V5 (a0 : (List GEntry)) (r : (List GEntry)) (h : jR a0 = some r) : ∃ n, YS n a0 = some r := by
 unfold jR at h
 obtain ⟨ha, h⟩ := zC h
 have hl := wW a0
 refine ⟨a0.length + 1, ?_⟩
 obtain ⟨z, hz⟩ := Ly (a := a0) (by omega) (fun v hv => Hv (by have := X9 hv; omega)) a0.length 0 (a0.length + 1) (List.replicate a0.length (GEntry.mk [] (GValue.mk 0 0 [] [] []) [] false 0)) (by omega) (by omega) (Pre.start (by simp))
 unfold YS
 rw [Jn (by omega) (by decide), oB, show (0 : Int) = ((0 : Nat) : Int) from rfl]
 exact (congrArg (fun x => Option.bind x _) hz).trans h
theorem Tz : QH jR := fun a0 r h => (V5 a0 r h).elim fun n hn => UG n a0 r hn
def ZH (a0 : GState) : Option GState :=
 (yo a0.Pending).bind fun r1 =>
 (jR a0.Entries).bind fun r2 =>
 some (GState.mk a0.Serial a0.Open r1 a0.Act r2)
theorem UH (a0 : GState) : Oc (ZH a0) 18 [] [.val true (zX a0)] fun r => (.val true (Qq r), []) := tc (
 .cl (jQ a0.Pending) fun r1 =>
 .cl (Tz a0.Entries) fun r2 =>
 .ret (GState.mk a0.Serial a0.Open r1 a0.Act r2)) (zf Tryz.func18)
def wB (a0 : GEvent) : Option GEvent :=
 (yo a0.Addr).bind fun r1 =>
 (w9 a0.Val).bind fun r2 =>
 (yV a0.Deps).bind fun r3 =>
 some (GEvent.mk a0.Kind r1 a0.Act r2 r3)
theorem QI (a0 : GEvent) : Oc (wB a0) 19 [] [.val true (xS a0)] fun r => (.val true (Kq r), []) := tc (
 .cl (jQ a0.Addr) fun r1 =>
 .cl (QG a0.Val) fun r2 =>
 .cl (Yx a0.Deps) fun r3 =>
 .ret (GEvent.mk a0.Kind r1 a0.Act r2 r3)) (zf Tryz.func19)
def QJ (F : (List GEvent) → Option (List GEvent)) : Prop := ∀ (a0 : (List GEvent)), Oc (F a0) 88 [] [vq zw a0] fun r => (.val false [.own 9 (eL yx r)], [])
def wC (a0 : (List GEvent)) : Nat → Int → (List GEvent) → Option (Int × (List GEvent))
  | 0, _, _ => none
  | m + 1, v1, v2 =>
  if v1 < (a0.length : Int) then
   (zv v1).bind fun i2 =>
   (a0[i2]?).bind fun x3 =>
   (wB x3).bind fun r4 =>
   (v2[i2]?).bind fun x5 =>
   wC a0 m (w64 (v1 + 1)) (v2.set i2 r4)
  else
  some (v1, v2)
theorem KN (a0 : (List GEvent)) (m : Nat) : ∀ (v1 : Int) (v2 : (List GEvent)), Ol (wC a0 m v1 v2) 88 (zJ Tryz.f88 0) ⟨[(0, vq zw a0), (3, vr 0), (4, vi v1)], [.obj 9 (eL yx v2)], 0⟩ fun o => match o with | ⟨o_0, o_1⟩ => (.exit 0, ⟨[(0, vq zw a0), (3, vr 0), (4, vi o_0), (11, vb false)], [.obj 9 (eL yx o_1)], 0⟩) := by
  induction m with
  | zero => intro v1 v2 o h; cases h
  | succ m ih => exact fun v1 v2 => tlp (
   .le zw a0 <|
   .lI v1 (a0.length : Int) (fun c1 =>
    .na v1 fun i2 =>
    .ix eq_GEvent a0 i2 fun x3 =>
    .cl (QI x3) fun r4 =>
    .ag 2 <|
    .ix yl v2 i2 fun x5 =>
    .ag 0 <|
    .sl (yl r4) v2 i2 <|
    .go (ih (w64 (v1 + 1)) (v2.set i2 r4))) fun c1 =>
   .ret (v1, v2))
def YT (n : Nat) (a0 : (List GEvent)) : Option (List GEvent) :=
 (XF 152 (a0.length : Int)).bind fun k1 =>
 (wC a0 n 0 (List.replicate k1 (GEvent.mk 0 [] 0 (GValue.mk 0 0 [] [] []) []))).bind fun ⟨o2_0, o2_1⟩ =>
 some o2_1
theorem UI (n : Nat) : QJ (YT n) := fun a0 => tc (
 .le zw a0 <|
 .q (.eTo (a0.length : Int) (a0.length : Int) rfl) <|
 .md 152 (a0.length : Int) fun k1 =>
 .q ⟨.rep k1 [.int .i64 0, .own 1 [], .int .i64 0, .int .i64 0, .int .i64 0, .own 1 [], .own 1 [], .own 5 [], .own 1 []], .l (eL yx (List.replicate k1 (GEvent.mk 0 [] 0 (GValue.mk 0 0 [] [] []) []))), A.rep (yl (GEvent.mk 0 [] 0 (GValue.mk 0 0 [] [] []) []))⟩ <|
 .lp (KN a0 n 0 (List.replicate k1 (GEvent.mk 0 [] 0 (GValue.mk 0 0 [] [] []) []))) fun ⟨o2_0, o2_1⟩ =>
 .ret o2_1) (zf Tryz.func88)
theorem Lz {a : List GEvent} (ha : a.length <= 2 ^ 20) (hG : ∀ v ∈ a, wB v = some v) : ∀ (d i m : Nat) (v : List GEvent), i + d = a.length → d < m → Pre a v i → ∃ z, wC a m (i : Int) v = some (z, a) := by
 intro d
 induction d with
 | zero =>
  intro i m v hi hm hp
  obtain ⟨m, rfl, _⟩ := zg hm
  exact ⟨_, by rw [wC, if_neg (by omega), hp.done (by omega)]⟩
 | succ d ih =>
  intro i m v hi hm hp
  obtain ⟨m, rfl, hm'⟩ := zg hm
  have hil : i < a.length := by omega
  rw [wC, if_pos (by omega), zb, oB, zl hil, oB, hG _ (List.getElem_mem hil), oB, zl (by rw [hp.1]; exact hil), oB, zH (by omega)]
  exact ih (i + 1) m _ (by omega) (by omega) (hp.step hil)
theorem Hw {v : GEvent} (h : yy v <= 2 ^ 20) : wB v = some v := by
 unfold yy at h
 unfold wB yo w9 yV
 rw [if_pos (by omega), oB, if_pos (by omega), oB, if_pos (by omega), oB]
 cases v; rfl
def jS (a0 : (List GEvent)) : Option (List GEvent) := if zT a0 <= 2 ^ 20 then some a0 else none
theorem V6 (a0 : (List GEvent)) (r : (List GEvent)) (h : jS a0 = some r) : ∃ n, YT n a0 = some r := by
 unfold jS at h
 obtain ⟨ha, h⟩ := zC h
 have hl := jn a0
 refine ⟨a0.length + 1, ?_⟩
 obtain ⟨z, hz⟩ := Lz (a := a0) (by omega) (fun v hv => Hw (by have := XW hv; omega)) a0.length 0 (a0.length + 1) (List.replicate a0.length (GEvent.mk 0 [] 0 (GValue.mk 0 0 [] [] []) [])) (by omega) (by omega) (Pre.start (by simp))
 unfold YT
 rw [Jn (by omega) (by decide), oB, show (0 : Int) = ((0 : Nat) : Int) from rfl]
 exact (congrArg (fun x => Option.bind x _) hz).trans h
theorem T0 : QJ jS := fun a0 r h => (V6 a0 r h).elim fun n hn => UI n a0 r hn
def vj (a0 : GHistory) : Option GHistory :=
 (ZH a0.Base).bind fun r1 =>
 (jS a0.Events).bind fun r2 =>
 some (GHistory.mk r1 r2 a0.Safe)
theorem R5 (a0 : GHistory) : Oc (vj a0) 28 [] [.val true (yq a0)] fun r => (.val true (Xi r), []) := tc (
 .cl (UH a0.Base) fun r1 =>
 .cl (T0 a0.Events) fun r2 =>
 .ret (GHistory.mk r1 r2 a0.Safe)) (zf Tryz.func28)
def Ky (F : (List UInt8) → Option Bool) : Prop := ∀ (a0 : (List UInt8)), Oc (F a0) 152 [] [vq za a0] fun r => (vb r, [])
def qp (a0 : (List UInt8)) : Nat → Int → Option (Bool ⊕ Int)
  | 0, _ => none
  | m + 1, v1 =>
  if v1 < (a0.length : Int) then
   (zv v1).bind fun i2 =>
   (a0[i2]?).bind fun x3 =>
   if ((x3.toNat : Nat) : Int) < 97 then
    some (.inl false)
   else
   if 122 < ((x3.toNat : Nat) : Int) then
    some (.inl false)
   else
   qp a0 m (w64 (v1 + 1))
  else
  some (.inr v1)
theorem R6 (a0 : (List UInt8)) (m : Nat) : ∀ (v1 : Int), Ol (qp a0 m v1) 152 (zJ Tryz.f152 0) ⟨[(0, vq za a0), (3, vi v1)], [], 0⟩ fun o => match o with | .inl o_0 => (.ret, ⟨[(2, vb o_0)], [], 0⟩) | .inr (o_1) => (.exit 0, ⟨[(0, vq za a0), (3, vi o_1), (15, vb false)], [], 0⟩) := by
  induction m with
  | zero => intro v1 o h; cases h
  | succ m ih => exact fun v1 => tlp (
   .le za a0 <|
   .lI v1 (a0.length : Int) (fun c1 =>
    .na v1 fun i2 =>
    .ix0 za a0 i2 fun x3 =>
    .lI ((x3.toNat : Nat) : Int) 97 (fun c4 =>
     .ret (.inl false)) fun c4 =>
    .ag 1 <|
    .ag 0 <|
    .lI 122 ((x3.toNat : Nat) : Int) (fun c5 =>
     .ret (.inl false)) fun c5 =>
    .go (ih (w64 (v1 + 1)))) fun c1 =>
   .ret (.inr v1))
def Wh (n : Nat) (a0 : (List UInt8)) : Option Bool :=
 if (a0.length : Int) < 1 then
  some false
 else
 if 8 < (a0.length : Int) then
  some false
 else
 (qp a0 n 0).bind fun o3 =>
 match o3 with
 | .inl o3_0 =>
  some o3_0
 | .inr (o3_1) =>
  some true
theorem L0 (n : Nat) : Ky (Wh n) := fun a0 => tc (
 .le za a0 <|
 .lI (a0.length : Int) 1 (fun c1 =>
  .ret false) fun c1 =>
 .le za a0 <|
 .lI 8 (a0.length : Int) (fun c2 =>
  .ret false) fun c2 =>
 .l2 (R6 a0 n 0) (fun o3_0 =>
  .ret o3_0) fun o3_1 =>
 .ret true) (zf Tryz.func152)
theorem T1 {a : List UInt8} (ha : a.length <= 2 ^ 20) : ∀ (d i m : Nat), i + d = a.length → d < m → ∃ z, qp a m (i : Int) = some (if (a.drop i).all (inB 97 122) = true then .inr z else .inl false) := by
 intro d
 induction d with
 | zero =>
  intro i m hi hm
  obtain ⟨m, rfl, _⟩ := zg hm
  exact ⟨_, by rw [qp, if_neg (by omega), List.drop_eq_nil_of_le (by omega)]; rfl⟩
 | succ d ih =>
  intro i m hi hm
  obtain ⟨m, rfl, hm'⟩ := zg hm
  have hil : i < a.length := by omega
  rw [qp, if_pos (by omega), zb, oB, zl hil, oB, zH (by omega), xU hil, List.all_cons]
  by_cases h1 : ((a[i].toNat : Nat) : Int) < 97
  ·exact ⟨0, by rw [if_pos h1, if_neg]; simp [inB]; omega⟩
  ·rw [if_neg h1]
   by_cases h2 : (122 : Int) < ((a[i].toNat : Nat) : Int)
   ·exact ⟨0, by rw [if_pos h2, if_neg]; simp [inB]; omega⟩
   ·rw [if_neg h2, show inB 97 122 a[i] = true by simp [inB]; omega, Bool.true_and]
    exact ih (i + 1) m (by omega) (by omega)
def qf (a0 : (List UInt8)) : Option Bool := if a0.length <= 2 ^ 20 then some (jY a0) else none
theorem T2 (a0 : (List UInt8)) (r : Bool) (h : qf a0 = some r) : ∃ n, Wh n a0 = some r := by
 unfold qf at h
 obtain ⟨ha, h⟩ := zC h
 refine ⟨a0.length + 1, ?_⟩
 obtain ⟨z, hz⟩ := T1 ha a0.length 0 (a0.length + 1) (by omega) (by omega)
 rw [show ((0 : Nat) : Int) = 0 from rfl, List.drop_zero] at hz
 unfold Wh
 rw [<- h, hz]
 unfold jY
 by_cases h1 : 1 <= a0.length
 ·rw [if_neg (by omega)]
  by_cases hl : a0.length <= 8
  ·rw [if_neg (by omega), decide_eq_true ⟨h1, hl⟩]
   cases a0.all (inB 97 122) <;> rfl
  ·rw [if_pos (by omega), decide_eq_false (fun h => hl h.2)]; rfl
 ·rw [if_pos (by omega), decide_eq_false (fun h => h1 h.1)]; rfl
theorem Xx : Ky qf := fun a0 r h => (T2 a0 r h).elim fun n hn => L0 n a0 r hn
def Jp (F : (List UInt8) → Option ((List UInt8) × (List UInt8) × Bool)) : Prop := ∀ (a0 : (List UInt8)), Oc (F a0) 167 [] [vq za a0] fun r => (.tup [(false, [cq za r.1]), (false, [cq za r.2.1]), (false, [.bool r.2.2])], [])
def wZ (a0 : (List UInt8)) : Nat → Int → Option Int
  | 0, _ => none
  | m + 1, v1 =>
  if v1 < (a0.length : Int) then
   (zv v1).bind fun i2 =>
   (a0[i2]?).bind fun x3 =>
   if ((x3.toNat : Nat) : Int) = 91 then
    some v1
   else
   wZ a0 m (w64 (v1 + 1))
  else
  some v1
theorem V7 (a0 : (List UInt8)) (m : Nat) : ∀ (v1 : Int), Ol (wZ a0 m v1) 167 (zJ Tryz.f167 0) ⟨[(0, vq za a0), (5, vi v1)], [], 0⟩ fun o => (.exit 0, ⟨[(0, vq za a0), (5, vi o), (20, vb false)], [], 0⟩) := by
  induction m with
  | zero => intro v1 o h; cases h
  | succ m ih => exact fun v1 => tlp (
   .le za a0 <|
   .lI v1 (a0.length : Int) (fun c1 =>
    .na v1 fun i2 =>
    .ix0 za a0 i2 fun x3 =>
    .eI ((x3.toNat : Nat) : Int) 91 (fun c4 =>
     .ret v1) fun c4 =>
    .go (ih (w64 (v1 + 1)))) fun c1 =>
   .ret v1)
def xM (a0 : (List UInt8)) (v1 : Int) (v2 : (List UInt8)) (v3 : (List UInt8)) : Nat → Int → Option ((Bool × (List UInt8)) ⊕ Int)
  | 0, _ => none
  | m + 1, v4 =>
  if v4 < (v3.length : Int) then
   (zv v4).bind fun i2 =>
   (v3[i2]?).bind fun x3 =>
   if ((x3.toNat : Nat) : Int) < 48 then
    some (.inl (false, []))
   else
   if 57 < ((x3.toNat : Nat) : Int) then
    some (.inl (false, []))
   else
   xM a0 v1 v2 v3 m (w64 (v4 + 1))
  else
  some (.inr v4)
theorem XP (a0 : (List UInt8)) (v1 : Int) (v2 : (List UInt8)) (v3 : (List UInt8)) (m : Nat) : ∀ (v4 : Int), Ol (xM a0 v1 v2 v3 m v4) 167 (zJ Tryz.f167 1) ⟨[(0, vq za a0), (5, vi v1), (6, vq za v2), (8, vq za v3), (9, vi v4)], [], 0⟩ fun o => match o with | .inl ⟨o_0_0, o_0_1⟩ => (.ret, ⟨[(2, vr 0), (3, vr 1), (4, vb o_0_0)], [.obj 1 (eL za o_0_1), .obj 1 (eL za o_0_1)], 0⟩) | .inr (o_1) => (.exit 2, ⟨[(0, vq za a0), (5, vi v1), (6, vq za v2), (8, vq za v3), (9, vi o_1), (98, vb false)], [], 0⟩) := by
  induction m with
  | zero => intro v4 o h; cases h
  | succ m ih => exact fun v4 => tlp (
   .le za v3 <|
   .lI v4 (v3.length : Int) (fun c1 =>
    .na v4 fun i2 =>
    .ix0 za v3 i2 fun x3 =>
    .lI ((x3.toNat : Nat) : Int) 48 (fun c4 =>
     .ret (.inl (false, []))) fun c4 =>
    .ag 1 <|
    .ag 0 <|
    .lI 57 ((x3.toNat : Nat) : Int) (fun c5 =>
     .ret (.inl (false, []))) fun c5 =>
    .go (ih (w64 (v4 + 1)))) fun c1 =>
   .ret (.inr v4))
def ZI (n : Nat) (a0 : (List UInt8)) : Option ((List UInt8) × (List UInt8) × Bool) :=
 (wZ a0 n 0).bind fun o1 =>
 (zv o1).bind fun i2 =>
 (qm a0 none (some i2)).bind fun s3 =>
 (qf s3).bind fun r4 =>
 match r4 with
 | true =>
  (qm a0 (some i2) none).bind fun s5 =>
  if (s5.length : Int) = 0 then
   some (a0, s5, true)
  else
  if (s5.length : Int) < 3 then
   some ([], [], false)
  else
  (zv (w64 ((s5.length : Int) - 1))).bind fun i8 =>
  (s5[i8]?).bind fun x9 =>
  if ((x9.toNat : Nat) : Int) = 93 then
   (qm s5 (some 1) (some i8)).bind fun s11 =>
   (s11[0]?).bind fun x12 =>
   if ((x12.toNat : Nat) : Int) = 34 then
    if (s11.length : Int) < 3 then
     some ([], [], false)
    else
    (zv (w64 ((s11.length : Int) - 1))).bind fun i15 =>
    (s11[i15]?).bind fun x16 =>
    if ((x16.toNat : Nat) : Int) = 34 then
     (qm s11 (some 1) (some i15)).bind fun s18 =>
     (qf s18).bind fun r19 =>
     match r19 with
     | true =>
      some (s3, s5, true)
     | false =>
      some ([], [], false)
    else
    some ([], [], false)
   else
   if 2 < (s11.length : Int) then
    some ([], [], false)
   else
   if (s11.length : Int) = 2 then
    if ((x12.toNat : Nat) : Int) = 48 then
     some ([], [], false)
    else
    (xM a0 o1 s5 s11 n 0).bind fun o17 =>
    match o17 with
    | .inl ⟨o17_0_0, o17_0_1⟩ =>
     some (o17_0_1, o17_0_1, o17_0_0)
    | .inr (o17_1) =>
     some (s3, s5, true)
   else
   (xM a0 o1 s5 s11 n 0).bind fun o16 =>
   match o16 with
   | .inl ⟨o16_0_0, o16_0_1⟩ =>
    some (o16_0_1, o16_0_1, o16_0_0)
   | .inr (o16_1) =>
    some (s3, s5, true)
  else
  some ([], [], false)
 | false =>
  some ([], [], false)
theorem Of (n : Nat) : Jp (ZI n) := fun a0 => tc (
 .lp (V7 a0 n 0) fun o1 =>
 .na o1 fun i2 =>
 .ct za a0 none (some i2) fun s3 =>
 .un zz a0 <|
 .cl (Xx s3) fun r4 =>
 .vN 0 r4 (
  .ag 3 <|
  .ct za a0 (some i2) none fun s5 =>
  .un zz a0 <|
  .le za s5 <|
  .eI (s5.length : Int) 0 (fun c6 =>
   .ret (a0, s5, true)) fun c6 =>
  .le za s5 <|
  .lI (s5.length : Int) 3 (fun c7 =>
   .vw zz [] <|
   .vw zz [] <|
   .ret ([], [], false)) fun c7 =>
  .na (w64 ((s5.length : Int) - 1)) fun i8 =>
  .ix0 za s5 i8 fun x9 =>
  .eI ((x9.toNat : Nat) : Int) 93 (fun c10 =>
   .nl 1 <|
   .ag 1 <|
   .ct za s5 (some 1) (some i8) fun s11 =>
   .un zz s5 <|
   .nl 0 <|
   .ix0 za s11 0 fun x12 =>
   .eI ((x12.toNat : Nat) : Int) 34 (fun c13 =>
    .le za s11 <|
    .lI (s11.length : Int) 3 (fun c14 =>
     .vw zz [] <|
     .vw zz [] <|
     .ret ([], [], false)) fun c14 =>
    .le za s11 <|
    .na (w64 ((s11.length : Int) - 1)) fun i15 =>
    .ix0 za s11 i15 fun x16 =>
    .eI ((x16.toNat : Nat) : Int) 34 (fun c17 =>
     .le za s11 <|
     .nl 1 <|
     .ag 1 <|
     .ct za s11 (some 1) (some i15) fun s18 =>
     .un zz s11 <|
     .cl (Xx s18) fun r19 =>
     .vN 2 r19 (
      .ag 13 <|
      .ag 12 <|
      .un zz a0 <|
      .ret (s3, s5, true)) <|
     .vw zz [] <|
     .vw zz [] <|
     .ret ([], [], false)) fun c17 =>
    .vw zz [] <|
    .vw zz [] <|
    .ret ([], [], false)) fun c13 =>
   .le za s11 <|
   .lI 2 (s11.length : Int) (fun c14 =>
    .vw zz [] <|
    .vw zz [] <|
    .ret ([], [], false)) fun c14 =>
   .le za s11 <|
   .eI (s11.length : Int) 2 (fun c15 =>
    .nl 0 <|
    .ag 0 <|
    .eI ((x12.toNat : Nat) : Int) 48 (fun c16 =>
     .vw zz [] <|
     .vw zz [] <|
     .ret ([], [], false)) fun c16 =>
    .l2 (XP a0 o1 s5 s11 n 0) (fun ⟨o17_0_0, o17_0_1⟩ =>
     .vw zz o17_0_1 <|
     .vw zz o17_0_1 <|
     .ret (o17_0_1, o17_0_1, o17_0_0)) fun o17_1 =>
    .ag 9 <|
    .ag 8 <|
    .un zz a0 <|
    .ret (s3, s5, true)) fun c15 =>
   .l2 (XP a0 o1 s5 s11 n 0) (fun ⟨o16_0_0, o16_0_1⟩ =>
    .vw zz o16_0_1 <|
    .vw zz o16_0_1 <|
    .ret (o16_0_1, o16_0_1, o16_0_0)) fun o16_1 =>
   .ag 9 <|
   .ag 8 <|
   .un zz a0 <|
   .ret (s3, s5, true)) fun c10 =>
  .vw zz [] <|
  .vw zz [] <|
  .ret ([], [], false)) <|
 .vw zz [] <|
 .vw zz [] <|
 .ret ([], [], false)) (zf Tryz.func167)
theorem Bo {a : List UInt8} (ha : a.length <= 2 ^ 20) : ∀ (d i m : Nat), i + d = a.length → d < m → wZ a m (i : Int) = some ((i + (vU (a.drop i)).length : Nat) : Int) := by
 intro d
 induction d with
 | zero =>
  intro i m hi hm
  obtain ⟨m, rfl, _⟩ := zg hm
  rw [wZ, if_neg (by omega), List.drop_eq_nil_of_le (by omega)]; rfl
 | succ d ih =>
  intro i m hi hm
  obtain ⟨m, rfl, hm'⟩ := zg hm
  have hil : i < a.length := by omega
  rw [wZ, if_pos (by omega), zb, oB, zl hil, oB, xU hil]
  unfold vU
  rw [List.takeWhile_cons]
  by_cases h : a[i] = 91
  ·rw [h, if_pos (by decide), if_neg (by simp)]; rfl
  ·have : ¬ ((a[i].toNat : Nat) : Int) = 91 := fun e => h (UInt8.toNat_inj.1 (by show a[i].toNat = 91; omega))
   rw [if_neg this, if_pos (by simpa using h), zH (by omega), ih (i + 1) m (by omega) (by omega)]
   unfold vU
   rw [List.length_cons]
   congr 2; omega
theorem zbc {a v2 l : List UInt8} {v1 : Int} (hl : l.length <= 2 ^ 20) : ∀ (d i m : Nat), i + d = l.length → d < m → ∃ z, xM a v1 v2 l m (i : Int) = some (if (l.drop i).all (inB 48 57) = true then .inr z else .inl (false, [])) := by
 intro d
 induction d with
 | zero =>
  intro i m hi hm
  obtain ⟨m, rfl, _⟩ := zg hm
  exact ⟨_, by rw [xM, if_neg (by omega), List.drop_eq_nil_of_le (by omega)]; rfl⟩
 | succ d ih =>
  intro i m hi hm
  obtain ⟨m, rfl, hm'⟩ := zg hm
  have hil : i < l.length := by omega
  rw [xM, if_pos (by omega), zb, oB, zl hil, oB, zH (by omega), xU hil, List.all_cons]
  by_cases h1 : ((l[i].toNat : Nat) : Int) < 48
  ·exact ⟨0, by rw [if_pos h1, if_neg]; simp [inB]; omega⟩
  ·rw [if_neg h1]
   by_cases h2 : (57 : Int) < ((l[i].toNat : Nat) : Int)
   ·exact ⟨0, by rw [if_pos h2, if_neg]; simp [inB]; omega⟩
   ·rw [if_neg h2, show inB 48 57 l[i] = true by simp [inB]; omega, Bool.true_and]
    exact ih (i + 1) m (by omega) (by omega)
def UJ (a : List UInt8) : (List UInt8) × (List UInt8) × Bool := if ye a = true then (vU a, kj a, true) else ([], [], false)
theorem LV {x : UInt8} {n : Nat} (hn : n < 256) : ((x.toNat : Nat) : Int) = (n : Int) ↔ x = UInt8.ofNat n := by
 constructor
 ·intro h
  refine UInt8.toNat_inj.1 ?_
  rw [UInt8.toNat_ofNat_of_lt' hn]; omega
 ·intro h
  subst h
  rw [UInt8.toNat_ofNat_of_lt' hn]
theorem NR {a : List UInt8} (ha : a.length <= 2 ^ 20) : ZI (a.length + 5) a = some (UJ a) := by
 have hlen := N6 a
 have h0 := Bo ha a.length 0 (a.length + 5) (by omega) (by omega)
 rw [List.drop_zero, Nat.zero_add, show ((0 : Nat) : Int) = 0 from rfl] at h0
 unfold ZI
 rw [h0, oB, zb, oB, Py (by omega), oB, G9]
 unfold qf
 rw [if_pos (by omega), oB]
 unfold UJ
 have hfalse : ∀ {x : (List UInt8) × (List UInt8) × Bool}, ye a = false → some (([] : List UInt8), ([] : List UInt8), false) = some (if ye a = true then x else ([], [], false)) := fun h => by rw [h]; rfl
 cases hn : jY (vU a) with
 | false => exact hfalse (by unfold ye; rw [hn]; rfl)
 | true =>
  dsimp only
  have hA : ye a = (if kj a = [] then true else if ((kj a).drop 1).getLast? = some 93 then HD ((kj a).drop 1).dropLast else false) := by unfold ye; rw [hn, Bool.true_and]
  rw [Ks (by omega), oB, GA]
  by_cases hr : kj a = []
  ·rw [hr, if_pos (by simp), hA, if_pos hr]
   have := Pz a
   rw [hr, List.append_nil] at this
   rw [this]; rfl
  obtain ⟨t, ht⟩ := GB hr
  rw [ht] at hlen hA ⊢
  rw [if_neg (by simp)] at hA
  simp only [List.drop_succ_cons, List.drop_zero] at hA
  rw [if_neg (by simp; omega)]
  by_cases h3 : ((91 :: t : List UInt8).length : Int) < 3
  ·rw [if_pos h3]
   refine hfalse ?_
   rw [hA]
   simp only [List.length_cons] at h3
   match t, h3 with
   | [], _ => rfl
   | [x], _ =>
    split
    ·rfl
    ·rfl
   | x :: y :: t, h3 => simp at h3; omega
  rw [if_neg h3]
  simp only [List.length_cons] at h3
  have ht0 : 0 < t.length := by omega
  rw [show w64 (((91 :: t : List UInt8).length : Int) - 1) = (((91 :: t : List UInt8).length - 1 : Nat) : Int) from kh (by simp only [List.length_cons] at hlen ⊢; omega) (by simp), zb, oB]
  have hlast : (91 :: t : List UInt8)[(91 :: t : List UInt8).length - 1]? = t.getLast? := by
   rw [N5 (by simp), List.getLast?_cons]
   cases t with
   | nil => simp at ht0
   | cons x t => rw [List.getLast?_cons]; rfl
  rw [hlast]
  obtain ⟨x, hx⟩ : ∃ x, t.getLast? = some x := by
   cases t with
   | nil => simp at ht0
   | cons y t => exact ⟨_, List.getLast?_cons⟩
  rw [hx, oB]
  rw [hx] at hA
  have htrue : ∀ {x : (List UInt8) × (List UInt8) × Bool}, ye a = true → some x = some (if ye a = true then x else ([], [], false)) := fun h => by rw [h]; rfl
  by_cases h93 : ¬ x = 93
  ·rw [if_neg (show ¬ ((x.toNat : Nat) : Int) = 93 from fun h => h93 ((LV (n := 93) (by decide)).1 h))]
   refine hfalse ?_
   rw [hA, if_neg (by simpa using h93)]
  have h93 : x = 93 := Classical.not_not.1 h93
  subst h93
  rw [if_pos (by decide)]
  rw [if_pos rfl] at hA
  have hmid := G8 (l := 91 :: t) (by simp; omega)
  rw [List.drop_succ_cons, List.drop_zero] at hmid
  rw [hmid, oB]
  have hdl : t.dropLast.length = t.length - 1 := List.length_dropLast
  generalize t.dropLast = l at hdl hA ⊢
  cases l with
  | nil => simp at hdl; omega
  | cons c r =>
  rw [show (c :: r : List UInt8)[0]? = some c from rfl, oB]
  unfold HD at hA
  rw [show (c :: r : List UInt8)[0]? = some c from rfl, List.drop_succ_cons, List.drop_zero] at hA
  have hcl : (c :: r : List UInt8).length <= 2 ^ 20 := by simp only [List.length_cons] at hdl hlen ⊢; omega
  by_cases h34 : c = 34
  ·subst h34
   rw [if_pos (by decide)]
   rw [if_pos rfl] at hA
   by_cases hl3 : ((34 :: r : List UInt8).length : Int) < 3
   ·rw [if_pos hl3]
    refine hfalse ?_
    rw [hA]
    simp only [List.length_cons] at hl3
    match r, hl3 with
    | [], _ => rfl
    | [y], _ =>
     split
     ·rfl
     ·rfl
    | x :: y :: r, h => simp at h; omega
   rw [if_neg hl3]
   simp only [List.length_cons] at hl3
   have hr0 : 0 < r.length := by omega
   rw [show w64 (((34 :: r : List UInt8).length : Int) - 1) = (((34 :: r : List UInt8).length - 1 : Nat) : Int) from kh (by omega) (by simp), zb, oB]
   have hlast2 : (34 :: r : List UInt8)[(34 :: r : List UInt8).length - 1]? = r.getLast? := by
    rw [N5 (by simp), List.getLast?_cons]
    cases r with
    | nil => simp at hr0
    | cons x r => rw [List.getLast?_cons]; rfl
   obtain ⟨y, hy⟩ : ∃ y, r.getLast? = some y := by
    cases r with
    | nil => simp at hr0
    | cons y r => exact ⟨_, List.getLast?_cons⟩
   rw [hlast2, hy, oB]
   rw [hy] at hA
   by_cases hy34 : y = 34
   ·subst hy34
    rw [if_pos (by decide)]
    rw [if_pos rfl] at hA
    have hm2 := G8 (l := 34 :: r) (by simp; omega)
    rw [List.drop_succ_cons, List.drop_zero] at hm2
    rw [hm2, oB, if_pos (by rw [List.length_dropLast]; simp only [List.length_cons] at hcl; omega), oB]
    cases hk : jY r.dropLast with
    | true => exact htrue (by rw [hA, hk])
    | false => exact hfalse (by rw [hA, hk])
   ·rw [if_neg (show ¬ ((y.toNat : Nat) : Int) = 34 from fun h => hy34 ((LV (n := 34) (by decide)).1 h))]
    exact hfalse (by rw [hA, if_neg (by simpa using hy34)])
  ·rw [if_neg (show ¬ ((c.toNat : Nat) : Int) = 34 from fun h => h34 ((LV (n := 34) (by decide)).1 h))]
   rw [if_neg (by simpa using h34)] at hA
   unfold Kt at hA
   rw [show (c :: r : List UInt8)[0]? = some c from rfl] at hA
   obtain ⟨z, hz⟩ := zbc (a := a) (v2 := 91 :: t) (l := c :: r) (v1 := ((vU a).length : Int)) hcl (c :: r).length 0 (a.length + 5) (by omega) (by simp only [List.length_cons] at hlen hdl ⊢; omega)
   rw [List.drop_zero, show ((0 : Nat) : Int) = 0 from rfl] at hz
   by_cases h2 : (2 : Int) < ((c :: r : List UInt8).length : Int)
   ·rw [if_pos h2]
    exact hfalse (by rw [hA, decide_eq_false (by omega)]; rfl)
   rw [if_neg h2]
   have h12 : decide (1 <= (c :: r : List UInt8).length ∧ (c :: r : List UInt8).length <= 2) = true := decide_eq_true ⟨by simp, by omega⟩
   rw [h12, Bool.true_and] at hA
   have fin : (decide ((c :: r : List UInt8).length = 2) && decide (some c = some 48)) = false → ye a = (c :: r : List UInt8).all (inB 48 57) := fun h => by
    rw [h, Bool.not_false, Bool.true_and] at hA
    exact hA
   by_cases he : ((c :: r : List UInt8).length : Int) = 2
   ·rw [if_pos he]
    by_cases h48 : c = 48
    ·subst h48
     rw [if_pos (by decide)]
     exact hfalse (by rw [hA, decide_eq_true (by omega)]; rfl)
    ·rw [if_neg (show ¬ ((c.toNat : Nat) : Int) = 48 from fun h => h48 ((LV (n := 48) (by decide)).1 h)), hz, oB, fin (by rw [decide_eq_false (p := some c = some 48) (by simpa using h48), Bool.and_false])]
     cases (c :: r : List UInt8).all (inB 48 57) <;> rfl
   ·rw [if_neg he, hz, oB, fin (by rw [decide_eq_false (by omega), Bool.false_and])]
    cases (c :: r : List UInt8).all (inB 48 57) <;> rfl
def jp (a0 : (List UInt8)) : Option ((List UInt8) × (List UInt8) × Bool) := if a0.length <= 2 ^ 20 then some (UJ a0) else none
theorem R7 (a0 : (List UInt8)) (r : ((List UInt8) × (List UInt8) × Bool)) (h : jp a0 = some r) : ∃ n, ZI n a0 = some r := by
 unfold jp at h
 obtain ⟨ha, h⟩ := zC h
 exact ⟨a0.length + 5, by rw [<- h]; exact NR ha⟩
theorem Bp {a : List UInt8} (h : a.length <= 2 ^ 20) : (jp a).bind (fun r => some r.2.2) = some (ye a) := by
 unfold jp UJ
 rw [if_pos h, oB]
 cases ye a <;> rfl
theorem UK : Jp jp := fun a0 r h => (R7 a0 r h).elim fun n hn => Of n a0 r hn
def wn (a0 : (List UInt8)) : Option Bool :=
 (jp a0).bind fun ⟨r1_0, r1_1, r1_2⟩ =>
 some r1_2
theorem qq (a0 : (List UInt8)) : Oc (wn a0) 124 [] [vq za a0] fun r => (vb r, []) := tc (
 .cl (UK a0) fun ⟨r1_0, r1_1, r1_2⟩ =>
 .ret r1_2) (zf Tryz.func124)
def Kz (F : GState → (List UInt8) → Option Int) : Prop := ∀ (a0 : GState) (a1 : (List UInt8)), Oc (F a0 a1) 115 [] [.val true (zX a0), vq za a1] fun r => (vi r, [])
def qr (a1 : (List UInt8)) (a0 : GState) : Nat → Int → Option (Int ⊕ Int)
  | 0, _ => none
  | m + 1, v1 =>
  if v1 < (a0.Entries.length : Int) then
   (zv v1).bind fun i2 =>
   (a0.Entries[i2]?).bind fun x3 =>
   if x3.Addr = a1 then
    some (.inl v1)
   else
   qr a1 a0 m (w64 (v1 + 1))
  else
  some (.inr v1)
theorem R8 (a1 : (List UInt8)) (a0 : GState) (m : Nat) : ∀ (v1 : Int), Ol (qr a1 a0 m v1) 115 (zJ Tryz.f115 0) ⟨[(1, vq za a1), (2, vp 0 0), (5, vi v1)], [.var (zX a0)], 0⟩ fun o => match o with | .inl o_0 => (.ret, ⟨[(4, vi o_0)], [], 0⟩) | .inr (o_1) => (.exit 0, ⟨[(1, vq za a1), (2, vp 0 0), (5, vi o_1), (10, vb false)], [.var (zX a0)], 0⟩) := by
  induction m with
  | zero => intro v1 o h; cases h
  | succ m ih => exact fun v1 => tlp (
   .le zj a0.Entries <|
   .lI v1 (a0.Entries.length : Int) (fun c1 =>
    .na v1 fun i2 =>
    .ix zV a0.Entries i2 fun x3 =>
    .bt x3.Addr <|
    .bt a1 <|
    .sI x3.Addr a1 (fun c4 =>
     .ret (.inl v1)) fun c4 =>
    .go (ih (w64 (v1 + 1)))) fun c1 =>
   .ret (.inr v1))
def Wj (n : Nat) (a0 : GState) (a1 : (List UInt8)) : Option Int :=
 (qr a1 a0 n 0).bind fun o1 =>
 match o1 with
 | .inl o1_0 =>
  some o1_0
 | .inr (o1_1) =>
  some (-1)
theorem L1 (n : Nat) : Kz (Wj n) := fun a0 a1 => tc (
 .l2 (R8 a1 a0 n 0) (fun o1_0 =>
  .ret o1_0) fun o1_1 =>
 .ret (-1)) (zf Tryz.func115)
def Yr : List GEntry → List UInt8 → Nat → Int
 | [], _, _ => -1
 | e :: l, a, i => if e.Addr = a then (i : Int) else Yr l a (i + 1)
theorem V8 : ∀ (l : List GEntry) (a : List UInt8) (i : Nat), 0 <= Yr l a i ↔ yT l a = true
 | [], a, i => by simp [Yr, yT]
 | e :: l, a, i => by
  have ih := V8 l a (i + 1)
  unfold yT at ih ⊢
  rw [Yr, List.any_cons]
  by_cases h : e.Addr = a
  ·rw [if_pos h, decide_eq_true h]; simp
  ·rw [if_neg h, decide_eq_false h, Bool.false_or, ih]
theorem NS {s : GState} {a : List UInt8} (ha : s.Entries.length <= 2 ^ 40) : ∀ (l p : List GEntry) (m : Nat), s.Entries = p ++ l → l.length < m → ∃ z, qr a s m (p.length : Int) = some (if yT l a = true then .inl (Yr l a p.length) else .inr z) := by
 intro l
 induction l with
 | nil =>
  intro p m he hm
  obtain ⟨m, rfl, _⟩ := zg hm
  exact ⟨_, by rw [qr, if_neg (by rw [he]; exact wh p)]; rfl⟩
 | cons x l ih =>
  intro p m he hm
  obtain ⟨m, rfl, hm'⟩ := zg hm
  have hlen : s.Entries.length = p.length + (l.length + 1) := by rw [he]; simp
  rw [qr, if_pos (by omega), zb, oB, show s.Entries[p.length]? = some x by rw [he]; exact zG p x l, oB]
  unfold yT
  rw [List.any_cons, Yr]
  by_cases h : x.Addr = a
  ·rw [if_pos h, decide_eq_true h, if_pos h]
   exact ⟨0, rfl⟩
  ·rw [if_neg h, decide_eq_false h, Bool.false_or, if_neg h, y8 p x (by omega)]
   obtain ⟨z, hz⟩ := ih (p ++ [x]) m (by rw [he]; simp) (by simp only [List.length_cons] at hm'; omega)
   rw [List.length_append, List.length_cons, List.length_nil] at hz
   rw [List.length_append, List.length_cons, List.length_nil]
   exact ⟨z, hz⟩
def wo (a0 : GState) (a1 : (List UInt8)) : Option Int := if a0.Entries.length <= 2 ^ 40 then some (Yr a0.Entries a1 0) else none
theorem JV {l : List GEntry} {a : List UInt8} (h : yT l a = false) : ∀ i, Yr l a i = -1 := by
 induction l with
 | nil => intro i; rfl
 | cons e l ih =>
  intro i
  unfold yT at h ih
  rw [List.any_cons, Bool.or_eq_false_iff] at h
  rw [Yr, if_neg (of_decide_eq_false h.1), ih h.2]
theorem T3 (a0 : GState) (a1 : (List UInt8)) (r : Int) (h : wo a0 a1 = some r) : ∃ n, Wj n a0 a1 = some r := by
 unfold wo at h
 obtain ⟨ha, h⟩ := zC h
 obtain ⟨z, hz⟩ := NS (a := a1) ha a0.Entries [] (a0.Entries.length + 1) rfl (by omega)
 refine ⟨a0.Entries.length + 1, ?_⟩
 unfold Wj
 simp only [List.length_nil, Int.natCast_zero] at hz
 rw [hz, oB, <- h]
 cases hb : yT a0.Entries a1 with
 | true => rfl
 | false => rw [if_neg (by simp), JV hb]
theorem Xy : Kz wo := fun a0 a1 r h => (T3 a0 a1 r h).elim fun n hn => L1 n a0 a1 r hn
def K0 (F : (List UInt8) → Option Bool) : Prop := ∀ (a0 : (List UInt8)), Oc (F a0) 195 [] [vq za a0] fun r => (vb r, [])
def qu (a0 : (List UInt8)) : Nat → Int → Option (Bool ⊕ Int)
  | 0, _ => none
  | m + 1, v1 =>
  if v1 < (a0.length : Int) then
   (zv v1).bind fun i2 =>
   (a0[i2]?).bind fun x3 =>
   if ((x3.toNat : Nat) : Int) < 32 then
    some (.inl false)
   else
   if 126 < ((x3.toNat : Nat) : Int) then
    some (.inl false)
   else
   qu a0 m (w64 (v1 + 1))
  else
  some (.inr v1)
theorem R9 (a0 : (List UInt8)) (m : Nat) : ∀ (v1 : Int), Ol (qu a0 m v1) 195 (zJ Tryz.f195 0) ⟨[(0, vq za a0), (3, vi v1)], [], 0⟩ fun o => match o with | .inl o_0 => (.ret, ⟨[(2, vb o_0)], [], 0⟩) | .inr (o_1) => (.exit 0, ⟨[(0, vq za a0), (3, vi o_1), (10, vb false)], [], 0⟩) := by
  induction m with
  | zero => intro v1 o h; cases h
  | succ m ih => exact fun v1 => tlp (
   .le za a0 <|
   .lI v1 (a0.length : Int) (fun c1 =>
    .na v1 fun i2 =>
    .ix0 za a0 i2 fun x3 =>
    .lI ((x3.toNat : Nat) : Int) 32 (fun c4 =>
     .ret (.inl false)) fun c4 =>
    .ag 1 <|
    .ag 0 <|
    .lI 126 ((x3.toNat : Nat) : Int) (fun c5 =>
     .ret (.inl false)) fun c5 =>
    .go (ih (w64 (v1 + 1)))) fun c1 =>
   .ret (.inr v1))
def Wk (n : Nat) (a0 : (List UInt8)) : Option Bool :=
 if 20 < (a0.length : Int) then
  some false
 else
 (qu a0 n 0).bind fun o2 =>
 match o2 with
 | .inl o2_0 =>
  some o2_0
 | .inr (o2_1) =>
  some true
theorem L2 (n : Nat) : K0 (Wk n) := fun a0 => tc (
 .le za a0 <|
 .lI 20 (a0.length : Int) (fun c1 =>
  .ret false) fun c1 =>
 .l2 (R9 a0 n 0) (fun o2_0 =>
  .ret o2_0) fun o2_1 =>
 .ret true) (zf Tryz.func195)
theorem T4 {a : List UInt8} (ha : a.length <= 2 ^ 20) : ∀ (d i m : Nat), i + d = a.length → d < m → ∃ z, qu a m (i : Int) = some (if (a.drop i).all (inB 32 126) = true then .inr z else .inl false) := by
 intro d
 induction d with
 | zero =>
  intro i m hi hm
  obtain ⟨m, rfl, _⟩ := zg hm
  exact ⟨_, by rw [qu, if_neg (by omega), List.drop_eq_nil_of_le (by omega)]; rfl⟩
 | succ d ih =>
  intro i m hi hm
  obtain ⟨m, rfl, hm'⟩ := zg hm
  have hil : i < a.length := by omega
  rw [qu, if_pos (by omega), zb, oB, zl hil, oB, zH (by omega), xU hil, List.all_cons]
  by_cases h1 : ((a[i].toNat : Nat) : Int) < 32
  ·exact ⟨0, by rw [if_pos h1, if_neg]; simp [inB]; omega⟩
  ·rw [if_neg h1]
   by_cases h2 : (126 : Int) < ((a[i].toNat : Nat) : Int)
   ·exact ⟨0, by rw [if_pos h2, if_neg]; simp [inB]; omega⟩
   ·rw [if_neg h2, show inB 32 126 a[i] = true by simp [inB]; omega, Bool.true_and]
    exact ih (i + 1) m (by omega) (by omega)
def vA (a0 : (List UInt8)) : Option Bool := if a0.length <= 2 ^ 20 then some (Xj a0) else none
theorem T5 (a0 : (List UInt8)) (r : Bool) (h : vA a0 = some r) : ∃ n, Wk n a0 = some r := by
 unfold vA at h
 obtain ⟨ha, h⟩ := zC h
 refine ⟨a0.length + 1, ?_⟩
 obtain ⟨z, hz⟩ := T4 ha a0.length 0 (a0.length + 1) (by omega) (by omega)
 rw [show ((0 : Nat) : Int) = 0 from rfl, List.drop_zero] at hz
 unfold Wk
 rw [<- h, hz]
 unfold Xj
 by_cases hl : a0.length <= 20
 ·rw [if_neg (by omega), decide_eq_true hl]
  cases a0.all (inB 32 126) <;> rfl
 ·rw [if_pos (by omega), decide_eq_false hl]; rfl
theorem Og : K0 vA := fun a0 r h => (T5 a0 r h).elim fun n hn => L2 n a0 r hn
def YU (a0 : Int) : Option Bool :=
 if (-1000000000000) <= a0 then
  some (decide (a0 <= 1000000000000))
 else
 some false
theorem L3 (a0 : Int) : Oc (YU a0) 194 [] [vi a0] fun r => (vb r, []) := tc (
 .gI (-1000000000000) a0 (fun c1 =>
  .gD a0 1000000000000 <|
  .ret (decide (a0 <= 1000000000000))) fun c1 =>
 .ret false) (zf Tryz.func194)
def Yn (F : GValue → Int → Int → Option Int) : Prop := ∀ (a0 : GValue) (a1 : Int) (a2 : Int), Oc (F a0 a1 a2) 169 [] [.val true (zD a0), vi a1, vi a2] fun r => (vi r, [])
def yP (G_spec_l2ok : GValue → Int → Int → Option Int) (a1 : Int) (a0 : GValue) : Nat → Int → Int → Option (Int ⊕ (Int × Int))
  | 0, _, _ => none
  | m + 1, v1, v2 =>
  if v2 < (a0.L.length : Int) then
   if a0.Kind = 5 then
    (zv v2).bind fun i3 =>
    (a0.K[i3]?).bind fun x4 =>
    (qf x4).bind fun r5 =>
    match r5 with
    | true =>
     if 0 < v2 then
      (zv (w64 (v2 - 1))).bind fun i7 =>
      (a0.K[i7]?).bind fun x8 =>
      if Op.bytesLess x8 x4 = true then
       (a0.L[i3]?).bind fun x10 =>
       (G_spec_l2ok x10 (w64 (a1 + 1)) v1).bind fun r11 =>
       if r11 < 0 then
        some (.inl (-1))
       else
       yP G_spec_l2ok a1 a0 m r11 (w64 (v2 + 1))
      else
      some (.inl (-1))
     else
     (a0.L[i3]?).bind fun x7 =>
     (G_spec_l2ok x7 (w64 (a1 + 1)) v1).bind fun r8 =>
     if r8 < 0 then
      some (.inl (-1))
     else
     yP G_spec_l2ok a1 a0 m r8 (w64 (v2 + 1))
    | false =>
     some (.inl (-1))
   else
   (zv v2).bind fun i3 =>
   (a0.L[i3]?).bind fun x4 =>
   (G_spec_l2ok x4 (w64 (a1 + 1)) v1).bind fun r5 =>
   if r5 < 0 then
    some (.inl (-1))
   else
   yP G_spec_l2ok a1 a0 m r5 (w64 (v2 + 1))
  else
  some (.inr (v1, v2))
theorem QK (G_spec_l2ok : GValue → Int → Int → Option Int) (H_spec_l2ok : Yn G_spec_l2ok) (a1 : Int) (a0 : GValue) (m : Nat) : ∀ (v1 : Int) (v2 : Int), Ol (yP G_spec_l2ok a1 a0 m v1 v2) 169 (zJ Tryz.f169 0) ⟨[(1, vi a1), (2, vi v1), (3, vp 0 0), (7, vi v2)], [.var (zD a0)], 0⟩ fun o => match o with | .inl o_0 => (.ret, ⟨[(6, vi o_0)], [], 0⟩) | .inr (⟨o_1_0, o_1_1⟩) => (.exit 1, ⟨[(1, vi a1), (2, vi o_1_0), (3, vp 0 0), (7, vi o_1_1), (117, vb false)], [.var (zD a0)], 0⟩) := by
  induction m with
  | zero => intro v1 v2 o h; cases h
  | succ m ih => exact fun v1 v2 => tlp (
   .le zh a0.L <|
   .lI v2 (a0.L.length : Int) (fun c1 =>
    .eI a0.Kind 5 (fun c2 =>
     .na v2 fun i3 =>
     .ix0 (zu za) a0.K i3 fun x4 =>
     .cl (Xx x4) fun r5 =>
     .vN 2 r5 (
      .an 0 0 <|
      .lI 0 v2 (fun c6 =>
       .an 0 0 <|
       .na (w64 (v2 - 1)) fun i7 =>
       .ix0 (zu za) a0.K i7 fun x8 =>
       .bt x8 <|
       .ag 5 <|
       .ag 4 <|
       .bt x4 <|
       .bI x8 x4 (fun c9 =>
        .an 0 2 <|
        .an 2 2 <|
        .ag 5 <|
        .ix yz a0.L i3 fun x10 =>
        .cl (H_spec_l2ok x10 (w64 (a1 + 1)) v1) fun r11 =>
        .lI r11 0 (fun c12 =>
         .ret (.inl (-1))) fun c12 =>
        .go (ih r11 (w64 (v2 + 1)))) fun c9 =>
       .an 0 2 <|
       .an 2 2 <|
       .ret (.inl (-1))) fun c6 =>
      .an 0 0 <|
      .an 14 0 <|
      .an 2 0 <|
      .ag 3 <|
      .ix yz a0.L i3 fun x7 =>
      .cl (H_spec_l2ok x7 (w64 (a1 + 1)) v1) fun r8 =>
      .lI r8 0 (fun c9 =>
       .ret (.inl (-1))) fun c9 =>
      .go (ih r8 (w64 (v2 + 1)))) <|
     .an 0 0 <|
     .an 0 0 <|
     .an 0 0 <|
     .an 1 0 <|
     .ret (.inl (-1))) fun c2 =>
    .na v2 fun i3 =>
    .ix yz a0.L i3 fun x4 =>
    .cl (H_spec_l2ok x4 (w64 (a1 + 1)) v1) fun r5 =>
    .lI r5 0 (fun c6 =>
     .ret (.inl (-1))) fun c6 =>
    .go (ih r5 (w64 (v2 + 1)))) fun c1 =>
   .ret (.inr (v1, v2)))
def XH (G_spec_l2ok : GValue → Int → Int → Option Int) (n : Nat) (a0 : GValue) (a1 : Int) (a2 : Int) : Option Int :=
 if (w64 (a2 - 1)) < 0 then
  some (-1)
 else
 if 5 < a1 then
  some (-1)
 else
 if a0.Kind = 3 then
  if 0 < (a0.K.length : Int) then
   some (-1)
  else
  if a0.N = 0 then
   if 0 < (a0.L.length : Int) then
    some (-1)
   else
   (vA a0.S).bind fun r7 =>
   match r7 with
   | true =>
    some (w64 (a2 - 1))
   | false =>
    some (-1)
  else
  some (-1)
 else
 if 0 < (a0.S.length : Int) then
  some (-1)
 else
 if a0.Kind = 5 then
  if a0.N = 0 then
   if (a0.K.length : Int) = (a0.L.length : Int) then
    (yP G_spec_l2ok a1 a0 n (w64 (a2 - 1)) 0).bind fun o8 =>
    match o8 with
    | .inl o8_0 =>
     some o8_0
    | .inr (⟨o8_1_0, o8_1_1⟩) =>
     some o8_1_0
   else
   some (-1)
  else
  some (-1)
 else
 if 0 < (a0.K.length : Int) then
  some (-1)
 else
 if a0.Kind = 1 then
  if 0 < (a0.L.length : Int) then
   some (-1)
  else
  if a0.N < 0 then
   some (-1)
  else
  if 1 < a0.N then
   some (-1)
  else
  some (w64 (a2 - 1))
 else
 if a0.Kind = 2 then
  if 0 < (a0.L.length : Int) then
   some (-1)
  else
  (YU a0.N).bind fun r10 =>
  match r10 with
  | true =>
   some (w64 (a2 - 1))
  | false =>
   some (-1)
 else
 if a0.N = 0 then
  if a0.Kind = 4 then
   (yP G_spec_l2ok a1 a0 n (w64 (a2 - 1)) 0).bind fun o11 =>
   match o11 with
   | .inl o11_0 =>
    some o11_0
   | .inr (⟨o11_1_0, o11_1_1⟩) =>
    some o11_1_0
  else
  if 0 < (a0.L.length : Int) then
   some (-1)
  else
  if a0.Kind = 0 then
   some (w64 (a2 - 1))
  else
  if a0.Kind = 6 then
   some (w64 (a2 - 1))
  else
  some (-1)
 else
 some (-1)
theorem NT (G_spec_l2ok : GValue → Int → Int → Option Int) (H_spec_l2ok : Yn G_spec_l2ok) (n : Nat) : Yn (XH G_spec_l2ok n) := fun a0 a1 a2 => tc (
 .lI (w64 (a2 - 1)) 0 (fun c1 =>
  .ret (-1)) fun c1 =>
 .lI 5 a1 (fun c2 =>
  .ret (-1)) fun c2 =>
 .eI a0.Kind 3 (fun c3 =>
  .q (.eFo a0.Kind 5 (by omega)) <|
  .le (zu za) a0.K <|
  .lI 0 (a0.K.length : Int) (fun c4 =>
   .ret (-1)) fun c4 =>
  .q (.eFo a0.Kind 1 (by omega)) <|
  .q (.eFo a0.Kind 2 (by omega)) <|
  .eI a0.N 0 (fun c5 =>
   .q (.eFo a0.Kind 4 (by omega)) <|
   .q (.eFo a0.Kind 5 (by omega)) <|
   .le zh a0.L <|
   .lI 0 (a0.L.length : Int) (fun c6 =>
    .ret (-1)) fun c6 =>
   .q (.eFo a0.Kind 0 (by omega)) <|
   .q (.eFo a0.Kind 6 (by omega)) <|
   .q (.eFo a0.Kind 1 (by omega)) <|
   .q (.eFo a0.Kind 2 (by omega)) <|
   .q (.eT c3) <|
   .cl (Og a0.S) fun r7 =>
   .vN 0 r7 (
    .ret (w64 (a2 - 1))) <|
   .ret (-1)) fun c5 =>
  .ret (-1)) fun c3 =>
 .le za a0.S <|
 .lI 0 (a0.S.length : Int) (fun c4 =>
  .ret (-1)) fun c4 =>
 .eI a0.Kind 5 (fun c5 =>
  .q (.eFo a0.Kind 1 (by omega)) <|
  .q (.eFo a0.Kind 2 (by omega)) <|
  .eI a0.N 0 (fun c6 =>
   .q (.eFo a0.Kind 4 (by omega)) <|
   .q (.eT c5) <|
   .q (.eFo a0.Kind 0 (by omega)) <|
   .q (.eFo a0.Kind 6 (by omega)) <|
   .q (.eFo a0.Kind 1 (by omega)) <|
   .q (.eFo a0.Kind 2 (by omega)) <|
   .q (.eF c3) <|
   .q (.eFo a0.Kind 4 (by omega)) <|
   .q (.eT c5) <|
   .q (.eT c5) <|
   .le (zu za) a0.K <|
   .le zh a0.L <|
   .eI (a0.K.length : Int) (a0.L.length : Int) (fun c7 =>
    .l2 (QK G_spec_l2ok H_spec_l2ok a1 a0 n (w64 (a2 - 1)) 0) (fun o8_0 =>
     .ret o8_0) fun ⟨o8_1_0, o8_1_1⟩ =>
    .ret o8_1_0) fun c7 =>
   .ret (-1)) fun c6 =>
  .ret (-1)) fun c5 =>
 .le (zu za) a0.K <|
 .lI 0 (a0.K.length : Int) (fun c6 =>
  .ret (-1)) fun c6 =>
 .eI a0.Kind 1 (fun c7 =>
  .q (.eFo a0.Kind 4 (by omega)) <|
  .q (.eF c5) <|
  .le zh a0.L <|
  .lI 0 (a0.L.length : Int) (fun c8 =>
   .ret (-1)) fun c8 =>
  .q (.eFo a0.Kind 0 (by omega)) <|
  .q (.eFo a0.Kind 6 (by omega)) <|
  .q (.eT c7) <|
  .lI a0.N 0 (fun c9 =>
   .ret (-1)) fun c9 =>
  .lI 1 a0.N (fun c10 =>
   .ret (-1)) fun c10 =>
  .ret (w64 (a2 - 1))) fun c7 =>
 .eI a0.Kind 2 (fun c8 =>
  .q (.eFo a0.Kind 4 (by omega)) <|
  .q (.eF c5) <|
  .le zh a0.L <|
  .lI 0 (a0.L.length : Int) (fun c9 =>
   .ret (-1)) fun c9 =>
  .q (.eFo a0.Kind 0 (by omega)) <|
  .q (.eFo a0.Kind 6 (by omega)) <|
  .q (.eF c7) <|
  .q (.eT c8) <|
  .cl (L3 a0.N) fun r10 =>
  .vN 0 r10 (
   .ret (w64 (a2 - 1))) <|
  .ret (-1)) fun c8 =>
 .eI a0.N 0 (fun c9 =>
  .eI a0.Kind 4 (fun c10 =>
   .q (.eFo a0.Kind 0 (by omega)) <|
   .q (.eFo a0.Kind 6 (by omega)) <|
   .q (.eF c7) <|
   .q (.eF c8) <|
   .q (.eF c3) <|
   .q (.eT c10) <|
   .q (.eF c5) <|
   .l2 (QK G_spec_l2ok H_spec_l2ok a1 a0 n (w64 (a2 - 1)) 0) (fun o11_0 =>
    .ret o11_0) fun ⟨o11_1_0, o11_1_1⟩ =>
   .ret o11_1_0) fun c10 =>
  .q (.eF c5) <|
  .le zh a0.L <|
  .lI 0 (a0.L.length : Int) (fun c11 =>
   .ret (-1)) fun c11 =>
  .eI a0.Kind 0 (fun c12 =>
   .ret (w64 (a2 - 1))) fun c12 =>
  .eI a0.Kind 6 (fun c13 =>
   .ret (w64 (a2 - 1))) fun c13 =>
  .q (.eF c7) <|
  .q (.eF c8) <|
  .q (.eF c3) <|
  .q (.eF c10) <|
  .q (.eF c5) <|
  .ret (-1)) fun c9 =>
 .ret (-1)) (zf Tryz.func169)
def q9 : Nat → GValue → Int → Int → Option Int
 | 0, _, _, _ => none
 | n + 1, a0, a1, a2 => XH (q9 n) n a0 a1 a2
theorem L4 (n : Nat) : Yn (q9 n) := by
 induction n with
 | zero => exact fun _ _ _ _ h => (by rw [q9] at h; cases h)
 | succ n ih =>
  have ih_spec_l2ok := ih
  exact fun a0 a1 a2 r h => NT (q9 n) ih_spec_l2ok n a0 a1 a2 r (by rw [q9] at h; exact h)
def okV (d : Nat) (left : Int) (v : GValue) : Int := if shV d v = true ∧ (ptV v : Int) <= left then left - ptV v else -1
theorem EH {a : List UInt8} (h : a.length <= 2 ^ 20) : qf a = some (jY a) := if_pos h
theorem EI {a : List UInt8} (h : a.length <= 2 ^ 20) : vA a = some (Xj a) := if_pos h
theorem Bq (n : Int) : YU n = some (decide (-1000000000000 <= n ∧ n <= 1000000000000)) := by
 unfold YU
 by_cases h : (-1000000000000 : Int) <= n
 ·rw [if_pos h]; simp [h]
 ·rw [if_neg h]; simp [h]
theorem EJ {G : GValue → Int → Int → Option Int} {v : GValue} {dd : Nat} {deep : Int} (hdd : deep + dd = 5) (h1d : 1 <= deep) (hs : vsz v <= 2 ^ 20) (hk : v.Kind = 4 ∨ (v.Kind = 5 ∧ v.K.length = v.L.length))
  (hG : ∀ x ∈ v.L, ∀ r : Int, 0 <= r → r <= 40 → G x (deep + 1) r = some (okV dd r x)) : ∀ (d i m : Nat) (r : Int), i + d = v.L.length → d < m → 0 <= r → r <= 40 →
  ∃ z, yP G deep v m r (i : Int) = some (if ((v.Kind = 5 → vv v.K i d = true) ∧ (v.L.drop i).all (shV dd) = true) ∧ (wP (v.L.drop i) : Int) <= r then .inr (r - wP (v.L.drop i), z) else .inl (-1)) := by
 have he := xw v
 have hl := yR v.L
 intro d
 induction d with
 | zero =>
  intro i m r hi hm h0 h1
  obtain ⟨m, rfl, _⟩ := zg hm
  refine ⟨(i : Int), ?_⟩
  rw [yP, if_neg (by omega), List.drop_eq_nil_of_le (by omega), if_pos ⟨⟨fun _ => rfl, rfl⟩, by simpa [wP] using h0⟩]
  simp [wP]
 | succ d ih =>
  intro i m r hi hm h0 h1
  obtain ⟨m, rfl, hm'⟩ := zg hm
  have hil : i < v.L.length := by omega
  have hp : wP (v.L.drop i) = ptV v.L[i] + wP (v.L.drop (i + 1)) := by rw [xU hil]; simp only [wP]
  have ha : (v.L.drop i).all (shV dd) = (shV dd v.L[i] && (v.L.drop (i + 1)).all (shV dd)) := by rw [xU hil, List.all_cons]
  have hd1 : w64 (deep + 1) = deep + 1 := yc (by omega) (by omega)
  have tail : (v.Kind = 5 → kOk v.K i = true) → ∃ z, ((G v.L[i] (w64 (deep + 1)) r).bind fun r12 => if r12 < 0 then some (.inl (-1)) else yP G deep v m r12 (w64 ((i : Int) + 1))) =
    some (if ((v.Kind = 5 → vv v.K i (d + 1) = true) ∧ (v.L.drop i).all (shV dd) = true) ∧ (wP (v.L.drop i) : Int) <= r then .inr (r - wP (v.L.drop i), z) else .inl (-1)) := by
   intro hki
   rw [hd1, hG _ (List.getElem_mem hil) r h0 h1, oB, zH (by omega), hp, ha]
   unfold okV
   by_cases hc : shV dd v.L[i] = true ∧ (ptV v.L[i] : Int) <= r
   ·rw [if_pos hc, if_neg (by omega)]
    obtain ⟨z, hz⟩ := ih (i + 1) m (r - ptV v.L[i]) (by omega) (by omega) (by omega) (by omega)
    refine ⟨z, ?_⟩
    rw [hz, hc.1, Bool.true_and]
    have hcond : (((v.Kind = 5 → vv v.K (i + 1) d = true) ∧ (v.L.drop (i + 1)).all (shV dd) = true) ∧ (wP (v.L.drop (i + 1)) : Int) <= r - ptV v.L[i]) ↔
      (((v.Kind = 5 → vv v.K i (d + 1) = true) ∧ (v.L.drop (i + 1)).all (shV dd) = true) ∧ ((ptV v.L[i] + wP (v.L.drop (i + 1)) : Nat) : Int) <= r) := by
     have hka : (v.Kind = 5 → vv v.K (i + 1) d = true) ↔ (v.Kind = 5 → vv v.K i (d + 1) = true) := by
      constructor
      ·intro h hk; rw [QU, hki hk, h hk]; rfl
      ·intro h hk; have := h hk; rw [QU, hki hk, Bool.true_and] at this; exact this
     rw [hka]
     constructor
     ·rintro ⟨h1, h2⟩; exact ⟨h1, by omega⟩
     ·rintro ⟨h1, h2⟩; exact ⟨h1, by omega⟩
    by_cases hd : ((v.Kind = 5 → vv v.K (i + 1) d = true) ∧ (v.L.drop (i + 1)).all (shV dd) = true) ∧ (wP (v.L.drop (i + 1)) : Int) <= r - ptV v.L[i]
    ·rw [if_pos hd, if_pos (hcond.1 hd)]; congr 3; omega
    ·rw [if_neg hd, if_neg (fun h => hd (hcond.2 h))]
   ·refine ⟨0, ?_⟩
    rw [if_neg hc, if_pos (by omega), if_neg]
    rintro ⟨⟨_, h2⟩, h3⟩
    rw [Bool.and_eq_true] at h2
    exact hc ⟨h2.1, by omega⟩
  have bad : v.Kind = 5 → kOk v.K i = false → ∃ z, (some (.inl (-1)) : Option (Int ⊕ (Int × Int))) = some (if ((v.Kind = 5 → vv v.K i (d + 1) = true) ∧ (v.L.drop i).all (shV dd) = true) ∧ (wP (v.L.drop i) : Int) <= r then .inr (r - wP (v.L.drop i), z) else .inl (-1)) := by
   intro hk hki
   refine ⟨0, ?_⟩
   rw [if_neg]
   rintro ⟨⟨h1, _⟩, _⟩
   have := h1 hk
   rw [QU, hki] at this
   cases this
  rw [yP, if_pos (by omega)]
  rcases hk with hk | ⟨hk, hkl⟩
  ·rw [if_neg (by omega), zb, oB, zl hil, oB]
   exact tail fun h => by omega
  ·have hik : i < v.K.length := by omega
   have hx := ZT (List.getElem_mem hik)
   rw [if_pos hk, zb, oB, zl hik, oB, EH (by omega), oB]
   cases hnm : jY v.K[i] with
   | false =>
    dsimp only
    refine bad hk ?_
    by_cases h0 : i = 0
    ·subst h0; rw [Kr hik, hnm]
    ·rw [J9 hik (by omega), hnm]; rfl
   | true =>
    dsimp only
    by_cases h0 : 0 < i
    ·rw [if_pos (by omega), kh (by omega) h0, zb, oB, zl (show i - 1 < v.K.length by omega), oB]
     by_cases hb : Op.bytesLess (v.K[i - 1]'(by omega)) v.K[i] = true
     ·rw [if_pos hb, zl hil, oB]
      exact tail fun _ => by rw [J9 hik h0, hnm, hb]; rfl
     ·rw [if_neg hb]
      refine bad hk ?_
      rw [J9 hik h0, hnm]; simpa using hb
    ·have : i = 0 := by omega
     subst this
     rw [if_neg (by omega), zl hil, oB]
     exact tail fun _ => by rw [Kr hik, hnm]
theorem zee {G : GValue → Int → Int → Option Int} {v : GValue} {f dd : Nat} {deep left : Int} (hdd : deep + dd = 5 ∨ (deep = 6 ∧ dd = 0)) (h1d : 1 <= deep) (hs : vsz v <= 2 ^ 20) (hf : v.L.length < f) (h0 : 0 <= left) (h1 : left <= 40)
  (hG : deep <= 5 → ∀ x ∈ v.L, ∀ r : Int, 0 <= r → r <= 40 → G x (deep + 1) r = some (okV dd r x)) : XH G f v deep left = some (okV (if deep <= 5 then dd + 1 else 0) left v) := by
 have he := xw v
 have hl := yR v.L
 have hpt := N2 v
 have hpl := B7 v.L
 unfold XH
 rw [yc (by omega) (by omega)]
 by_cases hleft : left - 1 < 0
 ·rw [if_pos hleft]
  unfold okV; rw [if_neg (by rintro ⟨_, h⟩; omega)]
 rw [if_neg hleft]
 by_cases hdeep : 5 < deep
 ·rw [if_pos hdeep, if_neg (show ¬ deep <= 5 by omega)]
  unfold okV; rw [if_neg (by rintro ⟨h, _⟩; simp [shV] at h)]
 rw [if_neg hdeep, if_pos (show deep <= 5 by omega)]
 have hdd : deep + dd = 5 := by omega
 have hG := hG (by omega)
 unfold okV
 simp only [shV]
 have fin0 : v.L.length = 0 → (v.L.all (shV dd) = true ∧ ptV v = 1) := fun h => by
  have : v.L = [] := List.eq_nil_of_length_eq_zero h
  rw [hpt, this]; exact ⟨rfl, rfl⟩
 have yes : yS v = true → v.L.length = 0 → some (left - 1) = some (if (yS v && v.L.all (shV dd)) = true ∧ (ptV v : Int) <= left then left - ptV v else -1) := fun h1 h2 => by
  obtain ⟨a1, a2⟩ := fin0 h2
  rw [h1, a1, a2, if_pos ⟨rfl, by omega⟩]; rfl
 have no : yS v = false → some (-1) = some (if (yS v && v.L.all (shV dd)) = true ∧ (ptV v : Int) <= left then left - ptV v else -1) := fun h1 => by
  rw [h1, if_neg (by rintro ⟨h, _⟩; cases h)]
 have lp : v.Kind = 4 ∨ (v.Kind = 5 ∧ v.K.length = v.L.length) → (∀ b : Bool, v.L.length <= 40 → ((v.Kind = 5 → vv v.K 0 v.L.length = true) ↔ b = true) → yS v = b) → ((yP G deep v f (left - 1) 0).bind fun o8 => match o8 with | .inl o8_0 => some o8_0 | .inr (⟨o8_1_0, o8_1_1⟩) => some o8_1_0) =
   some (if (yS v && v.L.all (shV dd)) = true ∧ (ptV v : Int) <= left then left - ptV v else -1) := fun hk hloc => by
  obtain ⟨z, hz⟩ := EJ (G := G) hdd h1d hs hk hG v.L.length 0 f (left - 1) (by omega) (by omega) (by omega) (by omega)
  rw [show ((0 : Nat) : Int) = 0 from rfl, List.drop_zero] at hz
  rw [hz, oB]
  by_cases hc : ((v.Kind = 5 → vv v.K 0 v.L.length = true) ∧ v.L.all (shV dd) = true) ∧ (wP v.L : Int) <= left - 1
  ·rw [if_pos hc]
   have h40 : v.L.length <= 40 := by omega
   have := hloc true h40 ⟨fun _ => rfl, fun _ => hc.1.1⟩
   rw [this, hc.1.2, if_pos ⟨rfl, by omega⟩, hpt]
   dsimp only
   congr 1; omega
  ·rw [if_neg hc, if_neg]
   rintro ⟨h2, h3⟩
   rw [Bool.and_eq_true] at h2
   refine hc ⟨⟨?_, h2.2⟩, by omega⟩
   by_cases h40 : v.L.length <= 40
   ·by_cases hb : (v.Kind = 5 → vv v.K 0 v.L.length = true)
    ·exact hb
    ·have := hloc false h40 ⟨fun h => (hb h).elim, fun h => by cases h⟩
     rw [this] at h2; cases h2.1
   ·omega
 have hloc : ∀ k, v.Kind = k → yS v = (if k = 0 ∨ k = 6 then decide (v.N = 0 ∧ v.S.length = 0 ∧ v.K.length = 0 ∧ v.L.length = 0)
   else if k = 1 then decide ((0 <= v.N ∧ v.N <= 1) ∧ v.S.length = 0 ∧ v.K.length = 0 ∧ v.L.length = 0)
   else if k = 2 then decide ((-1000000000000 <= v.N ∧ v.N <= 1000000000000) ∧ v.S.length = 0 ∧ v.K.length = 0 ∧ v.L.length = 0)
   else if k = 3 then Xj v.S && decide (v.N = 0 ∧ v.K.length = 0 ∧ v.L.length = 0)
   else if k = 4 then decide (v.N = 0 ∧ v.S.length = 0 ∧ v.K.length = 0 ∧ v.L.length <= 40)
   else if k = 5 then decide (v.K.length = v.L.length ∧ v.N = 0 ∧ v.S.length = 0 ∧ v.L.length <= 40) && vv v.K 0 v.K.length
   else false) := fun k hk => by unfold yS; rw [hk]
 by_cases k3 : v.Kind = 3
 ·have hv := hloc 3 k3
  simp only [show ¬ ((3 : Int) = 0 ∨ (3 : Int) = 6) by omega, if_false, show ¬ ((3 : Int) = 1) by omega, show ¬ ((3 : Int) = 2) by omega, if_true] at hv
  rw [if_pos k3]
  by_cases a1 : 0 < (v.K.length : Int)
  ·rw [if_pos a1]; exact no (by rw [hv, decide_eq_false (by omega)]; simp)
  ·rw [if_neg a1]
   by_cases a2 : v.N = 0
   ·rw [if_pos a2]
    by_cases a3 : 0 < (v.L.length : Int)
    ·rw [if_pos a3]; exact no (by rw [hv, decide_eq_false (by omega)]; simp)
    ·rw [if_neg a3, EI (by omega), oB]
     rw [decide_eq_true (by omega), Bool.and_true] at hv
     cases ht : Xj v.S with
     | true => exact yes (by rw [hv, ht]) (by omega)
     | false => exact no (by rw [hv, ht])
   ·rw [if_neg a2]; exact no (by rw [hv, decide_eq_false (by omega)]; simp)
 rw [if_neg k3]
 by_cases hS : 0 < (v.S.length : Int)
 ·rw [if_pos hS]
  refine no ?_
  unfold yS
  simp only [k3, if_false]
  repeat' split
  all_goals first | rfl | (rw [decide_eq_false (by omega)]; try rfl)
 rw [if_neg hS]
 by_cases k5 : v.Kind = 5
 ·have hv := hloc 5 k5
  simp only [show ¬ ((5 : Int) = 0 ∨ (5 : Int) = 6) by omega, if_false, show ¬ ((5 : Int) = 1) by omega, show ¬ ((5 : Int) = 2) by omega, show ¬ ((5 : Int) = 3) by omega, show ¬ ((5 : Int) = 4) by omega, if_true] at hv
  rw [if_pos k5]
  by_cases a2 : v.N = 0
  ·rw [if_pos a2]
   by_cases a3 : (v.K.length : Int) = (v.L.length : Int)
   ·rw [if_pos a3]
    refine lp (.inr ⟨k5, by omega⟩) fun b h40 hb => ?_
    rw [hv, decide_eq_true (by omega), Bool.true_and, show v.K.length = v.L.length by omega, Bool.eq_iff_iff, <- hb]
    exact ⟨fun h _ => h, fun h => h k5⟩
   ·rw [if_neg a3]; exact no (by rw [hv, decide_eq_false (by omega)]; rfl)
  ·rw [if_neg a2]; exact no (by rw [hv, decide_eq_false (by omega)]; rfl)
 rw [if_neg k5]
 by_cases hK : 0 < (v.K.length : Int)
 ·rw [if_pos hK]
  refine no ?_
  unfold yS
  simp only [k3, k5, if_false]
  repeat' split
  all_goals first | rfl | (rw [decide_eq_false (by omega)]; try rfl)
 rw [if_neg hK]
 by_cases k1 : v.Kind = 1
 ·have hv := hloc 1 k1
  simp only [show ¬ ((1 : Int) = 0 ∨ (1 : Int) = 6) by omega, if_false, if_true] at hv
  rw [if_pos k1]
  by_cases a3 : 0 < (v.L.length : Int)
  ·rw [if_pos a3]; exact no (by rw [hv, decide_eq_false (by omega)])
  ·rw [if_neg a3]
   by_cases a4 : v.N < 0
   ·rw [if_pos a4]; exact no (by rw [hv, decide_eq_false (by omega)])
   ·rw [if_neg a4]
    by_cases a5 : 1 < v.N
    ·rw [if_pos a5]; exact no (by rw [hv, decide_eq_false (by omega)])
    ·rw [if_neg a5]; exact yes (by rw [hv, decide_eq_true (by omega)]) (by omega)
 rw [if_neg k1]
 by_cases k2 : v.Kind = 2
 ·have hv := hloc 2 k2
  simp only [show ¬ ((2 : Int) = 0 ∨ (2 : Int) = 6) by omega, if_false, show ¬ ((2 : Int) = 1) by omega, if_true] at hv
  rw [if_pos k2]
  by_cases a3 : 0 < (v.L.length : Int)
  ·rw [if_pos a3]; exact no (by rw [hv, decide_eq_false (by omega)])
  ·rw [if_neg a3, Bq, oB]
   by_cases a4 : -1000000000000 <= v.N ∧ v.N <= 1000000000000
   ·rw [decide_eq_true a4]; exact yes (by rw [hv, decide_eq_true (by omega)]) (by omega)
   ·rw [decide_eq_false a4]; exact no (by rw [hv, decide_eq_false (by omega)])
 rw [if_neg k2]
 by_cases a2 : v.N = 0
 ·rw [if_pos a2]
  by_cases k4 : v.Kind = 4
  ·have hv := hloc 4 k4
   simp only [show ¬ ((4 : Int) = 0 ∨ (4 : Int) = 6) by omega, if_false, show ¬ ((4 : Int) = 1) by omega, show ¬ ((4 : Int) = 2) by omega, show ¬ ((4 : Int) = 3) by omega, if_true] at hv
   rw [if_pos k4]
   refine lp (.inl k4) fun b h40 hb => ?_
   rw [hv, decide_eq_true (by omega)]
   exact (hb.1 fun h => by omega).symm
  ·rw [if_neg k4]
   by_cases a3 : 0 < (v.L.length : Int)
   ·rw [if_pos a3]
    refine no ?_
    unfold yS
    simp only [k1, k2, k3, k4, k5, if_false]
    repeat' split
    all_goals first | rfl | (rw [decide_eq_false (by omega)])
   ·rw [if_neg a3]
    by_cases k0 : v.Kind = 0
    ·rw [if_pos k0]; exact yes (by unfold yS; rw [if_pos (.inl k0), decide_eq_true (by omega)]) (by omega)
    ·rw [if_neg k0]
     by_cases k6 : v.Kind = 6
     ·rw [if_pos k6]; exact yes (by unfold yS; rw [if_pos (.inr k6), decide_eq_true (by omega)]) (by omega)
     ·rw [if_neg k6]
      exact no (by unfold yS; simp only [k0, k1, k2, k3, k4, k5, k6, or_self, if_false])
 ·rw [if_neg a2]
  refine no ?_
  unfold yS
  simp only [k1, k2, k3, k5, if_false]
  repeat' split
  all_goals first | rfl | (rw [decide_eq_false (by omega)])
theorem zef : ∀ (N : Nat) (v : GValue), vsz v < N → vsz v <= 2 ^ 20 → ∀ (f : Nat) (deep left : Int), vsz v + 2 <= f → 1 <= deep → deep <= 6 → 0 <= left → left <= 40 → q9 f v deep left = some (okV (6 - deep).toNat left v) := by
 intro N
 induction N with
 | zero => intro v hv; omega
 | succ N ih =>
  intro v hv hs f deep left hf h1 h2 h3 h4
  obtain ⟨f, rfl, _⟩ := zg (show 0 < f by omega)
  have he := xw v
  have hl := yR v.L
  rw [q9]
  have := zee (G := q9 f) (f := f) (dd := (5 - deep).toNat) (deep := deep) (left := left) (by omega) h1 hs (by omega) h3 h4 fun hd x hx r g0 g1 => by
   have hm := wr hx
   have := ih x (by omega) (by omega) f (deep + 1) r (by omega) (by omega) (by omega) g0 g1
   rw [show (6 - (deep + 1)).toNat = (5 - deep).toNat by omega] at this
   exact this
  rw [this]
  congr 2
  by_cases hd : deep <= 5
  ·rw [if_pos hd]; omega
  ·rw [if_neg hd]; omega
def vK (a0 : GValue) (a1 : Int) (a2 : Int) : Option Int := if vsz a0 <= 2 ^ 20 ∧ (1 <= a1 ∧ a1 <= 6) ∧ 0 <= a2 ∧ a2 <= 40 then some (okV (6 - a1).toNat a2 a0) else none
theorem Oh (a0 : GValue) (a1 : Int) (a2 : Int) (r : Int) (h : vK a0 a1 a2 = some r) : ∃ n, q9 n a0 a1 a2 = some r := by
 unfold vK at h
 obtain ⟨⟨hs, ⟨h1, h2⟩, h3, h4⟩, h⟩ := zC h
 exact ⟨vsz a0 + 2, by rw [<- h]; exact zef _ a0 (Nat.lt_succ_self _) hs _ a1 a2 (Nat.le_refl _) h1 h2 h3 h4⟩
theorem MT : Yn vK := by
 intro a0 a1 a2 r h
 obtain ⟨n, hn⟩ := Oh a0 a1 a2 r h
 exact (L4 n) a0 a1 a2 r hn
def xq (a0 : GValue) : Option Bool :=
 (vK a0 1 40).bind fun r1 =>
 some (decide (0 <= r1))
theorem vB (a0 : GValue) : Oc (xq a0) 127 [] [.val true (zD a0)] fun r => (vb r, []) := tc (
 .cl (MT a0 1 40) fun r1 =>
 .gD 0 r1 <|
 .ret (decide (0 <= r1))) (zf Tryz.func127)
def kE (F : GValue → Option Bool) : Prop := ∀ (a0 : GValue), Oc (F a0) 168 [] [.val true (zD a0)] fun r => (vb r, [])
def qa (G_spec_l2known : GValue → Option Bool) (a0 : GValue) : Nat → Int → Option (Bool ⊕ Int)
  | 0, _ => none
  | m + 1, v0 =>
  if v0 < (a0.L.length : Int) then
   (zv v0).bind fun i2 =>
   (a0.L[i2]?).bind fun x3 =>
   (G_spec_l2known x3).bind fun r4 =>
   match r4 with
   | true =>
    qa G_spec_l2known a0 m (w64 (v0 + 1))
   | false =>
    some (.inl false)
  else
  some (.inr v0)
theorem V9 (G_spec_l2known : GValue → Option Bool) (H_spec_l2known : kE G_spec_l2known) (a0 : GValue) (m : Nat) : ∀ (v0 : Int), Ol (qa G_spec_l2known a0 m v0) 168 (zJ Tryz.f168 0) ⟨[(1, vp 0 0), (3, vi v0)], [.var (zD a0)], 0⟩ fun o => match o with | .inl o_0 => (.ret, ⟨[(2, vb o_0)], [], 0⟩) | .inr (o_1) => (.exit 0, ⟨[(1, vp 0 0), (3, vi o_1), (11, vb false)], [.var (zD a0)], 0⟩) := by
  induction m with
  | zero => intro v0 o h; cases h
  | succ m ih => exact fun v0 => tlp (
   .le zh a0.L <|
   .lI v0 (a0.L.length : Int) (fun c1 =>
    .na v0 fun i2 =>
    .ix yz a0.L i2 fun x3 =>
    .cl (H_spec_l2known x3) fun r4 =>
    .vN 0 r4 (
     .go (ih (w64 (v0 + 1)))) <|
    .ret (.inl false)) fun c1 =>
   .ret (.inr v0))
def Xz (G_spec_l2known : GValue → Option Bool) (n : Nat) (a0 : GValue) : Option Bool :=
 if a0.Kind = 6 then
  some false
 else
 (qa G_spec_l2known a0 n 0).bind fun o2 =>
 match o2 with
 | .inl o2_0 =>
  some o2_0
 | .inr (o2_1) =>
  some true
theorem Oi (G_spec_l2known : GValue → Option Bool) (H_spec_l2known : kE G_spec_l2known) (n : Nat) : kE (Xz G_spec_l2known n) := fun a0 => tc (
 .eI a0.Kind 6 (fun c1 =>
  .ret false) fun c1 =>
 .l2 (V9 G_spec_l2known H_spec_l2known a0 n 0) (fun o2_0 =>
  .ret o2_0) fun o2_1 =>
 .ret true) (zf Tryz.func168)
def xA : Nat → GValue → Option Bool
 | 0, _ => none
 | n + 1, a0 => Xz (xA n) n a0
theorem T6 (n : Nat) : kE (xA n) := by
 induction n with
 | zero => exact fun _ _ h => (by rw [xA] at h; cases h)
 | succ n ih =>
  have ih_spec_l2known := ih
  exact fun a0 r h => Oi (xA n) ih_spec_l2known n a0 r (by rw [xA] at h; exact h)
theorem MU {G : GValue → Option Bool} {v : GValue} (ha : v.L.length <= 2 ^ 40) (hG : ∀ x ∈ v.L, G x = some (knV x)) : ∀ (l p : List GValue) (m : Nat), v.L = p ++ l → l.length < m → ∃ z, qa G v m (p.length : Int) = some (if Wp l = true then .inr z else .inl false) := by
 intro l
 induction l with
 | nil =>
  intro p m he hm
  obtain ⟨m, rfl, _⟩ := zg hm
  exact ⟨_, by rw [qa, if_neg (by rw [he]; exact wh p)]; rfl⟩
 | cons x l ih =>
  intro p m he hm
  obtain ⟨m, rfl, hm'⟩ := zg hm
  have hlen : v.L.length = p.length + (l.length + 1) := by rw [he]; simp
  rw [qa, if_pos (by omega), zb, oB, show v.L[p.length]? = some x by rw [he]; exact zG p x l, oB, hG x (by rw [he]; simp), oB, Wp]
  cases hx : knV x with
  | true =>
   dsimp only
   rw [y8 p x (by omega), Bool.true_and]
   exact ih (p ++ [x]) m (by rw [he]; simp) (by simp only [List.length_cons] at hm'; omega)
  | false => exact ⟨0, rfl⟩
theorem EK : ∀ (N : Nat) (v : GValue), vsz v < N → vsz v <= 2 ^ 39 → ∀ f, vsz v + 2 <= f → xA f v = some (knV v) := by
 intro N
 induction N with
 | zero => intro v hv; omega
 | succ N ih =>
  intro v hv hs f hf
  have he := xw v
  have hl := yR v.L
  obtain ⟨f, rfl, _⟩ := zg (show 0 < f by omega)
  rw [xA]
  unfold Xz
  rw [Dm]
  by_cases h6 : v.Kind = 6
  ·rw [if_pos h6, h6]; rfl
  ·rw [if_neg h6]
   obtain ⟨z, hz⟩ := MU (G := xA f) (v := v) (by omega) (fun x hx => by
    have := wr hx
    exact ih x (by omega) (by omega) f (by omega)) v.L [] f rfl (by omega)
   simp only [List.length_nil, Int.natCast_zero] at hz
   rw [hz, oB, decide_eq_true h6, Bool.true_and]
   cases Wp v.L <;> rfl
def jq (a0 : GValue) : Option Bool := if vsz a0 <= 2 ^ 39 then some (knV a0) else none
theorem RA (a0 : GValue) (r : Bool) (h : jq a0 = some r) : ∃ n, xA n a0 = some r := by
 unfold jq at h
 obtain ⟨ha, h⟩ := zC h
 exact ⟨vsz a0 + 2, by rw [<- h]; exact EK _ a0 (Nat.lt_succ_self _) ha _ (Nat.le_refl _)⟩
theorem UL : kE jq := by
 intro a0 r h
 obtain ⟨n, hn⟩ := RA a0 r h
 exact (T6 n) a0 r hn
def jz (a0 : GValue) : Option Bool :=
 if a0.Kind = 5 then
  (xq a0).bind fun r2 =>
  match r2 with
  | true =>
   (jq a0).bind fun r3 =>
   some r3
  | false =>
   some false
 else
 some false
theorem K1 (a0 : GValue) : Oc (jz a0) 125 [] [.val true (zD a0)] fun r => (vb r, []) := tc (
 .eI a0.Kind 5 (fun c1 =>
  .cl (vB a0) fun r2 =>
  .vM 1 r2 (
   .az 0 0 <|
   .cl (UL a0) fun r3 =>
   .az 0 1 <|
   .ret r3) <|
  .az 0 0 <|
  .az 0 0 <|
  .ret false) fun c1 =>
 .ret false) (zf Tryz.func125)
end
end Go.Am.Try
