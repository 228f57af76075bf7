/- The functions of the program in plain Lean, and that the machine answers as they do; conditions at each theorem. -/
import Derived.Test.YtklelfbkffbceaaGreatMP1
set_option linter.unusedVariables false
set_option linter.unusedSimpArgs false
namespace Go.Am.Try
open Go.Am Go.Proofs
set_option linter.unusedVariables false
set_option maxRecDepth 20000
set_option maxHeartbeats 2000000
noncomputable section
def kM (a0 : (List UInt8)) (a1 : Int) : Option Int :=
 if (w64 (a1 - (a0.length : Int))) < 0 then
  some (-1)
 else
 some (w64 (a1 - (a0.length : Int)))
theorem Ja (a0 : (List UInt8)) (a1 : Int) : Oc (kM a0 a1) 30 [] [vq za a0, vi a1] fun r => (vi r, []) := tc (
 .le za a0 <|
 .lI (w64 (a1 - (a0.length : Int))) 0 (fun c1 =>
  .ret (-1)) fun c1 =>
 .ret (w64 (a1 - (a0.length : Int)))) (zj Tryz.func30)
def Jb (F : (List (List UInt8)) → Int → Option Int) : Prop := ∀ (a0 : (List (List UInt8))) (a1 : Int), Oc (F a0 a1) 31 [] [vq (zi za) a0, vi a1] fun r => (vi r, [])
def wI (a0 : (List (List UInt8))) : Nat → Int → Int → Option (Int ⊕ (Int × Int))
  | 0, _, _ => none
  | m + 1, v1, v2 =>
  if v2 < (a0.length : Int) then
   (zH v2).bind fun i2 =>
   (a0[i2]?).bind fun x3 =>
   (kM x3 v1).bind fun r4 =>
   if r4 < 0 then
    some (.inl (-1))
   else
   wI a0 m r4 (w64 (v2 + 1))
  else
  some (.inr (v1, v2))
theorem Ve (a0 : (List (List UInt8))) (m : Nat) : ∀ (v1 : Int) (v2 : Int), Ol (wI a0 m v1 v2) 31 (zQ Tryz.f31 0) ⟨[(0, vq (zi za) a0), (1, vi v1), (5, vi v2)], [], 0⟩ fun o => match o with | .inl o_0 => (.ret, ⟨[(4, vi o_0)], [], 0⟩) | .inr (⟨o_1_0, o_1_1⟩) => (.exit 0, ⟨[(0, vq (zi za) a0), (1, vi o_1_0), (5, vi o_1_1), (15, vb false)], [], 0⟩) := by
  induction m with
  | zero => intro v1 v2 o h; cases h
  | succ m ih => exact fun v1 v2 => tlp (
   .le (zi za) a0 <|
   .lI v2 (a0.length : Int) (fun c1 =>
    .na v2 fun i2 =>
    .ix0 (zi za) a0 i2 fun x3 =>
    .cl (Ja x3 v1) fun r4 =>
    .lI r4 0 (fun c5 =>
     .ret (.inl (-1))) fun c5 =>
    .go (ih r4 (w64 (v2 + 1)))) fun c1 =>
   .ret (.inr (v1, v2)))
def Zp (n : Nat) (a0 : (List (List UInt8))) (a1 : Int) : Option Int :=
 if (w64 (a1 - (a0.length : Int))) < 0 then
  some (-1)
 else
 (wI a0 n (w64 (a1 - (a0.length : Int))) 0).bind fun o2 =>
 match o2 with
 | .inl o2_0 =>
  some o2_0
 | .inr (⟨o2_1_0, o2_1_1⟩) =>
  some o2_1_0
theorem Pe (n : Nat) : Jb (Zp n) := fun a0 a1 => tc (
 .le (zi za) a0 <|
 .lI (w64 (a1 - (a0.length : Int))) 0 (fun c1 =>
  .ret (-1)) fun c1 =>
 .l2 (Ve a0 n (w64 (a1 - (a0.length : Int))) 0) (fun o2_0 =>
  .ret o2_0) fun ⟨o2_1_0, o2_1_1⟩ =>
 .ret o2_1_0) (zj Tryz.func31)
def MdB (k : List (List UInt8)) : Prop := k.length <= 2 ^ 63 - 1 ∧ ∀ b ∈ k, b.length <= 2 ^ 63 - 1
theorem Pf {a : List UInt8} {n : Int} (h : a.length <= 2 ^ 63 - 1) (h0 : 0 <= n) (h1 : n <= 2 ^ 20) : kM a n = some (if (a.length : Int) <= n then n - a.length else -1) := by
 unfold kM
 rw [yu (by omega) (by omega)]
 by_cases hc : (a.length : Int) <= n
 ·rw [if_neg (by omega), if_pos hc]
 ·rw [if_pos (by omega), if_neg hc]
theorem LT {a : List (List UInt8)} (ha : a.length <= 2 ^ 20) (hb : ∀ b ∈ a, b.length <= 2 ^ 63 - 1) : ∀ (d i m : Nat) (r : Int), i + d = a.length → d < m → 0 <= r → r <= 2 ^ 20 →
  ∃ z, wI a m r (i : Int) = some (if (((a.drop i).map List.length).sum : Int) <= r then .inr (r - ((a.drop i).map List.length).sum, z) else .inl (-1)) := by
 intro d
 induction d with
 | zero =>
  intro i m r hi hm h0 h1
  obtain ⟨m, rfl, _⟩ := zg hm
  refine ⟨(i : Int), ?_⟩
  rw [wI, if_neg (by omega), List.drop_eq_nil_of_le (by omega)]
  rw [List.map_nil, List.sum_nil, if_pos (by simpa using h0)]; simp
 | succ d ih =>
  intro i m r hi hm h0 h1
  obtain ⟨m, rfl, hm'⟩ := zg hm
  have hil : i < a.length := by omega
  have hx := hb a[i] (List.getElem_mem hil)
  rw [wI, if_pos (by omega), zl, Option.bind_some, zr hil, Option.bind_some, Pf hx h0 h1, Option.bind_some]
  rw [xr hil, List.map_cons, List.sum_cons]
  by_cases hc : ((a[i]).length : Int) <= r
  ·rw [if_pos hc, if_neg (by omega), yt (by omega)]
   obtain ⟨z, hz⟩ := ih (i + 1) m (r - (a[i]).length) (by omega) (by omega) (by omega) (by omega)
   refine ⟨z, ?_⟩
   rw [hz]
   by_cases hd : (((a.drop (i + 1)).map List.length).sum : Int) <= r - (a[i]).length
   ·rw [if_pos hd, if_pos (by omega)]; congr 3; omega
   ·rw [if_neg hd, if_neg (by omega)]
  ·refine ⟨0, ?_⟩
   rw [if_neg hc, if_pos (by omega), if_neg (by omega)]
theorem N0 {a : List (List UInt8)} {n : Int} (h : MdB a ∧ 0 <= n ∧ n <= 2 ^ 20) : Zp (a.length + 1) a n = some (if (bsz a : Int) <= n then n - bsz a else -1) := by
 obtain ⟨⟨ha, hb⟩, h0, h1⟩ := h
 unfold Zp
 rw [yu (by omega) (by omega)]
 unfold bsz
 by_cases hc : (a.length : Int) <= n
 ·rw [if_neg (by omega)]
  obtain ⟨z, hz⟩ := LT (by omega) hb a.length 0 (a.length + 1) (n - a.length) (by omega) (by omega) (by omega) (by omega)
  rw [show ((0 : Nat) : Int) = 0 from rfl] at hz
  rw [hz]
  simp only [List.drop_zero]
  by_cases hd : ((a.map List.length).sum : Int) <= n - a.length
  ·rw [if_pos hd, if_pos (by omega)]
   simp only [Option.bind_some]; congr 1; omega
  ·rw [if_neg hd, if_neg (by omega)]; rfl
 ·rw [if_pos (by omega), if_neg (by omega)]
open Classical in
noncomputable def jY (a0 : (List (List UInt8))) (a1 : Int) : Option Int := if MdB a0 ∧ 0 <= a1 ∧ a1 <= 2 ^ 20 then some (if (bsz a0 : Int) <= a1 then a1 - bsz a0 else -1) else none
theorem VI (a0 : (List (List UInt8))) (a1 : Int) (r : Int) (h : jY a0 a1 = some r) : ∃ n, Zp n a0 a1 = some r := by
 unfold jY at h
 obtain ⟨hp, h⟩ := yc h
 exact ⟨_, by rw [<- h]; exact N0 hp⟩
theorem TG : Jb jY := fun a0 a1 r h => (VI a0 a1 r h).elim fun n hn => Pe n a0 a1 r hn
def ZW (F : (List GExpr) → Int → Option Int) : Prop := ∀ (a0 : (List GExpr)) (a1 : Int), Oc (F a0 a1) 32 [] [vq zd a0, vi a1] fun r => (vi r, [])
def vK (F : GExpr → Int → Option Int) : Prop := ∀ (a0 : GExpr) (a1 : Int), Oc (F a0 a1) 6 [] [.val true (zs a0), vi a1] fun r => (vi r, [])
def qg (G_laws_szExpr : GExpr → Int → Option Int) (a0 : (List GExpr)) : Nat → Int → Int → Option (Int ⊕ (Int × Int))
  | 0, _, _ => none
  | m + 1, v1, v2 =>
  if v2 < (a0.length : Int) then
   (zH v2).bind fun i2 =>
   (a0[i2]?).bind fun x3 =>
   (G_laws_szExpr x3 v1).bind fun r4 =>
   if r4 < 0 then
    some (.inl (-1))
   else
   qg G_laws_szExpr a0 m r4 (w64 (v2 + 1))
  else
  some (.inr (v1, v2))
theorem VJ (G_laws_szExpr : GExpr → Int → Option Int) (H_laws_szExpr : vK G_laws_szExpr) (a0 : (List GExpr)) (m : Nat) : ∀ (v1 : Int) (v2 : Int), Ol (qg G_laws_szExpr a0 m v1 v2) 32 (zQ Tryz.f32 0) ⟨[(0, vq zd a0), (1, vi v1), (5, vi v2)], [], 0⟩ fun o => match o with | .inl o_0 => (.ret, ⟨[(4, vi o_0)], [], 0⟩) | .inr (⟨o_1_0, o_1_1⟩) => (.exit 0, ⟨[(0, vq zd a0), (1, vi o_1_0), (5, vi o_1_1), (15, vb false)], [], 0⟩) := by
  induction m with
  | zero => intro v1 v2 o h; cases h
  | succ m ih => exact fun v1 v2 => tlp (
   .le zd a0 <|
   .lI v2 (a0.length : Int) (fun c1 =>
    .na v2 fun i2 =>
    .ix eq_GExpr a0 i2 fun x3 =>
    .cl (H_laws_szExpr x3 v1) fun r4 =>
    .lI r4 0 (fun c5 =>
     .ret (.inl (-1))) fun c5 =>
    .go (ih r4 (w64 (v2 + 1)))) fun c1 =>
   .ret (.inr (v1, v2)))
def ZX (G_laws_szExpr : GExpr → Int → Option Int) (n : Nat) (a0 : (List GExpr)) (a1 : Int) : Option Int :=
 if (w64 (a1 - (a0.length : Int))) < 0 then
  some (-1)
 else
 (qg G_laws_szExpr a0 n (w64 (a1 - (a0.length : Int))) 0).bind fun o2 =>
 match o2 with
 | .inl o2_0 =>
  some o2_0
 | .inr (⟨o2_1_0, o2_1_1⟩) =>
  some o2_1_0
theorem O0 (G_laws_szExpr : GExpr → Int → Option Int) (H_laws_szExpr : vK G_laws_szExpr) (n : Nat) : ZW (ZX G_laws_szExpr n) := fun a0 a1 => tc (
 .le zd a0 <|
 .lI (w64 (a1 - (a0.length : Int))) 0 (fun c1 =>
  .ret (-1)) fun c1 =>
 .l2 (VJ G_laws_szExpr H_laws_szExpr a0 n (w64 (a1 - (a0.length : Int))) 0) (fun o2_0 =>
  .ret o2_0) fun ⟨o2_1_0, o2_1_1⟩ =>
 .ret o2_1_0) (zj Tryz.func32)
def WC (G_laws_szExprS : (List GExpr) → Int → Option Int) (a0 : GExpr) (a1 : Int) : Option Int :=
 (kM a0.S a1).bind fun r1 =>
 if r1 < 0 then
  some (-1)
 else
 (jY a0.K r1).bind fun r3 =>
 if r3 < 0 then
  some (-1)
 else
 (G_laws_szExprS a0.Kids r3).bind fun r5 =>
 if r5 < 0 then
  some (-1)
 else
 some r5
theorem LU (G_laws_szExprS : (List GExpr) → Int → Option Int) (H_laws_szExprS : ZW G_laws_szExprS) : vK (WC G_laws_szExprS) := fun a0 a1 => tc (
 .cl (Ja a0.S a1) fun r1 =>
 .lI r1 0 (fun c2 =>
  .ret (-1)) fun c2 =>
 .cl (TG a0.K r1) fun r3 =>
 .lI r3 0 (fun c4 =>
  .ret (-1)) fun c4 =>
 .cl (H_laws_szExprS a0.Kids r3) fun r5 =>
 .lI r5 0 (fun c6 =>
  .ret (-1)) fun c6 =>
 .ret r5) (zj Tryz.func6)
mutual
def wJ : Nat → (List GExpr) → Int → Option Int
 | 0, _, _ => none
 | n + 1, a0, a1 => ZX (qr n) n a0 a1
def qr : Nat → GExpr → Int → Option Int
 | 0, _, _ => none
 | n + 1, a0, a1 => WC (wJ n) a0 a1
end
theorem Qx (n : Nat) : ZW (wJ n) ∧ vK (qr n) := by
 induction n with
 | zero => exact ⟨fun _ _ _ h => (by rw [wJ] at h; cases h), fun _ _ _ h => (by rw [qr] at h; cases h)⟩
 | succ n ih =>
  obtain ⟨ih_laws_szExprS, ih_laws_szExpr⟩ := ih
  exact ⟨fun a0 a1 r h => O0 (qr n) ih_laws_szExpr n a0 a1 r (by rw [wJ] at h; exact h),
   fun a0 a1 r h => LU (wJ n) ih_laws_szExprS a0 a1 r (by rw [qr] at h; exact h)⟩
mutual
def MdX : GExpr → Prop
 | .mk _ _ s k l => s.length <= 2 ^ 63 - 1 ∧ MdB k ∧ l.length <= 2 ^ 63 - 1 ∧ Ky l
def Ky : List GExpr → Prop
 | [] => True
 | v :: l => MdX v ∧ Ky l
end
theorem N1 {l : List GExpr} (h : Ky l) {v : GExpr} (hv : v ∈ l) : MdX v := by
 induction l with
 | nil => cases hv
 | cons x l ih =>
  simp only [Ky] at h
  rcases List.mem_cons.1 hv with rfl | hv
  ·exact h.1
  ·exact ih h.2 hv
theorem Dq (v : GExpr) : MdX v = (v.S.length <= 2 ^ 63 - 1 ∧ MdB v.K ∧ v.Kids.length <= 2 ^ 63 - 1 ∧ Ky v.Kids) := by cases v; simp only [MdX, GExpr.S, GExpr.K, GExpr.Kids]
def xin (l : List GExpr) : Nat := (l.map xsz).sum
theorem BQ (l : List GExpr) : z8 l = l.length + xin l := by
 unfold xin
 induction l with
 | nil => rfl
 | cons v l ih => simp only [z8, ih, List.length_cons, List.map_cons, List.sum_cons]; omega
theorem N2 {G : GExpr → Int → Option Int} {a : List GExpr} (ha : a.length <= 2 ^ 20) (hG : ∀ v ∈ a, ∀ n : Int, 0 <= n → n <= 2 ^ 20 → G v n = some (YM (xsz v) n)) : ∀ (d i m : Nat) (r : Int), i + d = a.length → d < m → 0 <= r → r <= 2 ^ 20 →
  ∃ z, qg G a m r (i : Int) = some (if (xin (a.drop i) : Int) <= r then .inr (r - xin (a.drop i), z) else .inl (-1)) := by
 intro d
 induction d with
 | zero =>
  intro i m r hi hm h0 h1
  obtain ⟨m, rfl, _⟩ := zg hm
  refine ⟨(i : Int), ?_⟩
  rw [qg, if_neg (by omega), List.drop_eq_nil_of_le (by omega)]
  simp only [xin, List.map_nil, List.sum_nil]
  rw [if_pos (by simpa using h0)]; simp
 | succ d ih =>
  intro i m r hi hm h0 h1
  obtain ⟨m, rfl, hm'⟩ := zg hm
  have hil : i < a.length := by omega
  rw [qg, if_pos (by omega), zl, Option.bind_some, zr hil, Option.bind_some, hG _ (List.getElem_mem hil) r h0 h1, Option.bind_some]
  have hv : xin (a.drop i) = xsz a[i] + xin (a.drop (i + 1)) := by simp only [xin, xr hil, List.map_cons, List.sum_cons]
  rw [hv]
  unfold YM
  by_cases hc : (xsz a[i] : Int) <= r
  ·rw [if_pos hc, if_neg (by omega), yt (by omega)]
   obtain ⟨z, hz⟩ := ih (i + 1) m (r - xsz a[i]) (by omega) (by omega) (by omega) (by omega)
   refine ⟨z, ?_⟩
   rw [hz]
   by_cases hd : (xin (a.drop (i + 1)) : Int) <= r - xsz a[i]
   ·rw [if_pos hd, if_pos (by omega)]; congr 3; omega
   ·rw [if_neg hd, if_neg (by omega)]
  ·refine ⟨0, ?_⟩
   rw [if_neg hc, if_pos (by omega), if_neg (by omega)]
theorem L4 {G : GExpr → Int → Option Int} {a : List GExpr} {f : Nat} {n : Int} (ha : a.length <= 2 ^ 63 - 1) (h0 : 0 <= n) (h1 : n <= 2 ^ 20) (hf : a.length < f ∨ n < a.length) (hG : ∀ v ∈ a, ∀ n : Int, 0 <= n → n <= 2 ^ 20 → G v n = some (YM (xsz v) n)) :
  ZX G f a n = some (YM (z8 a) n) := by
 unfold ZX
 rw [yu (by omega) (by omega), BQ]
 unfold YM
 by_cases hc : (a.length : Int) <= n
 ·rw [if_neg (by omega)]
  obtain ⟨z, hz⟩ := N2 (G := G) (by omega) hG a.length 0 f (n - a.length) (by omega) (by omega) (by omega) (by omega)
  rw [show ((0 : Nat) : Int) = 0 from rfl] at hz
  rw [hz]
  simp only [List.drop_zero]
  by_cases hd : (xin a : Int) <= n - a.length
  ·rw [if_pos hd, if_pos (by omega)]
   simp only [Option.bind_some]; congr 1; omega
  ·rw [if_neg hd, if_neg (by omega)]; rfl
 ·rw [if_pos (by omega), if_neg (by omega)]
theorem N3 : ∀ (N : Nat) (v : GExpr), xsz v < N → MdX v → ∀ (f : Nat) (n : Int), 2 * xsz v + 3 <= f → 0 <= n → n <= 2 ^ 20 → qr f v n = some (YM (xsz v) n) := by
 intro N
 induction N with
 | zero => intro v hv; omega
 | succ N ih =>
  intro v hv hmd f n hf h0 h1
  obtain ⟨f, rfl, _⟩ := zg (show 0 < f by omega)
  rw [Dq] at hmd
  have he := xv v
  have hl := yF v.Kids
  obtain ⟨f, rfl, _⟩ := zg (show 0 < f by omega)
  rw [qr]
  unfold WC
  rw [Pf hmd.1 h0 h1, Option.bind_some]
  unfold YM
  by_cases c1 : (v.S.length : Int) <= n
  ·rw [if_pos c1, if_neg (by omega)]
   unfold jY
   rw [if_pos ⟨hmd.2.1, by omega, by omega⟩, Option.bind_some]
   by_cases c2 : (bsz v.K : Int) <= n - v.S.length
   ·rw [if_pos c2, if_neg (by omega)]
    rw [wJ, L4 hmd.2.2.1 (by omega) (by omega) (.inl (by omega)) (fun x hx m g0 g1 => ?_), Option.bind_some]
    ·unfold YM
     by_cases c3 : (z8 v.Kids : Int) <= n - v.S.length - bsz v.K
     ·rw [if_pos c3, if_neg (by omega), if_pos (by omega)]; congr 1; omega
     ·rw [if_neg c3, if_pos (by omega), if_neg (by omega)]
    ·have := xA hx
     exact ih x (by omega) (N1 hmd.2.2.2 hx) f m (by omega) g0 g1
   ·rw [if_neg c2, if_pos (by omega), if_neg (by omega)]
  ·rw [if_neg c1, if_pos (by omega), if_neg (by omega)]
open Classical in
noncomputable def XL (a0 : (List GExpr)) (a1 : Int) : Option Int := if a0.length <= 2 ^ 63 - 1 ∧ Ky a0 ∧ 0 <= a1 ∧ a1 <= 2 ^ 20 then some (YM (z8 a0) a1) else none
theorem RN (a0 : (List GExpr)) (a1 : Int) (r : Int) (h : XL a0 a1 = some r) : ∃ n, wJ n a0 a1 = some r := by
 unfold XL at h
 obtain ⟨⟨hl, hm, h0, h1⟩, h⟩ := yc h
 refine ⟨2 * z8 a0 + 5, ?_⟩
 have := yF a0
 rw [wJ, L4 hl h0 h1 (.inl (by omega)) fun x hx m g0 g1 => ?_, h]
 have := xA hx
 exact N3 _ x (Nat.lt_succ_self _) (N1 hm hx) _ m (by omega) g0 g1
open Classical in
noncomputable def vL (a0 : GExpr) (a1 : Int) : Option Int := if MdX a0 ∧ 0 <= a1 ∧ a1 <= 2 ^ 20 then some (YM (xsz a0) a1) else none
theorem TH (a0 : GExpr) (a1 : Int) (r : Int) (h : vL a0 a1 = some r) : ∃ n, qr n a0 a1 = some r := by
 unfold vL at h
 obtain ⟨⟨hm, h0, h1⟩, h⟩ := yc h
 exact ⟨2 * xsz a0 + 3, by rw [<- h]; exact N3 _ a0 (Nat.lt_succ_self _) hm _ a1 (Nat.le_refl _) h0 h1⟩
theorem zbd : ZW XL := by
 intro a0 a1 r h
 obtain ⟨n, hn⟩ := RN a0 a1 r h
 exact (Qx n).1 a0 a1 r hn
theorem O1 : vK vL := by
 intro a0 a1 r h
 obtain ⟨n, hn⟩ := TH a0 a1 r h
 exact (Qx n).2 a0 a1 r hn
def JC (F : (List UInt8) → Option (List UInt8)) : Prop := ∀ (a0 : (List UInt8)), Oc (F a0) 36 [] [vq za a0] fun r => (.val false [.own 1 (eL za r)], [])
def qh (a0 : (List UInt8)) : Nat → Int → (List UInt8) → Option (Int × (List UInt8))
  | 0, _, _ => none
  | m + 1, v1, v2 =>
  if v1 < (a0.length : Int) then
   (zH v1).bind fun i2 =>
   (a0[i2]?).bind fun x3 =>
   (v2[i2]?).bind fun x4 =>
   qh a0 m (w64 (v1 + 1)) (v2.set i2 x3)
  else
  some (v1, v2)
theorem VK (a0 : (List UInt8)) (m : Nat) : ∀ (v1 : Int) (v2 : (List UInt8)), Ol (qh a0 m v1 v2) 36 (zQ Tryz.f36 0) ⟨[(0, vq za a0), (3, vr 0), (4, vi v1)], [.obj 1 (eL za v2)], 0⟩ fun o => match o with | ⟨o_0, o_1⟩ => (.exit 0, ⟨[(0, vq za a0), (3, vr 0), (4, vi o_0), (11, vb false)], [.obj 1 (eL za o_1)], 0⟩) := by
  induction m with
  | zero => intro v1 v2 o h; cases h
  | succ m ih => exact fun v1 v2 => tlp (
   .le za a0 <|
   .lI v1 (a0.length : Int) (fun c1 =>
    .na v1 fun i2 =>
    .ix0 za a0 i2 fun x3 =>
    .ag 1 <|
    .ix0 za v2 i2 fun x4 =>
    .ag 0 <|
    .sl (e := za) (x := x3) (c := [.int .u8 ((x3.toNat : Nat) : Int)]) rfl v2 i2 <|
    .go (ih (w64 (v1 + 1)) (v2.set i2 x3))) fun c1 =>
   .ret (v1, v2))
def XM (n : Nat) (a0 : (List UInt8)) : Option (List UInt8) :=
 (QZ 1 (a0.length : Int)).bind fun k1 =>
 (qh a0 n 0 (List.replicate k1 0)).bind fun ⟨o2_0, o2_1⟩ =>
 some o2_1
theorem O2 (n : Nat) : JC (XM n) := fun a0 => tc (
 .le za a0 <|
 .q (.eTo (a0.length : Int) (a0.length : Int) rfl) <|
 .md 1 (a0.length : Int) fun k1 =>
 .q ⟨.rep k1 [.int .u8 0], .l (eL za (List.replicate k1 0)), A.rep rfl⟩ <|
 .lp (VK a0 n 0 (List.replicate k1 0)) fun ⟨o2_0, o2_1⟩ =>
 .ret o2_1) (zj Tryz.func36)
theorem N4 {a : List UInt8} (ha : a.length <= 2 ^ 20) : ∀ (d i m : Nat) (v : List UInt8), i + d = a.length → d < m → Pre a v i → ∃ z, qh a m (i : Int) v = some (z, a) := by
 intro d
 induction d with
 | zero =>
  intro i m v hi hm hp
  obtain ⟨m, rfl, _⟩ := zg hm
  exact ⟨_, by rw [qh, if_neg (by omega), hp.done (by omega)]⟩
 | succ d ih =>
  intro i m v hi hm hp
  obtain ⟨m, rfl, hm'⟩ := zg hm
  have hil : i < a.length := by omega
  rw [qh, if_pos (by omega), zl, Option.bind_some, zr hil, Option.bind_some, zr (by rw [hp.1]; exact hil), Option.bind_some, yt (by omega)]
  exact ih (i + 1) m _ (by omega) (by omega) (hp.step hil)
def q7 (a0 : (List UInt8)) : Option (List UInt8) := if a0.length <= 2 ^ 20 then some a0 else none
theorem RO (a0 : (List UInt8)) (r : (List UInt8)) (h : q7 a0 = some r) : ∃ n, XM n a0 = some r := by
 unfold q7 at h
 obtain ⟨ha, h⟩ := yc h
 refine ⟨a0.length + 1, ?_⟩
 obtain ⟨z, hz⟩ := N4 ha a0.length 0 (a0.length + 1) (List.replicate a0.length 0) (by omega) (by omega) (Pre.start (by simp))
 unfold XM
 rw [Oz ha (by decide), Option.bind_some, show (0 : Int) = ((0 : Nat) : Int) from rfl, hz]
 exact h
theorem Jc : JC q7 := fun a0 r h => (RO a0 r h).elim fun n hn => O2 n a0 r hn
def Jd (F : (List (List UInt8)) → Option (List (List UInt8))) : Prop := ∀ (a0 : (List (List UInt8))), Oc (F a0) 37 [] [vq (zi za) a0] fun r => (.val false [.own 1 (eL (yC 1 za) r)], [])
def wK (a0 : (List (List UInt8))) : Nat → Int → (List (List UInt8)) → Option (Int × (List (List UInt8)))
  | 0, _, _ => none
  | m + 1, v1, v2 =>
  if v1 < (a0.length : Int) then
   (zH v1).bind fun i2 =>
   (a0[i2]?).bind fun x3 =>
   (q7 x3).bind fun r4 =>
   (v2[i2]?).bind fun x5 =>
   wK a0 m (w64 (v1 + 1)) (v2.set i2 r4)
  else
  some (v1, v2)
theorem Vf (a0 : (List (List UInt8))) (m : Nat) : ∀ (v1 : Int) (v2 : (List (List UInt8))), Ol (wK a0 m v1 v2) 37 (zQ Tryz.f37 0) ⟨[(0, vq (zi za) a0), (3, vr 0), (4, vi v1)], [.obj 1 (eL (yC 1 za) v2)], 0⟩ fun o => match o with | ⟨o_0, o_1⟩ => (.exit 0, ⟨[(0, vq (zi za) a0), (3, vr 0), (4, vi o_0), (11, vb false)], [.obj 1 (eL (yC 1 za) o_1)], 0⟩) := by
  induction m with
  | zero => intro v1 v2 o h; cases h
  | succ m ih => exact fun v1 v2 => tlp (
   .le (zi za) a0 <|
   .lI v1 (a0.length : Int) (fun c1 =>
    .na v1 fun i2 =>
    .ix0 (zi za) a0 i2 fun x3 =>
    .cl (Jc x3) fun r4 =>
    .ag 2 <|
    .ix0 (yC 1 za) v2 i2 fun x5 =>
    .ag 0 <|
    .sl (e := (yC 1 za)) (x := r4) (c := [.own 1 (eL za r4)]) rfl v2 i2 <|
    .go (ih (w64 (v1 + 1)) (v2.set i2 r4))) fun c1 =>
   .ret (v1, v2))
def Xw (n : Nat) (a0 : (List (List UInt8))) : Option (List (List UInt8)) :=
 (QZ 24 (a0.length : Int)).bind fun k1 =>
 (wK a0 n 0 (List.replicate k1 [])).bind fun ⟨o2_0, o2_1⟩ =>
 some o2_1
theorem Pg (n : Nat) : Jd (Xw n) := fun a0 => tc (
 .le (zi za) a0 <|
 .q (.eTo (a0.length : Int) (a0.length : Int) rfl) <|
 .md 24 (a0.length : Int) fun k1 =>
 .q ⟨.rep k1 [.own 1 []], .l (eL (yC 1 za) (List.replicate k1 [])), A.rep rfl⟩ <|
 .lp (Vf a0 n 0 (List.replicate k1 [])) fun ⟨o2_0, o2_1⟩ =>
 .ret o2_1) (zj Tryz.func37)
theorem LV {a : List (List UInt8)} (ha : bsz a <= 2 ^ 20) : ∀ (d i m : Nat) (v : List (List UInt8)), i + d = a.length → d < m → Pre a v i → ∃ z, wK a m (i : Int) v = some (z, a) := by
 have hl := qJ a
 intro d
 induction d with
 | zero =>
  intro i m v hi hm hp
  obtain ⟨m, rfl, _⟩ := zg hm
  exact ⟨_, by rw [wK, if_neg (by omega), hp.done (by omega)]⟩
 | succ d ih =>
  intro i m v hi hm hp
  obtain ⟨m, rfl, hm'⟩ := zg hm
  have hil : i < a.length := by omega
  have hx := Xl (List.getElem_mem hil)
  rw [wK, if_pos (by omega), zl, Option.bind_some, zr hil, Option.bind_some]
  unfold q7
  rw [if_pos (by omega), Option.bind_some, zr (by rw [hp.1]; exact hil), Option.bind_some, yt (by omega)]
  exact ih (i + 1) m _ (by omega) (by omega) (hp.step hil)
def jZ (a0 : (List (List UInt8))) : Option (List (List UInt8)) := if bsz a0 <= 2 ^ 20 then some a0 else none
theorem VL (a0 : (List (List UInt8))) (r : (List (List UInt8))) (h : jZ a0 = some r) : ∃ n, Xw n a0 = some r := by
 unfold jZ at h
 obtain ⟨ha, h⟩ := yc h
 have hl := qJ a0
 refine ⟨a0.length + 1, ?_⟩
 obtain ⟨z, hz⟩ := LV ha a0.length 0 (a0.length + 1) (List.replicate a0.length []) (by omega) (by omega) (Pre.start (by simp))
 unfold Xw
 rw [Oz (by omega) (by decide), Option.bind_some, show (0 : Int) = ((0 : Nat) : Int) from rfl, hz]
 exact h
theorem TJ : Jd jZ := fun a0 r h => (VL a0 r h).elim fun n hn => Pg n a0 r hn
def ZY (F : (List GExpr) → Option (List GExpr)) : Prop := ∀ (a0 : (List GExpr)), Oc (F a0) 38 [] [vq zd a0] fun r => (.val false [.own 5 (eL z7 r)], [])
def vP (F : GExpr → Option GExpr) : Prop := ∀ (a0 : GExpr), Oc (F a0) 8 [] [.val true (zs a0)] fun r => (.val true (yL r), [])
def qi (G_laws_toExpr : GExpr → Option GExpr) (a0 : (List GExpr)) : Nat → Int → (List GExpr) → Option (Int × (List GExpr))
  | 0, _, _ => none
  | m + 1, v1, v2 =>
  if v1 < (a0.length : Int) then
   (zH v1).bind fun i2 =>
   (a0[i2]?).bind fun x3 =>
   (G_laws_toExpr x3).bind fun r4 =>
   (v2[i2]?).bind fun x5 =>
   qi G_laws_toExpr a0 m (w64 (v1 + 1)) (v2.set i2 r4)
  else
  some (v1, v2)
theorem VM (G_laws_toExpr : GExpr → Option GExpr) (H_laws_toExpr : vP G_laws_toExpr) (a0 : (List GExpr)) (m : Nat) : ∀ (v1 : Int) (v2 : (List GExpr)), Ol (qi G_laws_toExpr a0 m v1 v2) 38 (zQ Tryz.f38 0) ⟨[(0, vq zd a0), (3, vr 0), (4, vi v1)], [.obj 5 (eL z7 v2)], 0⟩ fun o => match o with | ⟨o_0, o_1⟩ => (.exit 0, ⟨[(0, vq zd a0), (3, vr 0), (4, vi o_0), (11, vb false)], [.obj 5 (eL z7 o_1)], 0⟩) := by
  induction m with
  | zero => intro v1 v2 o h; cases h
  | succ m ih => exact fun v1 v2 => tlp (
   .le zd a0 <|
   .lI v1 (a0.length : Int) (fun c1 =>
    .na v1 fun i2 =>
    .ix eq_GExpr a0 i2 fun x3 =>
    .cl (H_laws_toExpr x3) fun r4 =>
    .ag 2 <|
    .ix y3 v2 i2 fun x5 =>
    .ag 0 <|
    .sl (y3 r4) v2 i2 <|
    .go (ih (w64 (v1 + 1)) (v2.set i2 r4))) fun c1 =>
   .ret (v1, v2))
def ZZ (G_laws_toExpr : GExpr → Option GExpr) (n : Nat) (a0 : (List GExpr)) : Option (List GExpr) :=
 (QZ 88 (a0.length : Int)).bind fun k1 =>
 (qi G_laws_toExpr a0 n 0 (List.replicate k1 (GExpr.mk 0 0 [] [] []))).bind fun ⟨o2_0, o2_1⟩ =>
 some o2_1
theorem O3 (G_laws_toExpr : GExpr → Option GExpr) (H_laws_toExpr : vP G_laws_toExpr) (n : Nat) : ZY (ZZ G_laws_toExpr n) := fun a0 => tc (
 .le zd a0 <|
 .q (.eTo (a0.length : Int) (a0.length : Int) rfl) <|
 .md 88 (a0.length : Int) fun k1 =>
 .q ⟨.rep k1 [.int .i64 0, .int .i64 0, .own 1 [], .own 1 [], .own 5 []], .l (eL z7 (List.replicate k1 (GExpr.mk 0 0 [] [] []))), A.rep (y3 (GExpr.mk 0 0 [] [] []))⟩ <|
 .lp (VM G_laws_toExpr H_laws_toExpr a0 n 0 (List.replicate k1 (GExpr.mk 0 0 [] [] []))) fun ⟨o2_0, o2_1⟩ =>
 .ret o2_1) (zj Tryz.func38)
def WD (G_laws_toExprS : (List GExpr) → Option (List GExpr)) (a0 : GExpr) : Option GExpr :=
 (q7 a0.S).bind fun r1 =>
 (jZ a0.K).bind fun r2 =>
 (G_laws_toExprS a0.Kids).bind fun r3 =>
 some (GExpr.mk a0.Kind a0.N r1 r2 r3)
theorem LW (G_laws_toExprS : (List GExpr) → Option (List GExpr)) (H_laws_toExprS : ZY G_laws_toExprS) : vP (WD G_laws_toExprS) := fun a0 => tc (
 .cl (Jc a0.S) fun r1 =>
 .cl (TJ a0.K) fun r2 =>
 .cl (H_laws_toExprS a0.Kids) fun r3 =>
 .ret (GExpr.mk a0.Kind a0.N r1 r2 r3)) (zj Tryz.func8)
mutual
def wL : Nat → (List GExpr) → Option (List GExpr)
 | 0, _ => none
 | n + 1, a0 => ZZ (qu n) n a0
def qu : Nat → GExpr → Option GExpr
 | 0, _ => none
 | n + 1, a0 => WD (wL n) a0
end
theorem Qy (n : Nat) : ZY (wL n) ∧ vP (qu n) := by
 induction n with
 | zero => exact ⟨fun _ _ h => (by rw [wL] at h; cases h), fun _ _ h => (by rw [qu] at h; cases h)⟩
 | succ n ih =>
  obtain ⟨ih_laws_toExprS, ih_laws_toExpr⟩ := ih
  exact ⟨fun a0 r h => O3 (qu n) ih_laws_toExpr n a0 r (by rw [wL] at h; exact h),
   fun a0 r h => LW (wL n) ih_laws_toExprS a0 r (by rw [qu] at h; exact h)⟩
theorem L5 {G : GExpr → Option GExpr} {a : List GExpr} {f : Nat} (ha : a.length <= 2 ^ 20) (hf : a.length < f) (hG : ∀ v ∈ a, G v = some v) : ZZ G f a = some a := by
 have loop : ∀ (d i m : Nat) (v : List GExpr), i + d = a.length → d < m → Pre a v i → ∃ z, qi G a m (i : Int) v = some (z, a) := by
  intro d
  induction d with
  | zero =>
   intro i m v hi hm hp
   obtain ⟨m, rfl, _⟩ := zg hm
   exact ⟨_, by rw [qi, if_neg (by omega), hp.done (by omega)]⟩
  | succ d ih =>
   intro i m v hi hm hp
   obtain ⟨m, rfl, hm'⟩ := zg hm
   have hil : i < a.length := by omega
   rw [qi, if_pos (by omega), zl, Option.bind_some, zr hil, Option.bind_some, hG _ (List.getElem_mem hil), Option.bind_some, zr (by rw [hp.1]; exact hil), Option.bind_some, yt (by omega)]
   exact ih (i + 1) m _ (by omega) (by omega) (hp.step hil)
 obtain ⟨z, hz⟩ := loop a.length 0 f (List.replicate a.length (GExpr.mk 0 0 [] [] [])) (by omega) (by omega) (Pre.start (by simp))
 rw [show ((0 : Nat) : Int) = 0 from rfl] at hz
 unfold ZZ
 rw [Oz ha (by decide), Option.bind_some, hz]; rfl
theorem N5 : ∀ (N : Nat) (v : GExpr), xsz v < N → xsz v <= 2 ^ 20 → ∀ f : Nat, 2 * xsz v + 3 <= f → qu f v = some v := by
 intro N
 induction N with
 | zero => intro v hv; omega
 | succ N ih =>
  intro v hv hs f hf
  obtain ⟨f, rfl, _⟩ := zg (show 0 < f by omega)
  obtain ⟨f, rfl, _⟩ := zg (show 0 < f by omega)
  have he := xv v
  have hl := yF v.Kids
  rw [qu]
  unfold WD q7 jZ
  rw [if_pos (by omega), Option.bind_some, if_pos (by omega), Option.bind_some, wL, L5 (by omega) (by omega) fun x hx => ?_, Option.bind_some, GExpr.eta]
  have := xA hx
  exact ih x (by omega) (by omega) f (by omega)
def XN (a0 : (List GExpr)) : Option (List GExpr) := if z8 a0 <= 2 ^ 20 then some a0 else none
theorem RP (a0 : (List GExpr)) (r : (List GExpr)) (h : XN a0 = some r) : ∃ n, wL n a0 = some r := by
 unfold XN at h
 obtain ⟨ha, h⟩ := yc h
 have hl := yF a0
 refine ⟨2 * z8 a0 + 5, ?_⟩
 rw [wL, L5 (by omega) (by omega) fun x hx => ?_, h]
 have := xA hx
 exact N5 _ x (Nat.lt_succ_self _) (by omega) _ (by omega)
def vQ (a0 : GExpr) : Option GExpr := if xsz a0 <= 2 ^ 20 then some a0 else none
theorem TK (a0 : GExpr) (r : GExpr) (h : vQ a0 = some r) : ∃ n, qu n a0 = some r := by
 unfold vQ at h
 obtain ⟨ha, h⟩ := yc h
 exact ⟨2 * xsz a0 + 3, by rw [<- h]; exact N5 _ a0 (Nat.lt_succ_self _) ha _ (Nat.le_refl _)⟩
theorem zbe : ZY XN := by
 intro a0 r h
 obtain ⟨n, hn⟩ := RP a0 r h
 exact (Qy n).1 a0 r hn
theorem O4 : vP vQ := by
 intro a0 r h
 obtain ⟨n, hn⟩ := TK a0 r h
 exact (Qy n).2 a0 r hn
def kN (a0 : Int) : Option Int :=
 if a0 = 4 then
  some (-1)
 else
 if a0 = 5 then
  some (-1)
 else
 if a0 = 23 then
  some (-1)
 else
 if a0 = 8 then
  some 1
 else
 if a0 = 13 then
  some 1
 else
 if a0 = 14 then
  some 1
 else
 if a0 = 9 then
  some 2
 else
 if a0 = 15 then
  some 2
 else
 if a0 = 16 then
  some 2
 else
 if a0 = 17 then
  some 2
 else
 if a0 = 18 then
  some 2
 else
 if a0 = 19 then
  some 2
 else
 if a0 = 20 then
  some 2
 else
 if a0 = 21 then
  some 2
 else
 if a0 = 22 then
  some 3
 else
 some 0
theorem Ph (a0 : Int) : Oc (kN a0) 125 [] [vi a0] fun r => (vi r, []) := tc (
 .eI a0 4 (fun c1 =>
  .ret (-1)) fun c1 =>
 .eI a0 5 (fun c2 =>
  .ret (-1)) fun c2 =>
 .eI a0 23 (fun c3 =>
  .ret (-1)) fun c3 =>
 .eI a0 8 (fun c4 =>
  .ret 1) fun c4 =>
 .eI a0 13 (fun c5 =>
  .ret 1) fun c5 =>
 .eI a0 14 (fun c6 =>
  .ret 1) fun c6 =>
 .eI a0 9 (fun c7 =>
  .ret 2) fun c7 =>
 .eI a0 15 (fun c8 =>
  .ret 2) fun c8 =>
 .eI a0 16 (fun c9 =>
  .ret 2) fun c9 =>
 .eI a0 17 (fun c10 =>
  .ret 2) fun c10 =>
 .eI a0 18 (fun c11 =>
  .ret 2) fun c11 =>
 .eI a0 19 (fun c12 =>
  .ret 2) fun c12 =>
 .eI a0 20 (fun c13 =>
  .ret 2) fun c13 =>
 .eI a0 21 (fun c14 =>
  .ret 2) fun c14 =>
 .eI a0 22 (fun c15 =>
  .ret 3) fun c15 =>
 .ret 0) (zj Tryz.func125)
def KU (F : (List UInt8) → Option Bool) : Prop := ∀ (a0 : (List UInt8)), Oc (F a0) 127 [] [vq za a0] fun r => (vb r, [])
def q8 (a0 : (List UInt8)) : Nat → Int → Option (Bool ⊕ Int)
  | 0, _ => none
  | m + 1, v1 =>
  if v1 < (a0.length : Int) then
   (zH v1).bind fun i2 =>
   (a0[i2]?).bind fun x3 =>
   if ((x3.toNat : Nat) : Int) < 97 then
    some (.inl false)
   else
   if 122 < ((x3.toNat : Nat) : Int) then
    some (.inl false)
   else
   q8 a0 m (w64 (v1 + 1))
  else
  some (.inr v1)
theorem RQ (a0 : (List UInt8)) (m : Nat) : ∀ (v1 : Int), Ol (q8 a0 m v1) 127 (zQ Tryz.f127 0) ⟨[(0, vq za a0), (3, vi v1)], [], 0⟩ fun o => match o with | .inl o_0 => (.ret, ⟨[(2, vb o_0)], [], 0⟩) | .inr (o_1) => (.exit 0, ⟨[(0, vq za a0), (3, vi o_1), (15, vb false)], [], 0⟩) := by
  induction m with
  | zero => intro v1 o h; cases h
  | succ m ih => exact fun v1 => tlp (
   .le za a0 <|
   .lI v1 (a0.length : Int) (fun c1 =>
    .na v1 fun i2 =>
    .ix0 za a0 i2 fun x3 =>
    .lI ((x3.toNat : Nat) : Int) 97 (fun c4 =>
     .ret (.inl false)) fun c4 =>
    .ag 1 <|
    .ag 0 <|
    .lI 122 ((x3.toNat : Nat) : Int) (fun c5 =>
     .ret (.inl false)) fun c5 =>
    .go (ih (w64 (v1 + 1)))) fun c1 =>
   .ret (.inr v1))
def WE (n : Nat) (a0 : (List UInt8)) : Option Bool :=
 if (a0.length : Int) < 1 then
  some false
 else
 if 8 < (a0.length : Int) then
  some false
 else
 (q8 a0 n 0).bind fun o3 =>
 match o3 with
 | .inl o3_0 =>
  some o3_0
 | .inr (o3_1) =>
  some true
theorem LX (n : Nat) : KU (WE n) := fun a0 => tc (
 .le za a0 <|
 .lI (a0.length : Int) 1 (fun c1 =>
  .ret false) fun c1 =>
 .le za a0 <|
 .lI 8 (a0.length : Int) (fun c2 =>
  .ret false) fun c2 =>
 .l2 (RQ a0 n 0) (fun o3_0 =>
  .ret o3_0) fun o3_1 =>
 .ret true) (zj Tryz.func127)
theorem TM {a : List UInt8} (ha : a.length <= 2 ^ 20) : ∀ (d i m : Nat), i + d = a.length → d < m → ∃ z, q8 a m (i : Int) = some (if (a.drop i).all (inB 97 122) = true then .inr z else .inl false) := by
 intro d
 induction d with
 | zero =>
  intro i m hi hm
  obtain ⟨m, rfl, _⟩ := zg hm
  exact ⟨_, by rw [q8, if_neg (by omega), List.drop_eq_nil_of_le (by omega)]; rfl⟩
 | succ d ih =>
  intro i m hi hm
  obtain ⟨m, rfl, hm'⟩ := zg hm
  have hil : i < a.length := by omega
  rw [q8, if_pos (by omega), zl, Option.bind_some, zr hil, Option.bind_some, yt (by omega), xr hil, List.all_cons]
  by_cases h1 : ((a[i].toNat : Nat) : Int) < 97
  ·exact ⟨0, by rw [if_pos h1, if_neg]; simp [inB]; omega⟩
  ·rw [if_neg h1]
   by_cases h2 : (122 : Int) < ((a[i].toNat : Nat) : Int)
   ·exact ⟨0, by rw [if_pos h2, if_neg]; simp [inB]; omega⟩
   ·rw [if_neg h2, show inB 97 122 a[i] = true by simp [inB]; omega, Bool.true_and]
    exact ih (i + 1) m (by omega) (by omega)
def yQ (a0 : (List UInt8)) : Option Bool := if a0.length <= 2 ^ 20 then some (xR a0) else none
theorem TN (a0 : (List UInt8)) (r : Bool) (h : yQ a0 = some r) : ∃ n, WE n a0 = some r := by
 unfold yQ at h
 obtain ⟨ha, h⟩ := yc h
 refine ⟨a0.length + 1, ?_⟩
 obtain ⟨z, hz⟩ := TM ha a0.length 0 (a0.length + 1) (by omega) (by omega)
 rw [show ((0 : Nat) : Int) = 0 from rfl, List.drop_zero] at hz
 unfold WE
 rw [<- h, hz]
 unfold xR
 by_cases h1 : 1 <= a0.length
 ·rw [if_neg (by omega)]
  by_cases hl : a0.length <= 8
  ·rw [if_neg (by omega), decide_eq_true ⟨h1, hl⟩]
   cases a0.all (inB 97 122) <;> rfl
  ·rw [if_pos (by omega), decide_eq_false (fun h => hl h.2)]; rfl
 ·rw [if_pos (by omega), decide_eq_false (fun h => h1 h.1)]; rfl
theorem xZ : KU yQ := fun a0 r h => (TN a0 r h).elim fun n hn => LX n a0 r hn
def KV (F : (List UInt8) → Option Bool) : Prop := ∀ (a0 : (List UInt8)), Oc (F a0) 126 [] [vq za a0] fun r => (vb r, [])
def q9 (a0 : (List UInt8)) : Nat → Int → Option (Bool ⊕ Int)
  | 0, _ => none
  | m + 1, v1 =>
  if v1 < (a0.length : Int) then
   (zH v1).bind fun i2 =>
   (a0[i2]?).bind fun x3 =>
   if ((x3.toNat : Nat) : Int) < 32 then
    some (.inl false)
   else
   if 126 < ((x3.toNat : Nat) : Int) then
    some (.inl false)
   else
   q9 a0 m (w64 (v1 + 1))
  else
  some (.inr v1)
theorem RR (a0 : (List UInt8)) (m : Nat) : ∀ (v1 : Int), Ol (q9 a0 m v1) 126 (zQ Tryz.f126 0) ⟨[(0, vq za a0), (3, vi v1)], [], 0⟩ fun o => match o with | .inl o_0 => (.ret, ⟨[(2, vb o_0)], [], 0⟩) | .inr (o_1) => (.exit 0, ⟨[(0, vq za a0), (3, vi o_1), (10, vb false)], [], 0⟩) := by
  induction m with
  | zero => intro v1 o h; cases h
  | succ m ih => exact fun v1 => tlp (
   .le za a0 <|
   .lI v1 (a0.length : Int) (fun c1 =>
    .na v1 fun i2 =>
    .ix0 za a0 i2 fun x3 =>
    .lI ((x3.toNat : Nat) : Int) 32 (fun c4 =>
     .ret (.inl false)) fun c4 =>
    .ag 1 <|
    .ag 0 <|
    .lI 126 ((x3.toNat : Nat) : Int) (fun c5 =>
     .ret (.inl false)) fun c5 =>
    .go (ih (w64 (v1 + 1)))) fun c1 =>
   .ret (.inr v1))
def WF (n : Nat) (a0 : (List UInt8)) : Option Bool :=
 if 20 < (a0.length : Int) then
  some false
 else
 (q9 a0 n 0).bind fun o2 =>
 match o2 with
 | .inl o2_0 =>
  some o2_0
 | .inr (o2_1) =>
  some true
theorem LY (n : Nat) : KV (WF n) := fun a0 => tc (
 .le za a0 <|
 .lI 20 (a0.length : Int) (fun c1 =>
  .ret false) fun c1 =>
 .l2 (RR a0 n 0) (fun o2_0 =>
  .ret o2_0) fun o2_1 =>
 .ret true) (zj Tryz.func126)
theorem TO {a : List UInt8} (ha : a.length <= 2 ^ 20) : ∀ (d i m : Nat), i + d = a.length → d < m → ∃ z, q9 a m (i : Int) = some (if (a.drop i).all (inB 32 126) = true then .inr z else .inl false) := by
 intro d
 induction d with
 | zero =>
  intro i m hi hm
  obtain ⟨m, rfl, _⟩ := zg hm
  exact ⟨_, by rw [q9, if_neg (by omega), List.drop_eq_nil_of_le (by omega)]; rfl⟩
 | succ d ih =>
  intro i m hi hm
  obtain ⟨m, rfl, hm'⟩ := zg hm
  have hil : i < a.length := by omega
  rw [q9, if_pos (by omega), zl, Option.bind_some, zr hil, Option.bind_some, yt (by omega), xr hil, List.all_cons]
  by_cases h1 : ((a[i].toNat : Nat) : Int) < 32
  ·exact ⟨0, by rw [if_pos h1, if_neg]; simp [inB]; omega⟩
  ·rw [if_neg h1]
   by_cases h2 : (126 : Int) < ((a[i].toNat : Nat) : Int)
   ·exact ⟨0, by rw [if_pos h2, if_neg]; simp [inB]; omega⟩
   ·rw [if_neg h2, show inB 32 126 a[i] = true by simp [inB]; omega, Bool.true_and]
    exact ih (i + 1) m (by omega) (by omega)
def jk (a0 : (List UInt8)) : Option Bool := if a0.length <= 2 ^ 20 then some (xo a0) else none
theorem TP (a0 : (List UInt8)) (r : Bool) (h : jk a0 = some r) : ∃ n, WF n a0 = some r := by
 unfold jk at h
 obtain ⟨ha, h⟩ := yc h
 refine ⟨a0.length + 1, ?_⟩
 obtain ⟨z, hz⟩ := TO ha a0.length 0 (a0.length + 1) (by omega) (by omega)
 rw [show ((0 : Nat) : Int) = 0 from rfl, List.drop_zero] at hz
 unfold WF
 rw [<- h, hz]
 unfold xo
 by_cases hl : a0.length <= 20
 ·rw [if_neg (by omega), decide_eq_true hl]
  cases a0.all (inB 32 126) <;> rfl
 ·rw [if_pos (by omega), decide_eq_false hl]; rfl
theorem XO : KV jk := fun a0 r h => (TP a0 r h).elim fun n hn => LY n a0 r hn
def KW (F : (List UInt8) → Option Bool) : Prop := ∀ (a0 : (List UInt8)), Oc (F a0) 128 [] [vq za a0] fun r => (vb r, [])
def qA (a0 : (List UInt8)) (v2 : (List (List UInt8))) : Nat → Int → Option (Bool ⊕ Int)
  | 0, _ => none
  | m + 1, v1 =>
  if v1 < (v2.length : Int) then
   (zH v1).bind fun i2 =>
   (v2[i2]?).bind fun x3 =>
   if x3 = a0 then
    some (.inl true)
   else
   qA a0 v2 m (w64 (v1 + 1))
  else
  some (.inr v1)
theorem RS (a0 : (List UInt8)) (v2 : (List (List UInt8))) (m : Nat) : ∀ (v1 : Int), Ol (qA a0 v2 m v1) 128 (zQ Tryz.f128 0) ⟨[(0, vq za a0), (3, vr 0), (4, vi v1)], [.obj 1 (eL Zo v2)], 0⟩ fun o => match o with | .inl o_0 => (.ret, ⟨[(2, vb o_0)], [], 0⟩) | .inr (o_1) => (.exit 0, ⟨[(0, vq za a0), (3, vr 0), (4, vi o_1), (9, vb false)], [.obj 1 (eL Zo v2)], 0⟩) := by
  induction m with
  | zero => intro v1 o h; cases h
  | succ m ih => exact fun v1 => tlp (
   .le Zo v2 <|
   .lI v1 (v2.length : Int) (fun c1 =>
    .na v1 fun i2 =>
    .ix0 Zo v2 i2 fun x3 =>
    .ag 0 <|
    .bt a0 <|
    .sI x3 a0 (fun c4 =>
     .ret (.inl true)) fun c4 =>
    .go (ih (w64 (v1 + 1)))) fun c1 =>
   .ret (.inr v1))
def WG (n : Nat) (a0 : (List UInt8)) : Option Bool :=
 (qA a0 [[110, 117, 108, 108], [116, 114, 117, 101], [102, 97, 108, 115, 101], [105, 110, 100, 101, 120], [107, 101, 121], [118, 97, 108], [108, 111, 99, 97, 108], [114, 101, 115], [111, 117, 116], [99, 111, 117, 110, 116], [101, 97, 99, 104]] n 0).bind fun o1 =>
 match o1 with
 | .inl o1_0 =>
  some o1_0
 | .inr (o1_1) =>
  some false
theorem LZ (n : Nat) : KW (WG n) := fun a0 => tc (
 .l2 (RS a0 [[110, 117, 108, 108], [116, 114, 117, 101], [102, 97, 108, 115, 101], [105, 110, 100, 101, 120], [107, 101, 121], [118, 97, 108], [108, 111, 99, 97, 108], [114, 101, 115], [111, 117, 116], [99, 111, 117, 110, 116], [101, 97, 99, 104]] n 0) (fun o1_0 =>
  .ret o1_0) fun o1_1 =>
 .ret false) (zj Tryz.func128)
theorem G8 {a : List UInt8} {l : List (List UInt8)} (hl : l.length <= 2 ^ 20) : ∀ (d i m : Nat), i + d = l.length → d < m → ∃ z, qA a l m (i : Int) = some (if ((l.drop i).any fun w => decide (w = a)) = true then .inl true else .inr z) := by
 intro d
 induction d with
 | zero =>
  intro i m hi hm
  obtain ⟨m, rfl, _⟩ := zg hm
  exact ⟨_, by rw [qA, if_neg (by omega), List.drop_eq_nil_of_le (by omega)]; rfl⟩
 | succ d ih =>
  intro i m hi hm
  obtain ⟨m, rfl, hm'⟩ := zg hm
  have hil : i < l.length := by omega
  rw [qA, if_pos (by omega), zl, Option.bind_some, zr hil, Option.bind_some, yt (by omega), xr hil, List.any_cons]
  by_cases h : l[i] = a
  ·exact ⟨0, by rw [if_pos h, decide_eq_true h, Bool.true_or]; rfl⟩
  ·rw [if_neg h, decide_eq_false h, Bool.false_or]
   exact ih (i + 1) m (by omega) (by omega)
def jQ (a0 : (List UInt8)) : Option Bool := some (Jp a0)
theorem TQ (a0 : (List UInt8)) (r : Bool) (h : jQ a0 = some r) : ∃ n, WG n a0 = some r := by
 obtain rfl := Option.some.inj h
 obtain ⟨z, hz⟩ := G8 (a := a0) (l := PH) (by decide) 11 0 12 (by decide) (by omega)
 rw [show ((0 : Nat) : Int) = 0 from rfl, List.drop_zero] at hz
 refine ⟨12, ?_⟩
 unfold WG
 rw [show [[110, 117, 108, 108], [116, 114, 117, 101], [102, 97, 108, 115, 101], [105, 110, 100, 101, 120], [107, 101, 121], [118, 97, 108], [108, 111, 99, 97, 108], [114, 101, 115], [111, 117, 116], [99, 111, 117, 110, 116], [101, 97, 99, 104]] = PH from rfl, hz]
 unfold Jp
 cases PH.any fun w => decide (w = a0) <;> rfl
theorem XP : KW jQ := fun a0 r h => (TQ a0 r h).elim fun n hn => LZ n a0 r hn
def vR (a0 : (List UInt8)) : Option Bool :=
 (yQ a0).bind fun r1 =>
 match r1 with
 | true =>
  (jQ a0).bind fun r2 =>
  some (!r2)
 | false =>
  some false
theorem JD (a0 : (List UInt8)) : Oc (vR a0) 129 [] [vq za a0] fun r => (vb r, []) := tc (
 .cl (xZ a0) fun r1 =>
 .vM 0 r1 (
  .az 0 0 <|
  .cl (XP a0) fun r2 =>
  .az 0 1 <|
  .az 0 1 <|
  .ret (!r2)) <|
 .az 0 0 <|
 .az 0 0 <|
 .az 0 0 <|
 .ret false) (zj Tryz.func129)
def vS (F : GExpr → Int → Int → Option Int) : Prop := ∀ (a0 : GExpr) (a1 : Int) (a2 : Int), Oc (F a0 a1 a2) 74 [] [.val true (zs a0), vi a1, vi a2] fun r => (vi r, [])
def zt (G_spec_l6expr : GExpr → Int → Int → Option Int) (a1 : Int) (a0 : GExpr) : Nat → Int → Int → Option (Int ⊕ (Int × Int))
  | 0, _, _ => none
  | m + 1, v1, v2 =>
  if v2 < (a0.Kids.length : Int) then
   if a0.Kind = 5 then
    (zH v2).bind fun i3 =>
    (a0.K[i3]?).bind fun x4 =>
    (yQ x4).bind fun r5 =>
    match r5 with
    | true =>
     if 0 < v2 then
      (zH (w64 (v2 - 1))).bind fun i7 =>
      (a0.K[i7]?).bind fun x8 =>
      if Op.bytesLess x8 x4 = true then
       (a0.Kids[i3]?).bind fun x10 =>
       (G_spec_l6expr x10 (w64 (a1 + 1)) v1).bind fun r11 =>
       if r11 < 0 then
        some (.inl (-1))
       else
       zt G_spec_l6expr a1 a0 m r11 (w64 (v2 + 1))
      else
      some (.inl (-1))
     else
     (a0.Kids[i3]?).bind fun x7 =>
     (G_spec_l6expr x7 (w64 (a1 + 1)) v1).bind fun r8 =>
     if r8 < 0 then
      some (.inl (-1))
     else
     zt G_spec_l6expr a1 a0 m r8 (w64 (v2 + 1))
    | false =>
     some (.inl (-1))
   else
   (zH v2).bind fun i3 =>
   (a0.Kids[i3]?).bind fun x4 =>
   (G_spec_l6expr x4 (w64 (a1 + 1)) v1).bind fun r5 =>
   if r5 < 0 then
    some (.inl (-1))
   else
   zt G_spec_l6expr a1 a0 m r5 (w64 (v2 + 1))
  else
  some (.inr (v1, v2))
theorem zE (G_spec_l6expr : GExpr → Int → Int → Option Int) (H_spec_l6expr : vS G_spec_l6expr) (a1 : Int) (a0 : GExpr) (m : Nat) : ∀ (v1 : Int) (v2 : Int), Ol (zt G_spec_l6expr a1 a0 m v1 v2) 74 (zQ Tryz.f74 0) ⟨[(1, vi a1), (2, vi v1), (3, vp 0 0), (8, vi v2)], [.var (zs a0)], 0⟩ fun o => match o with | .inl o_0 => (.ret, ⟨[(6, vi o_0)], [], 0⟩) | .inr (⟨o_1_0, o_1_1⟩) => (.exit 2, ⟨[(1, vi a1), (2, vi o_1_0), (3, vp 0 0), (8, vi o_1_1), (129, vb false)], [.var (zs a0)], 0⟩) := by
  induction m with
  | zero => intro v1 v2 o h; cases h
  | succ m ih => exact fun v1 v2 => tlp (
   .le zd a0.Kids <|
   .lI v2 (a0.Kids.length : Int) (fun c1 =>
    .eI a0.Kind 5 (fun c2 =>
     .na v2 fun i3 =>
     .ix0 (zi za) a0.K i3 fun x4 =>
     .cl (xZ x4) fun r5 =>
     .vN 2 r5 (
      .an 0 0 <|
      .lI 0 v2 (fun c6 =>
       .an 0 0 <|
       .na (w64 (v2 - 1)) fun i7 =>
       .ix0 (zi za) a0.K i7 fun x8 =>
       .bt x8 <|
       .ag 5 <|
       .ag 4 <|
       .bt x4 <|
       .bI x8 x4 (fun c9 =>
        .an 0 2 <|
        .an 2 2 <|
        .ag 5 <|
        .ix eq_GExpr a0.Kids i3 fun x10 =>
        .cl (H_spec_l6expr x10 (w64 (a1 + 1)) v1) fun r11 =>
        .lI r11 0 (fun c12 =>
         .ret (.inl (-1))) fun c12 =>
        .go (ih r11 (w64 (v2 + 1)))) fun c9 =>
       .an 0 2 <|
       .an 2 2 <|
       .ret (.inl (-1))) fun c6 =>
      .an 0 0 <|
      .an 14 0 <|
      .an 2 0 <|
      .ag 3 <|
      .ix eq_GExpr a0.Kids i3 fun x7 =>
      .cl (H_spec_l6expr x7 (w64 (a1 + 1)) v1) fun r8 =>
      .lI r8 0 (fun c9 =>
       .ret (.inl (-1))) fun c9 =>
      .go (ih r8 (w64 (v2 + 1)))) <|
     .an 0 0 <|
     .an 0 0 <|
     .an 0 0 <|
     .an 1 0 <|
     .ret (.inl (-1))) fun c2 =>
    .na v2 fun i3 =>
    .ix eq_GExpr a0.Kids i3 fun x4 =>
    .cl (H_spec_l6expr x4 (w64 (a1 + 1)) v1) fun r5 =>
    .lI r5 0 (fun c6 =>
     .ret (.inl (-1))) fun c6 =>
    .go (ih r5 (w64 (v2 + 1)))) fun c1 =>
   .ret (.inr (v1, v2)))
def jl (G_spec_l6expr : GExpr → Int → Int → Option Int) (n : Nat) (a0 : GExpr) (a1 : Int) (a2 : Int) : Option Int :=
 if (w64 (a2 - 1)) < 0 then
  some (-1)
 else
 if 10 < a1 then
  some (-1)
 else
 if a0.Kind < 0 then
  some (-1)
 else
 if 23 < a0.Kind then
  some (-1)
 else
 (kN a0.Kind).bind fun r5 =>
 if 0 <= r5 then
  if (a0.Kids.length : Int) = r5 then
   if a0.Kind = 5 then
    if (a0.K.length : Int) = (a0.Kids.length : Int) then
     if a0.N = 0 then
      if 0 < (a0.S.length : Int) then
       some (-1)
      else
      (zt G_spec_l6expr a1 a0 n (w64 (a2 - 1)) 0).bind fun o12 =>
      match o12 with
      | .inl o12_0 =>
       some o12_0
      | .inr (⟨o12_1_0, o12_1_1⟩) =>
       some o12_1_0
     else
     some (-1)
    else
    some (-1)
   else
   if 0 < (a0.K.length : Int) then
    some (-1)
   else
   if a0.Kind = 1 then
    if a0.N < 0 then
     some (-1)
    else
    if 1 < a0.N then
     some (-1)
    else
    if 0 < (a0.S.length : Int) then
     some (-1)
    else
    (zt G_spec_l6expr a1 a0 n (w64 (a2 - 1)) 0).bind fun o14 =>
    match o14 with
    | .inl o14_0 =>
     some o14_0
    | .inr (⟨o14_1_0, o14_1_1⟩) =>
     some o14_1_0
   else
   if a0.Kind = 2 then
    if a0.N < 0 then
     some (-1)
    else
    if 1000000000000 < a0.N then
     some (-1)
    else
    if 0 < (a0.S.length : Int) then
     some (-1)
    else
    (zt G_spec_l6expr a1 a0 n (w64 (a2 - 1)) 0).bind fun o15 =>
    match o15 with
    | .inl o15_0 =>
     some o15_0
    | .inr (⟨o15_1_0, o15_1_1⟩) =>
     some o15_1_0
   else
   if a0.N = 0 then
    if a0.Kind = 3 then
     (jk a0.S).bind fun r14 =>
     match r14 with
     | true =>
      (zt G_spec_l6expr a1 a0 n (w64 (a2 - 1)) 0).bind fun o15 =>
      match o15 with
      | .inl o15_0 =>
       some o15_0
      | .inr (⟨o15_1_0, o15_1_1⟩) =>
       some o15_1_0
     | false =>
      some (-1)
    else
    if a0.Kind = 6 then
     (yQ a0.S).bind fun r15 =>
     match r15 with
     | true =>
      (zt G_spec_l6expr a1 a0 n (w64 (a2 - 1)) 0).bind fun o16 =>
      match o16 with
      | .inl o16_0 =>
       some o16_0
      | .inr (⟨o16_1_0, o16_1_1⟩) =>
       some o16_1_0
     | false =>
      some (-1)
    else
    if a0.Kind = 8 then
     (yQ a0.S).bind fun r16 =>
     match r16 with
     | true =>
      (zt G_spec_l6expr a1 a0 n (w64 (a2 - 1)) 0).bind fun o17 =>
      match o17 with
      | .inl o17_0 =>
       some o17_0
      | .inr (⟨o17_1_0, o17_1_1⟩) =>
       some o17_1_0
     | false =>
      some (-1)
    else
    if a0.Kind = 23 then
     (yQ a0.S).bind fun r17 =>
     match r17 with
     | true =>
      (jQ a0.S).bind fun r18 =>
      match r18 with
      | true =>
       some (-1)
      | false =>
       (zt G_spec_l6expr a1 a0 n (w64 (a2 - 1)) 0).bind fun o19 =>
       match o19 with
       | .inl o19_0 =>
        some o19_0
       | .inr (⟨o19_1_0, o19_1_1⟩) =>
        some o19_1_0
     | false =>
      some (-1)
    else
    if a0.Kind = 7 then
     (vR a0.S).bind fun r18 =>
     match r18 with
     | true =>
      (zt G_spec_l6expr a1 a0 n (w64 (a2 - 1)) 0).bind fun o19 =>
      match o19 with
      | .inl o19_0 =>
       some o19_0
      | .inr (⟨o19_1_0, o19_1_1⟩) =>
       some o19_1_0
     | false =>
      some (-1)
    else
    if 0 < (a0.S.length : Int) then
     some (-1)
    else
    (zt G_spec_l6expr a1 a0 n (w64 (a2 - 1)) 0).bind fun o19 =>
    match o19 with
    | .inl o19_0 =>
     some o19_0
    | .inr (⟨o19_1_0, o19_1_1⟩) =>
     some o19_1_0
   else
   some (-1)
  else
  some (-1)
 else
 if a0.Kind = 5 then
  if (a0.K.length : Int) = (a0.Kids.length : Int) then
   if a0.N = 0 then
    if 0 < (a0.S.length : Int) then
     some (-1)
    else
    (zt G_spec_l6expr a1 a0 n (w64 (a2 - 1)) 0).bind fun o11 =>
    match o11 with
    | .inl o11_0 =>
     some o11_0
    | .inr (⟨o11_1_0, o11_1_1⟩) =>
     some o11_1_0
   else
   some (-1)
  else
  some (-1)
 else
 if 0 < (a0.K.length : Int) then
  some (-1)
 else
 if a0.Kind = 1 then
  if a0.N < 0 then
   some (-1)
  else
  if 1 < a0.N then
   some (-1)
  else
  if 0 < (a0.S.length : Int) then
   some (-1)
  else
  (zt G_spec_l6expr a1 a0 n (w64 (a2 - 1)) 0).bind fun o13 =>
  match o13 with
  | .inl o13_0 =>
   some o13_0
  | .inr (⟨o13_1_0, o13_1_1⟩) =>
   some o13_1_0
 else
 if a0.Kind = 2 then
  if a0.N < 0 then
   some (-1)
  else
  if 1000000000000 < a0.N then
   some (-1)
  else
  if 0 < (a0.S.length : Int) then
   some (-1)
  else
  (zt G_spec_l6expr a1 a0 n (w64 (a2 - 1)) 0).bind fun o14 =>
  match o14 with
  | .inl o14_0 =>
   some o14_0
  | .inr (⟨o14_1_0, o14_1_1⟩) =>
   some o14_1_0
 else
 if a0.N = 0 then
  if a0.Kind = 3 then
   (jk a0.S).bind fun r13 =>
   match r13 with
   | true =>
    (zt G_spec_l6expr a1 a0 n (w64 (a2 - 1)) 0).bind fun o14 =>
    match o14 with
    | .inl o14_0 =>
     some o14_0
    | .inr (⟨o14_1_0, o14_1_1⟩) =>
     some o14_1_0
   | false =>
    some (-1)
  else
  if a0.Kind = 6 then
   (yQ a0.S).bind fun r14 =>
   match r14 with
   | true =>
    (zt G_spec_l6expr a1 a0 n (w64 (a2 - 1)) 0).bind fun o15 =>
    match o15 with
    | .inl o15_0 =>
     some o15_0
    | .inr (⟨o15_1_0, o15_1_1⟩) =>
     some o15_1_0
   | false =>
    some (-1)
  else
  if a0.Kind = 8 then
   (yQ a0.S).bind fun r15 =>
   match r15 with
   | true =>
    (zt G_spec_l6expr a1 a0 n (w64 (a2 - 1)) 0).bind fun o16 =>
    match o16 with
    | .inl o16_0 =>
     some o16_0
    | .inr (⟨o16_1_0, o16_1_1⟩) =>
     some o16_1_0
   | false =>
    some (-1)
  else
  if a0.Kind = 23 then
   (yQ a0.S).bind fun r16 =>
   match r16 with
   | true =>
    (jQ a0.S).bind fun r17 =>
    match r17 with
    | true =>
     some (-1)
    | false =>
     (zt G_spec_l6expr a1 a0 n (w64 (a2 - 1)) 0).bind fun o18 =>
     match o18 with
     | .inl o18_0 =>
      some o18_0
     | .inr (⟨o18_1_0, o18_1_1⟩) =>
      some o18_1_0
   | false =>
    some (-1)
  else
  if a0.Kind = 7 then
   (vR a0.S).bind fun r17 =>
   match r17 with
   | true =>
    (zt G_spec_l6expr a1 a0 n (w64 (a2 - 1)) 0).bind fun o18 =>
    match o18 with
    | .inl o18_0 =>
     some o18_0
    | .inr (⟨o18_1_0, o18_1_1⟩) =>
     some o18_1_0
   | false =>
    some (-1)
  else
  if 0 < (a0.S.length : Int) then
   some (-1)
  else
  (zt G_spec_l6expr a1 a0 n (w64 (a2 - 1)) 0).bind fun o18 =>
  match o18 with
  | .inl o18_0 =>
   some o18_0
  | .inr (⟨o18_1_0, o18_1_1⟩) =>
   some o18_1_0
 else
 some (-1)
theorem Ma (G_spec_l6expr : GExpr → Int → Int → Option Int) (H_spec_l6expr : vS G_spec_l6expr) (n : Nat) : vS (jl G_spec_l6expr n) := fun a0 a1 a2 => tc (
 .lI (w64 (a2 - 1)) 0 (fun c1 =>
  .ret (-1)) fun c1 =>
 .lI 10 a1 (fun c2 =>
  .ret (-1)) fun c2 =>
 .lI a0.Kind 0 (fun c3 =>
  .ret (-1)) fun c3 =>
 .lI 23 a0.Kind (fun c4 =>
  .ret (-1)) fun c4 =>
 .cl (Ph a0.Kind) fun r5 =>
 .gI 0 r5 (fun c6 =>
  .le zd a0.Kids <|
  .eI (a0.Kids.length : Int) r5 (fun c7 =>
   .eI a0.Kind 5 (fun c8 =>
    .le (zi za) a0.K <|
    .le zd a0.Kids <|
    .eI (a0.K.length : Int) (a0.Kids.length : Int) (fun c9 =>
     .q (.eT c8) <|
     .q (.eFo a0.Kind 1 (by omega)) <|
     .q (.eFo a0.Kind 2 (by omega)) <|
     .eI a0.N 0 (fun c10 =>
      .q (.eFo a0.Kind 3 (by omega)) <|
      .q (.eFo a0.Kind 6 (by omega)) <|
      .q (.eFo a0.Kind 8 (by omega)) <|
      .q (.eFo a0.Kind 23 (by omega)) <|
      .q (.eFo a0.Kind 7 (by omega)) <|
      .le za a0.S <|
      .lI 0 (a0.S.length : Int) (fun c11 =>
       .ret (-1)) fun c11 =>
      .l2 (zE G_spec_l6expr H_spec_l6expr a1 a0 n (w64 (a2 - 1)) 0) (fun o12_0 =>
       .ret o12_0) fun ⟨o12_1_0, o12_1_1⟩ =>
      .ret o12_1_0) fun c10 =>
     .ret (-1)) fun c9 =>
    .ret (-1)) fun c8 =>
   .q (.eF c8) <|
   .le (zi za) a0.K <|
   .lI 0 (a0.K.length : Int) (fun c9 =>
    .ret (-1)) fun c9 =>
   .eI a0.Kind 1 (fun c10 =>
    .lI a0.N 0 (fun c11 =>
     .ret (-1)) fun c11 =>
    .lI 1 a0.N (fun c12 =>
     .ret (-1)) fun c12 =>
    .q (.eFo a0.Kind 3 (by omega)) <|
    .q (.eFo a0.Kind 6 (by omega)) <|
    .q (.eFo a0.Kind 8 (by omega)) <|
    .q (.eFo a0.Kind 23 (by omega)) <|
    .q (.eFo a0.Kind 7 (by omega)) <|
    .le za a0.S <|
    .lI 0 (a0.S.length : Int) (fun c13 =>
     .ret (-1)) fun c13 =>
    .l2 (zE G_spec_l6expr H_spec_l6expr a1 a0 n (w64 (a2 - 1)) 0) (fun o14_0 =>
     .ret o14_0) fun ⟨o14_1_0, o14_1_1⟩ =>
    .ret o14_1_0) fun c10 =>
   .eI a0.Kind 2 (fun c11 =>
    .lI a0.N 0 (fun c12 =>
     .ret (-1)) fun c12 =>
    .lI 1000000000000 a0.N (fun c13 =>
     .ret (-1)) fun c13 =>
    .q (.eFo a0.Kind 3 (by omega)) <|
    .q (.eFo a0.Kind 6 (by omega)) <|
    .q (.eFo a0.Kind 8 (by omega)) <|
    .q (.eFo a0.Kind 23 (by omega)) <|
    .q (.eFo a0.Kind 7 (by omega)) <|
    .le za a0.S <|
    .lI 0 (a0.S.length : Int) (fun c14 =>
     .ret (-1)) fun c14 =>
    .l2 (zE G_spec_l6expr H_spec_l6expr a1 a0 n (w64 (a2 - 1)) 0) (fun o15_0 =>
     .ret o15_0) fun ⟨o15_1_0, o15_1_1⟩ =>
    .ret o15_1_0) fun c11 =>
   .eI a0.N 0 (fun c12 =>
    .eI a0.Kind 3 (fun c13 =>
     .cl (XO a0.S) fun r14 =>
     .vN 0 r14 (
      .l2 (zE G_spec_l6expr H_spec_l6expr a1 a0 n (w64 (a2 - 1)) 0) (fun o15_0 =>
       .ret o15_0) fun ⟨o15_1_0, o15_1_1⟩ =>
      .ret o15_1_0) <|
     .ret (-1)) fun c13 =>
    .eI a0.Kind 6 (fun c14 =>
     .cl (xZ a0.S) fun r15 =>
     .vN 0 r15 (
      .an 0 0 <|
      .an 0 0 <|
      .q (.eFo a0.Kind 23 (by omega)) <|
      .an 0 0 <|
      .an 3 0 <|
      .an 1 0 <|
      .l2 (zE G_spec_l6expr H_spec_l6expr a1 a0 n (w64 (a2 - 1)) 0) (fun o16_0 =>
       .ret o16_0) fun ⟨o16_1_0, o16_1_1⟩ =>
      .ret o16_1_0) <|
     .an 0 0 <|
     .an 0 0 <|
     .an 0 0 <|
     .an 0 0 <|
     .an 0 0 <|
     .ret (-1)) fun c14 =>
    .eI a0.Kind 8 (fun c15 =>
     .cl (xZ a0.S) fun r16 =>
     .vN 0 r16 (
      .an 0 0 <|
      .an 0 0 <|
      .q (.eFo a0.Kind 23 (by omega)) <|
      .an 0 0 <|
      .an 3 0 <|
      .an 1 0 <|
      .l2 (zE G_spec_l6expr H_spec_l6expr a1 a0 n (w64 (a2 - 1)) 0) (fun o17_0 =>
       .ret o17_0) fun ⟨o17_1_0, o17_1_1⟩ =>
      .ret o17_1_0) <|
     .an 0 0 <|
     .an 0 0 <|
     .an 0 0 <|
     .an 0 0 <|
     .an 0 0 <|
     .ret (-1)) fun c15 =>
    .eI a0.Kind 23 (fun c16 =>
     .cl (xZ a0.S) fun r17 =>
     .vN 0 r17 (
      .an 0 0 <|
      .an 0 0 <|
      .q (.eT c16) <|
      .an 0 0 <|
      .cl (XP a0.S) fun r18 =>
      .an 0 1 <|
      .an 1 1 <|
      .vM 0 r18 (
       .ret (-1)) <|
      .l2 (zE G_spec_l6expr H_spec_l6expr a1 a0 n (w64 (a2 - 1)) 0) (fun o19_0 =>
       .ret o19_0) fun ⟨o19_1_0, o19_1_1⟩ =>
      .ret o19_1_0) <|
     .an 0 0 <|
     .an 0 0 <|
     .an 0 0 <|
     .an 0 0 <|
     .an 0 0 <|
     .ret (-1)) fun c16 =>
    .eI a0.Kind 7 (fun c17 =>
     .cl (JD a0.S) fun r18 =>
     .vN 0 r18 (
      .l2 (zE G_spec_l6expr H_spec_l6expr a1 a0 n (w64 (a2 - 1)) 0) (fun o19_0 =>
       .ret o19_0) fun ⟨o19_1_0, o19_1_1⟩ =>
      .ret o19_1_0) <|
     .ret (-1)) fun c17 =>
    .le za a0.S <|
    .lI 0 (a0.S.length : Int) (fun c18 =>
     .ret (-1)) fun c18 =>
    .l2 (zE G_spec_l6expr H_spec_l6expr a1 a0 n (w64 (a2 - 1)) 0) (fun o19_0 =>
     .ret o19_0) fun ⟨o19_1_0, o19_1_1⟩ =>
    .ret o19_1_0) fun c12 =>
   .ret (-1)) fun c7 =>
  .ret (-1)) fun c6 =>
 .eI a0.Kind 5 (fun c7 =>
  .le (zi za) a0.K <|
  .le zd a0.Kids <|
  .eI (a0.K.length : Int) (a0.Kids.length : Int) (fun c8 =>
   .q (.eT c7) <|
   .q (.eFo a0.Kind 1 (by omega)) <|
   .q (.eFo a0.Kind 2 (by omega)) <|
   .eI a0.N 0 (fun c9 =>
    .q (.eFo a0.Kind 3 (by omega)) <|
    .q (.eFo a0.Kind 6 (by omega)) <|
    .q (.eFo a0.Kind 8 (by omega)) <|
    .q (.eFo a0.Kind 23 (by omega)) <|
    .q (.eFo a0.Kind 7 (by omega)) <|
    .le za a0.S <|
    .lI 0 (a0.S.length : Int) (fun c10 =>
     .ret (-1)) fun c10 =>
    .l2 (zE G_spec_l6expr H_spec_l6expr a1 a0 n (w64 (a2 - 1)) 0) (fun o11_0 =>
     .ret o11_0) fun ⟨o11_1_0, o11_1_1⟩ =>
    .ret o11_1_0) fun c9 =>
   .ret (-1)) fun c8 =>
  .ret (-1)) fun c7 =>
 .q (.eF c7) <|
 .le (zi za) a0.K <|
 .lI 0 (a0.K.length : Int) (fun c8 =>
  .ret (-1)) fun c8 =>
 .eI a0.Kind 1 (fun c9 =>
  .lI a0.N 0 (fun c10 =>
   .ret (-1)) fun c10 =>
  .lI 1 a0.N (fun c11 =>
   .ret (-1)) fun c11 =>
  .q (.eFo a0.Kind 3 (by omega)) <|
  .q (.eFo a0.Kind 6 (by omega)) <|
  .q (.eFo a0.Kind 8 (by omega)) <|
  .q (.eFo a0.Kind 23 (by omega)) <|
  .q (.eFo a0.Kind 7 (by omega)) <|
  .le za a0.S <|
  .lI 0 (a0.S.length : Int) (fun c12 =>
   .ret (-1)) fun c12 =>
  .l2 (zE G_spec_l6expr H_spec_l6expr a1 a0 n (w64 (a2 - 1)) 0) (fun o13_0 =>
   .ret o13_0) fun ⟨o13_1_0, o13_1_1⟩ =>
  .ret o13_1_0) fun c9 =>
 .eI a0.Kind 2 (fun c10 =>
  .lI a0.N 0 (fun c11 =>
   .ret (-1)) fun c11 =>
  .lI 1000000000000 a0.N (fun c12 =>
   .ret (-1)) fun c12 =>
  .q (.eFo a0.Kind 3 (by omega)) <|
  .q (.eFo a0.Kind 6 (by omega)) <|
  .q (.eFo a0.Kind 8 (by omega)) <|
  .q (.eFo a0.Kind 23 (by omega)) <|
  .q (.eFo a0.Kind 7 (by omega)) <|
  .le za a0.S <|
  .lI 0 (a0.S.length : Int) (fun c13 =>
   .ret (-1)) fun c13 =>
  .l2 (zE G_spec_l6expr H_spec_l6expr a1 a0 n (w64 (a2 - 1)) 0) (fun o14_0 =>
   .ret o14_0) fun ⟨o14_1_0, o14_1_1⟩ =>
  .ret o14_1_0) fun c10 =>
 .eI a0.N 0 (fun c11 =>
  .eI a0.Kind 3 (fun c12 =>
   .cl (XO a0.S) fun r13 =>
   .vN 0 r13 (
    .l2 (zE G_spec_l6expr H_spec_l6expr a1 a0 n (w64 (a2 - 1)) 0) (fun o14_0 =>
     .ret o14_0) fun ⟨o14_1_0, o14_1_1⟩ =>
    .ret o14_1_0) <|
   .ret (-1)) fun c12 =>
  .eI a0.Kind 6 (fun c13 =>
   .cl (xZ a0.S) fun r14 =>
   .vN 0 r14 (
    .an 0 0 <|
    .an 0 0 <|
    .q (.eFo a0.Kind 23 (by omega)) <|
    .an 0 0 <|
    .an 3 0 <|
    .an 1 0 <|
    .l2 (zE G_spec_l6expr H_spec_l6expr a1 a0 n (w64 (a2 - 1)) 0) (fun o15_0 =>
     .ret o15_0) fun ⟨o15_1_0, o15_1_1⟩ =>
    .ret o15_1_0) <|
   .an 0 0 <|
   .an 0 0 <|
   .an 0 0 <|
   .an 0 0 <|
   .an 0 0 <|
   .ret (-1)) fun c13 =>
  .eI a0.Kind 8 (fun c14 =>
   .cl (xZ a0.S) fun r15 =>
   .vN 0 r15 (
    .an 0 0 <|
    .an 0 0 <|
    .q (.eFo a0.Kind 23 (by omega)) <|
    .an 0 0 <|
    .an 3 0 <|
    .an 1 0 <|
    .l2 (zE G_spec_l6expr H_spec_l6expr a1 a0 n (w64 (a2 - 1)) 0) (fun o16_0 =>
     .ret o16_0) fun ⟨o16_1_0, o16_1_1⟩ =>
    .ret o16_1_0) <|
   .an 0 0 <|
   .an 0 0 <|
   .an 0 0 <|
   .an 0 0 <|
   .an 0 0 <|
   .ret (-1)) fun c14 =>
  .eI a0.Kind 23 (fun c15 =>
   .cl (xZ a0.S) fun r16 =>
   .vN 0 r16 (
    .an 0 0 <|
    .an 0 0 <|
    .q (.eT c15) <|
    .an 0 0 <|
    .cl (XP a0.S) fun r17 =>
    .an 0 1 <|
    .an 1 1 <|
    .vM 0 r17 (
     .ret (-1)) <|
    .l2 (zE G_spec_l6expr H_spec_l6expr a1 a0 n (w64 (a2 - 1)) 0) (fun o18_0 =>
     .ret o18_0) fun ⟨o18_1_0, o18_1_1⟩ =>
    .ret o18_1_0) <|
   .an 0 0 <|
   .an 0 0 <|
   .an 0 0 <|
   .an 0 0 <|
   .an 0 0 <|
   .ret (-1)) fun c15 =>
  .eI a0.Kind 7 (fun c16 =>
   .cl (JD a0.S) fun r17 =>
   .vN 0 r17 (
    .l2 (zE G_spec_l6expr H_spec_l6expr a1 a0 n (w64 (a2 - 1)) 0) (fun o18_0 =>
     .ret o18_0) fun ⟨o18_1_0, o18_1_1⟩ =>
    .ret o18_1_0) <|
   .ret (-1)) fun c16 =>
  .le za a0.S <|
  .lI 0 (a0.S.length : Int) (fun c17 =>
   .ret (-1)) fun c17 =>
  .l2 (zE G_spec_l6expr H_spec_l6expr a1 a0 n (w64 (a2 - 1)) 0) (fun o18_0 =>
   .ret o18_0) fun ⟨o18_1_0, o18_1_1⟩ =>
  .ret o18_1_0) fun c11 =>
 .ret (-1)) (zj Tryz.func74)
def w8 : Nat → GExpr → Int → Int → Option Int
 | 0, _, _, _ => none
 | n + 1, a0, a1, a2 => jl (w8 n) n a0 a1 a2
theorem Pi (n : Nat) : vS (w8 n) := by
 induction n with
 | zero => exact fun _ _ _ _ h => (by rw [w8] at h; cases h)
 | succ n ih =>
  have ih_spec_l6expr := ih
  exact fun a0 a1 a2 r h => Ma (w8 n) ih_spec_l6expr n a0 a1 a2 r (by rw [w8] at h; exact h)
noncomputable def okX (d : Nat) (left : Int) (v : GExpr) : Int := if frX d v = true ∧ (ptX v : Int) <= left then left - ptX v else -1
theorem BR (k : Int) : kN k = some (arI k) := by
 have h := JW k
 have hd : Dec (some (arI k)) none True (kN k) := by
  unfold kN
  repeat' (refine Dec.ite (fun _ => ?_) (fun _ => ?_))
  all_goals (refine .inl ⟨?_, trivial⟩; congr 1; omega)
 rcases hd with h | h
 ·exact h.1
 ·exact (h.2 trivial).elim
theorem Je {a : List UInt8} (h : a.length <= 2 ^ 20) : yQ a = some (xR a) := if_pos h
theorem L6 {a : List UInt8} (h : a.length <= 2 ^ 20) : jk a = some (xo a) := if_pos h
theorem Dr (a : List UInt8) : jQ a = some (Jp a) := rfl
theorem Ds {a : List UInt8} (h : a.length <= 2 ^ 20) : vR a = some (xR a && !Jp a) := by
 unfold vR
 rw [Je h, Option.bind_some]
 cases xR a <;> rfl
theorem G9 {G : GExpr → Int → Int → Option Int} {v : GExpr} {dd : Nat} {deep : Int} (hdd : deep + dd = 10) (h1d : 1 <= deep) (hs : xsz v <= 2 ^ 20) (hk : ¬ v.Kind = 5 ∨ (v.Kind = 5 ∧ v.K.length = v.Kids.length))
  (hG : ∀ x ∈ v.Kids, ∀ r : Int, 0 <= r → r <= 150 → G x (deep + 1) r = some (okX dd r x)) : ∀ (d i m : Nat) (r : Int), i + d = v.Kids.length → d < m → 0 <= r → r <= 150 →
  ∃ z, zt G deep v m r (i : Int) = some (if ((v.Kind = 5 → xq v.K i d = true) ∧ (v.Kids.drop i).all (frX dd) = true) ∧ (wG (v.Kids.drop i) : Int) <= r then .inr (r - wG (v.Kids.drop i), z) else .inl (-1)) := by
 have he := xv v
 have hl := yF v.Kids
 intro d
 induction d with
 | zero =>
  intro i m r hi hm h0 h1
  obtain ⟨m, rfl, _⟩ := zg hm
  refine ⟨(i : Int), ?_⟩
  rw [zt, if_neg (by omega), List.drop_eq_nil_of_le (by omega), if_pos ⟨⟨fun _ => rfl, rfl⟩, by simpa [wG] using h0⟩]
  simp [wG]
 | succ d ih =>
  intro i m r hi hm h0 h1
  obtain ⟨m, rfl, hm'⟩ := zg hm
  have hil : i < v.Kids.length := by omega
  have hp : wG (v.Kids.drop i) = ptX v.Kids[i] + wG (v.Kids.drop (i + 1)) := by rw [xr hil]; simp only [wG]
  have ha : (v.Kids.drop i).all (frX dd) = (frX dd v.Kids[i] && (v.Kids.drop (i + 1)).all (frX dd)) := by rw [xr hil, List.all_cons]
  have hd1 : w64 (deep + 1) = deep + 1 := yu (by omega) (by omega)
  have tail : (v.Kind = 5 → kOk v.K i = true) → ∃ z, ((G v.Kids[i] (w64 (deep + 1)) r).bind fun r12 => if r12 < 0 then some (.inl (-1)) else zt G deep v m r12 (w64 ((i : Int) + 1))) =
    some (if ((v.Kind = 5 → xq v.K i (d + 1) = true) ∧ (v.Kids.drop i).all (frX dd) = true) ∧ (wG (v.Kids.drop i) : Int) <= r then .inr (r - wG (v.Kids.drop i), z) else .inl (-1)) := by
   intro hki
   rw [hd1, hG _ (List.getElem_mem hil) r h0 h1, Option.bind_some, yt (by omega), hp, ha]
   unfold okX
   by_cases hc : frX dd v.Kids[i] = true ∧ (ptX v.Kids[i] : Int) <= r
   ·rw [if_pos hc, if_neg (by omega)]
    obtain ⟨z, hz⟩ := ih (i + 1) m (r - ptX v.Kids[i]) (by omega) (by omega) (by omega) (by omega)
    refine ⟨z, ?_⟩
    rw [hz, hc.1, Bool.true_and]
    have hcond : (((v.Kind = 5 → xq v.K (i + 1) d = true) ∧ (v.Kids.drop (i + 1)).all (frX dd) = true) ∧ (wG (v.Kids.drop (i + 1)) : Int) <= r - ptX v.Kids[i]) ↔
      (((v.Kind = 5 → xq v.K i (d + 1) = true) ∧ (v.Kids.drop (i + 1)).all (frX dd) = true) ∧ ((ptX v.Kids[i] + wG (v.Kids.drop (i + 1)) : Nat) : Int) <= r) := by
     have hka : (v.Kind = 5 → xq v.K (i + 1) d = true) ↔ (v.Kind = 5 → xq v.K i (d + 1) = true) := by
      constructor
      ·intro h hk; rw [vm, hki hk, h hk]; rfl
      ·intro h hk; have := h hk; rw [vm, hki hk, Bool.true_and] at this; exact this
     rw [hka]
     constructor
     ·rintro ⟨h1, h2⟩; exact ⟨h1, by omega⟩
     ·rintro ⟨h1, h2⟩; exact ⟨h1, by omega⟩
    by_cases hd : ((v.Kind = 5 → xq v.K (i + 1) d = true) ∧ (v.Kids.drop (i + 1)).all (frX dd) = true) ∧ (wG (v.Kids.drop (i + 1)) : Int) <= r - ptX v.Kids[i]
    ·rw [if_pos hd, if_pos (hcond.1 hd)]; congr 3; omega
    ·rw [if_neg hd, if_neg (fun h => hd (hcond.2 h))]
   ·refine ⟨0, ?_⟩
    rw [if_neg hc, if_pos (by omega), if_neg]
    rintro ⟨⟨_, h2⟩, h3⟩
    rw [Bool.and_eq_true] at h2
    exact hc ⟨h2.1, by omega⟩
  have bad : v.Kind = 5 → kOk v.K i = false → ∃ z, (some (.inl (-1)) : Option (Int ⊕ (Int × Int))) = some (if ((v.Kind = 5 → xq v.K i (d + 1) = true) ∧ (v.Kids.drop i).all (frX dd) = true) ∧ (wG (v.Kids.drop i) : Int) <= r then .inr (r - wG (v.Kids.drop i), z) else .inl (-1)) := by
   intro hk hki
   refine ⟨0, ?_⟩
   rw [if_neg]
   rintro ⟨⟨h1, _⟩, _⟩
   have := h1 hk
   rw [vm, hki] at this
   cases this
  rw [zt, if_pos (by omega)]
  rcases hk with hk | ⟨hk, hkl⟩
  ·rw [if_neg hk, zl, Option.bind_some, zr hil, Option.bind_some]
   exact tail fun h => (hk h).elim
  ·have hik : i < v.K.length := by omega
   have hx := Xl (List.getElem_mem hik)
   rw [if_pos hk, zl, Option.bind_some, zr hik, Option.bind_some, Je (by omega), Option.bind_some]
   cases hnm : xR v.K[i] with
   | false =>
    dsimp only
    refine bad hk ?_
    by_cases h0 : i = 0
    ·subst h0; rw [ZK hik, hnm]
    ·rw [vd hik (by omega), hnm]; rfl
   | true =>
    dsimp only
    by_cases h0 : 0 < i
    ·rw [if_pos (by omega), XK (by omega) h0, zl, Option.bind_some, zr (show i - 1 < v.K.length by omega), Option.bind_some]
     by_cases hb : Op.bytesLess (v.K[i - 1]'(by omega)) v.K[i] = true
     ·rw [if_pos hb, zr hil, Option.bind_some]
      exact tail fun _ => by rw [vd hik h0, hnm, hb]; rfl
     ·rw [if_neg hb]
      refine bad hk ?_
      rw [vd hik h0, hnm]; simpa using hb
    ·have : i = 0 := by omega
     subst this
     rw [if_neg (by omega), zr hil, Option.bind_some]
     exact tail fun _ => by rw [ZK hik, hnm]
theorem HV {G : GExpr → Int → Int → Option Int} {v : GExpr} {n : Nat} {a1 a2 : Int} {X : Option Int} (hs : v.S.length <= 2 ^ 20) (h1 : ¬ w64 (a2 - 1) < 0) (h2 : ¬ 10 < a1)
  (hX : ((zt G a1 v n (w64 (a2 - 1)) 0).bind fun o11 => match o11 with | .inl o11_0 => some o11_0 | .inr (⟨o11_1_0, o11_1_1⟩) => some o11_1_0) = X) : Dec X (some (-1)) (jI v) (jl G n v a1 a2) := by
 have har := JW v.Kind
 have hw := DO (xR v.S) (Jp v.S)
 unfold jl
 rw [if_neg h1, if_neg h2]
 repeat' first
  | refine Dec.ite (fun _ => ?_) (fun _ => ?_)
  | refine Dec.bnd (BR _) ?_
  | refine Dec.bndB (L6 hs) (fun _ => ?_) (fun _ => ?_)
  | refine Dec.bndB (Je hs) (fun _ => ?_) (fun _ => ?_)
  | refine Dec.bndB (Ds hs) (fun _ => ?_) (fun _ => ?_)
  | refine Dec.bndB (Dr _) (fun _ => ?_) (fun _ => ?_)
 all_goals first
  | exact .inl ⟨hX, by unfold jI Xb; omega⟩
  | exact .inr ⟨rfl, by unfold jI Xb; omega⟩
theorem Kz (d : Nat) (v : GExpr) : frX (d + 1) v = (Zm v && v.Kids.all (frX d)) := rfl
open Classical in
theorem HW {v : GExpr} (h : ¬ jI v) : Zm v = false := by unfold Zm; rw [decide_eq_false (fun h' => h h'.1)]; rfl
open Classical in
theorem VN {v : GExpr} (h : jI v) (hk : v.Kids.length <= 150) (h5 : v.Kind = 5 → xq v.K 0 v.K.length = true) : Zm v = true := by
 unfold Zm
 rw [decide_eq_true ⟨h, hk⟩, Bool.true_and]
 by_cases k : v.Kind = 5
 ·rw [h5 k, Bool.or_true]
 ·rw [decide_eq_true k, Bool.true_or]
open Classical in
theorem TR {v : GExpr} (h : Zm v = true) : jI v ∧ v.Kids.length <= 150 ∧ (v.Kind = 5 → xq v.K 0 v.K.length = true) := by
 unfold Zm at h
 rw [Bool.and_eq_true] at h
 have h1 := of_decide_eq_true h.1
 refine ⟨h1.1, h1.2, fun k => ?_⟩
 have h2 := h.2
 rw [decide_eq_false (fun hh => hh k), Bool.false_or] at h2
 exact h2
theorem BS {G : GExpr → Int → Int → Option Int} {v : GExpr} {f dd : Nat} {deep left : Int} (hdd : deep + dd = 10 ∨ (deep = 11 ∧ dd = 0)) (h1d : 1 <= deep) (hs : xsz v <= 2 ^ 20) (hf : v.Kids.length < f) (h0 : 0 <= left) (h1 : left <= 150)
  (hG : deep <= 10 → ∀ x ∈ v.Kids, ∀ r : Int, 0 <= r → r <= 150 → G x (deep + 1) r = some (okX dd r x)) : jl G f v deep left = some (okX (if deep <= 10 then dd + 1 else 0) left v) := by
 have he := xv v
 have hl := yF v.Kids
 have hpt := PG v
 have hpl := Ay v.Kids
 have hw : w64 (left - 1) = left - 1 := yu (by omega) (by omega)
 by_cases hleft : left - 1 < 0
 ·unfold jl
  rw [hw, if_pos hleft]
  unfold okX; rw [if_neg (by rintro ⟨_, h⟩; omega)]
 by_cases hdeep : 10 < deep
 ·unfold jl
  rw [hw, if_neg hleft, if_pos hdeep, if_neg (show ¬ deep <= 10 by omega)]
  unfold okX; rw [if_neg (by rintro ⟨h, _⟩; simp [frX] at h)]
 rw [if_pos (show deep <= 10 by omega)]
 have hdd : deep + dd = 10 := by omega
 have hG := hG (by omega)
 rcases HV (G := G) (n := f) (v := v) (a1 := deep) (a2 := left) (by omega) (by rw [hw]; exact hleft) hdeep rfl with ⟨h, hL⟩ | ⟨h, hL⟩
 ·rw [h, hw]
  have hk : ¬ v.Kind = 5 ∨ (v.Kind = 5 ∧ v.K.length = v.Kids.length) := by
   have := hL.2.2.1
   omega
  obtain ⟨z, hz⟩ := G9 (G := G) hdd h1d hs hk hG v.Kids.length 0 f (left - 1) (by omega) (by omega) (by omega) (by omega)
  rw [show ((0 : Nat) : Int) = 0 from rfl, List.drop_zero] at hz
  rw [hz, Option.bind_some]
  by_cases hc : ((v.Kind = 5 → xq v.K 0 v.Kids.length = true) ∧ v.Kids.all (frX dd) = true) ∧ (wG v.Kids : Int) <= left - 1
  ·have h2 : okX (dd + 1) left v = left - ptX v := if_pos ⟨by rw [Kz, VN hL (by omega) (fun k => by have := hc.1.1 k; rw [show v.K.length = v.Kids.length by omega]; exact this), hc.1.2]; rfl, by omega⟩
   rw [if_pos hc, h2, hpt]
   dsimp only
   congr 1; omega
  ·have h2 : okX (dd + 1) left v = -1 := if_neg (by
    rintro ⟨h2, h3⟩
    rw [Kz, Bool.and_eq_true] at h2
    have hi := TR h2.1
    exact hc ⟨⟨fun k => by have := hi.2.2 k; rw [show v.K.length = v.Kids.length by omega] at this; exact this, h2.2⟩, by omega⟩)
   rw [if_neg hc, h2]
 ·rw [h]
  have h2 : okX (dd + 1) left v = -1 := if_neg (by
   rintro ⟨h2, _⟩
   rw [Kz, HW hL] at h2
   cases h2)
  rw [h2]
theorem BT : ∀ (N : Nat) (v : GExpr), xsz v < N → xsz v <= 2 ^ 20 → ∀ (f : Nat) (deep left : Int), xsz v + 2 <= f → 1 <= deep → deep <= 11 → 0 <= left → left <= 150 → w8 f v deep left = some (okX (11 - deep).toNat left v) := by
 intro N
 induction N with
 | zero => intro v hv; omega
 | succ N ih =>
  intro v hv hs f deep left hf h1 h2 h3 h4
  obtain ⟨f, rfl, _⟩ := zg (show 0 < f by omega)
  have he := xv v
  have hl := yF v.Kids
  rw [w8]
  have := BS (G := w8 f) (f := f) (dd := (10 - deep).toNat) (deep := deep) (left := left) (v := v) (by omega) h1 hs (by omega) h3 h4 fun hd x hx r g0 g1 => by
   have hm := xA hx
   have := ih x (by omega) (by omega) f (deep + 1) r (by omega) (by omega) (by omega) g0 g1
   rw [show (11 - (deep + 1)).toNat = (10 - deep).toNat by omega] at this
   exact this
  rw [this]
  congr 2
  by_cases hd : deep <= 10
  ·rw [if_pos hd]; omega
  ·rw [if_neg hd]; omega
noncomputable def vT (a0 : GExpr) (a1 : Int) (a2 : Int) : Option Int := if xsz a0 <= 2 ^ 20 ∧ (1 <= a1 ∧ a1 <= 11) ∧ 0 <= a2 ∧ a2 <= 150 then some (okX (11 - a1).toNat a2 a0) else none
theorem TS (a0 : GExpr) (a1 : Int) (a2 : Int) (r : Int) (h : vT a0 a1 a2 = some r) : ∃ n, w8 n a0 a1 a2 = some r := by
 unfold vT at h
 obtain ⟨⟨hs, ⟨h1, h2⟩, h3, h4⟩, h⟩ := yc h
 exact ⟨xsz a0 + 2, by rw [<- h]; exact BT _ a0 (Nat.lt_succ_self _) hs _ a1 a2 (Nat.le_refl _) h1 h2 h3 h4⟩
theorem O5 : vS vT := by
 intro a0 a1 a2 r h
 obtain ⟨n, hn⟩ := TS a0 a1 a2 r h
 exact (Pi n) a0 a1 a2 r hn
def YC (a0 : GExpr) : Option Bool :=
 (vT a0 1 150).bind fun r1 =>
 some (decide (0 <= r1))
theorem O6 (a0 : GExpr) : Oc (YC a0) 33 [] [.val true (zs a0)] fun r => (vb r, []) := tc (
 .cl (O5 a0 1 150) fun r1 =>
 .gD 0 r1 <|
 .ret (decide (0 <= r1))) (zj Tryz.func33)
def kO (F : GExpr → Option Bool) : Prop := ∀ (a0 : GExpr), Oc (F a0) 76 [] [.val true (zs a0)] fun r => (vb r, [])
def qj (G_spec_l8plain : GExpr → Option Bool) (a0 : GExpr) : Nat → Int → Option (Bool ⊕ Int)
  | 0, _ => none
  | m + 1, v0 =>
  if v0 < (a0.Kids.length : Int) then
   (zH v0).bind fun i2 =>
   (a0.Kids[i2]?).bind fun x3 =>
   (G_spec_l8plain x3).bind fun r4 =>
   match r4 with
   | true =>
    qj G_spec_l8plain a0 m (w64 (v0 + 1))
   | false =>
    some (.inl false)
  else
  some (.inr v0)
theorem VO (G_spec_l8plain : GExpr → Option Bool) (H_spec_l8plain : kO G_spec_l8plain) (a0 : GExpr) (m : Nat) : ∀ (v0 : Int), Ol (qj G_spec_l8plain a0 m v0) 76 (zQ Tryz.f76 0) ⟨[(1, vp 0 0), (3, vi v0)], [.var (zs a0)], 0⟩ fun o => match o with | .inl o_0 => (.ret, ⟨[(2, vb o_0)], [], 0⟩) | .inr (o_1) => (.exit 0, ⟨[(1, vp 0 0), (3, vi o_1), (26, vb false)], [.var (zs a0)], 0⟩) := by
  induction m with
  | zero => intro v0 o h; cases h
  | succ m ih => exact fun v0 => tlp (
   .le zd a0.Kids <|
   .lI v0 (a0.Kids.length : Int) (fun c1 =>
    .na v0 fun i2 =>
    .ix eq_GExpr a0.Kids i2 fun x3 =>
    .cl (H_spec_l8plain x3) fun r4 =>
    .vN 0 r4 (
     .go (ih (w64 (v0 + 1)))) <|
    .ret (.inl false)) fun c1 =>
   .ret (.inr v0))
def Ya (G_spec_l8plain : GExpr → Option Bool) (n : Nat) (a0 : GExpr) : Option Bool :=
 if a0.Kind = 7 then
  some false
 else
 if a0.Kind = 10 then
  some false
 else
 if a0.Kind = 11 then
  some false
 else
 if a0.Kind = 12 then
  some false
 else
 (qj G_spec_l8plain a0 n 0).bind fun o5 =>
 match o5 with
 | .inl o5_0 =>
  some o5_0
 | .inr (o5_1) =>
  some true
theorem O7 (G_spec_l8plain : GExpr → Option Bool) (H_spec_l8plain : kO G_spec_l8plain) (n : Nat) : kO (Ya G_spec_l8plain n) := fun a0 => tc (
 .eI a0.Kind 7 (fun c1 =>
  .ret false) fun c1 =>
 .eI a0.Kind 10 (fun c2 =>
  .ret false) fun c2 =>
 .eI a0.Kind 11 (fun c3 =>
  .ret false) fun c3 =>
 .eI a0.Kind 12 (fun c4 =>
  .ret false) fun c4 =>
 .l2 (VO G_spec_l8plain H_spec_l8plain a0 n 0) (fun o5_0 =>
  .ret o5_0) fun o5_1 =>
 .ret true) (zj Tryz.func76)
def xh : Nat → GExpr → Option Bool
 | 0, _ => none
 | n + 1, a0 => Ya (xh n) n a0
theorem TT (n : Nat) : kO (xh n) := by
 induction n with
 | zero => exact fun _ _ h => (by rw [xh] at h; cases h)
 | succ n ih =>
  have ih_spec_l8plain := ih
  exact fun a0 r h => O7 (xh n) ih_spec_l8plain n a0 r (by rw [xh] at h; exact h)
def Yb (a0 : GExpr) : Option Bool := xh (xsz a0 + 3) a0
theorem RT (a0 : GExpr) (r : Bool) (h : Yb a0 = some r) : ∃ n, xh n a0 = some r := ⟨_, h⟩
theorem Pj : kO Yb := by
 intro a0 r h
 obtain ⟨n, hn⟩ := RT a0 r h
 exact (TT n) a0 r hn
def yR (a0 : (List UInt8)) (a1 : (List UInt8)) : Option Int :=
 if Op.bytesLess a0 a1 = true then
  some (-1)
 else
 if Op.bytesLess a1 a0 = true then
  some 1
 else
 some 0
theorem Xx (a0 : (List UInt8)) (a1 : (List UInt8)) : Oc (yR a0 a1) 162 [] [vq za a0, vq za a1] fun r => (vi r, []) := tc (
 .bt a0 <|
 .bt a1 <|
 .bI a0 a1 (fun c1 =>
  .ret (-1)) fun c1 =>
 .bt a0 <|
 .bt a1 <|
 .bI a1 a0 (fun c2 =>
  .ret 1) fun c2 =>
 .ret 0) (zj Tryz.func162)
def Jf (F : (List (List UInt8)) → (List UInt8) → Option (List (List UInt8))) : Prop := ∀ (a0 : (List (List UInt8))) (a1 : (List UInt8)), Oc (F a0 a1) 130 [] [vq (zi za) a0, vq za a1] fun r => (vq (zi za) r, [])
def yz (a0 : (List (List UInt8))) (a1 : (List UInt8)) : Nat → Bool → Int → (List (List UInt8)) → Option (Bool × Int × (List (List UInt8)))
  | 0, _, _, _ => none
  | m + 1, v2, v3, v4 =>
  if v3 < (a0.length : Int) then
   (zH v3).bind fun i2 =>
   (a0[i2]?).bind fun x3 =>
   (yR a1 x3).bind fun r4 =>
   match v2 with
   | true =>
    if r4 = 0 then
     yz a0 a1 m v2 (w64 (v3 + 1)) v4
    else
    if y4 24 (v4.length + [x3].length) then
    yz a0 a1 m v2 (w64 (v3 + 1)) (v4 ++ [x3])
    else none
   | false =>
    if r4 <= 0 then
     if y4 24 (v4.length + [a1].length) then
     if r4 = 0 then
      yz a0 a1 m true (w64 (v3 + 1)) (v4 ++ [a1])
     else
     if y4 24 ((v4 ++ [a1]).length + [x3].length) then
     yz a0 a1 m true (w64 (v3 + 1)) ((v4 ++ [a1]) ++ [x3])
     else none
     else none
    else
    if r4 = 0 then
     yz a0 a1 m v2 (w64 (v3 + 1)) v4
    else
    if y4 24 (v4.length + [x3].length) then
    yz a0 a1 m v2 (w64 (v3 + 1)) (v4 ++ [x3])
    else none
  else
  some (v2, v3, v4)
theorem Vg (a0 : (List (List UInt8))) (a1 : (List UInt8)) (m : Nat) : ∀ (v2 : Bool) (v3 : Int) (v4 : (List (List UInt8))), Ol (yz a0 a1 m v2 v3 v4) 130 (zQ Tryz.f130 0) ⟨[(0, vq (zi za) a0), (1, vq za a1), (5, vr 0), (6, vb v2), (7, vi v3)], [.obj 1 (eL (zi za) v4)], 0⟩ fun o => match o with | ⟨o_0, o_1, o_2⟩ => (.exit 0, ⟨[(0, vq (zi za) a0), (1, vq za a1), (5, vr 0), (6, vb o_0), (7, vi o_1), (12, vb false)], [.obj 1 (eL (zi za) o_2)], 0⟩) := by
  induction m with
  | zero => intro v2 v3 v4 o h; cases h
  | succ m ih => exact fun v2 v3 v4 => tlp (
   .le (zi za) a0 <|
   .lI v3 (a0.length : Int) (fun c1 =>
    .na v3 fun i2 =>
    .ix0 (zi za) a0 i2 fun x3 =>
    .cl (Xx a1 x3) fun r4 =>
    .vN 0 v2 (
     .an 0 0 <|
     .an 0 0 <|
     .eI r4 0 (fun c5 =>
      .go (ih v2 (w64 (v3 + 1)) v4)) fun c5 =>
     .ag 3 <|
     .ag 2 <|
     .pl (zn za) [x3] <|
     .ap 24 (zn za) v4 [x3] fun n6 =>
     .go (ih v2 (w64 (v3 + 1)) (v4 ++ [x3]))) <|
    .an 0 0 <|
    .gI r4 0 (fun c5 =>
     .an 0 0 <|
     .pl (zn za) [a1] <|
     .ap 24 (zn za) v4 [a1] fun n6 =>
     .eI r4 0 (fun c7 =>
      .go (ih true (w64 (v3 + 1)) (v4 ++ [a1]))) fun c7 =>
     .ag 3 <|
     .ag 2 <|
     .pl (zn za) [x3] <|
     .ap 24 (zn za) (v4 ++ [a1]) [x3] fun n8 =>
     .go (ih true (w64 (v3 + 1)) ((v4 ++ [a1]) ++ [x3]))) fun c5 =>
    .an 0 0 <|
    .eI r4 0 (fun c6 =>
     .go (ih v2 (w64 (v3 + 1)) v4)) fun c6 =>
    .ag 3 <|
    .ag 2 <|
    .pl (zn za) [x3] <|
    .ap 24 (zn za) v4 [x3] fun n7 =>
    .go (ih v2 (w64 (v3 + 1)) (v4 ++ [x3]))) fun c1 =>
   .ret (v2, v3, v4))
def Xy (n : Nat) (a0 : (List (List UInt8))) (a1 : (List UInt8)) : Option (List (List UInt8)) :=
 (yz a0 a1 n false 0 []).bind fun ⟨o1_0, o1_1, o1_2⟩ =>
 match o1_0 with
 | true =>
  some o1_2
 | false =>
  if y4 24 (o1_2.length + [a1].length) then
  some (o1_2 ++ [a1])
  else none
theorem Pk (n : Nat) : Jf (Xy n) := fun a0 a1 => tc (
 .lp (Vg a0 a1 n false 0 []) fun ⟨o1_0, o1_1, o1_2⟩ =>
 .vN 0 o1_0 (
  .vw (zn za) o1_2 <|
  .ret o1_2) <|
 .pl (zn za) [a1] <|
 .ap 24 (zn za) o1_2 [a1] fun n2 =>
 .vw (zn za) (o1_2 ++ [a1]) <|
 .ret (o1_2 ++ [a1])) (zj Tryz.func130)
theorem zft : ∀ (a b : List UInt8), yR a b = some (Lib.compareBytes a b) := by
 intro a
 induction a with
 | nil => intro b; cases b <;> simp [yR, Op.bytesLess, Lib.compareBytes]
 | cons x a ih =>
  intro b
  cases b with
  | nil => simp [yR, Op.bytesLess, Lib.compareBytes]
  | cons y b =>
   have := ih b
   unfold yR at this ⊢
   simp only [Op.bytesLess, Lib.compareBytes]
   by_cases h1 : x < y
   ·simp [h1]
   ·by_cases h2 : y < x
    ·have h3 : ¬ x = y := fun e => by subst e; exact h1 h2
     have h4 : ¬ y = x := fun e => h3 e.symm
     simp [h1, h2, h3, h4]
    ·have h3 : x = y := UInt8.le_antisymm (UInt8.not_lt.1 h2) (UInt8.not_lt.1 h1)
     subst h3
     simpa [h1] using this
def jm (x : List UInt8) : Bool → List (List UInt8) → List (List UInt8)
 | true, [] => []
 | false, [] => [x]
 | true, y :: r => if Lib.compareBytes x y = 0 then jm x true r else y :: jm x true r
 | false, y :: r => if Lib.compareBytes x y <= 0 then x :: (if Lib.compareBytes x y = 0 then jm x true r else y :: jm x true r) else y :: jm x false r
def flU : Bool → Nat
 | true => 0
 | false => 1
theorem zcr {a : List (List UInt8)} {x : List UInt8} (ha : a.length <= 2 ^ 38) : ∀ (l p acc : List (List UInt8)) (b : Bool) (m : Nat), a = p ++ l → l.length < m → acc.length + l.length + flU b <= 2 ^ 39 →
  ∃ b' z q, yz a x m b (p.length : Int) acc = some (b', z, q) ∧ q.length <= acc.length + l.length + flU b ∧ (match b' with | true => q | false => q ++ [x]) = acc ++ jm x b l := by
 intro l
 induction l with
 | nil =>
  intro p acc b m he hm _
  subst he
  obtain ⟨m, rfl, _⟩ := zg hm
  exact ⟨b, _, acc, by rw [yz, if_neg (yD p)], by simp only [List.length_nil]; omega, by cases b <;> simp [jm]⟩
 | cons y l ih =>
  intro p acc b m he hm hb
  obtain ⟨m, rfl, hm'⟩ := zg hm
  simp only [List.length_cons] at hb hm'
  have hlen : a.length = p.length + (l.length + 1) := by rw [he]; simp
  have next := fun (acc : List (List UInt8)) (b : Bool) (h : acc.length + l.length + flU b <= 2 ^ 39) => ih (p ++ [y]) acc b m (by rw [he]; simp) hm' h
  rw [yz, if_pos (by rw [he]; exact Wz p y l), zl, Option.bind_some, show a[p.length]? = some y by rw [he]; exact yg p y l, Option.bind_some, zft, Option.bind_some, y8 p y (by omega)]
  cases b with
  | true =>
   simp only [flU] at hb ⊢
   by_cases c : Lib.compareBytes x y = 0
   ·obtain ⟨b', z, q, h1, h2, h3⟩ := next acc true (by simp only [flU]; omega)
    rw [if_pos c]
    exact ⟨b', z, q, h1, by simp only [flU, List.length_cons] at h2 ⊢; omega, by rw [h3, jm, if_pos c]⟩
   ·obtain ⟨b', z, q, h1, h2, h3⟩ := next (acc ++ [y]) true (by simp only [flU, List.length_append, List.length_cons, List.length_nil]; omega)
    rw [if_neg c, if_pos (xb (by decide) (by simp only [List.length_cons, List.length_nil]; omega))]
    exact ⟨b', z, q, h1, by simp only [flU, List.length_append, List.length_cons, List.length_nil] at h2 ⊢; omega, by rw [h3, jm, if_neg c]; simp⟩
  | false =>
   simp only [flU] at hb ⊢
   by_cases c1 : Lib.compareBytes x y <= 0
   ·rw [if_pos c1, if_pos (xb (by decide) (by simp only [List.length_cons, List.length_nil]; omega))]
    by_cases c : Lib.compareBytes x y = 0
    ·obtain ⟨b', z, q, h1, h2, h3⟩ := next (acc ++ [x]) true (by simp only [flU, List.length_append, List.length_cons, List.length_nil]; omega)
     rw [if_pos c]
     exact ⟨b', z, q, h1, by simp only [flU, List.length_append, List.length_cons, List.length_nil] at h2 ⊢; omega, by rw [h3, jm, if_pos c1, if_pos c]; simp⟩
    ·obtain ⟨b', z, q, h1, h2, h3⟩ := next ((acc ++ [x]) ++ [y]) true (by simp only [flU, List.length_append, List.length_cons, List.length_nil]; omega)
     rw [if_neg c, if_pos (xb (by decide) (by simp only [List.length_append, List.length_cons, List.length_nil]; omega))]
     exact ⟨b', z, q, h1, by simp only [flU, List.length_append, List.length_cons, List.length_nil] at h2 ⊢; omega, by rw [h3, jm, if_pos c1, if_neg c]; simp⟩
   ·obtain ⟨b', z, q, h1, h2, h3⟩ := next (acc ++ [y]) false (by simp only [flU, List.length_append, List.length_cons, List.length_nil]; omega)
    rw [if_neg c1, if_neg (by omega), if_pos (xb (by decide) (by simp only [List.length_cons, List.length_nil]; omega))]
    exact ⟨b', z, q, h1, by simp only [flU, List.length_append, List.length_cons, List.length_nil] at h2 ⊢; omega, by rw [h3, jm, if_neg c1]; simp⟩
def ka (a0 : (List (List UInt8))) (a1 : (List UInt8)) : Option (List (List UInt8)) := if a0.length <= 2 ^ 38 then some (jm a1 false a0) else none
theorem VP (a0 : (List (List UInt8))) (a1 : (List UInt8)) (r : (List (List UInt8))) (h : ka a0 a1 = some r) : ∃ n, Xy n a0 a1 = some r := by
 unfold ka at h
 obtain ⟨ha, h⟩ := yc h
 obtain ⟨b, z, q, h1, h2, h3⟩ := zcr (x := a1) ha a0 [] [] false (a0.length + 1) rfl (by omega) (by simp only [List.length_nil, flU]; omega)
 refine ⟨a0.length + 1, ?_⟩
 unfold Xy
 simp only [List.length_nil, Int.natCast_zero, flU] at h1 h2
 rw [h1, Option.bind_some, <- h]
 cases b with
 | true => exact congrArg some h3
 | false =>
  dsimp only at h3 ⊢
  rw [if_pos (xb (by decide) (by simp only [List.length_cons, List.length_nil]; omega)), h3]; rfl
theorem TU : Jf ka := fun a0 a1 r h => (VP a0 a1 r h).elim fun n hn => Pk n a0 a1 r hn
def kP (F : GExpr → Int → (List (List UInt8)) → Option (List (List UInt8))) : Prop := ∀ (a0 : GExpr) (a1 : Int) (a2 : (List (List UInt8))), Oc (F a0 a1 a2) 77 [] [.val true (zs a0), vi a1, vq (zi za) a2] fun r => (vq (zi za) r, [])
def wk (G_spec_l6names : GExpr → Int → (List (List UInt8)) → Option (List (List UInt8))) (a1 : Int) (a0 : GExpr) : Nat → (List (List UInt8)) → Int → Option (List (List UInt8))
  | 0, _, _ => none
  | m + 1, v1, v2 =>
  if v2 < (a0.Kids.length : Int) then
   (zH v2).bind fun i2 =>
   (a0.Kids[i2]?).bind fun x3 =>
   (G_spec_l6names x3 a1 v1).bind fun r4 =>
   wk G_spec_l6names a1 a0 m r4 (w64 (v2 + 1))
  else
  some v1
theorem Wt (G_spec_l6names : GExpr → Int → (List (List UInt8)) → Option (List (List UInt8))) (H_spec_l6names : kP G_spec_l6names) (a1 : Int) (a0 : GExpr) (m : Nat) : ∀ (v1 : (List (List UInt8))) (v2 : Int), Ol (wk G_spec_l6names a1 a0 m v1 v2) 77 (zQ Tryz.f77 0) ⟨[(1, vi a1), (2, vq (zi za) v1), (3, vp 0 0), (7, vi v2)], [.var (zs a0)], 0⟩ fun o => (.exit 0, ⟨[(2, vq (zi za) o)], [], 0⟩) := by
  induction m with
  | zero => intro v1 v2 o h; cases h
  | succ m ih => exact fun v1 v2 => tlp (
   .le zd a0.Kids <|
   .lI v2 (a0.Kids.length : Int) (fun c1 =>
    .na v2 fun i2 =>
    .ix eq_GExpr a0.Kids i2 fun x3 =>
    .cl (H_spec_l6names x3 a1 v1) fun r4 =>
    .go (ih r4 (w64 (v2 + 1)))) fun c1 =>
   .ret v1)
def Yc (G_spec_l6names : GExpr → Int → (List (List UInt8)) → Option (List (List UInt8))) (n : Nat) (a0 : GExpr) (a1 : Int) (a2 : (List (List UInt8))) : Option (List (List UInt8)) :=
 if a0.Kind = a1 then
  (ka a2 a0.S).bind fun r2 =>
  (wk G_spec_l6names a1 a0 n r2 0).bind fun o3 =>
  some o3
 else
 (wk G_spec_l6names a1 a0 n a2 0).bind fun o2 =>
 some o2
theorem O8 (G_spec_l6names : GExpr → Int → (List (List UInt8)) → Option (List (List UInt8))) (H_spec_l6names : kP G_spec_l6names) (n : Nat) : kP (Yc G_spec_l6names n) := fun a0 a1 a2 => tc (
 .eI a0.Kind a1 (fun c1 =>
  .cl (TU a2 a0.S) fun r2 =>
  .lp (Wt G_spec_l6names H_spec_l6names a1 a0 n r2 0) fun o3 =>
  .ret o3) fun c1 =>
 .lp (Wt G_spec_l6names H_spec_l6names a1 a0 n a2 0) fun o2 =>
 .ret o2) (zj Tryz.func77)
def xi : Nat → GExpr → Int → (List (List UInt8)) → Option (List (List UInt8))
 | 0, _, _, _ => none
 | n + 1, a0, a1, a2 => Yc (xi n) n a0 a1 a2
theorem TV (n : Nat) : kP (xi n) := by
 induction n with
 | zero => exact fun _ _ _ _ h => (by rw [xi] at h; cases h)
 | succ n ih =>
  have ih_spec_l6names := ih
  exact fun a0 a1 a2 r h => O8 (xi n) ih_spec_l6names n a0 a1 a2 r (by rw [xi] at h; exact h)
def Yd (a0 : GExpr) (a1 : Int) (a2 : (List (List UInt8))) : Option (List (List UInt8)) := xi (xsz a0 + 3) a0 a1 a2
theorem RU (a0 : GExpr) (a1 : Int) (a2 : (List (List UInt8))) (r : (List (List UInt8))) (h : Yd a0 a1 a2 = some r) : ∃ n, xi n a0 a1 a2 = some r := ⟨_, h⟩
theorem Pl : kP Yd := by
 intro a0 a1 a2 r h
 obtain ⟨n, hn⟩ := RU a0 a1 a2 r h
 exact (TV n) a0 a1 a2 r hn
def z6 : Option GValue :=
 some (GValue.mk 6 0 [] [] [])
theorem zA : Oc z6 133 [] [] fun r => (.val true (YZ r), []) := tc (
 .ret (GValue.mk 6 0 [] [] [])) (zj Tryz.func133)
def KX (F : GValue → (List UInt8) → Option Int) : Prop := ∀ (a0 : GValue) (a1 : (List UInt8)), Oc (F a0 a1) 112 [] [.val true (zf a0), vq za a1] fun r => (vi r, [])
def qB (a1 : (List UInt8)) (a0 : GValue) : Nat → Int → Option (Int ⊕ Int)
  | 0, _ => none
  | m + 1, v1 =>
  if v1 < (a0.K.length : Int) then
   (zH v1).bind fun i2 =>
   (a0.K[i2]?).bind fun x3 =>
   if x3 = a1 then
    some (.inl v1)
   else
   qB a1 a0 m (w64 (v1 + 1))
  else
  some (.inr v1)
theorem RV (a1 : (List UInt8)) (a0 : GValue) (m : Nat) : ∀ (v1 : Int), Ol (qB a1 a0 m v1) 112 (zQ Tryz.f112 0) ⟨[(1, vq za a1), (2, vp 0 0), (5, vi v1)], [.var (zf a0)], 0⟩ fun o => match o with | .inl o_0 => (.ret, ⟨[(4, vi o_0)], [], 0⟩) | .inr (o_1) => (.exit 0, ⟨[(1, vq za a1), (2, vp 0 0), (5, vi o_1), (10, vb false)], [.var (zf a0)], 0⟩) := by
  induction m with
  | zero => intro v1 o h; cases h
  | succ m ih => exact fun v1 => tlp (
   .le (zi za) a0.K <|
   .lI v1 (a0.K.length : Int) (fun c1 =>
    .na v1 fun i2 =>
    .ix0 (zi za) a0.K i2 fun x3 =>
    .bt x3 <|
    .bt a1 <|
    .sI x3 a1 (fun c4 =>
     .ret (.inl v1)) fun c4 =>
    .go (ih (w64 (v1 + 1)))) fun c1 =>
   .ret (.inr v1))
def WH (n : Nat) (a0 : GValue) (a1 : (List UInt8)) : Option Int :=
 (qB a1 a0 n 0).bind fun o1 =>
 match o1 with
 | .inl o1_0 =>
  some o1_0
 | .inr (o1_1) =>
  some (-1)
theorem Mb (n : Nat) : KX (WH n) := fun a0 a1 => tc (
 .l2 (RV a1 a0 n 0) (fun o1_0 =>
  .ret o1_0) fun o1_1 =>
 .ret (-1)) (zj Tryz.func112)
def ixB : List (List UInt8) → List UInt8 → Nat → Int
 | [], _, _ => -1
 | y :: l, x, i => if y = x then (i : Int) else ixB l x (i + 1)
theorem O9 : ∀ (l : List (List UInt8)) (x : List UInt8) (i : Nat), (0 <= ixB l x i) = (x ∈ l)
 | [], x, i => by simp [ixB]
 | y :: l, x, i => by
  simp only [ixB]
  by_cases h : y = x
  ·rw [if_pos h]; simp [h]
  ·have hn : ¬ x = y := fun e => h e.symm
   rw [if_neg h, O9 l]; simp [hn]
theorem OA : ∀ (l : List (List UInt8)) (x : List UInt8) (i : Nat), x ∉ l → ixB l x i = -1
 | [], x, i, _ => rfl
 | y :: l, x, i, h => by
  simp only [List.mem_cons, not_or] at h
  rw [ixB, if_neg (fun e => h.1 e.symm), OA l x _ h.2]
theorem GA {a : GValue} {x : List UInt8} (ha : a.K.length <= 2 ^ 40) : ∀ (l p : List (List UInt8)) (m : Nat), a.K = p ++ l → l.length < m → ∃ z, qB x a m (p.length : Int) = some (if x ∈ l then .inl (ixB l x p.length) else .inr z) := by
 intro l
 induction l with
 | nil =>
  intro p m he hm
  obtain ⟨m, rfl, _⟩ := zg hm
  exact ⟨_, by rw [qB, he, if_neg (yD p), if_neg (by simp)]⟩
 | cons y l ih =>
  intro p m he hm
  obtain ⟨m, rfl, hm'⟩ := zg hm
  have hlen : a.K.length = p.length + (l.length + 1) := by rw [he]; simp
  rw [qB, if_pos (by omega), zl, Option.bind_some, show a.K[p.length]? = some y by rw [he]; exact yg p y l, Option.bind_some, y8 p y (by omega)]
  by_cases hxy : y = x
  ·exact ⟨0, by rw [if_pos hxy, if_pos (by simp [hxy]), ixB, if_pos hxy]⟩
  ·obtain ⟨z, hz⟩ := ih (p ++ [y]) m (by rw [he]; simp) (by simp only [List.length_cons] at hm'; omega)
   refine ⟨z, ?_⟩
   rw [if_neg hxy, hz, ixB, if_neg hxy]
   by_cases hm : x ∈ l
   ·rw [if_pos hm, if_pos (by simp [hm])]; simp
   ·have hn : ¬ x = y := fun e => hxy e.symm
    rw [if_neg hm, if_neg (by simp [hm, hn])]
def jn (a0 : GValue) (a1 : (List UInt8)) : Option Int := if a0.K.length <= 2 ^ 40 then some (ixB a0.K a1 0) else none
theorem TW (a0 : GValue) (a1 : (List UInt8)) (r : Int) (h : jn a0 a1 = some r) : ∃ n, WH n a0 a1 = some r := by
 unfold jn at h
 obtain ⟨ha, h⟩ := yc h
 obtain ⟨z, hz⟩ := GA (x := a1) ha a0.K [] (a0.K.length + 1) rfl (by omega)
 refine ⟨a0.K.length + 1, ?_⟩
 unfold WH
 simp only [List.length_nil, Int.natCast_zero] at hz
 rw [hz, Option.bind_some, <- h]
 by_cases hc : a1 ∈ a0.K
 ·rw [if_pos hc]
 ·rw [if_neg hc, OA _ _ _ hc]
theorem JE : KX jn := fun a0 a1 r h => (TW a0 a1 r h).elim fun n hn => Mb n a0 a1 r hn
def j9 (a0 : GValue) (a1 : (List UInt8)) : Option (GValue × Int) :=
 if a0.Kind = 6 then
  (z6).bind fun r2 =>
  some (r2, 0)
 else
 if a0.Kind = 5 then
  (jn a0 a1).bind fun r3 =>
  if r3 < 0 then
   some ((GValue.mk 0 0 [] [] []), 3)
  else
  (zH r3).bind fun i5 =>
  (a0.L[i5]?).bind fun x6 =>
  some (x6, 0)
 else
 some ((GValue.mk 0 0 [] [] []), 2)
theorem YD (a0 : GValue) (a1 : (List UInt8)) : Oc (j9 a0 a1) 131 [] [.val true (zf a0), vq za a1] fun r => (.tup [(true, (zf r.1)), (false, [ci r.2])], []) := tc (
 .eI a0.Kind 6 (fun c1 =>
  .cl (zA) fun r2 =>
  .vw ze r2.S <|
  .vo (zC 1 z9) r2.K <|
  .vo zz r2.L <|
  .ret (r2, 0)) fun c1 =>
 .eI a0.Kind 5 (fun c2 =>
  .cl (JE a0 a1) fun r3 =>
  .lI r3 0 (fun c4 =>
   .vw ze [] <|
   .vw (zn za) [] <|
   .vw zc [] <|
   .ret ((GValue.mk 0 0 [] [] []), 3)) fun c4 =>
  .na r3 fun i5 =>
  .ix zh a0.L i5 fun x6 =>
  .ret (x6, 0)) fun c2 =>
 .vw ze [] <|
 .vw (zn za) [] <|
 .vw zc [] <|
 .ret ((GValue.mk 0 0 [] [] []), 2)) (zj Tryz.func131)
def Xz (a0 : Int) : Option Bool :=
 if (-1000000000000) <= a0 then
  some (decide (a0 <= 1000000000000))
 else
 some false
theorem Mc (a0 : Int) : Oc (Xz a0) 159 [] [vi a0] fun r => (vb r, []) := tc (
 .gI (-1000000000000) a0 (fun c1 =>
  .gD a0 1000000000000 <|
  .ret (decide (a0 <= 1000000000000))) fun c1 =>
 .ret false) (zj Tryz.func159)
end
end Go.Am.Try
