/- The functions of the program in plain Lean, and that the machine answers as they do; conditions at each theorem. -/
import Derived.Test.YtfbfbebalpnkbaaDoorEP1
set_option linter.unusedVariables false
set_option linter.unusedSimpArgs false
namespace Go.Am.Try
open Go.Am Go.Proofs
set_option linter.unusedVariables false
set_option maxRecDepth 20000
set_option maxHeartbeats 2000000
noncomputable section
def wU (a0 : (List UInt8)) (a1 : Int) : Option Int :=
 if (w64 (a1 - (a0.length : Int))) < 0 then
  some (-1)
 else
 some (w64 (a1 - (a0.length : Int)))
theorem Zm (a0 : (List UInt8)) (a1 : Int) : Oc (wU a0 a1) 44 [] [vq za a0, vi a1] fun r => (vi r, []) := tc (
 .le za a0 <|
 .lI (w64 (a1 - (a0.length : Int))) 0 (fun c1 =>
  .ret (-1)) fun c1 =>
 .ret (w64 (a1 - (a0.length : Int)))) (zw Tryd.func44)
def Xy (F : (List (List UInt8)) → Int → Option Int) : Prop := ∀ (a0 : (List (List UInt8))) (a1 : Int), Oc (F a0 a1) 45 [] [vq (z7 za) a0, vi a1] fun r => (vi r, [])
def xD (a0 : (List (List UInt8))) : Nat → Int → Int → Option (Int ⊕ (Int × Int))
  | 0, _, _ => none
  | m + 1, v1, v2 =>
  if v2 < (a0.length : Int) then
   (z6 v2).bind fun i2 =>
   (a0[i2]?).bind fun x3 =>
   (wU x3 v1).bind fun r4 =>
   if r4 < 0 then
    some (.inl (-1))
   else
   xD a0 m r4 (w64 (v2 + 1))
  else
  some (.inr (v1, v2))
theorem Qh (a0 : (List (List UInt8))) (m : Nat) : ∀ (v1 : Int) (v2 : Int), Ol (xD a0 m v1 v2) 45 (zY Tryd.f45 0) ⟨[(0, vq (z7 za) a0), (1, vi v1), (5, vi v2)], [], 0⟩ fun o => match o with | .inl o_0 => (.ret, ⟨[(4, vi o_0)], [], 0⟩) | .inr (⟨o_1_0, o_1_1⟩) => (.exit 0, ⟨[(0, vq (z7 za) a0), (1, vi o_1_0), (5, vi o_1_1), (15, vb false)], [], 0⟩) := by
  induction m with
  | zero => intro v1 v2 o h; cases h
  | succ m ih => exact fun v1 v2 => tlp (
   .le (z7 za) a0 <|
   .lI v2 (a0.length : Int) (fun c1 =>
    .na v2 fun i2 =>
    .ix0 (z7 za) a0 i2 fun x3 =>
    .cl (Zm x3 v1) fun r4 =>
    .lI r4 0 (fun c5 =>
     .ret (.inl (-1))) fun c5 =>
    .go (ih r4 (w64 (v2 + 1)))) fun c1 =>
   .ret (.inr (v1, v2)))
def jP (n : Nat) (a0 : (List (List UInt8))) (a1 : Int) : Option Int :=
 if (w64 (a1 - (a0.length : Int))) < 0 then
  some (-1)
 else
 (xD a0 n (w64 (a1 - (a0.length : Int))) 0).bind fun o2 =>
 match o2 with
 | .inl o2_0 =>
  some o2_0
 | .inr (⟨o2_1_0, o2_1_1⟩) =>
  some o2_1_0
theorem V9 (n : Nat) : Xy (jP n) := fun a0 a1 => tc (
 .le (z7 za) a0 <|
 .lI (w64 (a1 - (a0.length : Int))) 0 (fun c1 =>
  .ret (-1)) fun c1 =>
 .l2 (Qh a0 n (w64 (a1 - (a0.length : Int))) 0) (fun o2_0 =>
  .ret o2_0) fun ⟨o2_1_0, o2_1_1⟩ =>
 .ret o2_1_0) (zw Tryd.func45)
def MdB (k : List (List UInt8)) : Prop := k.length <= 2 ^ 63 - 1 ∧ ∀ b ∈ k, b.length <= 2 ^ 63 - 1
theorem WA {a : List UInt8} {n : Int} (h : a.length <= 2 ^ 63 - 1) (h0 : 0 <= n) (h1 : n <= 2 ^ 20) : wU a n = some (if (a.length : Int) <= n then n - a.length else -1) := by
 unfold wU
 rw [yF (by omega) (by omega)]
 by_cases hc : (a.length : Int) <= n
 ·rw [if_neg (by omega), if_pos hc]
 ·rw [if_pos (by omega), if_neg hc]
theorem TY {a : List (List UInt8)} (ha : a.length <= 2 ^ 20) (hb : ∀ b ∈ a, b.length <= 2 ^ 63 - 1) : ∀ (d i m : Nat) (r : Int), i + d = a.length → d < m → 0 <= r → r <= 2 ^ 20 →
  ∃ z, xD a m r (i : Int) = some (if (((a.drop i).map List.length).sum : Int) <= r then .inr (r - ((a.drop i).map List.length).sum, z) else .inl (-1)) := by
 intro d
 induction d with
 | zero =>
  intro i m r hi hm h0 h1
  obtain ⟨m, rfl, _⟩ := zi hm
  refine ⟨(i : Int), ?_⟩
  rw [xD, if_neg (by omega), List.drop_eq_nil_of_le (by omega)]
  rw [List.map_nil, List.sum_nil, if_pos (by simpa using h0)]; simp
 | succ d ih =>
  intro i m r hi hm h0 h1
  obtain ⟨m, rfl, hm'⟩ := zi hm
  have hil : i < a.length := by omega
  have hx := hb a[i] (List.getElem_mem hil)
  rw [xD, if_pos (by omega), zg, Option.bind_some, zu hil, Option.bind_some, WA hx h0 h1, Option.bind_some]
  rw [yP hil, List.map_cons, List.sum_cons]
  by_cases hc : ((a[i]).length : Int) <= r
  ·rw [if_pos hc, if_neg (by omega), yi (by omega)]
   obtain ⟨z, hz⟩ := ih (i + 1) m (r - (a[i]).length) (by omega) (by omega) (by omega) (by omega)
   refine ⟨z, ?_⟩
   rw [hz]
   by_cases hd : (((a.drop (i + 1)).map List.length).sum : Int) <= r - (a[i]).length
   ·rw [if_pos hd, if_pos (by omega)]; congr 3; omega
   ·rw [if_neg hd, if_neg (by omega)]
  ·refine ⟨0, ?_⟩
   rw [if_neg hc, if_pos (by omega), if_neg (by omega)]
theorem Pr {a : List (List UInt8)} {n : Int} (h : MdB a ∧ 0 <= n ∧ n <= 2 ^ 20) : jP (a.length + 1) a n = some (if (bsz a : Int) <= n then n - bsz a else -1) := by
 obtain ⟨⟨ha, hb⟩, h0, h1⟩ := h
 unfold jP
 rw [yF (by omega) (by omega)]
 unfold bsz
 by_cases hc : (a.length : Int) <= n
 ·rw [if_neg (by omega)]
  obtain ⟨z, hz⟩ := TY (by omega) hb a.length 0 (a.length + 1) (n - a.length) (by omega) (by omega) (by omega) (by omega)
  rw [show ((0 : Nat) : Int) = 0 from rfl] at hz
  rw [hz]
  simp only [List.drop_zero]
  by_cases hd : ((a.map List.length).sum : Int) <= n - a.length
  ·rw [if_pos hd, if_pos (by omega)]
   simp only [Option.bind_some]; congr 1; omega
  ·rw [if_neg hd, if_neg (by omega)]; rfl
 ·rw [if_pos (by omega), if_neg (by omega)]
open Classical in
noncomputable def xQ (a0 : (List (List UInt8))) (a1 : Int) : Option Int := if MdB a0 ∧ 0 <= a1 ∧ a1 <= 2 ^ 20 then some (if (bsz a0 : Int) <= a1 then a1 - bsz a0 else -1) else none
theorem QN (a0 : (List (List UInt8))) (a1 : Int) (r : Int) (h : xQ a0 a1 = some r) : ∃ n, jP n a0 a1 = some r := by
 unfold xQ at h
 obtain ⟨hp, h⟩ := yg h
 exact ⟨_, by rw [<- h]; exact Pr hp⟩
theorem YP : Xy xQ := fun a0 a1 r h => (QN a0 a1 r h).elim fun n hn => V9 n a0 a1 r hn
def kO (F : (List GExpr) → Int → Option Int) : Prop := ∀ (a0 : (List GExpr)) (a1 : Int), Oc (F a0 a1) 69 [] [vq ze a0, vi a1] fun r => (vi r, [])
def j3 (F : GExpr → Int → Option Int) : Prop := ∀ (a0 : GExpr) (a1 : Int), Oc (F a0 a1) 68 [] [.val true (yh a0), vi a1] fun r => (vi r, [])
def xV (G_laws_szExpr : GExpr → Int → Option Int) (a0 : (List GExpr)) : Nat → Int → Int → Option (Int ⊕ (Int × Int))
  | 0, _, _ => none
  | m + 1, v1, v2 =>
  if v2 < (a0.length : Int) then
   (z6 v2).bind fun i2 =>
   (a0[i2]?).bind fun x3 =>
   (G_laws_szExpr x3 v1).bind fun r4 =>
   if r4 < 0 then
    some (.inl (-1))
   else
   xV G_laws_szExpr a0 m r4 (w64 (v2 + 1))
  else
  some (.inr (v1, v2))
theorem QO (G_laws_szExpr : GExpr → Int → Option Int) (H_laws_szExpr : j3 G_laws_szExpr) (a0 : (List GExpr)) (m : Nat) : ∀ (v1 : Int) (v2 : Int), Ol (xV G_laws_szExpr a0 m v1 v2) 69 (zY Tryd.f69 0) ⟨[(0, vq ze a0), (1, vi v1), (5, vi v2)], [], 0⟩ fun o => match o with | .inl o_0 => (.ret, ⟨[(4, vi o_0)], [], 0⟩) | .inr (⟨o_1_0, o_1_1⟩) => (.exit 0, ⟨[(0, vq ze a0), (1, vi o_1_0), (5, vi o_1_1), (15, vb false)], [], 0⟩) := by
  induction m with
  | zero => intro v1 v2 o h; cases h
  | succ m ih => exact fun v1 v2 => tlp (
   .le ze a0 <|
   .lI v2 (a0.length : Int) (fun c1 =>
    .na v2 fun i2 =>
    .ix zA a0 i2 fun x3 =>
    .cl (H_laws_szExpr x3 v1) fun r4 =>
    .lI r4 0 (fun c5 =>
     .ret (.inl (-1))) fun c5 =>
    .go (ih r4 (w64 (v2 + 1)))) fun c1 =>
   .ret (.inr (v1, v2)))
def kP (G_laws_szExpr : GExpr → Int → Option Int) (n : Nat) (a0 : (List GExpr)) (a1 : Int) : Option Int :=
 if (w64 (a1 - (a0.length : Int))) < 0 then
  some (-1)
 else
 (xV G_laws_szExpr a0 n (w64 (a1 - (a0.length : Int))) 0).bind fun o2 =>
 match o2 with
 | .inl o2_0 =>
  some o2_0
 | .inr (⟨o2_1_0, o2_1_1⟩) =>
  some o2_1_0
theorem RF (G_laws_szExpr : GExpr → Int → Option Int) (H_laws_szExpr : j3 G_laws_szExpr) (n : Nat) : kO (kP G_laws_szExpr n) := fun a0 a1 => tc (
 .le ze a0 <|
 .lI (w64 (a1 - (a0.length : Int))) 0 (fun c1 =>
  .ret (-1)) fun c1 =>
 .l2 (QO G_laws_szExpr H_laws_szExpr a0 n (w64 (a1 - (a0.length : Int))) 0) (fun o2_0 =>
  .ret o2_0) fun ⟨o2_1_0, o2_1_1⟩ =>
 .ret o2_1_0) (zw Tryd.func69)
def Yf (G_laws_szExprS : (List GExpr) → Int → Option Int) (a0 : GExpr) (a1 : Int) : Option Int :=
 (wU a0.S a1).bind fun r1 =>
 if r1 < 0 then
  some (-1)
 else
 (xQ a0.K r1).bind fun r3 =>
 if r3 < 0 then
  some (-1)
 else
 (G_laws_szExprS a0.Kids r3).bind fun r5 =>
 if r5 < 0 then
  some (-1)
 else
 some r5
theorem TZ (G_laws_szExprS : (List GExpr) → Int → Option Int) (H_laws_szExprS : kO G_laws_szExprS) : j3 (Yf G_laws_szExprS) := fun a0 a1 => tc (
 .cl (Zm a0.S a1) fun r1 =>
 .lI r1 0 (fun c2 =>
  .ret (-1)) fun c2 =>
 .cl (YP a0.K r1) fun r3 =>
 .lI r3 0 (fun c4 =>
  .ret (-1)) fun c4 =>
 .cl (H_laws_szExprS a0.Kids r3) fun r5 =>
 .lI r5 0 (fun c6 =>
  .ret (-1)) fun c6 =>
 .ret r5) (zw Tryd.func68)
mutual
def xE : Nat → (List GExpr) → Int → Option Int
 | 0, _, _ => none
 | n + 1, a0, a1 => kP (wj n) n a0 a1
def wj : Nat → GExpr → Int → Option Int
 | 0, _, _ => none
 | n + 1, a0, a1 => Yf (xE n) a0 a1
end
theorem YQ (n : Nat) : kO (xE n) ∧ j3 (wj n) := by
 induction n with
 | zero => exact ⟨fun _ _ _ h => (by rw [xE] at h; cases h), fun _ _ _ h => (by rw [wj] at h; cases h)⟩
 | succ n ih =>
  obtain ⟨ih_laws_szExprS, ih_laws_szExpr⟩ := ih
  exact ⟨fun a0 a1 r h => RF (wj n) ih_laws_szExpr n a0 a1 r (by rw [xE] at h; exact h),
   fun a0 a1 r h => TZ (xE n) ih_laws_szExprS a0 a1 r (by rw [wj] at h; exact h)⟩
mutual
def MdX : GExpr → Prop
 | .mk _ _ s k l => s.length <= 2 ^ 63 - 1 ∧ MdB k ∧ l.length <= 2 ^ 63 - 1 ∧ YR l
def YR : List GExpr → Prop
 | [] => True
 | v :: l => MdX v ∧ YR l
end
theorem Ps {l : List GExpr} (h : YR l) {v : GExpr} (hv : v ∈ l) : MdX v := by
 induction l with
 | nil => cases hv
 | cons x l ih =>
  simp only [YR] at h
  rcases List.mem_cons.1 hv with rfl | hv
  ·exact h.1
  ·exact ih h.2 hv
theorem MP (v : GExpr) : MdX v = (v.S.length <= 2 ^ 63 - 1 ∧ MdB v.K ∧ v.Kids.length <= 2 ^ 63 - 1 ∧ YR v.Kids) := by cases v; simp only [MdX, GExpr.S, GExpr.K, GExpr.Kids]
def xin (l : List GExpr) : Nat := (l.map xsz).sum
theorem Gx (l : List GExpr) : zx l = l.length + xin l := by
 unfold xin
 induction l with
 | nil => rfl
 | cons v l ih => simp only [zx, ih, List.length_cons, List.map_cons, List.sum_cons]; omega
theorem Pt {G : GExpr → Int → Option Int} {a : List GExpr} (ha : a.length <= 2 ^ 20) (hG : ∀ v ∈ a, ∀ n : Int, 0 <= n → n <= 2 ^ 20 → G v n = some (wI (xsz v) n)) : ∀ (d i m : Nat) (r : Int), i + d = a.length → d < m → 0 <= r → r <= 2 ^ 20 →
  ∃ z, xV G a m r (i : Int) = some (if (xin (a.drop i) : Int) <= r then .inr (r - xin (a.drop i), z) else .inl (-1)) := by
 intro d
 induction d with
 | zero =>
  intro i m r hi hm h0 h1
  obtain ⟨m, rfl, _⟩ := zi hm
  refine ⟨(i : Int), ?_⟩
  rw [xV, if_neg (by omega), List.drop_eq_nil_of_le (by omega)]
  simp only [xin, List.map_nil, List.sum_nil]
  rw [if_pos (by simpa using h0)]; simp
 | succ d ih =>
  intro i m r hi hm h0 h1
  obtain ⟨m, rfl, hm'⟩ := zi hm
  have hil : i < a.length := by omega
  rw [xV, if_pos (by omega), zg, Option.bind_some, zu hil, Option.bind_some, hG _ (List.getElem_mem hil) r h0 h1, Option.bind_some]
  have hv : xin (a.drop i) = xsz a[i] + xin (a.drop (i + 1)) := by simp only [xin, yP hil, List.map_cons, List.sum_cons]
  rw [hv]
  unfold wI
  by_cases hc : (xsz a[i] : Int) <= r
  ·rw [if_pos hc, if_neg (by omega), yi (by omega)]
   obtain ⟨z, hz⟩ := ih (i + 1) m (r - xsz a[i]) (by omega) (by omega) (by omega) (by omega)
   refine ⟨z, ?_⟩
   rw [hz]
   by_cases hd : (xin (a.drop (i + 1)) : Int) <= r - xsz a[i]
   ·rw [if_pos hd, if_pos (by omega)]; congr 3; omega
   ·rw [if_neg hd, if_neg (by omega)]
  ·refine ⟨0, ?_⟩
   rw [if_neg hc, if_pos (by omega), if_neg (by omega)]
theorem TC {G : GExpr → Int → Option Int} {a : List GExpr} {f : Nat} {n : Int} (ha : a.length <= 2 ^ 63 - 1) (h0 : 0 <= n) (h1 : n <= 2 ^ 20) (hf : a.length < f ∨ n < a.length) (hG : ∀ v ∈ a, ∀ n : Int, 0 <= n → n <= 2 ^ 20 → G v n = some (wI (xsz v) n)) :
  kP G f a n = some (wI (zx a) n) := by
 unfold kP
 rw [yF (by omega) (by omega), Gx]
 unfold wI
 by_cases hc : (a.length : Int) <= n
 ·rw [if_neg (by omega)]
  obtain ⟨z, hz⟩ := Pt (G := G) (by omega) hG a.length 0 f (n - a.length) (by omega) (by omega) (by omega) (by omega)
  rw [show ((0 : Nat) : Int) = 0 from rfl] at hz
  rw [hz]
  simp only [List.drop_zero]
  by_cases hd : (xin a : Int) <= n - a.length
  ·rw [if_pos hd, if_pos (by omega)]
   simp only [Option.bind_some]; congr 1; omega
  ·rw [if_neg hd, if_neg (by omega)]; rfl
 ·rw [if_pos (by omega), if_neg (by omega)]
theorem Pu : ∀ (N : Nat) (v : GExpr), xsz v < N → MdX v → ∀ (f : Nat) (n : Int), 2 * xsz v + 3 <= f → 0 <= n → n <= 2 ^ 20 → wj f v n = some (wI (xsz v) n) := by
 intro N
 induction N with
 | zero => intro v hv; omega
 | succ N ih =>
  intro v hv hmd f n hf h0 h1
  obtain ⟨f, rfl, _⟩ := zi (show 0 < f by omega)
  rw [MP] at hmd
  have he := xN v
  have hl := yd v.Kids
  obtain ⟨f, rfl, _⟩ := zi (show 0 < f by omega)
  rw [wj]
  unfold Yf
  rw [WA hmd.1 h0 h1, Option.bind_some]
  unfold wI
  by_cases c1 : (v.S.length : Int) <= n
  ·rw [if_pos c1, if_neg (by omega)]
   unfold xQ
   rw [if_pos ⟨hmd.2.1, by omega, by omega⟩, Option.bind_some]
   by_cases c2 : (bsz v.K : Int) <= n - v.S.length
   ·rw [if_pos c2, if_neg (by omega)]
    rw [xE, TC hmd.2.2.1 (by omega) (by omega) (.inl (by omega)) (fun x hx m g0 g1 => ?_), Option.bind_some]
    ·unfold wI
     by_cases c3 : (zx v.Kids : Int) <= n - v.S.length - bsz v.K
     ·rw [if_pos c3, if_neg (by omega), if_pos (by omega)]; congr 1; omega
     ·rw [if_neg c3, if_pos (by omega), if_neg (by omega)]
    ·have := yz hx
     exact ih x (by omega) (Ps hmd.2.2.2 hx) f m (by omega) g0 g1
   ·rw [if_neg c2, if_pos (by omega), if_neg (by omega)]
  ·rw [if_neg c1, if_pos (by omega), if_neg (by omega)]
open Classical in
noncomputable def qX (a0 : (List GExpr)) (a1 : Int) : Option Int := if a0.length <= 2 ^ 63 - 1 ∧ YR a0 ∧ 0 <= a1 ∧ a1 <= 2 ^ 20 then some (wI (zx a0) a1) else none
theorem JF (a0 : (List GExpr)) (a1 : Int) (r : Int) (h : qX a0 a1 = some r) : ∃ n, xE n a0 a1 = some r := by
 unfold qX at h
 obtain ⟨⟨hl, hm, h0, h1⟩, h⟩ := yg h
 refine ⟨2 * zx a0 + 5, ?_⟩
 have := yd a0
 rw [xE, TC hl h0 h1 (.inl (by omega)) fun x hx m g0 g1 => ?_, h]
 have := yz hx
 exact Pu _ x (Nat.lt_succ_self _) (Ps hm hx) _ m (by omega) g0 g1
open Classical in
noncomputable def j4 (a0 : GExpr) (a1 : Int) : Option Int := if MdX a0 ∧ 0 <= a1 ∧ a1 <= 2 ^ 20 then some (wI (xsz a0) a1) else none
theorem K0 (a0 : GExpr) (a1 : Int) (r : Int) (h : j4 a0 a1 = some r) : ∃ n, wj n a0 a1 = some r := by
 unfold j4 at h
 obtain ⟨⟨hm, h0, h1⟩, h⟩ := yg h
 exact ⟨2 * xsz a0 + 3, by rw [<- h]; exact Pu _ a0 (Nat.lt_succ_self _) hm _ a1 (Nat.le_refl _) h0 h1⟩
theorem VA : kO qX := by
 intro a0 a1 r h
 obtain ⟨n, hn⟩ := JF a0 a1 r h
 exact (YQ n).1 a0 a1 r hn
theorem RG : j3 j4 := by
 intro a0 a1 r h
 obtain ⟨n, hn⟩ := K0 a0 a1 r h
 exact (YQ n).2 a0 a1 r hn
def j5 (a0 : GItem) (a1 : Int) : Option Int :=
 (wU a0.Name a1).bind fun r1 =>
 if r1 < 0 then
  some (-1)
 else
 (j4 a0.By r1).bind fun r3 =>
 if r3 < 0 then
  some (-1)
 else
 (xQ a0.Names r3).bind fun r5 =>
 if r5 < 0 then
  some (-1)
 else
 (qX a0.Exprs r5).bind fun r7 =>
 if r7 < 0 then
  some (-1)
 else
 some r7
theorem RH (a0 : GItem) (a1 : Int) : Oc (j5 a0 a1) 34 [] [.val true (yn a0), vi a1] fun r => (vi r, []) := tc (
 .cl (Zm a0.Name a1) fun r1 =>
 .lI r1 0 (fun c2 =>
  .ret (-1)) fun c2 =>
 .cl (RG a0.By r1) fun r3 =>
 .lI r3 0 (fun c4 =>
  .ret (-1)) fun c4 =>
 .cl (YP a0.Names r3) fun r5 =>
 .lI r5 0 (fun c6 =>
  .ret (-1)) fun c6 =>
 .cl (VA a0.Exprs r5) fun r7 =>
 .lI r7 0 (fun c8 =>
  .ret (-1)) fun c8 =>
 .ret r7) (zw Tryd.func34)
def XO (F : (List GItem) → Int → Option Int) : Prop := ∀ (a0 : (List GItem)) (a1 : Int), Oc (F a0 a1) 14 [] [vq zo a0, vi a1] fun r => (vi r, [])
def xW (a0 : (List GItem)) : Nat → Int → Int → Option (Int ⊕ (Int × Int))
  | 0, _, _ => none
  | m + 1, v1, v2 =>
  if v2 < (a0.length : Int) then
   (z6 v2).bind fun i2 =>
   (a0[i2]?).bind fun x3 =>
   (j5 x3 v1).bind fun r4 =>
   if r4 < 0 then
    some (.inl (-1))
   else
   xW a0 m r4 (w64 (v2 + 1))
  else
  some (.inr (v1, v2))
theorem QP (a0 : (List GItem)) (m : Nat) : ∀ (v1 : Int) (v2 : Int), Ol (xW a0 m v1 v2) 14 (zY Tryd.f14 0) ⟨[(0, vq zo a0), (1, vi v1), (5, vi v2)], [], 0⟩ fun o => match o with | .inl o_0 => (.ret, ⟨[(4, vi o_0)], [], 0⟩) | .inr (⟨o_1_0, o_1_1⟩) => (.exit 0, ⟨[(0, vq zo a0), (1, vi o_1_0), (5, vi o_1_1), (15, vb false)], [], 0⟩) := by
  induction m with
  | zero => intro v1 v2 o h; cases h
  | succ m ih => exact fun v1 v2 => tlp (
   .le zo a0 <|
   .lI v2 (a0.length : Int) (fun c1 =>
    .na v2 fun i2 =>
    .ix xB a0 i2 fun x3 =>
    .cl (RH x3 v1) fun r4 =>
    .lI r4 0 (fun c5 =>
     .ret (.inl (-1))) fun c5 =>
    .go (ih r4 (w64 (v2 + 1)))) fun c1 =>
   .ret (.inr (v1, v2)))
def Z3 (n : Nat) (a0 : (List GItem)) (a1 : Int) : Option Int :=
 if (w64 (a1 - (a0.length : Int))) < 0 then
  some (-1)
 else
 (xW a0 n (w64 (a1 - (a0.length : Int))) 0).bind fun o2 =>
 match o2 with
 | .inl o2_0 =>
  some o2_0
 | .inr (⟨o2_1_0, o2_1_1⟩) =>
  some o2_1_0
theorem RI (n : Nat) : XO (Z3 n) := fun a0 a1 => tc (
 .le zo a0 <|
 .lI (w64 (a1 - (a0.length : Int))) 0 (fun c1 =>
  .ret (-1)) fun c1 =>
 .l2 (QP a0 n (w64 (a1 - (a0.length : Int))) 0) (fun o2_0 =>
  .ret o2_0) fun ⟨o2_1_0, o2_1_1⟩ =>
 .ret o2_1_0) (zw Tryd.func14)
def Pv (x : GItem) : Prop := x.Name.length <= 2 ^ 63 - 1 ∧ MdX x.By ∧ MdB x.Names ∧ (x.Exprs.length <= 2 ^ 63 - 1 ∧ YR x.Exprs)
def Y3 : List GItem → Prop
 | [] => True
 | v :: l => Pv v ∧ Y3 l
theorem MQ {l : List GItem} (h : Y3 l) {v : GItem} (hv : v ∈ l) : Pv v := by
 induction l with
 | nil => cases hv
 | cons x l ih =>
  simp only [Y3] at h
  rcases List.mem_cons.1 hv with rfl | hv
  ·exact h.1
  ·exact ih h.2 hv
def ZN (l : List GItem) : Nat := (l.map itz).sum
theorem HU (l : List GItem) : yE l = l.length + ZN l := by
 unfold ZN
 induction l with
 | nil => rfl
 | cons v l ih => simp only [yE, ih, List.length_cons, List.map_cons, List.sum_cons]; omega
theorem Pw {a : List GItem} (ha : a.length <= 2 ^ 20) (hG : ∀ v ∈ a, ∀ n : Int, 0 <= n → n <= 2 ^ 20 → j5 v n = some (wI (itz v) n)) : ∀ (d i m : Nat) (r : Int), i + d = a.length → d < m → 0 <= r → r <= 2 ^ 20 →
  ∃ z, xW a m r (i : Int) = some (if (ZN (a.drop i) : Int) <= r then .inr (r - ZN (a.drop i), z) else .inl (-1)) := by
 intro d
 induction d with
 | zero =>
  intro i m r hi hm h0 h1
  obtain ⟨m, rfl, _⟩ := zi hm
  refine ⟨(i : Int), ?_⟩
  rw [xW, if_neg (by omega), List.drop_eq_nil_of_le (by omega)]
  simp only [ZN, List.map_nil, List.sum_nil]
  rw [if_pos (by simpa using h0)]; simp
 | succ d ih =>
  intro i m r hi hm h0 h1
  obtain ⟨m, rfl, hm'⟩ := zi hm
  have hil : i < a.length := by omega
  rw [xW, if_pos (by omega), zg, Option.bind_some, zu hil, Option.bind_some, hG _ (List.getElem_mem hil) r h0 h1, Option.bind_some]
  have hv : ZN (a.drop i) = itz a[i] + ZN (a.drop (i + 1)) := by simp only [ZN, yP hil, List.map_cons, List.sum_cons]
  rw [hv]
  unfold wI
  by_cases hc : (itz a[i] : Int) <= r
  ·rw [if_pos hc, if_neg (by omega), yi (by omega)]
   obtain ⟨z, hz⟩ := ih (i + 1) m (r - itz a[i]) (by omega) (by omega) (by omega) (by omega)
   refine ⟨z, ?_⟩
   rw [hz]
   by_cases hd : (ZN (a.drop (i + 1)) : Int) <= r - itz a[i]
   ·rw [if_pos hd, if_pos (by omega)]; congr 3; omega
   ·rw [if_neg hd, if_neg (by omega)]
  ·refine ⟨0, ?_⟩
   rw [if_neg hc, if_pos (by omega), if_neg (by omega)]
theorem MR {v : GItem} {n : Int} (h : Pv v) (h0 : 0 <= n) (h1 : n <= 2 ^ 20) : j5 v n = some (wI (itz v) n) := by
 obtain ⟨g1, g2, g3, g4, g5⟩ := h
 unfold j5
 rw [WA g1 h0 h1, Option.bind_some]
 unfold wI itz
 by_cases c1 : (v.Name.length : Int) <= n
 ·rw [if_pos c1, if_neg (by omega)]
  unfold j4
  rw [if_pos ⟨g2, by omega, by omega⟩, Option.bind_some]
  unfold wI
  by_cases c2 : (xsz v.By : Int) <= n - v.Name.length
  ·rw [if_pos c2, if_neg (by omega)]
   unfold xQ qX
   rw [if_pos ⟨g3, by omega, by omega⟩, Option.bind_some]
   by_cases c3 : (bsz v.Names : Int) <= n - v.Name.length - xsz v.By
   ·rw [if_pos c3, if_neg (by omega), if_pos ⟨g4, g5, by omega, by omega⟩, Option.bind_some]
    unfold wI
    by_cases c4 : (zx v.Exprs : Int) <= n - v.Name.length - xsz v.By - bsz v.Names
    ·rw [if_pos c4, if_neg (by omega), if_pos (by omega)]; congr 1; omega
    ·rw [if_neg c4, if_pos (by decide), if_neg (by omega)]
   ·rw [if_neg c3, if_pos (by decide), if_neg (by omega)]
  ·rw [if_neg c2, if_pos (by decide), if_neg (by omega)]
 ·rw [if_neg c1, if_pos (by decide), if_neg (by omega)]
open Classical in
noncomputable def qY (a0 : (List GItem)) (a1 : Int) : Option Int := if a0.length <= 2 ^ 63 - 1 ∧ Y3 a0 ∧ 0 <= a1 ∧ a1 <= 2 ^ 20 then some (wI (yE a0) a1) else none
theorem JG (a0 : (List GItem)) (a1 : Int) (r : Int) (h : qY a0 a1 = some r) : ∃ n, Z3 n a0 a1 = some r := by
 unfold qY at h
 obtain ⟨⟨hl, hm, h0, h1⟩, h⟩ := yg h
 refine ⟨a0.length + 5, ?_⟩
 unfold Z3
 rw [<- h, yF (by omega) (by omega), HU]
 unfold wI
 by_cases hc : (a0.length : Int) <= a1
 ·rw [if_neg (by omega)]
  obtain ⟨z, hz⟩ := Pw (a := a0) (by omega) (fun v hv n h0 h1 => MR (MQ hm hv) h0 h1) a0.length 0 (a0.length + 5) (a1 - a0.length) (by omega) (by omega) (by omega) (by omega)
  rw [show ((0 : Nat) : Int) = 0 from rfl] at hz
  rw [hz]
  simp only [List.drop_zero]
  by_cases hd : (ZN a0 : Int) <= a1 - a0.length
  ·rw [if_pos hd, if_pos (by omega)]
   simp only [Option.bind_some]; congr 1; omega
  ·rw [if_neg hd, if_neg (by omega)]; rfl
 ·rw [if_pos (by omega), if_neg (by omega)]
theorem VB : XO qY := fun a0 a1 r h => (JG a0 a1 r h).elim fun n hn => RI n a0 a1 r hn
def XP (F : (List UInt8) → Option (List UInt8)) : Prop := ∀ (a0 : (List UInt8)), Oc (F a0) 55 [] [vq za a0] fun r => (.val false [.own 1 (eL za r)], [])
def xX (a0 : (List UInt8)) : Nat → Int → (List UInt8) → Option (Int × (List UInt8))
  | 0, _, _ => none
  | m + 1, v1, v2 =>
  if v1 < (a0.length : Int) then
   (z6 v1).bind fun i2 =>
   (a0[i2]?).bind fun x3 =>
   (v2[i2]?).bind fun x4 =>
   xX a0 m (w64 (v1 + 1)) (v2.set i2 x3)
  else
  some (v1, v2)
theorem QQ (a0 : (List UInt8)) (m : Nat) : ∀ (v1 : Int) (v2 : (List UInt8)), Ol (xX a0 m v1 v2) 55 (zY Tryd.f55 0) ⟨[(0, vq za a0), (3, vr 0), (4, vi v1)], [.obj 1 (eL za v2)], 0⟩ fun o => match o with | ⟨o_0, o_1⟩ => (.exit 0, ⟨[(0, vq za a0), (3, vr 0), (4, vi o_0), (11, vb false)], [.obj 1 (eL za o_1)], 0⟩) := by
  induction m with
  | zero => intro v1 v2 o h; cases h
  | succ m ih => exact fun v1 v2 => tlp (
   .le za a0 <|
   .lI v1 (a0.length : Int) (fun c1 =>
    .na v1 fun i2 =>
    .ix0 za a0 i2 fun x3 =>
    .ag 1 <|
    .ix0 za v2 i2 fun x4 =>
    .ag 0 <|
    .sl (e := za) (x := x3) (c := [.int .u8 ((x3.toNat : Nat) : Int)]) rfl v2 i2 <|
    .go (ih (w64 (v1 + 1)) (v2.set i2 x3))) fun c1 =>
   .ret (v1, v2))
def Z4 (n : Nat) (a0 : (List UInt8)) : Option (List UInt8) :=
 (Y2 1 (a0.length : Int)).bind fun k1 =>
 (xX a0 n 0 (List.replicate k1 0)).bind fun ⟨o2_0, o2_1⟩ =>
 some o2_1
theorem RJ (n : Nat) : XP (Z4 n) := fun a0 => tc (
 .le za a0 <|
 .q (.eTo (a0.length : Int) (a0.length : Int) rfl) <|
 .md 1 (a0.length : Int) fun k1 =>
 .q ⟨.rep k1 [.int .u8 0], .l (eL za (List.replicate k1 0)), A.rep rfl⟩ <|
 .lp (QQ a0 n 0 (List.replicate k1 0)) fun ⟨o2_0, o2_1⟩ =>
 .ret o2_1) (zw Tryd.func55)
theorem Px {a : List UInt8} (ha : a.length <= 2 ^ 20) : ∀ (d i m : Nat) (v : List UInt8), i + d = a.length → d < m → Pre a v i → ∃ z, xX a m (i : Int) v = some (z, a) := by
 intro d
 induction d with
 | zero =>
  intro i m v hi hm hp
  obtain ⟨m, rfl, _⟩ := zi hm
  exact ⟨_, by rw [xX, if_neg (by omega), hp.done (by omega)]⟩
 | succ d ih =>
  intro i m v hi hm hp
  obtain ⟨m, rfl, hm'⟩ := zi hm
  have hil : i < a.length := by omega
  rw [xX, if_pos (by omega), zg, Option.bind_some, zu hil, Option.bind_some, zu (by rw [hp.1]; exact hil), Option.bind_some, yi (by omega)]
  exact ih (i + 1) m _ (by omega) (by omega) (hp.step hil)
def yO (a0 : (List UInt8)) : Option (List UInt8) := if a0.length <= 2 ^ 20 then some a0 else none
theorem JH (a0 : (List UInt8)) (r : (List UInt8)) (h : yO a0 = some r) : ∃ n, Z4 n a0 = some r := by
 unfold yO at h
 obtain ⟨ha, h⟩ := yg h
 refine ⟨a0.length + 1, ?_⟩
 obtain ⟨z, hz⟩ := Px ha a0.length 0 (a0.length + 1) (List.replicate a0.length 0) (by omega) (by omega) (Pre.start (by simp))
 unfold Z4
 rw [J7 ha (by decide), Option.bind_some, show (0 : Int) = ((0 : Nat) : Int) from rfl, hz]
 exact h
theorem Zn : XP yO := fun a0 r h => (JH a0 r h).elim fun n hn => RJ n a0 r hn
def Xz (F : (List (List UInt8)) → Option (List (List UInt8))) : Prop := ∀ (a0 : (List (List UInt8))), Oc (F a0) 56 [] [vq (z7 za) a0] fun r => (.val false [.own 1 (eL (wQ 1 za) r)], [])
def xF (a0 : (List (List UInt8))) : Nat → Int → (List (List UInt8)) → Option (Int × (List (List UInt8)))
  | 0, _, _ => none
  | m + 1, v1, v2 =>
  if v1 < (a0.length : Int) then
   (z6 v1).bind fun i2 =>
   (a0[i2]?).bind fun x3 =>
   (yO x3).bind fun r4 =>
   (v2[i2]?).bind fun x5 =>
   xF a0 m (w64 (v1 + 1)) (v2.set i2 r4)
  else
  some (v1, v2)
theorem Qi (a0 : (List (List UInt8))) (m : Nat) : ∀ (v1 : Int) (v2 : (List (List UInt8))), Ol (xF a0 m v1 v2) 56 (zY Tryd.f56 0) ⟨[(0, vq (z7 za) a0), (3, vr 0), (4, vi v1)], [.obj 1 (eL (wQ 1 za) v2)], 0⟩ fun o => match o with | ⟨o_0, o_1⟩ => (.exit 0, ⟨[(0, vq (z7 za) a0), (3, vr 0), (4, vi o_0), (11, vb false)], [.obj 1 (eL (wQ 1 za) o_1)], 0⟩) := by
  induction m with
  | zero => intro v1 v2 o h; cases h
  | succ m ih => exact fun v1 v2 => tlp (
   .le (z7 za) a0 <|
   .lI v1 (a0.length : Int) (fun c1 =>
    .na v1 fun i2 =>
    .ix0 (z7 za) a0 i2 fun x3 =>
    .cl (Zn x3) fun r4 =>
    .ag 2 <|
    .ix0 (wQ 1 za) v2 i2 fun x5 =>
    .ag 0 <|
    .sl (e := (wQ 1 za)) (x := r4) (c := [.own 1 (eL za r4)]) rfl v2 i2 <|
    .go (ih (w64 (v1 + 1)) (v2.set i2 r4))) fun c1 =>
   .ret (v1, v2))
def Zo (n : Nat) (a0 : (List (List UInt8))) : Option (List (List UInt8)) :=
 (Y2 24 (a0.length : Int)).bind fun k1 =>
 (xF a0 n 0 (List.replicate k1 [])).bind fun ⟨o2_0, o2_1⟩ =>
 some o2_1
theorem VC (n : Nat) : Xz (Zo n) := fun a0 => tc (
 .le (z7 za) a0 <|
 .q (.eTo (a0.length : Int) (a0.length : Int) rfl) <|
 .md 24 (a0.length : Int) fun k1 =>
 .q ⟨.rep k1 [.own 1 []], .l (eL (wQ 1 za) (List.replicate k1 [])), A.rep rfl⟩ <|
 .lp (Qi a0 n 0 (List.replicate k1 [])) fun ⟨o2_0, o2_1⟩ =>
 .ret o2_1) (zw Tryd.func56)
theorem Ua {a : List (List UInt8)} (ha : bsz a <= 2 ^ 20) : ∀ (d i m : Nat) (v : List (List UInt8)), i + d = a.length → d < m → Pre a v i → ∃ z, xF a m (i : Int) v = some (z, a) := by
 have hl := jg a
 intro d
 induction d with
 | zero =>
  intro i m v hi hm hp
  obtain ⟨m, rfl, _⟩ := zi hm
  exact ⟨_, by rw [xF, if_neg (by omega), hp.done (by omega)]⟩
 | succ d ih =>
  intro i m v hi hm hp
  obtain ⟨m, rfl, hm'⟩ := zi hm
  have hil : i < a.length := by omega
  have hx := YC (List.getElem_mem hil)
  rw [xF, if_pos (by omega), zg, Option.bind_some, zu hil, Option.bind_some]
  unfold yO
  rw [if_pos (by omega), Option.bind_some, zu (by rw [hp.1]; exact hil), Option.bind_some, yi (by omega)]
  exact ih (i + 1) m _ (by omega) (by omega) (hp.step hil)
def xR (a0 : (List (List UInt8))) : Option (List (List UInt8)) := if bsz a0 <= 2 ^ 20 then some a0 else none
theorem QR (a0 : (List (List UInt8))) (r : (List (List UInt8))) (h : xR a0 = some r) : ∃ n, Zo n a0 = some r := by
 unfold xR at h
 obtain ⟨ha, h⟩ := yg h
 have hl := jg a0
 refine ⟨a0.length + 1, ?_⟩
 obtain ⟨z, hz⟩ := Ua ha a0.length 0 (a0.length + 1) (List.replicate a0.length []) (by omega) (by omega) (Pre.start (by simp))
 unfold Zo
 rw [J7 (by omega) (by decide), Option.bind_some, show (0 : Int) = ((0 : Nat) : Int) from rfl, hz]
 exact h
theorem YS : Xz xR := fun a0 r h => (QR a0 r h).elim fun n hn => VC n a0 r hn
def kQ (F : (List GExpr) → Option (List GExpr)) : Prop := ∀ (a0 : (List GExpr)), Oc (F a0) 73 [] [vq ze a0] fun r => (.val false [.own 5 (eL yD r)], [])
def j6 (F : GExpr → Option GExpr) : Prop := ∀ (a0 : GExpr), Oc (F a0) 72 [] [.val true (yh a0)] fun r => (.val true (Te r), [])
def xY (G_laws_toExpr : GExpr → Option GExpr) (a0 : (List GExpr)) : Nat → Int → (List GExpr) → Option (Int × (List GExpr))
  | 0, _, _ => none
  | m + 1, v1, v2 =>
  if v1 < (a0.length : Int) then
   (z6 v1).bind fun i2 =>
   (a0[i2]?).bind fun x3 =>
   (G_laws_toExpr x3).bind fun r4 =>
   (v2[i2]?).bind fun x5 =>
   xY G_laws_toExpr a0 m (w64 (v1 + 1)) (v2.set i2 r4)
  else
  some (v1, v2)
theorem QS (G_laws_toExpr : GExpr → Option GExpr) (H_laws_toExpr : j6 G_laws_toExpr) (a0 : (List GExpr)) (m : Nat) : ∀ (v1 : Int) (v2 : (List GExpr)), Ol (xY G_laws_toExpr a0 m v1 v2) 73 (zY Tryd.f73 0) ⟨[(0, vq ze a0), (3, vr 0), (4, vi v1)], [.obj 5 (eL yD v2)], 0⟩ fun o => match o with | ⟨o_0, o_1⟩ => (.exit 0, ⟨[(0, vq ze a0), (3, vr 0), (4, vi o_0), (11, vb false)], [.obj 5 (eL yD o_1)], 0⟩) := by
  induction m with
  | zero => intro v1 v2 o h; cases h
  | succ m ih => exact fun v1 v2 => tlp (
   .le ze a0 <|
   .lI v1 (a0.length : Int) (fun c1 =>
    .na v1 fun i2 =>
    .ix zA a0 i2 fun x3 =>
    .cl (H_laws_toExpr x3) fun r4 =>
    .ag 2 <|
    .ix xq v2 i2 fun x5 =>
    .ag 0 <|
    .sl (xq r4) v2 i2 <|
    .go (ih (w64 (v1 + 1)) (v2.set i2 r4))) fun c1 =>
   .ret (v1, v2))
def kR (G_laws_toExpr : GExpr → Option GExpr) (n : Nat) (a0 : (List GExpr)) : Option (List GExpr) :=
 (Y2 88 (a0.length : Int)).bind fun k1 =>
 (xY G_laws_toExpr a0 n 0 (List.replicate k1 (GExpr.mk 0 0 [] [] []))).bind fun ⟨o2_0, o2_1⟩ =>
 some o2_1
theorem RK (G_laws_toExpr : GExpr → Option GExpr) (H_laws_toExpr : j6 G_laws_toExpr) (n : Nat) : kQ (kR G_laws_toExpr n) := fun a0 => tc (
 .le ze a0 <|
 .q (.eTo (a0.length : Int) (a0.length : Int) rfl) <|
 .md 88 (a0.length : Int) fun k1 =>
 .q ⟨.rep k1 [.int .i64 0, .int .i64 0, .own 1 [], .own 1 [], .own 5 []], .l (eL yD (List.replicate k1 (GExpr.mk 0 0 [] [] []))), A.rep (xq (GExpr.mk 0 0 [] [] []))⟩ <|
 .lp (QS G_laws_toExpr H_laws_toExpr a0 n 0 (List.replicate k1 (GExpr.mk 0 0 [] [] []))) fun ⟨o2_0, o2_1⟩ =>
 .ret o2_1) (zw Tryd.func73)
def Yg (G_laws_toExprS : (List GExpr) → Option (List GExpr)) (a0 : GExpr) : Option GExpr :=
 (yO a0.S).bind fun r1 =>
 (xR a0.K).bind fun r2 =>
 (G_laws_toExprS a0.Kids).bind fun r3 =>
 some (GExpr.mk a0.Kind a0.N r1 r2 r3)
theorem Ub (G_laws_toExprS : (List GExpr) → Option (List GExpr)) (H_laws_toExprS : kQ G_laws_toExprS) : j6 (Yg G_laws_toExprS) := fun a0 => tc (
 .cl (Zn a0.S) fun r1 =>
 .cl (YS a0.K) fun r2 =>
 .cl (H_laws_toExprS a0.Kids) fun r3 =>
 .ret (GExpr.mk a0.Kind a0.N r1 r2 r3)) (zw Tryd.func72)
mutual
def xG : Nat → (List GExpr) → Option (List GExpr)
 | 0, _ => none
 | n + 1, a0 => kR (wk n) n a0
def wk : Nat → GExpr → Option GExpr
 | 0, _ => none
 | n + 1, a0 => Yg (xG n) a0
end
theorem YT (n : Nat) : kQ (xG n) ∧ j6 (wk n) := by
 induction n with
 | zero => exact ⟨fun _ _ h => (by rw [xG] at h; cases h), fun _ _ h => (by rw [wk] at h; cases h)⟩
 | succ n ih =>
  obtain ⟨ih_laws_toExprS, ih_laws_toExpr⟩ := ih
  exact ⟨fun a0 r h => RK (wk n) ih_laws_toExpr n a0 r (by rw [xG] at h; exact h),
   fun a0 r h => Ub (xG n) ih_laws_toExprS a0 r (by rw [wk] at h; exact h)⟩
theorem TE {G : GExpr → Option GExpr} {a : List GExpr} {f : Nat} (ha : a.length <= 2 ^ 20) (hf : a.length < f) (hG : ∀ v ∈ a, G v = some v) : kR G f a = some a := by
 have loop : ∀ (d i m : Nat) (v : List GExpr), i + d = a.length → d < m → Pre a v i → ∃ z, xY G a m (i : Int) v = some (z, a) := by
  intro d
  induction d with
  | zero =>
   intro i m v hi hm hp
   obtain ⟨m, rfl, _⟩ := zi hm
   exact ⟨_, by rw [xY, if_neg (by omega), hp.done (by omega)]⟩
  | succ d ih =>
   intro i m v hi hm hp
   obtain ⟨m, rfl, hm'⟩ := zi hm
   have hil : i < a.length := by omega
   rw [xY, if_pos (by omega), zg, Option.bind_some, zu hil, Option.bind_some, hG _ (List.getElem_mem hil), Option.bind_some, zu (by rw [hp.1]; exact hil), Option.bind_some, yi (by omega)]
   exact ih (i + 1) m _ (by omega) (by omega) (hp.step hil)
 obtain ⟨z, hz⟩ := loop a.length 0 f (List.replicate a.length (GExpr.mk 0 0 [] [] [])) (by omega) (by omega) (Pre.start (by simp))
 rw [show ((0 : Nat) : Int) = 0 from rfl] at hz
 unfold kR
 rw [J7 ha (by decide), Option.bind_some, hz]; rfl
theorem Py : ∀ (N : Nat) (v : GExpr), xsz v < N → xsz v <= 2 ^ 20 → ∀ f : Nat, 2 * xsz v + 3 <= f → wk f v = some v := by
 intro N
 induction N with
 | zero => intro v hv; omega
 | succ N ih =>
  intro v hv hs f hf
  obtain ⟨f, rfl, _⟩ := zi (show 0 < f by omega)
  obtain ⟨f, rfl, _⟩ := zi (show 0 < f by omega)
  have he := xN v
  have hl := yd v.Kids
  rw [wk]
  unfold Yg yO xR
  rw [if_pos (by omega), Option.bind_some, if_pos (by omega), Option.bind_some, xG, TE (by omega) (by omega) fun x hx => ?_, Option.bind_some, GExpr.eta]
  have := yz hx
  exact ih x (by omega) (by omega) f (by omega)
def qZ (a0 : (List GExpr)) : Option (List GExpr) := if zx a0 <= 2 ^ 20 then some a0 else none
theorem JI (a0 : (List GExpr)) (r : (List GExpr)) (h : qZ a0 = some r) : ∃ n, xG n a0 = some r := by
 unfold qZ at h
 obtain ⟨ha, h⟩ := yg h
 have hl := yd a0
 refine ⟨2 * zx a0 + 5, ?_⟩
 rw [xG, TE (by omega) (by omega) fun x hx => ?_, h]
 have := yz hx
 exact Py _ x (Nat.lt_succ_self _) (by omega) _ (by omega)
def j7 (a0 : GExpr) : Option GExpr := if xsz a0 <= 2 ^ 20 then some a0 else none
theorem K1 (a0 : GExpr) (r : GExpr) (h : j7 a0 = some r) : ∃ n, wk n a0 = some r := by
 unfold j7 at h
 obtain ⟨ha, h⟩ := yg h
 exact ⟨2 * xsz a0 + 3, by rw [<- h]; exact Py _ a0 (Nat.lt_succ_self _) ha _ (Nat.le_refl _)⟩
theorem VD : kQ qZ := by
 intro a0 r h
 obtain ⟨n, hn⟩ := JI a0 r h
 exact (YT n).1 a0 r hn
theorem RL : j6 j7 := by
 intro a0 r h
 obtain ⟨n, hn⟩ := K1 a0 r h
 exact (YT n).2 a0 r hn
def j8 (a0 : GItem) : Option GItem :=
 (yO a0.Name).bind fun r1 =>
 (j7 a0.By).bind fun r2 =>
 (xR a0.Names).bind fun r3 =>
 (qZ a0.Exprs).bind fun r4 =>
 some (GItem.mk a0.Kind r1 a0.Many r2 r3 r4)
theorem RM (a0 : GItem) : Oc (j8 a0) 37 [] [.val true (yn a0)] fun r => (.val true (OJ r), []) := tc (
 .cl (Zn a0.Name) fun r1 =>
 .cl (RL a0.By) fun r2 =>
 .cl (YS a0.Names) fun r3 =>
 .cl (VD a0.Exprs) fun r4 =>
 .ret (GItem.mk a0.Kind r1 a0.Many r2 r3 r4)) (zw Tryd.func37)
def XQ (F : (List GItem) → Option (List GItem)) : Prop := ∀ (a0 : (List GItem)), Oc (F a0) 16 [] [vq zo a0] fun r => (.val false [.own 10 (eL wW r)], [])
def xZ (a0 : (List GItem)) : Nat → Int → (List GItem) → Option (Int × (List GItem))
  | 0, _, _ => none
  | m + 1, v1, v2 =>
  if v1 < (a0.length : Int) then
   (z6 v1).bind fun i2 =>
   (a0[i2]?).bind fun x3 =>
   (j8 x3).bind fun r4 =>
   (v2[i2]?).bind fun x5 =>
   xZ a0 m (w64 (v1 + 1)) (v2.set i2 r4)
  else
  some (v1, v2)
theorem QT (a0 : (List GItem)) (m : Nat) : ∀ (v1 : Int) (v2 : (List GItem)), Ol (xZ a0 m v1 v2) 16 (zY Tryd.f16 0) ⟨[(0, vq zo a0), (3, vr 0), (4, vi v1)], [.obj 10 (eL wW v2)], 0⟩ fun o => match o with | ⟨o_0, o_1⟩ => (.exit 0, ⟨[(0, vq zo a0), (3, vr 0), (4, vi o_0), (11, vb false)], [.obj 10 (eL wW o_1)], 0⟩) := by
  induction m with
  | zero => intro v1 v2 o h; cases h
  | succ m ih => exact fun v1 v2 => tlp (
   .le zo a0 <|
   .lI v1 (a0.length : Int) (fun c1 =>
    .na v1 fun i2 =>
    .ix xB a0 i2 fun x3 =>
    .cl (RM x3) fun r4 =>
    .ag 2 <|
    .ix yc v2 i2 fun x5 =>
    .ag 0 <|
    .sl (yc r4) v2 i2 <|
    .go (ih (w64 (v1 + 1)) (v2.set i2 r4))) fun c1 =>
   .ret (v1, v2))
def Z5 (n : Nat) (a0 : (List GItem)) : Option (List GItem) :=
 (Y2 176 (a0.length : Int)).bind fun k1 =>
 (xZ a0 n 0 (List.replicate k1 (GItem.mk 0 [] 0 (GExpr.mk 0 0 [] [] []) [] []))).bind fun ⟨o2_0, o2_1⟩ =>
 some o2_1
theorem RN (n : Nat) : XQ (Z5 n) := fun a0 => tc (
 .le zo a0 <|
 .q (.eTo (a0.length : Int) (a0.length : Int) rfl) <|
 .md 176 (a0.length : Int) fun k1 =>
 .q ⟨.rep k1 [.int .i64 0, .own 1 [], .int .i64 0, .int .i64 0, .int .i64 0, .own 1 [], .own 1 [], .own 5 [], .own 1 [], .own 5 []], .l (eL wW (List.replicate k1 (GItem.mk 0 [] 0 (GExpr.mk 0 0 [] [] []) [] []))), A.rep (yc (GItem.mk 0 [] 0 (GExpr.mk 0 0 [] [] []) [] []))⟩ <|
 .lp (QT a0 n 0 (List.replicate k1 (GItem.mk 0 [] 0 (GExpr.mk 0 0 [] [] []) [] []))) fun ⟨o2_0, o2_1⟩ =>
 .ret o2_1) (zw Tryd.func16)
theorem Pz {a : List GItem} (ha : a.length <= 2 ^ 20) (hG : ∀ v ∈ a, j8 v = some v) : ∀ (d i m : Nat) (v : List GItem), i + d = a.length → d < m → Pre a v i → ∃ z, xZ a m (i : Int) v = some (z, a) := by
 intro d
 induction d with
 | zero =>
  intro i m v hi hm hp
  obtain ⟨m, rfl, _⟩ := zi hm
  exact ⟨_, by rw [xZ, if_neg (by omega), hp.done (by omega)]⟩
 | succ d ih =>
  intro i m v hi hm hp
  obtain ⟨m, rfl, hm'⟩ := zi hm
  have hil : i < a.length := by omega
  rw [xZ, if_pos (by omega), zg, Option.bind_some, zu hil, Option.bind_some, hG _ (List.getElem_mem hil), Option.bind_some, zu (by rw [hp.1]; exact hil), Option.bind_some, yi (by omega)]
  exact ih (i + 1) m _ (by omega) (by omega) (hp.step hil)
theorem MS {v : GItem} (h : itz v <= 2 ^ 20) : j8 v = some v := by
 unfold itz at h
 unfold j8 yO j7 xR qZ
 rw [if_pos (by omega), Option.bind_some, if_pos (by omega), Option.bind_some, if_pos (by omega), Option.bind_some, if_pos (by omega), Option.bind_some]
 cases v; rfl
def ja (a0 : (List GItem)) : Option (List GItem) := if yE a0 <= 2 ^ 20 then some a0 else none
theorem JJ (a0 : (List GItem)) (r : (List GItem)) (h : ja a0 = some r) : ∃ n, Z5 n a0 = some r := by
 unfold ja at h
 obtain ⟨ha, h⟩ := yg h
 have hl := ql a0
 refine ⟨a0.length + 1, ?_⟩
 obtain ⟨z, hz⟩ := Pz (a := a0) (by omega) (fun v hv => MS (by have := ZJ hv; omega)) a0.length 0 (a0.length + 1) (List.replicate a0.length (GItem.mk 0 [] 0 (GExpr.mk 0 0 [] [] []) [] [])) (by omega) (by omega) (Pre.start (by simp))
 unfold Z5
 rw [J7 (by omega) (by decide), Option.bind_some, show (0 : Int) = ((0 : Nat) : Int) from rfl]
 exact (congrArg (fun x => Option.bind x _) hz).trans h
theorem VE : XQ ja := fun a0 r h => (JJ a0 r h).elim fun n hn => RN n a0 r hn
def WY (F : (List UInt8) → Option Bool) : Prop := ∀ (a0 : (List UInt8)), Oc (F a0) 83 [] [vq za a0] fun r => (vb r, [])
def ww (a0 : (List UInt8)) : Nat → Int → Option (Bool ⊕ Int)
  | 0, _ => none
  | m + 1, v1 =>
  if v1 < (a0.length : Int) then
   (z6 v1).bind fun i2 =>
   (a0[i2]?).bind fun x3 =>
   if ((x3.toNat : Nat) : Int) < 97 then
    some (.inl false)
   else
   if 122 < ((x3.toNat : Nat) : Int) then
    some (.inl false)
   else
   ww a0 m (w64 (v1 + 1))
  else
  some (.inr v1)
theorem JK (a0 : (List UInt8)) (m : Nat) : ∀ (v1 : Int), Ol (ww a0 m v1) 83 (zY Tryd.f83 0) ⟨[(0, vq za a0), (3, vi v1)], [], 0⟩ fun o => match o with | .inl o_0 => (.ret, ⟨[(2, vb o_0)], [], 0⟩) | .inr (o_1) => (.exit 0, ⟨[(0, vq za a0), (3, vi o_1), (15, vb false)], [], 0⟩) := by
  induction m with
  | zero => intro v1 o h; cases h
  | succ m ih => exact fun v1 => tlp (
   .le za a0 <|
   .lI v1 (a0.length : Int) (fun c1 =>
    .na v1 fun i2 =>
    .ix0 za a0 i2 fun x3 =>
    .lI ((x3.toNat : Nat) : Int) 97 (fun c4 =>
     .ret (.inl false)) fun c4 =>
    .ag 1 <|
    .ag 0 <|
    .lI 122 ((x3.toNat : Nat) : Int) (fun c5 =>
     .ret (.inl false)) fun c5 =>
    .go (ih (w64 (v1 + 1)))) fun c1 =>
   .ret (.inr v1))
def Yh (n : Nat) (a0 : (List UInt8)) : Option Bool :=
 if (a0.length : Int) < 1 then
  some false
 else
 if 8 < (a0.length : Int) then
  some false
 else
 (ww a0 n 0).bind fun o3 =>
 match o3 with
 | .inl o3_0 =>
  some o3_0
 | .inr (o3_1) =>
  some true
theorem Uc (n : Nat) : WY (Yh n) := fun a0 => tc (
 .le za a0 <|
 .lI (a0.length : Int) 1 (fun c1 =>
  .ret false) fun c1 =>
 .le za a0 <|
 .lI 8 (a0.length : Int) (fun c2 =>
  .ret false) fun c2 =>
 .l2 (JK a0 n 0) (fun o3_0 =>
  .ret o3_0) fun o3_1 =>
 .ret true) (zw Tryd.func83)
theorem K3 {a : List UInt8} (ha : a.length <= 2 ^ 20) : ∀ (d i m : Nat), i + d = a.length → d < m → ∃ z, ww a m (i : Int) = some (if (a.drop i).all (inB 97 122) = true then .inr z else .inl false) := by
 intro d
 induction d with
 | zero =>
  intro i m hi hm
  obtain ⟨m, rfl, _⟩ := zi hm
  exact ⟨_, by rw [ww, if_neg (by omega), List.drop_eq_nil_of_le (by omega)]; rfl⟩
 | succ d ih =>
  intro i m hi hm
  obtain ⟨m, rfl, hm'⟩ := zi hm
  have hil : i < a.length := by omega
  rw [ww, if_pos (by omega), zg, Option.bind_some, zu hil, Option.bind_some, yi (by omega), yP hil, List.all_cons]
  by_cases h1 : ((a[i].toNat : Nat) : Int) < 97
  ·exact ⟨0, by rw [if_pos h1, if_neg]; simp [inB]; omega⟩
  ·rw [if_neg h1]
   by_cases h2 : (122 : Int) < ((a[i].toNat : Nat) : Int)
   ·exact ⟨0, by rw [if_pos h2, if_neg]; simp [inB]; omega⟩
   ·rw [if_neg h2, show inB 97 122 a[i] = true by simp [inB]; omega, Bool.true_and]
    exact ih (i + 1) m (by omega) (by omega)
def yu (a0 : (List UInt8)) : Option Bool := if a0.length <= 2 ^ 20 then some (yV a0) else none
theorem K4 (a0 : (List UInt8)) (r : Bool) (h : yu a0 = some r) : ∃ n, Yh n a0 = some r := by
 unfold yu at h
 obtain ⟨ha, h⟩ := yg h
 refine ⟨a0.length + 1, ?_⟩
 obtain ⟨z, hz⟩ := K3 ha a0.length 0 (a0.length + 1) (by omega) (by omega)
 rw [show ((0 : Nat) : Int) = 0 from rfl, List.drop_zero] at hz
 unfold Yh
 rw [<- h, hz]
 unfold yV
 by_cases h1 : 1 <= a0.length
 ·rw [if_neg (by omega)]
  by_cases hl : a0.length <= 8
  ·rw [if_neg (by omega), decide_eq_true ⟨h1, hl⟩]
   cases a0.all (inB 97 122) <;> rfl
  ·rw [if_pos (by omega), decide_eq_false (fun h => hl h.2)]; rfl
 ·rw [if_pos (by omega), decide_eq_false (fun h => h1 h.1)]; rfl
theorem xf : WY yu := fun a0 r h => (K4 a0 r h).elim fun n hn => Uc n a0 r hn
def WZ (F : (List UInt8) → Option Bool) : Prop := ∀ (a0 : (List UInt8)), Oc (F a0) 124 [] [vq za a0] fun r => (vb r, [])
def wx (a0 : (List UInt8)) (v2 : (List (List UInt8))) : Nat → Int → Option (Bool ⊕ Int)
  | 0, _ => none
  | m + 1, v1 =>
  if v1 < (v2.length : Int) then
   (z6 v1).bind fun i2 =>
   (v2[i2]?).bind fun x3 =>
   if x3 = a0 then
    some (.inl true)
   else
   wx a0 v2 m (w64 (v1 + 1))
  else
  some (.inr v1)
theorem JL (a0 : (List UInt8)) (v2 : (List (List UInt8))) (m : Nat) : ∀ (v1 : Int), Ol (wx a0 v2 m v1) 124 (zY Tryd.f124 0) ⟨[(0, vq za a0), (3, vr 0), (4, vi v1)], [.obj 1 (eL wr v2)], 0⟩ fun o => match o with | .inl o_0 => (.ret, ⟨[(2, vb o_0)], [], 0⟩) | .inr (o_1) => (.exit 0, ⟨[(0, vq za a0), (3, vr 0), (4, vi o_1), (9, vb false)], [.obj 1 (eL wr v2)], 0⟩) := by
  induction m with
  | zero => intro v1 o h; cases h
  | succ m ih => exact fun v1 => tlp (
   .le wr v2 <|
   .lI v1 (v2.length : Int) (fun c1 =>
    .na v1 fun i2 =>
    .ix0 wr v2 i2 fun x3 =>
    .ag 0 <|
    .bt a0 <|
    .sI x3 a0 (fun c4 =>
     .ret (.inl true)) fun c4 =>
    .go (ih (w64 (v1 + 1)))) fun c1 =>
   .ret (.inr v1))
def Yi (n : Nat) (a0 : (List UInt8)) : Option Bool :=
 (wx a0 [[110, 117, 108, 108], [116, 114, 117, 101], [102, 97, 108, 115, 101], [105, 110, 100, 101, 120], [107, 101, 121], [118, 97, 108], [108, 111, 99, 97, 108], [114, 101, 115], [111, 117, 116], [99, 111, 117, 110, 116], [101, 97, 99, 104]] n 0).bind fun o1 =>
 match o1 with
 | .inl o1_0 =>
  some o1_0
 | .inr (o1_1) =>
  some false
theorem Ud (n : Nat) : WZ (Yi n) := fun a0 => tc (
 .l2 (JL a0 [[110, 117, 108, 108], [116, 114, 117, 101], [102, 97, 108, 115, 101], [105, 110, 100, 101, 120], [107, 101, 121], [118, 97, 108], [108, 111, 99, 97, 108], [114, 101, 115], [111, 117, 116], [99, 111, 117, 110, 116], [101, 97, 99, 104]] n 0) (fun o1_0 =>
  .ret o1_0) fun o1_1 =>
 .ret false) (zw Tryd.func124)
theorem Oi {a : List UInt8} {l : List (List UInt8)} (hl : l.length <= 2 ^ 20) : ∀ (d i m : Nat), i + d = l.length → d < m → ∃ z, wx a l m (i : Int) = some (if ((l.drop i).any fun w => decide (w = a)) = true then .inl true else .inr z) := by
 intro d
 induction d with
 | zero =>
  intro i m hi hm
  obtain ⟨m, rfl, _⟩ := zi hm
  exact ⟨_, by rw [wx, if_neg (by omega), List.drop_eq_nil_of_le (by omega)]; rfl⟩
 | succ d ih =>
  intro i m hi hm
  obtain ⟨m, rfl, hm'⟩ := zi hm
  have hil : i < l.length := by omega
  rw [wx, if_pos (by omega), zg, Option.bind_some, zu hil, Option.bind_some, yi (by omega), yP hil, List.any_cons]
  by_cases h : l[i] = a
  ·exact ⟨0, by rw [if_pos h, decide_eq_true h, Bool.true_or]; rfl⟩
  ·rw [if_neg h, decide_eq_false h, Bool.false_or]
   exact ih (i + 1) m (by omega) (by omega)
def qu (a0 : (List UInt8)) : Option Bool := some (vG a0)
theorem K5 (a0 : (List UInt8)) (r : Bool) (h : qu a0 = some r) : ∃ n, Yi n a0 = some r := by
 obtain rfl := Option.some.inj h
 obtain ⟨z, hz⟩ := Oi (a := a0) (l := VW) (by decide) 11 0 12 (by decide) (by omega)
 rw [show ((0 : Nat) : Int) = 0 from rfl, List.drop_zero] at hz
 refine ⟨12, ?_⟩
 unfold Yi
 rw [show [[110, 117, 108, 108], [116, 114, 117, 101], [102, 97, 108, 115, 101], [105, 110, 100, 101, 120], [107, 101, 121], [118, 97, 108], [108, 111, 99, 97, 108], [114, 101, 115], [111, 117, 116], [99, 111, 117, 110, 116], [101, 97, 99, 104]] = VW from rfl, hz]
 unfold vG
 cases VW.any fun w => decide (w = a0) <;> rfl
theorem Z6 : WZ qu := fun a0 r h => (K5 a0 r h).elim fun n hn => Ud n a0 r hn
def qv (a0 : (List UInt8)) : Option Bool :=
 (yu a0).bind fun r1 =>
 match r1 with
 | true =>
  (qu a0).bind fun r2 =>
  some (!r2)
 | false =>
  some false
theorem Z7 (a0 : (List UInt8)) : Oc (qv a0) 98 [] [vq za a0] fun r => (vb r, []) := tc (
 .cl (xf a0) fun r1 =>
 .vM 0 r1 (
  .az 0 0 <|
  .cl (Z6 a0) fun r2 =>
  .az 0 1 <|
  .az 0 1 <|
  .ret (!r2)) <|
 .az 0 0 <|
 .az 0 0 <|
 .az 0 0 <|
 .ret false) (zw Tryd.func98)
def vx (a0 : GExpr) : Option Bool :=
 if a0.Kind = 0 then
  if a0.N = 0 then
   if (a0.S.length : Int) = 0 then
    if (a0.K.length : Int) = 0 then
     some (decide ((a0.Kids.length : Int) = 0))
    else
    some false
   else
   some false
  else
  some false
 else
 some false
theorem XR (a0 : GExpr) : Oc (vx a0) 99 [] [.val true (yh a0)] fun r => (vb r, []) := tc (
 .eI a0.Kind 0 (fun c1 =>
  .eI a0.N 0 (fun c2 =>
   .le za a0.S <|
   .eI (a0.S.length : Int) 0 (fun c3 =>
    .le (z7 za) a0.K <|
    .eI (a0.K.length : Int) 0 (fun c4 =>
     .le ze a0.Kids <|
     .eD (a0.Kids.length : Int) 0 <|
     .ret (decide ((a0.Kids.length : Int) = 0))) fun c4 =>
    .ret false) fun c3 =>
   .ret false) fun c2 =>
  .ret false) fun c1 =>
 .ret false) (zw Tryd.func99)
def jb (a0 : Int) : Option Int :=
 if a0 = 4 then
  some (-1)
 else
 if a0 = 5 then
  some (-1)
 else
 if a0 = 23 then
  some (-1)
 else
 if a0 = 8 then
  some 1
 else
 if a0 = 13 then
  some 1
 else
 if a0 = 14 then
  some 1
 else
 if a0 = 9 then
  some 2
 else
 if a0 = 15 then
  some 2
 else
 if a0 = 16 then
  some 2
 else
 if a0 = 17 then
  some 2
 else
 if a0 = 18 then
  some 2
 else
 if a0 = 19 then
  some 2
 else
 if a0 = 20 then
  some 2
 else
 if a0 = 21 then
  some 2
 else
 if a0 = 22 then
  some 3
 else
 some 0
theorem VF (a0 : Int) : Oc (jb a0) 125 [] [vi a0] fun r => (vi r, []) := tc (
 .eI a0 4 (fun c1 =>
  .ret (-1)) fun c1 =>
 .eI a0 5 (fun c2 =>
  .ret (-1)) fun c2 =>
 .eI a0 23 (fun c3 =>
  .ret (-1)) fun c3 =>
 .eI a0 8 (fun c4 =>
  .ret 1) fun c4 =>
 .eI a0 13 (fun c5 =>
  .ret 1) fun c5 =>
 .eI a0 14 (fun c6 =>
  .ret 1) fun c6 =>
 .eI a0 9 (fun c7 =>
  .ret 2) fun c7 =>
 .eI a0 15 (fun c8 =>
  .ret 2) fun c8 =>
 .eI a0 16 (fun c9 =>
  .ret 2) fun c9 =>
 .eI a0 17 (fun c10 =>
  .ret 2) fun c10 =>
 .eI a0 18 (fun c11 =>
  .ret 2) fun c11 =>
 .eI a0 19 (fun c12 =>
  .ret 2) fun c12 =>
 .eI a0 20 (fun c13 =>
  .ret 2) fun c13 =>
 .eI a0 21 (fun c14 =>
  .ret 2) fun c14 =>
 .eI a0 22 (fun c15 =>
  .ret 3) fun c15 =>
 .ret 0) (zw Tryd.func125)
def Qa (F : (List UInt8) → Option Bool) : Prop := ∀ (a0 : (List UInt8)), Oc (F a0) 115 [] [vq za a0] fun r => (vb r, [])
def wy (a0 : (List UInt8)) : Nat → Int → Option (Bool ⊕ Int)
  | 0, _ => none
  | m + 1, v1 =>
  if v1 < (a0.length : Int) then
   (z6 v1).bind fun i2 =>
   (a0[i2]?).bind fun x3 =>
   if ((x3.toNat : Nat) : Int) < 32 then
    some (.inl false)
   else
   if 126 < ((x3.toNat : Nat) : Int) then
    some (.inl false)
   else
   wy a0 m (w64 (v1 + 1))
  else
  some (.inr v1)
theorem JM (a0 : (List UInt8)) (m : Nat) : ∀ (v1 : Int), Ol (wy a0 m v1) 115 (zY Tryd.f115 0) ⟨[(0, vq za a0), (3, vi v1)], [], 0⟩ fun o => match o with | .inl o_0 => (.ret, ⟨[(2, vb o_0)], [], 0⟩) | .inr (o_1) => (.exit 0, ⟨[(0, vq za a0), (3, vi o_1), (10, vb false)], [], 0⟩) := by
  induction m with
  | zero => intro v1 o h; cases h
  | succ m ih => exact fun v1 => tlp (
   .le za a0 <|
   .lI v1 (a0.length : Int) (fun c1 =>
    .na v1 fun i2 =>
    .ix0 za a0 i2 fun x3 =>
    .lI ((x3.toNat : Nat) : Int) 32 (fun c4 =>
     .ret (.inl false)) fun c4 =>
    .ag 1 <|
    .ag 0 <|
    .lI 126 ((x3.toNat : Nat) : Int) (fun c5 =>
     .ret (.inl false)) fun c5 =>
    .go (ih (w64 (v1 + 1)))) fun c1 =>
   .ret (.inr v1))
def Yj (n : Nat) (a0 : (List UInt8)) : Option Bool :=
 if 20 < (a0.length : Int) then
  some false
 else
 (wy a0 n 0).bind fun o2 =>
 match o2 with
 | .inl o2_0 =>
  some o2_0
 | .inr (o2_1) =>
  some true
theorem Ue (n : Nat) : Qa (Yj n) := fun a0 => tc (
 .le za a0 <|
 .lI 20 (a0.length : Int) (fun c1 =>
  .ret false) fun c1 =>
 .l2 (JM a0 n 0) (fun o2_0 =>
  .ret o2_0) fun o2_1 =>
 .ret true) (zw Tryd.func115)
theorem K6 {a : List UInt8} (ha : a.length <= 2 ^ 20) : ∀ (d i m : Nat), i + d = a.length → d < m → ∃ z, wy a m (i : Int) = some (if (a.drop i).all (inB 32 126) = true then .inr z else .inl false) := by
 intro d
 induction d with
 | zero =>
  intro i m hi hm
  obtain ⟨m, rfl, _⟩ := zi hm
  exact ⟨_, by rw [wy, if_neg (by omega), List.drop_eq_nil_of_le (by omega)]; rfl⟩
 | succ d ih =>
  intro i m hi hm
  obtain ⟨m, rfl, hm'⟩ := zi hm
  have hil : i < a.length := by omega
  rw [wy, if_pos (by omega), zg, Option.bind_some, zu hil, Option.bind_some, yi (by omega), yP hil, List.all_cons]
  by_cases h1 : ((a[i].toNat : Nat) : Int) < 32
  ·exact ⟨0, by rw [if_pos h1, if_neg]; simp [inB]; omega⟩
  ·rw [if_neg h1]
   by_cases h2 : (126 : Int) < ((a[i].toNat : Nat) : Int)
   ·exact ⟨0, by rw [if_pos h2, if_neg]; simp [inB]; omega⟩
   ·rw [if_neg h2, show inB 32 126 a[i] = true by simp [inB]; omega, Bool.true_and]
    exact ih (i + 1) m (by omega) (by omega)
def qw (a0 : (List UInt8)) : Option Bool := if a0.length <= 2 ^ 20 then some (ZP a0) else none
theorem K7 (a0 : (List UInt8)) (r : Bool) (h : qw a0 = some r) : ∃ n, Yj n a0 = some r := by
 unfold qw at h
 obtain ⟨ha, h⟩ := yg h
 refine ⟨a0.length + 1, ?_⟩
 obtain ⟨z, hz⟩ := K6 ha a0.length 0 (a0.length + 1) (by omega) (by omega)
 rw [show ((0 : Nat) : Int) = 0 from rfl, List.drop_zero] at hz
 unfold Yj
 rw [<- h, hz]
 unfold ZP
 by_cases hl : a0.length <= 20
 ·rw [if_neg (by omega), decide_eq_true hl]
  cases a0.all (inB 32 126) <;> rfl
 ·rw [if_pos (by omega), decide_eq_false hl]; rfl
theorem XS : Qa qw := fun a0 r h => (K7 a0 r h).elim fun n hn => Ue n a0 r hn
def j9 (F : GExpr → Int → Int → Option Int) : Prop := ∀ (a0 : GExpr) (a1 : Int) (a2 : Int), Oc (F a0 a1 a2) 100 [] [.val true (yh a0), vi a1, vi a2] fun r => (vi r, [])
def zj (G_spec_l6expr : GExpr → Int → Int → Option Int) (a1 : Int) (a0 : GExpr) : Nat → Int → Int → Option (Int ⊕ (Int × Int))
  | 0, _, _ => none
  | m + 1, v1, v2 =>
  if v2 < (a0.Kids.length : Int) then
   if a0.Kind = 5 then
    (z6 v2).bind fun i3 =>
    (a0.K[i3]?).bind fun x4 =>
    (yu x4).bind fun r5 =>
    match r5 with
    | true =>
     if 0 < v2 then
      (z6 (w64 (v2 - 1))).bind fun i7 =>
      (a0.K[i7]?).bind fun x8 =>
      if Op.bytesLess x8 x4 = true then
       (a0.Kids[i3]?).bind fun x10 =>
       (G_spec_l6expr x10 (w64 (a1 + 1)) v1).bind fun r11 =>
       if r11 < 0 then
        some (.inl (-1))
       else
       zj G_spec_l6expr a1 a0 m r11 (w64 (v2 + 1))
      else
      some (.inl (-1))
     else
     (a0.Kids[i3]?).bind fun x7 =>
     (G_spec_l6expr x7 (w64 (a1 + 1)) v1).bind fun r8 =>
     if r8 < 0 then
      some (.inl (-1))
     else
     zj G_spec_l6expr a1 a0 m r8 (w64 (v2 + 1))
    | false =>
     some (.inl (-1))
   else
   (z6 v2).bind fun i3 =>
   (a0.Kids[i3]?).bind fun x4 =>
   (G_spec_l6expr x4 (w64 (a1 + 1)) v1).bind fun r5 =>
   if r5 < 0 then
    some (.inl (-1))
   else
   zj G_spec_l6expr a1 a0 m r5 (w64 (v2 + 1))
  else
  some (.inr (v1, v2))
theorem z8 (G_spec_l6expr : GExpr → Int → Int → Option Int) (H_spec_l6expr : j9 G_spec_l6expr) (a1 : Int) (a0 : GExpr) (m : Nat) : ∀ (v1 : Int) (v2 : Int), Ol (zj G_spec_l6expr a1 a0 m v1 v2) 100 (zY Tryd.f100 0) ⟨[(1, vi a1), (2, vi v1), (3, vp 0 0), (8, vi v2)], [.var (yh a0)], 0⟩ fun o => match o with | .inl o_0 => (.ret, ⟨[(6, vi o_0)], [], 0⟩) | .inr (⟨o_1_0, o_1_1⟩) => (.exit 2, ⟨[(1, vi a1), (2, vi o_1_0), (3, vp 0 0), (8, vi o_1_1), (129, vb false)], [.var (yh a0)], 0⟩) := by
  induction m with
  | zero => intro v1 v2 o h; cases h
  | succ m ih => exact fun v1 v2 => tlp (
   .le ze a0.Kids <|
   .lI v2 (a0.Kids.length : Int) (fun c1 =>
    .eI a0.Kind 5 (fun c2 =>
     .na v2 fun i3 =>
     .ix0 (z7 za) a0.K i3 fun x4 =>
     .cl (xf x4) fun r5 =>
     .vN 2 r5 (
      .an 0 0 <|
      .lI 0 v2 (fun c6 =>
       .an 0 0 <|
       .na (w64 (v2 - 1)) fun i7 =>
       .ix0 (z7 za) a0.K i7 fun x8 =>
       .bt x8 <|
       .ag 5 <|
       .ag 4 <|
       .bt x4 <|
       .bI x8 x4 (fun c9 =>
        .an 0 2 <|
        .an 2 2 <|
        .ag 5 <|
        .ix zA a0.Kids i3 fun x10 =>
        .cl (H_spec_l6expr x10 (w64 (a1 + 1)) v1) fun r11 =>
        .lI r11 0 (fun c12 =>
         .ret (.inl (-1))) fun c12 =>
        .go (ih r11 (w64 (v2 + 1)))) fun c9 =>
       .an 0 2 <|
       .an 2 2 <|
       .ret (.inl (-1))) fun c6 =>
      .an 0 0 <|
      .an 14 0 <|
      .an 2 0 <|
      .ag 3 <|
      .ix zA a0.Kids i3 fun x7 =>
      .cl (H_spec_l6expr x7 (w64 (a1 + 1)) v1) fun r8 =>
      .lI r8 0 (fun c9 =>
       .ret (.inl (-1))) fun c9 =>
      .go (ih r8 (w64 (v2 + 1)))) <|
     .an 0 0 <|
     .an 0 0 <|
     .an 0 0 <|
     .an 1 0 <|
     .ret (.inl (-1))) fun c2 =>
    .na v2 fun i3 =>
    .ix zA a0.Kids i3 fun x4 =>
    .cl (H_spec_l6expr x4 (w64 (a1 + 1)) v1) fun r5 =>
    .lI r5 0 (fun c6 =>
     .ret (.inl (-1))) fun c6 =>
    .go (ih r5 (w64 (v2 + 1)))) fun c1 =>
   .ret (.inr (v1, v2)))
def wJ (G_spec_l6expr : GExpr → Int → Int → Option Int) (n : Nat) (a0 : GExpr) (a1 : Int) (a2 : Int) : Option Int :=
 if (w64 (a2 - 1)) < 0 then
  some (-1)
 else
 if 10 < a1 then
  some (-1)
 else
 if a0.Kind < 0 then
  some (-1)
 else
 if 23 < a0.Kind then
  some (-1)
 else
 (jb a0.Kind).bind fun r5 =>
 if 0 <= r5 then
  if (a0.Kids.length : Int) = r5 then
   if a0.Kind = 5 then
    if (a0.K.length : Int) = (a0.Kids.length : Int) then
     if a0.N = 0 then
      if 0 < (a0.S.length : Int) then
       some (-1)
      else
      (zj G_spec_l6expr a1 a0 n (w64 (a2 - 1)) 0).bind fun o12 =>
      match o12 with
      | .inl o12_0 =>
       some o12_0
      | .inr (⟨o12_1_0, o12_1_1⟩) =>
       some o12_1_0
     else
     some (-1)
    else
    some (-1)
   else
   if 0 < (a0.K.length : Int) then
    some (-1)
   else
   if a0.Kind = 1 then
    if a0.N < 0 then
     some (-1)
    else
    if 1 < a0.N then
     some (-1)
    else
    if 0 < (a0.S.length : Int) then
     some (-1)
    else
    (zj G_spec_l6expr a1 a0 n (w64 (a2 - 1)) 0).bind fun o14 =>
    match o14 with
    | .inl o14_0 =>
     some o14_0
    | .inr (⟨o14_1_0, o14_1_1⟩) =>
     some o14_1_0
   else
   if a0.Kind = 2 then
    if a0.N < 0 then
     some (-1)
    else
    if 1000000000000 < a0.N then
     some (-1)
    else
    if 0 < (a0.S.length : Int) then
     some (-1)
    else
    (zj G_spec_l6expr a1 a0 n (w64 (a2 - 1)) 0).bind fun o15 =>
    match o15 with
    | .inl o15_0 =>
     some o15_0
    | .inr (⟨o15_1_0, o15_1_1⟩) =>
     some o15_1_0
   else
   if a0.N = 0 then
    if a0.Kind = 3 then
     (qw a0.S).bind fun r14 =>
     match r14 with
     | true =>
      (zj G_spec_l6expr a1 a0 n (w64 (a2 - 1)) 0).bind fun o15 =>
      match o15 with
      | .inl o15_0 =>
       some o15_0
      | .inr (⟨o15_1_0, o15_1_1⟩) =>
       some o15_1_0
     | false =>
      some (-1)
    else
    if a0.Kind = 6 then
     (yu a0.S).bind fun r15 =>
     match r15 with
     | true =>
      (zj G_spec_l6expr a1 a0 n (w64 (a2 - 1)) 0).bind fun o16 =>
      match o16 with
      | .inl o16_0 =>
       some o16_0
      | .inr (⟨o16_1_0, o16_1_1⟩) =>
       some o16_1_0
     | false =>
      some (-1)
    else
    if a0.Kind = 8 then
     (yu a0.S).bind fun r16 =>
     match r16 with
     | true =>
      (zj G_spec_l6expr a1 a0 n (w64 (a2 - 1)) 0).bind fun o17 =>
      match o17 with
      | .inl o17_0 =>
       some o17_0
      | .inr (⟨o17_1_0, o17_1_1⟩) =>
       some o17_1_0
     | false =>
      some (-1)
    else
    if a0.Kind = 23 then
     (yu a0.S).bind fun r17 =>
     match r17 with
     | true =>
      (qu a0.S).bind fun r18 =>
      match r18 with
      | true =>
       some (-1)
      | false =>
       (zj G_spec_l6expr a1 a0 n (w64 (a2 - 1)) 0).bind fun o19 =>
       match o19 with
       | .inl o19_0 =>
        some o19_0
       | .inr (⟨o19_1_0, o19_1_1⟩) =>
        some o19_1_0
     | false =>
      some (-1)
    else
    if a0.Kind = 7 then
     (qv a0.S).bind fun r18 =>
     match r18 with
     | true =>
      (zj G_spec_l6expr a1 a0 n (w64 (a2 - 1)) 0).bind fun o19 =>
      match o19 with
      | .inl o19_0 =>
       some o19_0
      | .inr (⟨o19_1_0, o19_1_1⟩) =>
       some o19_1_0
     | false =>
      some (-1)
    else
    if 0 < (a0.S.length : Int) then
     some (-1)
    else
    (zj G_spec_l6expr a1 a0 n (w64 (a2 - 1)) 0).bind fun o19 =>
    match o19 with
    | .inl o19_0 =>
     some o19_0
    | .inr (⟨o19_1_0, o19_1_1⟩) =>
     some o19_1_0
   else
   some (-1)
  else
  some (-1)
 else
 if a0.Kind = 5 then
  if (a0.K.length : Int) = (a0.Kids.length : Int) then
   if a0.N = 0 then
    if 0 < (a0.S.length : Int) then
     some (-1)
    else
    (zj G_spec_l6expr a1 a0 n (w64 (a2 - 1)) 0).bind fun o11 =>
    match o11 with
    | .inl o11_0 =>
     some o11_0
    | .inr (⟨o11_1_0, o11_1_1⟩) =>
     some o11_1_0
   else
   some (-1)
  else
  some (-1)
 else
 if 0 < (a0.K.length : Int) then
  some (-1)
 else
 if a0.Kind = 1 then
  if a0.N < 0 then
   some (-1)
  else
  if 1 < a0.N then
   some (-1)
  else
  if 0 < (a0.S.length : Int) then
   some (-1)
  else
  (zj G_spec_l6expr a1 a0 n (w64 (a2 - 1)) 0).bind fun o13 =>
  match o13 with
  | .inl o13_0 =>
   some o13_0
  | .inr (⟨o13_1_0, o13_1_1⟩) =>
   some o13_1_0
 else
 if a0.Kind = 2 then
  if a0.N < 0 then
   some (-1)
  else
  if 1000000000000 < a0.N then
   some (-1)
  else
  if 0 < (a0.S.length : Int) then
   some (-1)
  else
  (zj G_spec_l6expr a1 a0 n (w64 (a2 - 1)) 0).bind fun o14 =>
  match o14 with
  | .inl o14_0 =>
   some o14_0
  | .inr (⟨o14_1_0, o14_1_1⟩) =>
   some o14_1_0
 else
 if a0.N = 0 then
  if a0.Kind = 3 then
   (qw a0.S).bind fun r13 =>
   match r13 with
   | true =>
    (zj G_spec_l6expr a1 a0 n (w64 (a2 - 1)) 0).bind fun o14 =>
    match o14 with
    | .inl o14_0 =>
     some o14_0
    | .inr (⟨o14_1_0, o14_1_1⟩) =>
     some o14_1_0
   | false =>
    some (-1)
  else
  if a0.Kind = 6 then
   (yu a0.S).bind fun r14 =>
   match r14 with
   | true =>
    (zj G_spec_l6expr a1 a0 n (w64 (a2 - 1)) 0).bind fun o15 =>
    match o15 with
    | .inl o15_0 =>
     some o15_0
    | .inr (⟨o15_1_0, o15_1_1⟩) =>
     some o15_1_0
   | false =>
    some (-1)
  else
  if a0.Kind = 8 then
   (yu a0.S).bind fun r15 =>
   match r15 with
   | true =>
    (zj G_spec_l6expr a1 a0 n (w64 (a2 - 1)) 0).bind fun o16 =>
    match o16 with
    | .inl o16_0 =>
     some o16_0
    | .inr (⟨o16_1_0, o16_1_1⟩) =>
     some o16_1_0
   | false =>
    some (-1)
  else
  if a0.Kind = 23 then
   (yu a0.S).bind fun r16 =>
   match r16 with
   | true =>
    (qu a0.S).bind fun r17 =>
    match r17 with
    | true =>
     some (-1)
    | false =>
     (zj G_spec_l6expr a1 a0 n (w64 (a2 - 1)) 0).bind fun o18 =>
     match o18 with
     | .inl o18_0 =>
      some o18_0
     | .inr (⟨o18_1_0, o18_1_1⟩) =>
      some o18_1_0
   | false =>
    some (-1)
  else
  if a0.Kind = 7 then
   (qv a0.S).bind fun r17 =>
   match r17 with
   | true =>
    (zj G_spec_l6expr a1 a0 n (w64 (a2 - 1)) 0).bind fun o18 =>
    match o18 with
    | .inl o18_0 =>
     some o18_0
    | .inr (⟨o18_1_0, o18_1_1⟩) =>
     some o18_1_0
   | false =>
    some (-1)
  else
  if 0 < (a0.S.length : Int) then
   some (-1)
  else
  (zj G_spec_l6expr a1 a0 n (w64 (a2 - 1)) 0).bind fun o18 =>
  match o18 with
  | .inl o18_0 =>
   some o18_0
  | .inr (⟨o18_1_0, o18_1_1⟩) =>
   some o18_1_0
 else
 some (-1)
theorem Uf (G_spec_l6expr : GExpr → Int → Int → Option Int) (H_spec_l6expr : j9 G_spec_l6expr) (n : Nat) : j9 (wJ G_spec_l6expr n) := fun a0 a1 a2 => tc (
 .lI (w64 (a2 - 1)) 0 (fun c1 =>
  .ret (-1)) fun c1 =>
 .lI 10 a1 (fun c2 =>
  .ret (-1)) fun c2 =>
 .lI a0.Kind 0 (fun c3 =>
  .ret (-1)) fun c3 =>
 .lI 23 a0.Kind (fun c4 =>
  .ret (-1)) fun c4 =>
 .cl (VF a0.Kind) fun r5 =>
 .gI 0 r5 (fun c6 =>
  .le ze a0.Kids <|
  .eI (a0.Kids.length : Int) r5 (fun c7 =>
   .eI a0.Kind 5 (fun c8 =>
    .le (z7 za) a0.K <|
    .le ze a0.Kids <|
    .eI (a0.K.length : Int) (a0.Kids.length : Int) (fun c9 =>
     .q (.eT c8) <|
     .q (.eFo a0.Kind 1 (by omega)) <|
     .q (.eFo a0.Kind 2 (by omega)) <|
     .eI a0.N 0 (fun c10 =>
      .q (.eFo a0.Kind 3 (by omega)) <|
      .q (.eFo a0.Kind 6 (by omega)) <|
      .q (.eFo a0.Kind 8 (by omega)) <|
      .q (.eFo a0.Kind 23 (by omega)) <|
      .q (.eFo a0.Kind 7 (by omega)) <|
      .le za a0.S <|
      .lI 0 (a0.S.length : Int) (fun c11 =>
       .ret (-1)) fun c11 =>
      .l2 (z8 G_spec_l6expr H_spec_l6expr a1 a0 n (w64 (a2 - 1)) 0) (fun o12_0 =>
       .ret o12_0) fun ⟨o12_1_0, o12_1_1⟩ =>
      .ret o12_1_0) fun c10 =>
     .ret (-1)) fun c9 =>
    .ret (-1)) fun c8 =>
   .q (.eF c8) <|
   .le (z7 za) a0.K <|
   .lI 0 (a0.K.length : Int) (fun c9 =>
    .ret (-1)) fun c9 =>
   .eI a0.Kind 1 (fun c10 =>
    .lI a0.N 0 (fun c11 =>
     .ret (-1)) fun c11 =>
    .lI 1 a0.N (fun c12 =>
     .ret (-1)) fun c12 =>
    .q (.eFo a0.Kind 3 (by omega)) <|
    .q (.eFo a0.Kind 6 (by omega)) <|
    .q (.eFo a0.Kind 8 (by omega)) <|
    .q (.eFo a0.Kind 23 (by omega)) <|
    .q (.eFo a0.Kind 7 (by omega)) <|
    .le za a0.S <|
    .lI 0 (a0.S.length : Int) (fun c13 =>
     .ret (-1)) fun c13 =>
    .l2 (z8 G_spec_l6expr H_spec_l6expr a1 a0 n (w64 (a2 - 1)) 0) (fun o14_0 =>
     .ret o14_0) fun ⟨o14_1_0, o14_1_1⟩ =>
    .ret o14_1_0) fun c10 =>
   .eI a0.Kind 2 (fun c11 =>
    .lI a0.N 0 (fun c12 =>
     .ret (-1)) fun c12 =>
    .lI 1000000000000 a0.N (fun c13 =>
     .ret (-1)) fun c13 =>
    .q (.eFo a0.Kind 3 (by omega)) <|
    .q (.eFo a0.Kind 6 (by omega)) <|
    .q (.eFo a0.Kind 8 (by omega)) <|
    .q (.eFo a0.Kind 23 (by omega)) <|
    .q (.eFo a0.Kind 7 (by omega)) <|
    .le za a0.S <|
    .lI 0 (a0.S.length : Int) (fun c14 =>
     .ret (-1)) fun c14 =>
    .l2 (z8 G_spec_l6expr H_spec_l6expr a1 a0 n (w64 (a2 - 1)) 0) (fun o15_0 =>
     .ret o15_0) fun ⟨o15_1_0, o15_1_1⟩ =>
    .ret o15_1_0) fun c11 =>
   .eI a0.N 0 (fun c12 =>
    .eI a0.Kind 3 (fun c13 =>
     .cl (XS a0.S) fun r14 =>
     .vN 0 r14 (
      .l2 (z8 G_spec_l6expr H_spec_l6expr a1 a0 n (w64 (a2 - 1)) 0) (fun o15_0 =>
       .ret o15_0) fun ⟨o15_1_0, o15_1_1⟩ =>
      .ret o15_1_0) <|
     .ret (-1)) fun c13 =>
    .eI a0.Kind 6 (fun c14 =>
     .cl (xf a0.S) fun r15 =>
     .vN 0 r15 (
      .an 0 0 <|
      .an 0 0 <|
      .q (.eFo a0.Kind 23 (by omega)) <|
      .an 0 0 <|
      .an 3 0 <|
      .an 1 0 <|
      .l2 (z8 G_spec_l6expr H_spec_l6expr a1 a0 n (w64 (a2 - 1)) 0) (fun o16_0 =>
       .ret o16_0) fun ⟨o16_1_0, o16_1_1⟩ =>
      .ret o16_1_0) <|
     .an 0 0 <|
     .an 0 0 <|
     .an 0 0 <|
     .an 0 0 <|
     .an 0 0 <|
     .ret (-1)) fun c14 =>
    .eI a0.Kind 8 (fun c15 =>
     .cl (xf a0.S) fun r16 =>
     .vN 0 r16 (
      .an 0 0 <|
      .an 0 0 <|
      .q (.eFo a0.Kind 23 (by omega)) <|
      .an 0 0 <|
      .an 3 0 <|
      .an 1 0 <|
      .l2 (z8 G_spec_l6expr H_spec_l6expr a1 a0 n (w64 (a2 - 1)) 0) (fun o17_0 =>
       .ret o17_0) fun ⟨o17_1_0, o17_1_1⟩ =>
      .ret o17_1_0) <|
     .an 0 0 <|
     .an 0 0 <|
     .an 0 0 <|
     .an 0 0 <|
     .an 0 0 <|
     .ret (-1)) fun c15 =>
    .eI a0.Kind 23 (fun c16 =>
     .cl (xf a0.S) fun r17 =>
     .vN 0 r17 (
      .an 0 0 <|
      .an 0 0 <|
      .q (.eT c16) <|
      .an 0 0 <|
      .cl (Z6 a0.S) fun r18 =>
      .an 0 1 <|
      .an 1 1 <|
      .vM 0 r18 (
       .ret (-1)) <|
      .l2 (z8 G_spec_l6expr H_spec_l6expr a1 a0 n (w64 (a2 - 1)) 0) (fun o19_0 =>
       .ret o19_0) fun ⟨o19_1_0, o19_1_1⟩ =>
      .ret o19_1_0) <|
     .an 0 0 <|
     .an 0 0 <|
     .an 0 0 <|
     .an 0 0 <|
     .an 0 0 <|
     .ret (-1)) fun c16 =>
    .eI a0.Kind 7 (fun c17 =>
     .cl (Z7 a0.S) fun r18 =>
     .vN 0 r18 (
      .l2 (z8 G_spec_l6expr H_spec_l6expr a1 a0 n (w64 (a2 - 1)) 0) (fun o19_0 =>
       .ret o19_0) fun ⟨o19_1_0, o19_1_1⟩ =>
      .ret o19_1_0) <|
     .ret (-1)) fun c17 =>
    .le za a0.S <|
    .lI 0 (a0.S.length : Int) (fun c18 =>
     .ret (-1)) fun c18 =>
    .l2 (z8 G_spec_l6expr H_spec_l6expr a1 a0 n (w64 (a2 - 1)) 0) (fun o19_0 =>
     .ret o19_0) fun ⟨o19_1_0, o19_1_1⟩ =>
    .ret o19_1_0) fun c12 =>
   .ret (-1)) fun c7 =>
  .ret (-1)) fun c6 =>
 .eI a0.Kind 5 (fun c7 =>
  .le (z7 za) a0.K <|
  .le ze a0.Kids <|
  .eI (a0.K.length : Int) (a0.Kids.length : Int) (fun c8 =>
   .q (.eT c7) <|
   .q (.eFo a0.Kind 1 (by omega)) <|
   .q (.eFo a0.Kind 2 (by omega)) <|
   .eI a0.N 0 (fun c9 =>
    .q (.eFo a0.Kind 3 (by omega)) <|
    .q (.eFo a0.Kind 6 (by omega)) <|
    .q (.eFo a0.Kind 8 (by omega)) <|
    .q (.eFo a0.Kind 23 (by omega)) <|
    .q (.eFo a0.Kind 7 (by omega)) <|
    .le za a0.S <|
    .lI 0 (a0.S.length : Int) (fun c10 =>
     .ret (-1)) fun c10 =>
    .l2 (z8 G_spec_l6expr H_spec_l6expr a1 a0 n (w64 (a2 - 1)) 0) (fun o11_0 =>
     .ret o11_0) fun ⟨o11_1_0, o11_1_1⟩ =>
    .ret o11_1_0) fun c9 =>
   .ret (-1)) fun c8 =>
  .ret (-1)) fun c7 =>
 .q (.eF c7) <|
 .le (z7 za) a0.K <|
 .lI 0 (a0.K.length : Int) (fun c8 =>
  .ret (-1)) fun c8 =>
 .eI a0.Kind 1 (fun c9 =>
  .lI a0.N 0 (fun c10 =>
   .ret (-1)) fun c10 =>
  .lI 1 a0.N (fun c11 =>
   .ret (-1)) fun c11 =>
  .q (.eFo a0.Kind 3 (by omega)) <|
  .q (.eFo a0.Kind 6 (by omega)) <|
  .q (.eFo a0.Kind 8 (by omega)) <|
  .q (.eFo a0.Kind 23 (by omega)) <|
  .q (.eFo a0.Kind 7 (by omega)) <|
  .le za a0.S <|
  .lI 0 (a0.S.length : Int) (fun c12 =>
   .ret (-1)) fun c12 =>
  .l2 (z8 G_spec_l6expr H_spec_l6expr a1 a0 n (w64 (a2 - 1)) 0) (fun o13_0 =>
   .ret o13_0) fun ⟨o13_1_0, o13_1_1⟩ =>
  .ret o13_1_0) fun c9 =>
 .eI a0.Kind 2 (fun c10 =>
  .lI a0.N 0 (fun c11 =>
   .ret (-1)) fun c11 =>
  .lI 1000000000000 a0.N (fun c12 =>
   .ret (-1)) fun c12 =>
  .q (.eFo a0.Kind 3 (by omega)) <|
  .q (.eFo a0.Kind 6 (by omega)) <|
  .q (.eFo a0.Kind 8 (by omega)) <|
  .q (.eFo a0.Kind 23 (by omega)) <|
  .q (.eFo a0.Kind 7 (by omega)) <|
  .le za a0.S <|
  .lI 0 (a0.S.length : Int) (fun c13 =>
   .ret (-1)) fun c13 =>
  .l2 (z8 G_spec_l6expr H_spec_l6expr a1 a0 n (w64 (a2 - 1)) 0) (fun o14_0 =>
   .ret o14_0) fun ⟨o14_1_0, o14_1_1⟩ =>
  .ret o14_1_0) fun c10 =>
 .eI a0.N 0 (fun c11 =>
  .eI a0.Kind 3 (fun c12 =>
   .cl (XS a0.S) fun r13 =>
   .vN 0 r13 (
    .l2 (z8 G_spec_l6expr H_spec_l6expr a1 a0 n (w64 (a2 - 1)) 0) (fun o14_0 =>
     .ret o14_0) fun ⟨o14_1_0, o14_1_1⟩ =>
    .ret o14_1_0) <|
   .ret (-1)) fun c12 =>
  .eI a0.Kind 6 (fun c13 =>
   .cl (xf a0.S) fun r14 =>
   .vN 0 r14 (
    .an 0 0 <|
    .an 0 0 <|
    .q (.eFo a0.Kind 23 (by omega)) <|
    .an 0 0 <|
    .an 3 0 <|
    .an 1 0 <|
    .l2 (z8 G_spec_l6expr H_spec_l6expr a1 a0 n (w64 (a2 - 1)) 0) (fun o15_0 =>
     .ret o15_0) fun ⟨o15_1_0, o15_1_1⟩ =>
    .ret o15_1_0) <|
   .an 0 0 <|
   .an 0 0 <|
   .an 0 0 <|
   .an 0 0 <|
   .an 0 0 <|
   .ret (-1)) fun c13 =>
  .eI a0.Kind 8 (fun c14 =>
   .cl (xf a0.S) fun r15 =>
   .vN 0 r15 (
    .an 0 0 <|
    .an 0 0 <|
    .q (.eFo a0.Kind 23 (by omega)) <|
    .an 0 0 <|
    .an 3 0 <|
    .an 1 0 <|
    .l2 (z8 G_spec_l6expr H_spec_l6expr a1 a0 n (w64 (a2 - 1)) 0) (fun o16_0 =>
     .ret o16_0) fun ⟨o16_1_0, o16_1_1⟩ =>
    .ret o16_1_0) <|
   .an 0 0 <|
   .an 0 0 <|
   .an 0 0 <|
   .an 0 0 <|
   .an 0 0 <|
   .ret (-1)) fun c14 =>
  .eI a0.Kind 23 (fun c15 =>
   .cl (xf a0.S) fun r16 =>
   .vN 0 r16 (
    .an 0 0 <|
    .an 0 0 <|
    .q (.eT c15) <|
    .an 0 0 <|
    .cl (Z6 a0.S) fun r17 =>
    .an 0 1 <|
    .an 1 1 <|
    .vM 0 r17 (
     .ret (-1)) <|
    .l2 (z8 G_spec_l6expr H_spec_l6expr a1 a0 n (w64 (a2 - 1)) 0) (fun o18_0 =>
     .ret o18_0) fun ⟨o18_1_0, o18_1_1⟩ =>
    .ret o18_1_0) <|
   .an 0 0 <|
   .an 0 0 <|
   .an 0 0 <|
   .an 0 0 <|
   .an 0 0 <|
   .ret (-1)) fun c15 =>
  .eI a0.Kind 7 (fun c16 =>
   .cl (Z7 a0.S) fun r17 =>
   .vN 0 r17 (
    .l2 (z8 G_spec_l6expr H_spec_l6expr a1 a0 n (w64 (a2 - 1)) 0) (fun o18_0 =>
     .ret o18_0) fun ⟨o18_1_0, o18_1_1⟩ =>
    .ret o18_1_0) <|
   .ret (-1)) fun c16 =>
  .le za a0.S <|
  .lI 0 (a0.S.length : Int) (fun c17 =>
   .ret (-1)) fun c17 =>
  .l2 (z8 G_spec_l6expr H_spec_l6expr a1 a0 n (w64 (a2 - 1)) 0) (fun o18_0 =>
   .ret o18_0) fun ⟨o18_1_0, o18_1_1⟩ =>
  .ret o18_1_0) fun c11 =>
 .ret (-1)) (zw Tryd.func100)
def xz : Nat → GExpr → Int → Int → Option Int
 | 0, _, _, _ => none
 | n + 1, a0, a1, a2 => wJ (xz n) n a0 a1 a2
theorem VG (n : Nat) : j9 (xz n) := by
 induction n with
 | zero => exact fun _ _ _ _ h => (by rw [xz] at h; cases h)
 | succ n ih =>
  have ih_spec_l6expr := ih
  exact fun a0 a1 a2 r h => Uf (xz n) ih_spec_l6expr n a0 a1 a2 r (by rw [xz] at h; exact h)
noncomputable def okX (d : Nat) (left : Int) (v : GExpr) : Int := if frX d v = true ∧ (ptX v : Int) <= left then left - ptX v else -1
theorem Gy (k : Int) : jb k = some (arI k) := by
 have h := JC k
 have hd : Dec (some (arI k)) none True (jb k) := by
  unfold jb
  repeat' (refine Dec.ite (fun _ => ?_) (fun _ => ?_))
  all_goals (refine .inl ⟨?_, trivial⟩; congr 1; omega)
 rcases hd with h | h
 ·exact h.1
 ·exact (h.2 trivial).elim
theorem X0 {a : List UInt8} (h : a.length <= 2 ^ 20) : yu a = some (yV a) := if_pos h
theorem MT {a : List UInt8} (h : a.length <= 2 ^ 20) : qw a = some (ZP a) := if_pos h
theorem MU (a : List UInt8) : qu a = some (vG a) := rfl
theorem TF {a : List UInt8} (h : a.length <= 2 ^ 20) : qv a = some (yV a && !vG a) := by
 unfold qv
 rw [X0 h, Option.bind_some]
 cases yV a <;> rfl
theorem Oj {G : GExpr → Int → Int → Option Int} {v : GExpr} {dd : Nat} {deep : Int} (hdd : deep + dd = 10) (h1d : 1 <= deep) (hs : xsz v <= 2 ^ 20) (hk : ¬ v.Kind = 5 ∨ (v.Kind = 5 ∧ v.K.length = v.Kids.length))
  (hG : ∀ x ∈ v.Kids, ∀ r : Int, 0 <= r → r <= 150 → G x (deep + 1) r = some (okX dd r x)) : ∀ (d i m : Nat) (r : Int), i + d = v.Kids.length → d < m → 0 <= r → r <= 150 →
  ∃ z, zj G deep v m r (i : Int) = some (if ((v.Kind = 5 → xm v.K i d = true) ∧ (v.Kids.drop i).all (frX dd) = true) ∧ (zU (v.Kids.drop i) : Int) <= r then .inr (r - zU (v.Kids.drop i), z) else .inl (-1)) := by
 have he := xN v
 have hl := yd v.Kids
 intro d
 induction d with
 | zero =>
  intro i m r hi hm h0 h1
  obtain ⟨m, rfl, _⟩ := zi hm
  refine ⟨(i : Int), ?_⟩
  rw [zj, if_neg (by omega), List.drop_eq_nil_of_le (by omega), if_pos ⟨⟨fun _ => rfl, rfl⟩, by simpa [zU] using h0⟩]
  simp [zU]
 | succ d ih =>
  intro i m r hi hm h0 h1
  obtain ⟨m, rfl, hm'⟩ := zi hm
  have hil : i < v.Kids.length := by omega
  have hp : zU (v.Kids.drop i) = ptX v.Kids[i] + zU (v.Kids.drop (i + 1)) := by rw [yP hil]; simp only [zU]
  have ha : (v.Kids.drop i).all (frX dd) = (frX dd v.Kids[i] && (v.Kids.drop (i + 1)).all (frX dd)) := by rw [yP hil, List.all_cons]
  have hd1 : w64 (deep + 1) = deep + 1 := yF (by omega) (by omega)
  have tail : (v.Kind = 5 → kOk v.K i = true) → ∃ z, ((G v.Kids[i] (w64 (deep + 1)) r).bind fun r12 => if r12 < 0 then some (.inl (-1)) else zj G deep v m r12 (w64 ((i : Int) + 1))) =
    some (if ((v.Kind = 5 → xm v.K i (d + 1) = true) ∧ (v.Kids.drop i).all (frX dd) = true) ∧ (zU (v.Kids.drop i) : Int) <= r then .inr (r - zU (v.Kids.drop i), z) else .inl (-1)) := by
   intro hki
   rw [hd1, hG _ (List.getElem_mem hil) r h0 h1, Option.bind_some, yi (by omega), hp, ha]
   unfold okX
   by_cases hc : frX dd v.Kids[i] = true ∧ (ptX v.Kids[i] : Int) <= r
   ·rw [if_pos hc, if_neg (by omega)]
    obtain ⟨z, hz⟩ := ih (i + 1) m (r - ptX v.Kids[i]) (by omega) (by omega) (by omega) (by omega)
    refine ⟨z, ?_⟩
    rw [hz, hc.1, Bool.true_and]
    have hcond : (((v.Kind = 5 → xm v.K (i + 1) d = true) ∧ (v.Kids.drop (i + 1)).all (frX dd) = true) ∧ (zU (v.Kids.drop (i + 1)) : Int) <= r - ptX v.Kids[i]) ↔
      (((v.Kind = 5 → xm v.K i (d + 1) = true) ∧ (v.Kids.drop (i + 1)).all (frX dd) = true) ∧ ((ptX v.Kids[i] + zU (v.Kids.drop (i + 1)) : Nat) : Int) <= r) := by
     have hka : (v.Kind = 5 → xm v.K (i + 1) d = true) ↔ (v.Kind = 5 → xm v.K i (d + 1) = true) := by
      constructor
      ·intro h hk; rw [jk, hki hk, h hk]; rfl
      ·intro h hk; have := h hk; rw [jk, hki hk, Bool.true_and] at this; exact this
     rw [hka]
     constructor
     ·rintro ⟨h1, h2⟩; exact ⟨h1, by omega⟩
     ·rintro ⟨h1, h2⟩; exact ⟨h1, by omega⟩
    by_cases hd : ((v.Kind = 5 → xm v.K (i + 1) d = true) ∧ (v.Kids.drop (i + 1)).all (frX dd) = true) ∧ (zU (v.Kids.drop (i + 1)) : Int) <= r - ptX v.Kids[i]
    ·rw [if_pos hd, if_pos (hcond.1 hd)]; congr 3; omega
    ·rw [if_neg hd, if_neg (fun h => hd (hcond.2 h))]
   ·refine ⟨0, ?_⟩
    rw [if_neg hc, if_pos (by omega), if_neg]
    rintro ⟨⟨_, h2⟩, h3⟩
    rw [Bool.and_eq_true] at h2
    exact hc ⟨h2.1, by omega⟩
  have bad : v.Kind = 5 → kOk v.K i = false → ∃ z, (some (.inl (-1)) : Option (Int ⊕ (Int × Int))) = some (if ((v.Kind = 5 → xm v.K i (d + 1) = true) ∧ (v.Kids.drop i).all (frX dd) = true) ∧ (zU (v.Kids.drop i) : Int) <= r then .inr (r - zU (v.Kids.drop i), z) else .inl (-1)) := by
   intro hk hki
   refine ⟨0, ?_⟩
   rw [if_neg]
   rintro ⟨⟨h1, _⟩, _⟩
   have := h1 hk
   rw [jk, hki] at this
   cases this
  rw [zj, if_pos (by omega)]
  rcases hk with hk | ⟨hk, hkl⟩
  ·rw [if_neg hk, zg, Option.bind_some, zu hil, Option.bind_some]
   exact tail fun h => (hk h).elim
  ·have hik : i < v.K.length := by omega
   have hx := YC (List.getElem_mem hik)
   rw [if_pos hk, zg, Option.bind_some, zu hik, Option.bind_some, X0 (by omega), Option.bind_some]
   cases hnm : yV v.K[i] with
   | false =>
    dsimp only
    refine bad hk ?_
    by_cases h0 : i = 0
    ·subst h0; rw [kA hik, hnm]
    ·rw [jh hik (by omega), hnm]; rfl
   | true =>
    dsimp only
    by_cases h0 : 0 < i
    ·rw [if_pos (by omega), YO (by omega) h0, zg, Option.bind_some, zu (show i - 1 < v.K.length by omega), Option.bind_some]
     by_cases hb : Op.bytesLess (v.K[i - 1]'(by omega)) v.K[i] = true
     ·rw [if_pos hb, zu hil, Option.bind_some]
      exact tail fun _ => by rw [jh hik h0, hnm, hb]; rfl
     ·rw [if_neg hb]
      refine bad hk ?_
      rw [jh hik h0, hnm]; simpa using hb
    ·have : i = 0 := by omega
     subst this
     rw [if_neg (by omega), zu hil, Option.bind_some]
     exact tail fun _ => by rw [kA hik, hnm]
theorem LA {G : GExpr → Int → Int → Option Int} {v : GExpr} {n : Nat} {a1 a2 : Int} {X : Option Int} (hs : v.S.length <= 2 ^ 20) (h1 : ¬ w64 (a2 - 1) < 0) (h2 : ¬ 10 < a1)
  (hX : ((zj G a1 v n (w64 (a2 - 1)) 0).bind fun o11 => match o11 with | .inl o11_0 => some o11_0 | .inr (⟨o11_1_0, o11_1_1⟩) => some o11_1_0) = X) : Dec X (some (-1)) (vh v) (wJ G n v a1 a2) := by
 have har := JC v.Kind
 have hw := Nl (yV v.S) (vG v.S)
 unfold wJ
 rw [if_neg h1, if_neg h2]
 repeat' first
  | refine Dec.ite (fun _ => ?_) (fun _ => ?_)
  | refine Dec.bnd (Gy _) ?_
  | refine Dec.bndB (MT hs) (fun _ => ?_) (fun _ => ?_)
  | refine Dec.bndB (X0 hs) (fun _ => ?_) (fun _ => ?_)
  | refine Dec.bndB (TF hs) (fun _ => ?_) (fun _ => ?_)
  | refine Dec.bndB (MU _) (fun _ => ?_) (fun _ => ?_)
 all_goals first
  | exact .inl ⟨hX, by unfold vh ZE; omega⟩
  | exact .inr ⟨rfl, by unfold vh ZE; omega⟩
theorem YU (d : Nat) (v : GExpr) : frX (d + 1) v = (qN v && v.Kids.all (frX d)) := rfl
open Classical in
theorem LB {v : GExpr} (h : ¬ vh v) : qN v = false := by unfold qN; rw [decide_eq_false (fun h' => h h'.1)]; rfl
open Classical in
theorem X1 {v : GExpr} (h : vh v) (hk : v.Kids.length <= 150) (h5 : v.Kind = 5 → xm v.K 0 v.K.length = true) : qN v = true := by
 unfold qN
 rw [decide_eq_true ⟨h, hk⟩, Bool.true_and]
 by_cases k : v.Kind = 5
 ·rw [h5 k, Bool.or_true]
 ·rw [decide_eq_true k, Bool.true_or]
open Classical in
theorem K8 {v : GExpr} (h : qN v = true) : vh v ∧ v.Kids.length <= 150 ∧ (v.Kind = 5 → xm v.K 0 v.K.length = true) := by
 unfold qN at h
 rw [Bool.and_eq_true] at h
 have h1 := of_decide_eq_true h.1
 refine ⟨h1.1, h1.2, fun k => ?_⟩
 have h2 := h.2
 rw [decide_eq_false (fun hh => hh k), Bool.false_or] at h2
 exact h2
theorem Gz {G : GExpr → Int → Int → Option Int} {v : GExpr} {f dd : Nat} {deep left : Int} (hdd : deep + dd = 10 ∨ (deep = 11 ∧ dd = 0)) (h1d : 1 <= deep) (hs : xsz v <= 2 ^ 20) (hf : v.Kids.length < f) (h0 : 0 <= left) (h1 : left <= 150)
  (hG : deep <= 10 → ∀ x ∈ v.Kids, ∀ r : Int, 0 <= r → r <= 150 → G x (deep + 1) r = some (okX dd r x)) : wJ G f v deep left = some (okX (if deep <= 10 then dd + 1 else 0) left v) := by
 have he := xN v
 have hl := yd v.Kids
 have hpt := PH v
 have hpl := GC v.Kids
 have hw : w64 (left - 1) = left - 1 := yF (by omega) (by omega)
 by_cases hleft : left - 1 < 0
 ·unfold wJ
  rw [hw, if_pos hleft]
  unfold okX; rw [if_neg (by rintro ⟨_, h⟩; omega)]
 by_cases hdeep : 10 < deep
 ·unfold wJ
  rw [hw, if_neg hleft, if_pos hdeep, if_neg (show ¬ deep <= 10 by omega)]
  unfold okX; rw [if_neg (by rintro ⟨h, _⟩; simp [frX] at h)]
 rw [if_pos (show deep <= 10 by omega)]
 have hdd : deep + dd = 10 := by omega
 have hG := hG (by omega)
 rcases LA (G := G) (n := f) (v := v) (a1 := deep) (a2 := left) (by omega) (by rw [hw]; exact hleft) hdeep rfl with ⟨h, hL⟩ | ⟨h, hL⟩
 ·rw [h, hw]
  have hk : ¬ v.Kind = 5 ∨ (v.Kind = 5 ∧ v.K.length = v.Kids.length) := by
   have := hL.2.2.1
   omega
  obtain ⟨z, hz⟩ := Oj (G := G) hdd h1d hs hk hG v.Kids.length 0 f (left - 1) (by omega) (by omega) (by omega) (by omega)
  rw [show ((0 : Nat) : Int) = 0 from rfl, List.drop_zero] at hz
  rw [hz, Option.bind_some]
  by_cases hc : ((v.Kind = 5 → xm v.K 0 v.Kids.length = true) ∧ v.Kids.all (frX dd) = true) ∧ (zU v.Kids : Int) <= left - 1
  ·have h2 : okX (dd + 1) left v = left - ptX v := if_pos ⟨by rw [YU, X1 hL (by omega) (fun k => by have := hc.1.1 k; rw [show v.K.length = v.Kids.length by omega]; exact this), hc.1.2]; rfl, by omega⟩
   rw [if_pos hc, h2, hpt]
   dsimp only
   congr 1; omega
  ·have h2 : okX (dd + 1) left v = -1 := if_neg (by
    rintro ⟨h2, h3⟩
    rw [YU, Bool.and_eq_true] at h2
    have hi := K8 h2.1
    exact hc ⟨⟨fun k => by have := hi.2.2 k; rw [show v.K.length = v.Kids.length by omega] at this; exact this, h2.2⟩, by omega⟩)
   rw [if_neg hc, h2]
 ·rw [h]
  have h2 : okX (dd + 1) left v = -1 := if_neg (by
   rintro ⟨h2, _⟩
   rw [YU, LB hL] at h2
   cases h2)
  rw [h2]
theorem G0 : ∀ (N : Nat) (v : GExpr), xsz v < N → xsz v <= 2 ^ 20 → ∀ (f : Nat) (deep left : Int), xsz v + 2 <= f → 1 <= deep → deep <= 11 → 0 <= left → left <= 150 → xz f v deep left = some (okX (11 - deep).toNat left v) := by
 intro N
 induction N with
 | zero => intro v hv; omega
 | succ N ih =>
  intro v hv hs f deep left hf h1 h2 h3 h4
  obtain ⟨f, rfl, _⟩ := zi (show 0 < f by omega)
  have he := xN v
  have hl := yd v.Kids
  rw [xz]
  have := Gz (G := xz f) (f := f) (dd := (10 - deep).toNat) (deep := deep) (left := left) (v := v) (by omega) h1 hs (by omega) h3 h4 fun hd x hx r g0 g1 => by
   have hm := yz hx
   have := ih x (by omega) (by omega) f (deep + 1) r (by omega) (by omega) (by omega) g0 g1
   rw [show (11 - (deep + 1)).toNat = (10 - deep).toNat by omega] at this
   exact this
  rw [this]
  congr 2
  by_cases hd : deep <= 10
  ·rw [if_pos hd]; omega
  ·rw [if_neg hd]; omega
noncomputable def xc (a0 : GExpr) (a1 : Int) (a2 : Int) : Option Int := if xsz a0 <= 2 ^ 20 ∧ (1 <= a1 ∧ a1 <= 11) ∧ 0 <= a2 ∧ a2 <= 150 then some (okX (11 - a1).toNat a2 a0) else none
theorem K9 (a0 : GExpr) (a1 : Int) (a2 : Int) (r : Int) (h : xc a0 a1 a2 = some r) : ∃ n, xz n a0 a1 a2 = some r := by
 unfold xc at h
 obtain ⟨⟨hs, ⟨h1, h2⟩, h3, h4⟩, h⟩ := yg h
 exact ⟨xsz a0 + 2, by rw [<- h]; exact G0 _ a0 (Nat.lt_succ_self _) hs _ a1 a2 (Nat.le_refl _) h1 h2 h3 h4⟩
theorem kS : j9 xc := by
 intro a0 a1 a2 r h
 obtain ⟨n, hn⟩ := K9 a0 a1 a2 r h
 exact (VG n) a0 a1 a2 r hn
def Qb (F : GItem → Int → Option Int) : Prop := ∀ (a0 : GItem) (a1 : Int), Oc (F a0 a1) 70 [] [.val true (yn a0), vi a1] fun r => (vi r, [])
def yj (a0 : GItem) : Nat → Int → Int → Option (Int ⊕ (Int × Int))
  | 0, _, _ => none
  | m + 1, a1, v1 =>
  if v1 < (a0.Exprs.length : Int) then
   if 0 <= a1 then
    if a0.Kind = 1 then
     (z6 v1).bind fun i4 =>
     (a0.Names[i4]?).bind fun x5 =>
     (yu x5).bind fun r6 =>
     match r6 with
     | true =>
      if 0 < v1 then
       (z6 (w64 (v1 - 1))).bind fun i8 =>
       (a0.Names[i8]?).bind fun x9 =>
       if Op.bytesLess x9 x5 = true then
        (a0.Exprs[i4]?).bind fun x11 =>
        (xc x11 1 a1).bind fun r12 =>
        yj a0 m r12 (w64 (v1 + 1))
       else
       some (.inl (-1))
      else
      (a0.Exprs[i4]?).bind fun x8 =>
      (xc x8 1 a1).bind fun r9 =>
      yj a0 m r9 (w64 (v1 + 1))
     | false =>
      some (.inl (-1))
    else
    (z6 v1).bind fun i4 =>
    (a0.Exprs[i4]?).bind fun x5 =>
    (xc x5 1 a1).bind fun r6 =>
    yj a0 m r6 (w64 (v1 + 1))
   else
   some (.inr (a1, v1))
  else
  some (.inr (a1, v1))
theorem kZ (a0 : GItem) (m : Nat) : ∀ (a1 : Int) (v1 : Int), Ol (yj a0 m a1 v1) 70 (zY Tryd.f70 0) ⟨[(1, vi a1), (2, vp 0 0), (5, vi v1)], [.var (yn a0)], 0⟩ fun o => match o with | .inl o_0 => (.ret, ⟨[(4, vi o_0)], [], 0⟩) | .inr (⟨o_1_0, o_1_1⟩) => (.exit 0, ⟨[(1, vi o_1_0), (2, vp 0 0), (5, vi o_1_1), (93, vb false)], [.var (yn a0)], 0⟩) := by
  induction m with
  | zero => intro a1 v1 o h; cases h
  | succ m ih => exact fun a1 v1 => tlp (
   .le ze a0.Exprs <|
   .lI v1 (a0.Exprs.length : Int) (fun c1 =>
    .gI 0 a1 (fun c2 =>
     .eI a0.Kind 1 (fun c3 =>
      .na v1 fun i4 =>
      .ix0 (z7 za) a0.Names i4 fun x5 =>
      .cl (xf x5) fun r6 =>
      .vN 2 r6 (
       .an 0 0 <|
       .lI 0 v1 (fun c7 =>
        .an 0 0 <|
        .na (w64 (v1 - 1)) fun i8 =>
        .ix0 (z7 za) a0.Names i8 fun x9 =>
        .bt x9 <|
        .ag 5 <|
        .ag 4 <|
        .bt x5 <|
        .bI x9 x5 (fun c10 =>
         .an 0 2 <|
         .an 2 2 <|
         .ag 5 <|
         .ix zA a0.Exprs i4 fun x11 =>
         .cl (kS x11 1 a1) fun r12 =>
         .go (ih r12 (w64 (v1 + 1)))) fun c10 =>
        .an 0 2 <|
        .an 2 2 <|
        .ret (.inl (-1))) fun c7 =>
       .an 0 0 <|
       .an 14 0 <|
       .an 2 0 <|
       .ag 3 <|
       .ix zA a0.Exprs i4 fun x8 =>
       .cl (kS x8 1 a1) fun r9 =>
       .go (ih r9 (w64 (v1 + 1)))) <|
      .an 0 0 <|
      .an 0 0 <|
      .an 0 0 <|
      .an 1 0 <|
      .ret (.inl (-1))) fun c3 =>
     .na v1 fun i4 =>
     .ix zA a0.Exprs i4 fun x5 =>
     .cl (kS x5 1 a1) fun r6 =>
     .go (ih r6 (w64 (v1 + 1)))) fun c2 =>
    .ret (.inr (a1, v1))) fun c1 =>
   .ret (.inr (a1, v1)))
def vy (n : Nat) (a0 : GItem) (a1 : Int) : Option Int :=
 if a0.Kind < 0 then
  some (-1)
 else
 if 2 < a0.Kind then
  some (-1)
 else
 (qv a0.Name).bind fun r3 =>
 match r3 with
 | true =>
  if 6 < (a0.Exprs.length : Int) then
   some (-1)
  else
  if a0.Kind = 1 then
   if a0.Many < 0 then
    some (-1)
   else
   if 2 < a0.Many then
    some (-1)
   else
   if a0.Many = 0 then
    (vx a0.By).bind fun r9 =>
    match r9 with
    | true =>
     if (a0.Names.length : Int) = (a0.Exprs.length : Int) then
      (yj a0 n a1 0).bind fun o11 =>
      match o11 with
      | .inl o11_0 =>
       some o11_0
      | .inr (⟨o11_1_0, o11_1_1⟩) =>
       some o11_1_0
     else
     some (-1)
    | false =>
     some (-1)
   else
   if (a0.Names.length : Int) = (a0.Exprs.length : Int) then
    (xc a0.By 1 a1).bind fun r10 =>
    (yj a0 n r10 0).bind fun o11 =>
    match o11 with
    | .inl o11_0 =>
     some o11_0
    | .inr (⟨o11_1_0, o11_1_1⟩) =>
     some o11_1_0
   else
   some (-1)
  else
  if a0.Many = 0 then
   (vx a0.By).bind fun r7 =>
   match r7 with
   | true =>
    if 0 < (a0.Names.length : Int) then
     some (-1)
    else
    if (a0.Exprs.length : Int) = 1 then
     (yj a0 n a1 0).bind fun o10 =>
     match o10 with
     | .inl o10_0 =>
      some o10_0
     | .inr (⟨o10_1_0, o10_1_1⟩) =>
      some o10_1_0
    else
    some (-1)
   | false =>
    some (-1)
  else
  some (-1)
 | false =>
  some (-1)
theorem Ug (n : Nat) : Qb (vy n) := fun a0 a1 => tc (
 .lI a0.Kind 0 (fun c1 =>
  .ret (-1)) fun c1 =>
 .lI 2 a0.Kind (fun c2 =>
  .ret (-1)) fun c2 =>
 .cl (Z7 a0.Name) fun r3 =>
 .vN 2 r3 (
  .an 0 0 <|
  .an 0 0 <|
  .le ze a0.Exprs <|
  .an 0 0 <|
  .lI 6 (a0.Exprs.length : Int) (fun c4 =>
   .an 0 0 <|
   .ret (-1)) fun c4 =>
  .an 0 0 <|
  .eI a0.Kind 1 (fun c5 =>
   .lI a0.Many 0 (fun c6 =>
    .ret (-1)) fun c6 =>
   .lI 2 a0.Many (fun c7 =>
    .ret (-1)) fun c7 =>
   .eI a0.Many 0 (fun c8 =>
    .cl (XR a0.By) fun r9 =>
    .vN 4 r9 (
     .an 0 0 <|
     .an 0 0 <|
     .le (z7 za) a0.Names <|
     .an 0 0 <|
     .an 0 0 <|
     .an 0 0 <|
     .le ze a0.Exprs <|
     .an 0 0 <|
     .eI (a0.Names.length : Int) (a0.Exprs.length : Int) (fun c10 =>
      .an 0 0 <|
      .q (.eT c8) <|
      .l2 (kZ a0 n a1 0) (fun o11_0 =>
       .ret o11_0) fun ⟨o11_1_0, o11_1_1⟩ =>
      .ret o11_1_0) fun c10 =>
     .an 0 0 <|
     .ret (-1)) <|
    .an 0 0 <|
    .an 0 0 <|
    .an 0 0 <|
    .an 0 0 <|
    .an 0 0 <|
    .an 0 0 <|
    .an 0 0 <|
    .ret (-1)) fun c8 =>
   .le (z7 za) a0.Names <|
   .le ze a0.Exprs <|
   .eI (a0.Names.length : Int) (a0.Exprs.length : Int) (fun c9 =>
    .q (.eF c8) <|
    .cl (kS a0.By 1 a1) fun r10 =>
    .l2 (kZ a0 n r10 0) (fun o11_0 =>
     .ret o11_0) fun ⟨o11_1_0, o11_1_1⟩ =>
    .ret o11_1_0) fun c9 =>
   .ret (-1)) fun c5 =>
  .eI a0.Many 0 (fun c6 =>
   .cl (XR a0.By) fun r7 =>
   .vN 2 r7 (
    .an 0 0 <|
    .an 0 0 <|
    .le (z7 za) a0.Names <|
    .an 0 0 <|
    .lI 0 (a0.Names.length : Int) (fun c8 =>
     .an 0 0 <|
     .ret (-1)) fun c8 =>
    .an 0 0 <|
    .le ze a0.Exprs <|
    .eI (a0.Exprs.length : Int) 1 (fun c9 =>
     .q (.eT c6) <|
     .l2 (kZ a0 n a1 0) (fun o10_0 =>
      .ret o10_0) fun ⟨o10_1_0, o10_1_1⟩ =>
     .ret o10_1_0) fun c9 =>
    .ret (-1)) <|
   .an 0 0 <|
   .an 0 0 <|
   .an 0 0 <|
   .an 0 0 <|
   .ret (-1)) fun c6 =>
  .ret (-1)) <|
 .an 0 0 <|
 .an 0 0 <|
 .an 0 0 <|
 .an 0 0 <|
 .ret (-1)) (zw Tryd.func70)
def jA (a0 : GItem) (a1 : Int) : Option Int := vy (a0.Exprs.length + 5) a0 a1
theorem KA (a0 : GItem) (a1 : Int) (r : Int) (h : jA a0 a1 = some r) : ∃ n, vy n a0 a1 = some r := ⟨_, h⟩
theorem RO : Qb jA := fun a0 a1 r h => (KA a0 a1 r h).elim fun n hn => Ug n a0 a1 r hn
def X2 (F : (List GItem) → Option Bool) : Prop := ∀ (a0 : (List GItem)), Oc (F a0) 35 [] [vq zo a0] fun r => (vb r, [])
def yX (a0 : (List GItem)) (v1 : Int) (v2 : Int) : Nat → Int → Option (Bool ⊕ Int)
  | 0, _ => none
  | m + 1, v3 =>
  if v3 < v2 then
   (z6 v3).bind fun i2 =>
   (a0[i2]?).bind fun x3 =>
   (z6 v2).bind fun i4 =>
   (a0[i4]?).bind fun x5 =>
   if x3.Kind = x5.Kind then
    if x3.Name = x5.Name then
     some (.inl false)
    else
    yX a0 v1 v2 m (w64 (v3 + 1))
   else
   yX a0 v1 v2 m (w64 (v3 + 1))
  else
  some (.inr v3)
theorem Qj (a0 : (List GItem)) (v1 : Int) (v2 : Int) (m : Nat) : ∀ (v3 : Int), Ol (yX a0 v1 v2 m v3) 35 (zY Tryd.f35 1) ⟨[(0, vq zo a0), (3, vi v1), (4, vi v2), (5, vi v3)], [], 0⟩ fun o => match o with | .inl o_0 => (.ret, ⟨[(2, vb o_0)], [], 0⟩) | .inr (o_1) => (.exit 2, ⟨[(0, vq zo a0), (3, vi v1), (4, vi v2), (5, vi o_1), (25, vb false)], [], 0⟩) := by
  induction m with
  | zero => intro v3 o h; cases h
  | succ m ih => exact fun v3 => tlp (
   .lI v3 v2 (fun c1 =>
    .na v3 fun i2 =>
    .ix xB a0 i2 fun x3 =>
    .na v2 fun i4 =>
    .ix xB a0 i4 fun x5 =>
    .eI x3.Kind x5.Kind (fun c6 =>
     .ag 3 <|
     .ag 2 <|
     .bt x3.Name <|
     .ag 1 <|
     .ag 0 <|
     .bt x5.Name <|
     .sI x3.Name x5.Name (fun c7 =>
      .ret (.inl false)) fun c7 =>
     .go (ih (w64 (v3 + 1)))) fun c6 =>
    .go (ih (w64 (v3 + 1)))) fun c1 =>
   .ret (.inr v3))
def xH (n : Nat) (a0 : (List GItem)) : Nat → Int → Int → Option (Bool ⊕ (Int × Int))
  | 0, _, _ => none
  | m + 1, v1, v2 =>
  if v2 < (a0.length : Int) then
   (z6 v2).bind fun i2 =>
   (a0[i2]?).bind fun x3 =>
   (jA x3 v1).bind fun r4 =>
   if r4 < 0 then
    some (.inl false)
   else
   (yX a0 r4 v2 n 0).bind fun o6 =>
   match o6 with
   | .inl o6_0 =>
    some (.inl o6_0)
   | .inr (o6_1) =>
    xH n a0 m r4 (w64 (v2 + 1))
  else
  some (.inr (v1, v2))
theorem Qk (n : Nat) (a0 : (List GItem)) (m : Nat) : ∀ (v1 : Int) (v2 : Int), Ol (xH n a0 m v1 v2) 35 (zY Tryd.f35 0) ⟨[(0, vq zo a0), (3, vi v1), (4, vi v2)], [], 0⟩ fun o => match o with | .inl o_0 => (.ret, ⟨[(2, vb o_0)], [], 0⟩) | .inr (⟨o_1_0, o_1_1⟩) => (.exit 0, ⟨[(0, vq zo a0), (3, vi o_1_0), (4, vi o_1_1), (12, vb false)], [], 0⟩) := by
  induction m with
  | zero => intro v1 v2 o h; cases h
  | succ m ih => exact fun v1 v2 => tlp (
   .le zo a0 <|
   .lI v2 (a0.length : Int) (fun c1 =>
    .na v2 fun i2 =>
    .ix xB a0 i2 fun x3 =>
    .cl (RO x3 v1) fun r4 =>
    .lI r4 0 (fun c5 =>
     .ret (.inl false)) fun c5 =>
    .l2 (Qj a0 r4 v2 n 0) (fun o6_0 =>
     .ret (.inl o6_0)) fun o6_1 =>
    .go (ih r4 (w64 (v2 + 1)))) fun c1 =>
   .ret (.inr (v1, v2)))
def jQ (n : Nat) (a0 : (List GItem)) : Option Bool :=
 if 12 < (a0.length : Int) then
  some false
 else
 (xH n a0 n 150 0).bind fun o2 =>
 match o2 with
 | .inl o2_0 =>
  some o2_0
 | .inr (⟨o2_1_0, o2_1_1⟩) =>
  some true
theorem VH (n : Nat) : X2 (jQ n) := fun a0 => tc (
 .le zo a0 <|
 .lI 12 (a0.length : Int) (fun c1 =>
  .ret false) fun c1 =>
 .l2 (Qk n a0 n 150 0) (fun o2_0 =>
  .ret o2_0) fun ⟨o2_1_0, o2_1_1⟩ =>
 .ret true) (zw Tryd.func35)
def qA (a0 : (List GItem)) : Option Bool := jQ (a0.length + 5) a0
theorem QU (a0 : (List GItem)) (r : Bool) (h : qA a0 = some r) : ∃ n, jQ n a0 = some r := ⟨_, h⟩
theorem KB : X2 qA := fun a0 r h => (QU a0 r h).elim fun n hn => VH n a0 r hn
def jR (F : Int → Option (List UInt8)) : Prop := ∀ (a0 : Int), Oc (F a0) 52 [] [vi a0] fun r => (.val false [.own 1 (eL za r)], [])
def wH (G_spec_l2digits : Int → Option (List UInt8)) (a0 : Int) : Option (List UInt8) :=
 if a0 < 0 then
  (G_spec_l2digits (w64 (0 - a0))).bind fun r2 =>
  if zd 1 ([(45 : UInt8)].length + r2.length) then
  some ([(45 : UInt8)] ++ r2)
  else none
 else
 if a0 < 10 then
  some [(b8 (w64 (48 + a0)))]
 else
 (G_spec_l2digits (w64 (a0.tdiv 10))).bind fun r3 =>
 if zd 1 (r3.length + [(b8 (w64 (48 + (a0.tmod 10))))].length) then
 some (r3 ++ [(b8 (w64 (48 + (a0.tmod 10))))])
 else none
theorem VI (G_spec_l2digits : Int → Option (List UInt8)) (H_spec_l2digits : jR G_spec_l2digits) : jR (wH G_spec_l2digits) := fun a0 => tc (
 .lI a0 0 (fun c1 =>
  .cl (H_spec_l2digits (w64 (0 - a0))) fun r2 =>
  .pl zb r2 <|
  .ap 1 zb [(45 : UInt8)] r2 fun n3 =>
  .ret ([(45 : UInt8)] ++ r2)) fun c1 =>
 .lI a0 10 (fun c2 =>
  .ret [(b8 (w64 (48 + a0)))]) fun c2 =>
 .q ⟨.nz 10, .b true, rfl⟩ <|
 .cl (H_spec_l2digits (w64 (a0.tdiv 10))) fun r3 =>
 .q ⟨.nz 10, .b true, rfl⟩ <|
 .pl zb [(b8 (w64 (48 + (a0.tmod 10))))] <|
 .ap 1 zb r3 [(b8 (w64 (48 + (a0.tmod 10))))] fun n4 =>
 .ret (r3 ++ [(b8 (w64 (48 + (a0.tmod 10))))])) (zw Tryd.func52)
def yv : Nat → Int → Option (List UInt8)
 | 0, _ => none
 | n + 1, a0 => wH (yv n) a0
theorem JN (n : Nat) : jR (yv n) := by
 induction n with
 | zero => exact fun _ _ h => (by rw [yv] at h; cases h)
 | succ n ih =>
  have ih_spec_l2digits := ih
  exact fun a0 r h => VI (yv n) ih_spec_l2digits a0 r (by rw [yv] at h; exact h)
theorem MV {u : Nat} (h : u < 256) : b8 ((u : Nat) : Int) = UInt8.ofNat u := by
 unfold b8
 rw [show IntKind.u8.wrap ((u : Nat) : Int) = ((u : Nat) : Int) by unfold IntKind.wrap; simp [IntKind.bits, IntKind.signed]; omega]; rfl
theorem QV : ∀ (N u f : Nat), u < N → u <= 4611686018427387904 → u + 1 <= f → yv f ((u : Nat) : Int) = some (Lib.decDigits u) := by
 intro N
 induction N with
 | zero => intro u f h; omega
 | succ N ih =>
  intro u f h hu hf
  obtain ⟨f, rfl, hf'⟩ : ∃ n, f = n + 1 ∧ u <= n := ⟨f - 1, by omega, by omega⟩
  rw [show yv (f + 1) ((u : Nat) : Int) = wH (yv f) ((u : Nat) : Int) from rfl]
  unfold wH
  rw [if_neg (by omega)]
  by_cases c : u < 10
  ·rw [if_pos (by omega), Lib.decDigits_one c, yF (by omega) (by omega), show (48 : Int) + ((u : Nat) : Int) = ((48 + u : Nat) : Int) by omega, MV (by omega)]
  ·have e1 : ((u : Nat) : Int).tdiv 10 = ((u / 10 : Nat) : Int) := rfl
   have e2 : ((u : Nat) : Int).tmod 10 = ((u % 10 : Nat) : Int) := rfl
   have e3 : Lib.decDigits u = Lib.decDigits (u / 10) ++ [UInt8.ofNat (48 + u % 10)] := by rw [Lib.decDigits, dif_neg c]
   have hl : (Lib.decDigits (u / 10)).length <= 20 := by rw [Lib.decDigits_length]; exact PN (by omega)
   rw [if_neg (by omega), e1, e2, yF (x := ((u / 10 : Nat) : Int)) (by omega) (by omega), ih (u / 10) f (by omega) (by omega) (by omega), Option.bind_some, yF (x := 48 + ((u % 10 : Nat) : Int)) (by omega) (by omega), show (48 : Int) + ((u % 10 : Nat) : Int) = ((48 + u % 10 : Nat) : Int) by omega, MV (by omega), if_pos (zc (by decide) (by simp only [List.length_cons, List.length_nil]; omega)), e3]
def qB (a0 : Int) : Option (List UInt8) := if -4611686018427387904 <= a0 ∧ a0 <= 4611686018427387904 then some (Lib.itoa a0) else none
theorem Ok {n : Int} (h0 : -4611686018427387904 <= n) (h1 : n <= 4611686018427387904) : qB n = some (Lib.itoa n) := if_pos ⟨h0, h1⟩
theorem QW (a0 : Int) (r : (List UInt8)) (h : qB a0 = some r) : ∃ n, yv n a0 = some r := by
 unfold qB at h
 obtain ⟨⟨h0, h1⟩, h⟩ := yg h
 refine ⟨a0.natAbs + 2, ?_⟩
 rw [<- h]
 unfold Lib.itoa
 by_cases c : a0 < 0
 ·rw [if_pos c, show yv (a0.natAbs + 2) a0 = wH (yv (a0.natAbs + 1)) a0 from rfl]
  unfold wH
  have hl : (Lib.decDigits a0.natAbs).length <= 20 := by rw [Lib.decDigits_length]; exact PN (by omega)
  rw [if_pos c, yF (by omega) (by omega), show (0 : Int) - a0 = ((a0.natAbs : Nat) : Int) by omega, QV _ _ _ (Nat.lt_succ_self _) (by omega) (by omega), Option.bind_some, if_pos (zc (by decide) (by simp only [List.length_cons, List.length_nil]; omega))]; rfl
 ·rw [if_neg c]
  have := QV _ a0.toNat (a0.natAbs + 2) (Nat.lt_succ_self _) (by omega) (by omega)
  rw [show ((a0.toNat : Nat) : Int) = a0 by omega] at this
  exact this
theorem KC : jR qB := by
 intro a0 r h
 obtain ⟨n, hn⟩ := QW a0 r h
 exact (JN n) a0 r hn
def X3 (F : (List UInt8) → Option (List UInt8)) : Prop := ∀ (a0 : (List UInt8)), Oc (F a0) 53 [] [vq za a0] fun r => (.val false [.own 1 (eL za r)], [])
def yw (a0 : (List UInt8)) : Nat → Int → (List UInt8) → Option (Int × (List UInt8))
  | 0, _, _ => none
  | m + 1, v1, v2 =>
  if v1 < (a0.length : Int) then
   (z6 v1).bind fun i2 =>
   (a0[i2]?).bind fun x3 =>
   if ((x3.toNat : Nat) : Int) = 34 then
    if zd 1 (v2.length + [(92 : UInt8)].length) then
    if zd 1 ((v2 ++ [(92 : UInt8)]).length + [x3].length) then
    yw a0 m (w64 (v1 + 1)) ((v2 ++ [(92 : UInt8)]) ++ [x3])
    else none
    else none
   else
   if ((x3.toNat : Nat) : Int) = 92 then
    if zd 1 (v2.length + [(92 : UInt8)].length) then
    if zd 1 ((v2 ++ [(92 : UInt8)]).length + [x3].length) then
    yw a0 m (w64 (v1 + 1)) ((v2 ++ [(92 : UInt8)]) ++ [x3])
    else none
    else none
   else
   if zd 1 (v2.length + [x3].length) then
   yw a0 m (w64 (v1 + 1)) (v2 ++ [x3])
   else none
  else
  some (v1, v2)
theorem Ql (a0 : (List UInt8)) (m : Nat) : ∀ (v1 : Int) (v2 : (List UInt8)), Ol (yw a0 m v1 v2) 53 (zY Tryd.f53 0) ⟨[(0, vq za a0), (3, vr 0), (4, vi v1)], [.obj 1 (eL za v2)], 0⟩ fun o => match o with | ⟨o_0, o_1⟩ => (.exit 0, ⟨[(0, vq za a0), (3, vr 0), (4, vi o_0), (9, vb false)], [.obj 1 (eL za o_1)], 0⟩) := by
  induction m with
  | zero => intro v1 v2 o h; cases h
  | succ m ih => exact fun v1 v2 => tlp (
   .le za a0 <|
   .lI v1 (a0.length : Int) (fun c1 =>
    .na v1 fun i2 =>
    .ix0 za a0 i2 fun x3 =>
    .eI ((x3.toNat : Nat) : Int) 34 (fun c4 =>
     .pl zb [(92 : UInt8)] <|
     .ap 1 zb v2 [(92 : UInt8)] fun n5 =>
     .ag 1 <|
     .ag 0 <|
     .pl zb [x3] <|
     .ap 1 zb (v2 ++ [(92 : UInt8)]) [x3] fun n6 =>
     .go (ih (w64 (v1 + 1)) ((v2 ++ [(92 : UInt8)]) ++ [x3]))) fun c4 =>
    .ag 1 <|
    .ag 0 <|
    .eI ((x3.toNat : Nat) : Int) 92 (fun c5 =>
     .pl zb [(92 : UInt8)] <|
     .ap 1 zb v2 [(92 : UInt8)] fun n6 =>
     .ag 1 <|
     .ag 0 <|
     .pl zb [x3] <|
     .ap 1 zb (v2 ++ [(92 : UInt8)]) [x3] fun n7 =>
     .go (ih (w64 (v1 + 1)) ((v2 ++ [(92 : UInt8)]) ++ [x3]))) fun c5 =>
    .ag 1 <|
    .ag 0 <|
    .pl zb [x3] <|
    .ap 1 zb v2 [x3] fun n6 =>
    .go (ih (w64 (v1 + 1)) (v2 ++ [x3]))) fun c1 =>
   .ret (v1, v2))
def Zp (n : Nat) (a0 : (List UInt8)) : Option (List UInt8) :=
 (yw a0 n 0 [(34 : UInt8)]).bind fun ⟨o1_0, o1_1⟩ =>
 if zd 1 (o1_1.length + [(34 : UInt8)].length) then
 some (o1_1 ++ [(34 : UInt8)])
 else none
theorem VJ (n : Nat) : X3 (Zp n) := fun a0 => tc (
 .lp (Ql a0 n 0 [(34 : UInt8)]) fun ⟨o1_0, o1_1⟩ =>
 .pl zb [(34 : UInt8)] <|
 .ap 1 zb o1_1 [(34 : UInt8)] fun n2 =>
 .ret (o1_1 ++ [(34 : UInt8)])) (zw Tryd.func53)
theorem Uh {a : List UInt8} (ha : a.length <= 2 ^ 30) : ∀ (l p acc : List UInt8) (m : Nat), a = p ++ l → l.length < m → acc.length + 2 * l.length <= 2 ^ 38 → ∃ z, yw a m (p.length : Int) acc = some (z, acc ++ ZG l) := by
 intro l
 induction l with
 | nil =>
  intro p acc m he hm _
  obtain ⟨m, rfl, _⟩ := zi hm
  exact ⟨_, by rw [yw, he, List.append_nil, if_neg (by omega), ZG, List.append_nil]⟩
 | cons x l ih =>
  intro p acc m he hm hb
  obtain ⟨m, rfl, hm'⟩ := zi hm
  have hlen : a.length = p.length + (l.length + 1) := by rw [he]; simp
  have hg : a[p.length]? = some x := by rw [he]; exact zN p x l
  simp only [List.length_cons] at hb hm'
  have e1 : ((x.toNat : Nat) : Int) = 34 ↔ x = 34 := ⟨fun h => UInt8.toNat_inj.1 (by show x.toNat = 34; omega), fun h => by rw [h]; rfl⟩
  have e2 : ((x.toNat : Nat) : Int) = 92 ↔ x = 92 := ⟨fun h => UInt8.toNat_inj.1 (by show x.toNat = 92; omega), fun h => by rw [h]; rfl⟩
  by_cases c : x = 34 ∨ x = 92
  ·obtain ⟨z, hz⟩ := ih (p ++ [x]) (acc ++ [92] ++ [x]) m (by rw [he]; simp) (by omega) (by simp only [List.length_append, List.length_cons, List.length_nil]; omega)
   refine ⟨z, ?_⟩
   rw [yw, if_pos (by omega), zg, Option.bind_some, hg, Option.bind_some, if_pos (zc (by decide) (by simp only [List.length_cons, List.length_nil]; omega)), if_pos (zc (by decide) (by simp only [List.length_append, List.length_cons, List.length_nil]; omega)), zZ p x (by omega), hz, ZG, if_pos c]
   rcases c with c | c
   ·rw [if_pos (e1.2 c)]; simp
   ·rw [if_pos (e2.2 c)]; simp
  ·obtain ⟨z, hz⟩ := ih (p ++ [x]) (acc ++ [x]) m (by rw [he]; simp) (by omega) (by simp only [List.length_append, List.length_cons, List.length_nil]; omega)
   refine ⟨z, ?_⟩
   rw [yw, if_pos (by omega), zg, Option.bind_some, hg, Option.bind_some, if_neg (fun h => c (.inl (e1.1 h))), if_neg (fun h => c (.inr (e2.1 h))), if_pos (zc (by decide) (by simp only [List.length_cons, List.length_nil]; omega)), zZ p x (by omega), hz, ZG, if_neg c]
   simp
def qC (a0 : (List UInt8)) : Option (List UInt8) := if a0.length <= 2 ^ 30 then some (Yq a0) else none
theorem QX (a0 : (List UInt8)) (r : (List UInt8)) (h : qC a0 = some r) : ∃ n, Zp n a0 = some r := by
 unfold qC at h
 obtain ⟨h0, h⟩ := yg h
 obtain ⟨z, hz⟩ := Uh h0 a0 [] [34] (a0.length + 1) rfl (by omega) (by simp only [List.length_cons, List.length_nil]; omega)
 have hl := ZH a0
 refine ⟨a0.length + 1, ?_⟩
 unfold Zp
 simp only [List.length_nil, Int.natCast_zero] at hz
 rw [hz, Option.bind_some]
 dsimp only
 rw [if_pos (zc (by decide) (by simp only [List.length_append, List.length_cons, List.length_nil]; omega)), <- h]
 simp [Yq]
theorem KD : X3 qC := fun a0 r h => (QX a0 r h).elim fun n hn => VJ n a0 r hn
def v8 (a0 : Int) : Option (List UInt8) :=
 if a0 = 15 then
  some [32, 42, 32]
 else
 if a0 = 16 then
  some [32, 43, 32]
 else
 if a0 = 17 then
  some [32, 45, 32]
 else
 if a0 = 18 then
  some [32, 61, 61, 32]
 else
 if a0 = 19 then
  some [32, 60, 32]
 else
 if a0 = 20 then
  some [32, 38, 38, 32]
 else
 some [32, 124, 124, 32]
theorem RP (a0 : Int) : Oc (v8 a0) 104 [] [vi a0] fun r => (vs r, []) := tc (
 .eI a0 15 (fun c1 =>
  .ret [32, 42, 32]) fun c1 =>
 .eI a0 16 (fun c2 =>
  .ret [32, 43, 32]) fun c2 =>
 .eI a0 17 (fun c3 =>
  .ret [32, 45, 32]) fun c3 =>
 .eI a0 18 (fun c4 =>
  .ret [32, 61, 61, 32]) fun c4 =>
 .eI a0 19 (fun c5 =>
  .ret [32, 60, 32]) fun c5 =>
 .eI a0 20 (fun c6 =>
  .ret [32, 38, 38, 32]) fun c6 =>
 .ret [32, 124, 124, 32]) (zw Tryd.func104)
end
end Go.Am.Try
