/- The functions of the program in plain Lean, and that the machine answers as they do; conditions at each theorem. -/
import Derived.Test.YtfbfbebalpnkbaaIP1
set_option linter.unusedVariables false
set_option linter.unusedSimpArgs false
namespace Go.Am.Try
open Go.Am Go.Proofs
set_option linter.unusedVariables false
set_option maxRecDepth 20000
set_option maxHeartbeats 2000000
noncomputable section
def wo (a0 : (List UInt8)) (a1 : Int) : Option Int :=
 if (w64 (a1 - (a0.length : Int))) < 0 then
  some (-1)
 else
 some (w64 (a1 - (a0.length : Int)))
theorem kZ (a0 : (List UInt8)) (a1 : Int) : Oc (wo a0 a1) 23 [] [vq za a0, vi a1] fun r => (vi r, []) := tc (
 .le za a0 <|
 .lI (w64 (a1 - (a0.length : Int))) 0 (fun c1 =>
  .ret (-1)) fun c1 =>
 .ret (w64 (a1 - (a0.length : Int)))) (zs Try.func23)
def Yx (F : (List (List UInt8)) → Int → Option Int) : Prop := ∀ (a0 : (List (List UInt8))) (a1 : Int), Oc (F a0 a1) 25 [] [vq (zk za) a0, vi a1] fun r => (vi r, [])
def xd (a0 : (List (List UInt8))) : Nat → Int → Int → Option (Int ⊕ (Int × Int))
  | 0, _, _ => none
  | m + 1, v1, v2 =>
  if v2 < (a0.length : Int) then
   (zT v2).bind fun i2 =>
   (a0[i2]?).bind fun x3 =>
   (wo x3 v1).bind fun r4 =>
   if r4 < 0 then
    some (.inl (-1))
   else
   xd a0 m r4 (w64 (v2 + 1))
  else
  some (.inr (v1, v2))
theorem XN (a0 : (List (List UInt8))) (m : Nat) : ∀ (v1 : Int) (v2 : Int), Ol (xd a0 m v1 v2) 25 (zY Try.f25 0) ⟨[(0, vq (zk za) a0), (1, vi v1), (5, vi v2)], [], 0⟩ fun o => match o with | .inl o_0 => (.ret, ⟨[(4, vi o_0)], [], 0⟩) | .inr (⟨o_1_0, o_1_1⟩) => (.exit 0, ⟨[(0, vq (zk za) a0), (1, vi o_1_0), (5, vi o_1_1), (15, vb false)], [], 0⟩) := by
  induction m with
  | zero => intro v1 v2 o h; cases h
  | succ m ih => exact fun v1 v2 => tlp (
   .le (zk za) a0 <|
   .lI v2 (a0.length : Int) (fun c1 =>
    .na v2 fun i2 =>
    .ix0 (zk za) a0 i2 fun x3 =>
    .cl (kZ x3 v1) fun r4 =>
    .lI r4 0 (fun c5 =>
     .ret (.inl (-1))) fun c5 =>
    .go (ih r4 (w64 (v2 + 1)))) fun c1 =>
   .ret (.inr (v1, v2)))
def qY (n : Nat) (a0 : (List (List UInt8))) (a1 : Int) : Option Int :=
 if (w64 (a1 - (a0.length : Int))) < 0 then
  some (-1)
 else
 (xd a0 n (w64 (a1 - (a0.length : Int))) 0).bind fun o2 =>
 match o2 with
 | .inl o2_0 =>
  some o2_0
 | .inr (⟨o2_1_0, o2_1_1⟩) =>
  some o2_1_0
theorem JX (n : Nat) : Yx (qY n) := fun a0 a1 => tc (
 .le (zk za) a0 <|
 .lI (w64 (a1 - (a0.length : Int))) 0 (fun c1 =>
  .ret (-1)) fun c1 =>
 .l2 (XN a0 n (w64 (a1 - (a0.length : Int))) 0) (fun o2_0 =>
  .ret o2_0) fun ⟨o2_1_0, o2_1_1⟩ =>
 .ret o2_1_0) (zs Try.func25)
def MdB (k : List (List UInt8)) : Prop := k.length <= 2 ^ 63 - 1 ∧ ∀ b ∈ k, b.length <= 2 ^ 63 - 1
theorem Xt {a : List UInt8} {n : Int} (h : a.length <= 2 ^ 63 - 1) (h0 : 0 <= n) (h1 : n <= 2 ^ 20) : wo a n = some (if (a.length : Int) <= n then n - a.length else -1) := by
 unfold wo
 rw [xZ (by omega) (by omega)]
 by_cases hc : (a.length : Int) <= n
 ·rw [if_neg (by omega), if_pos hc]
 ·rw [if_pos (by omega), if_neg hc]
theorem Rh {a : List (List UInt8)} (ha : a.length <= 2 ^ 20) (hb : ∀ b ∈ a, b.length <= 2 ^ 63 - 1) : ∀ (d i m : Nat) (r : Int), i + d = a.length → d < m → 0 <= r → r <= 2 ^ 20 →
  ∃ z, xd a m r (i : Int) = some (if (((a.drop i).map List.length).sum : Int) <= r then .inr (r - ((a.drop i).map List.length).sum, z) else .inl (-1)) := by
 intro d
 induction d with
 | zero =>
  intro i m r hi hm h0 h1
  obtain ⟨m, rfl, _⟩ := zl hm
  refine ⟨(i : Int), ?_⟩
  rw [xd, if_neg (by omega), List.drop_eq_nil_of_le (by omega)]
  rw [List.map_nil, List.sum_nil, if_pos (by simpa using h0)]; simp
 | succ d ih =>
  intro i m r hi hm h0 h1
  obtain ⟨m, rfl, hm'⟩ := zl hm
  have hil : i < a.length := by omega
  have hx := hb a[i] (List.getElem_mem hil)
  rw [xd, if_pos (by omega), zu, Option.bind_some, zo hil, Option.bind_some, Xt hx h0 h1, Option.bind_some]
  rw [yR hil, List.map_cons, List.sum_cons]
  by_cases hc : ((a[i]).length : Int) <= r
  ·rw [if_pos hc, if_neg (by omega), yb (by omega)]
   obtain ⟨z, hz⟩ := ih (i + 1) m (r - (a[i]).length) (by omega) (by omega) (by omega) (by omega)
   refine ⟨z, ?_⟩
   rw [hz]
   by_cases hd : (((a.drop (i + 1)).map List.length).sum : Int) <= r - (a[i]).length
   ·rw [if_pos hd, if_pos (by omega)]; congr 3; omega
   ·rw [if_neg hd, if_neg (by omega)]
  ·refine ⟨0, ?_⟩
   rw [if_neg hc, if_pos (by omega), if_neg (by omega)]
theorem TA {a : List (List UInt8)} {n : Int} (h : MdB a ∧ 0 <= n ∧ n <= 2 ^ 20) : qY (a.length + 1) a n = some (if (bsz a : Int) <= n then n - bsz a else -1) := by
 obtain ⟨⟨ha, hb⟩, h0, h1⟩ := h
 unfold qY
 rw [xZ (by omega) (by omega)]
 unfold bsz
 by_cases hc : (a.length : Int) <= n
 ·rw [if_neg (by omega)]
  obtain ⟨z, hz⟩ := Rh (by omega) hb a.length 0 (a.length + 1) (n - a.length) (by omega) (by omega) (by omega) (by omega)
  rw [show ((0 : Nat) : Int) = 0 from rfl] at hz
  rw [hz]
  simp only [List.drop_zero]
  by_cases hd : ((a.map List.length).sum : Int) <= n - a.length
  ·rw [if_pos hd, if_pos (by omega)]
   simp only [Option.bind_some]; congr 1; omega
  ·rw [if_neg hd, if_neg (by omega)]; rfl
 ·rw [if_pos (by omega), if_neg (by omega)]
open Classical in
noncomputable def xr (a0 : (List (List UInt8))) (a1 : Int) : Option Int := if MdB a0 ∧ 0 <= a1 ∧ a1 <= 2 ^ 20 then some (if (bsz a0 : Int) <= a1 then a1 - bsz a0 else -1) else none
theorem Wv (a0 : (List (List UInt8))) (a1 : Int) (r : Int) (h : xr a0 a1 = some r) : ∃ n, qY n a0 a1 = some r := by
 unfold xr at h
 obtain ⟨hp, h⟩ := yl h
 exact ⟨_, by rw [<- h]; exact TA hp⟩
theorem ZM : Yx xr := fun a0 a1 r h => (Wv a0 a1 r h).elim fun n hn => JX n a0 a1 r hn
def jA (F : (List GExpr) → Int → Option Int) : Prop := ∀ (a0 : (List GExpr)) (a1 : Int), Oc (F a0 a1) 26 [] [vq zb a0, vi a1] fun r => (vi r, [])
def qD (F : GExpr → Int → Option Int) : Prop := ∀ (a0 : GExpr) (a1 : Int), Oc (F a0 a1) 24 [] [.val true (yv a0), vi a1] fun r => (vi r, [])
def xw (G_laws_szExpr : GExpr → Int → Option Int) (a0 : (List GExpr)) : Nat → Int → Int → Option (Int ⊕ (Int × Int))
  | 0, _, _ => none
  | m + 1, v1, v2 =>
  if v2 < (a0.length : Int) then
   (zT v2).bind fun i2 =>
   (a0[i2]?).bind fun x3 =>
   (G_laws_szExpr x3 v1).bind fun r4 =>
   if r4 < 0 then
    some (.inl (-1))
   else
   xw G_laws_szExpr a0 m r4 (w64 (v2 + 1))
  else
  some (.inr (v1, v2))
theorem Ww (G_laws_szExpr : GExpr → Int → Option Int) (H_laws_szExpr : qD G_laws_szExpr) (a0 : (List GExpr)) (m : Nat) : ∀ (v1 : Int) (v2 : Int), Ol (xw G_laws_szExpr a0 m v1 v2) 26 (zY Try.f26 0) ⟨[(0, vq zb a0), (1, vi v1), (5, vi v2)], [], 0⟩ fun o => match o with | .inl o_0 => (.ret, ⟨[(4, vi o_0)], [], 0⟩) | .inr (⟨o_1_0, o_1_1⟩) => (.exit 0, ⟨[(0, vq zb a0), (1, vi o_1_0), (5, vi o_1_1), (15, vb false)], [], 0⟩) := by
  induction m with
  | zero => intro v1 v2 o h; cases h
  | succ m ih => exact fun v1 v2 => tlp (
   .le zb a0 <|
   .lI v2 (a0.length : Int) (fun c1 =>
    .na v2 fun i2 =>
    .ix zV a0 i2 fun x3 =>
    .cl (H_laws_szExpr x3 v1) fun r4 =>
    .lI r4 0 (fun c5 =>
     .ret (.inl (-1))) fun c5 =>
    .go (ih r4 (w64 (v2 + 1)))) fun c1 =>
   .ret (.inr (v1, v2)))
def jB (G_laws_szExpr : GExpr → Int → Option Int) (n : Nat) (a0 : (List GExpr)) (a1 : Int) : Option Int :=
 if (w64 (a1 - (a0.length : Int))) < 0 then
  some (-1)
 else
 (xw G_laws_szExpr a0 n (w64 (a1 - (a0.length : Int))) 0).bind fun o2 =>
 match o2 with
 | .inl o2_0 =>
  some o2_0
 | .inr (⟨o2_1_0, o2_1_1⟩) =>
  some o2_1_0
theorem Vc (G_laws_szExpr : GExpr → Int → Option Int) (H_laws_szExpr : qD G_laws_szExpr) (n : Nat) : jA (jB G_laws_szExpr n) := fun a0 a1 => tc (
 .le zb a0 <|
 .lI (w64 (a1 - (a0.length : Int))) 0 (fun c1 =>
  .ret (-1)) fun c1 =>
 .l2 (Ww G_laws_szExpr H_laws_szExpr a0 n (w64 (a1 - (a0.length : Int))) 0) (fun o2_0 =>
  .ret o2_0) fun ⟨o2_1_0, o2_1_1⟩ =>
 .ret o2_1_0) (zs Try.func26)
def Zh (G_laws_szExprS : (List GExpr) → Int → Option Int) (a0 : GExpr) (a1 : Int) : Option Int :=
 (wo a0.S a1).bind fun r1 =>
 if r1 < 0 then
  some (-1)
 else
 (xr a0.K r1).bind fun r3 =>
 if r3 < 0 then
  some (-1)
 else
 (G_laws_szExprS a0.Kids r3).bind fun r5 =>
 if r5 < 0 then
  some (-1)
 else
 some r5
theorem Ri (G_laws_szExprS : (List GExpr) → Int → Option Int) (H_laws_szExprS : jA G_laws_szExprS) : qD (Zh G_laws_szExprS) := fun a0 a1 => tc (
 .cl (kZ a0.S a1) fun r1 =>
 .lI r1 0 (fun c2 =>
  .ret (-1)) fun c2 =>
 .cl (ZM a0.K r1) fun r3 =>
 .lI r3 0 (fun c4 =>
  .ret (-1)) fun c4 =>
 .cl (H_laws_szExprS a0.Kids r3) fun r5 =>
 .lI r5 0 (fun c6 =>
  .ret (-1)) fun c6 =>
 .ret r5) (zs Try.func24)
mutual
def xe : Nat → (List GExpr) → Int → Option Int
 | 0, _, _ => none
 | n + 1, a0, a1 => jB (xF n) n a0 a1
def xF : Nat → GExpr → Int → Option Int
 | 0, _, _ => none
 | n + 1, a0, a1 => Zh (xe n) a0 a1
end
theorem ZN (n : Nat) : jA (xe n) ∧ qD (xF n) := by
 induction n with
 | zero => exact ⟨fun _ _ _ h => (by rw [xe] at h; cases h), fun _ _ _ h => (by rw [xF] at h; cases h)⟩
 | succ n ih =>
  obtain ⟨ih_laws_szExprS, ih_laws_szExpr⟩ := ih
  exact ⟨fun a0 a1 r h => Vc (xF n) ih_laws_szExpr n a0 a1 r (by rw [xe] at h; exact h),
   fun a0 a1 r h => Ri (xe n) ih_laws_szExprS a0 a1 r (by rw [xF] at h; exact h)⟩
mutual
def MdX : GExpr → Prop
 | .mk _ _ s k l => s.length <= 2 ^ 63 - 1 ∧ MdB k ∧ l.length <= 2 ^ 63 - 1 ∧ ZO l
def ZO : List GExpr → Prop
 | [] => True
 | v :: l => MdX v ∧ ZO l
end
theorem TB {l : List GExpr} (h : ZO l) {v : GExpr} (hv : v ∈ l) : MdX v := by
 induction l with
 | nil => cases hv
 | cons x l ih =>
  simp only [ZO] at h
  rcases List.mem_cons.1 hv with rfl | hv
  ·exact h.1
  ·exact ih h.2 hv
theorem OA (v : GExpr) : MdX v = (v.S.length <= 2 ^ 63 - 1 ∧ MdB v.K ∧ v.Kids.length <= 2 ^ 63 - 1 ∧ ZO v.Kids) := by cases v; simp only [MdX, GExpr.S, GExpr.K, GExpr.Kids]
def xin (l : List GExpr) : Nat := (l.map xsz).sum
theorem Mc (l : List GExpr) : zB l = l.length + xin l := by
 unfold xin
 induction l with
 | nil => rfl
 | cons v l ih => simp only [zB, ih, List.length_cons, List.map_cons, List.sum_cons]; omega
theorem TC {G : GExpr → Int → Option Int} {a : List GExpr} (ha : a.length <= 2 ^ 20) (hG : ∀ v ∈ a, ∀ n : Int, 0 <= n → n <= 2 ^ 20 → G v n = some (jL (xsz v) n)) : ∀ (d i m : Nat) (r : Int), i + d = a.length → d < m → 0 <= r → r <= 2 ^ 20 →
  ∃ z, xw G a m r (i : Int) = some (if (xin (a.drop i) : Int) <= r then .inr (r - xin (a.drop i), z) else .inl (-1)) := by
 intro d
 induction d with
 | zero =>
  intro i m r hi hm h0 h1
  obtain ⟨m, rfl, _⟩ := zl hm
  refine ⟨(i : Int), ?_⟩
  rw [xw, if_neg (by omega), List.drop_eq_nil_of_le (by omega)]
  simp only [xin, List.map_nil, List.sum_nil]
  rw [if_pos (by simpa using h0)]; simp
 | succ d ih =>
  intro i m r hi hm h0 h1
  obtain ⟨m, rfl, hm'⟩ := zl hm
  have hil : i < a.length := by omega
  rw [xw, if_pos (by omega), zu, Option.bind_some, zo hil, Option.bind_some, hG _ (List.getElem_mem hil) r h0 h1, Option.bind_some]
  have hv : xin (a.drop i) = xsz a[i] + xin (a.drop (i + 1)) := by simp only [xin, yR hil, List.map_cons, List.sum_cons]
  rw [hv]
  unfold jL
  by_cases hc : (xsz a[i] : Int) <= r
  ·rw [if_pos hc, if_neg (by omega), yb (by omega)]
   obtain ⟨z, hz⟩ := ih (i + 1) m (r - xsz a[i]) (by omega) (by omega) (by omega) (by omega)
   refine ⟨z, ?_⟩
   rw [hz]
   by_cases hd : (xin (a.drop (i + 1)) : Int) <= r - xsz a[i]
   ·rw [if_pos hd, if_pos (by omega)]; congr 3; omega
   ·rw [if_neg hd, if_neg (by omega)]
  ·refine ⟨0, ?_⟩
   rw [if_neg hc, if_pos (by omega), if_neg (by omega)]
theorem VO {G : GExpr → Int → Option Int} {a : List GExpr} {f : Nat} {n : Int} (ha : a.length <= 2 ^ 63 - 1) (h0 : 0 <= n) (h1 : n <= 2 ^ 20) (hf : a.length < f ∨ n < a.length) (hG : ∀ v ∈ a, ∀ n : Int, 0 <= n → n <= 2 ^ 20 → G v n = some (jL (xsz v) n)) :
  jB G f a n = some (jL (zB a) n) := by
 unfold jB
 rw [xZ (by omega) (by omega), Mc]
 unfold jL
 by_cases hc : (a.length : Int) <= n
 ·rw [if_neg (by omega)]
  obtain ⟨z, hz⟩ := TC (G := G) (by omega) hG a.length 0 f (n - a.length) (by omega) (by omega) (by omega) (by omega)
  rw [show ((0 : Nat) : Int) = 0 from rfl] at hz
  rw [hz]
  simp only [List.drop_zero]
  by_cases hd : (xin a : Int) <= n - a.length
  ·rw [if_pos hd, if_pos (by omega)]
   simp only [Option.bind_some]; congr 1; omega
  ·rw [if_neg hd, if_neg (by omega)]; rfl
 ·rw [if_pos (by omega), if_neg (by omega)]
theorem TE : ∀ (N : Nat) (v : GExpr), xsz v < N → MdX v → ∀ (f : Nat) (n : Int), 2 * xsz v + 3 <= f → 0 <= n → n <= 2 ^ 20 → xF f v n = some (jL (xsz v) n) := by
 intro N
 induction N with
 | zero => intro v hv; omega
 | succ N ih =>
  intro v hv hmd f n hf h0 h1
  obtain ⟨f, rfl, _⟩ := zl (show 0 < f by omega)
  rw [OA] at hmd
  have he := w5 v
  have hl := zX v.Kids
  obtain ⟨f, rfl, _⟩ := zl (show 0 < f by omega)
  rw [xF]
  unfold Zh
  rw [Xt hmd.1 h0 h1, Option.bind_some]
  unfold jL
  by_cases c1 : (v.S.length : Int) <= n
  ·rw [if_pos c1, if_neg (by omega)]
   unfold xr
   rw [if_pos ⟨hmd.2.1, by omega, by omega⟩, Option.bind_some]
   by_cases c2 : (bsz v.K : Int) <= n - v.S.length
   ·rw [if_pos c2, if_neg (by omega)]
    rw [xe, VO hmd.2.2.1 (by omega) (by omega) (.inl (by omega)) (fun x hx m g0 g1 => ?_), Option.bind_some]
    ·unfold jL
     by_cases c3 : (zB v.Kids : Int) <= n - v.S.length - bsz v.K
     ·rw [if_pos c3, if_neg (by omega), if_pos (by omega)]; congr 1; omega
     ·rw [if_neg c3, if_pos (by omega), if_neg (by omega)]
    ·have := yy hx
     exact ih x (by omega) (TB hmd.2.2.2 hx) f m (by omega) g0 g1
   ·rw [if_neg c2, if_pos (by omega), if_neg (by omega)]
  ·rw [if_neg c1, if_pos (by omega), if_neg (by omega)]
open Classical in
noncomputable def qh (a0 : (List GExpr)) (a1 : Int) : Option Int := if a0.length <= 2 ^ 63 - 1 ∧ ZO a0 ∧ 0 <= a1 ∧ a1 <= 2 ^ 20 then some (jL (zB a0) a1) else none
theorem Qh (a0 : (List GExpr)) (a1 : Int) (r : Int) (h : qh a0 a1 = some r) : ∃ n, xe n a0 a1 = some r := by
 unfold qh at h
 obtain ⟨⟨hl, hm, h0, h1⟩, h⟩ := yl h
 refine ⟨2 * zB a0 + 5, ?_⟩
 have := zX a0
 rw [xe, VO hl h0 h1 (.inl (by omega)) fun x hx m g0 g1 => ?_, h]
 have := yy hx
 exact TE _ x (Nat.lt_succ_self _) (TB hm hx) _ m (by omega) g0 g1
open Classical in
noncomputable def qE (a0 : GExpr) (a1 : Int) : Option Int := if MdX a0 ∧ 0 <= a1 ∧ a1 <= 2 ^ 20 then some (jL (xsz a0) a1) else none
theorem QO (a0 : GExpr) (a1 : Int) (r : Int) (h : qE a0 a1 = some r) : ∃ n, xF n a0 a1 = some r := by
 unfold qE at h
 obtain ⟨⟨hm, h0, h1⟩, h⟩ := yl h
 exact ⟨2 * xsz a0 + 3, by rw [<- h]; exact TE _ a0 (Nat.lt_succ_self _) hm _ a1 (Nat.le_refl _) h0 h1⟩
theorem JY : jA qh := by
 intro a0 a1 r h
 obtain ⟨n, hn⟩ := Qh a0 a1 r h
 exact (ZN n).1 a0 a1 r hn
theorem Vd : qD qE := by
 intro a0 a1 r h
 obtain ⟨n, hn⟩ := QO a0 a1 r h
 exact (ZN n).2 a0 a1 r hn
def kc (a0 : GItem) (a1 : Int) : Option Int :=
 (wo a0.Name a1).bind fun r1 =>
 if r1 < 0 then
  some (-1)
 else
 (qE a0.By r1).bind fun r3 =>
 if r3 < 0 then
  some (-1)
 else
 (xr a0.Names r3).bind fun r5 =>
 if r5 < 0 then
  some (-1)
 else
 (qh a0.Exprs r5).bind fun r7 =>
 if r7 < 0 then
  some (-1)
 else
 some r7
theorem Ve (a0 : GItem) (a1 : Int) : Oc (kc a0 a1) 5 [] [.val true (zJ a0), vi a1] fun r => (vi r, []) := tc (
 .cl (kZ a0.Name a1) fun r1 =>
 .lI r1 0 (fun c2 =>
  .ret (-1)) fun c2 =>
 .cl (Vd a0.By r1) fun r3 =>
 .lI r3 0 (fun c4 =>
  .ret (-1)) fun c4 =>
 .cl (ZM a0.Names r3) fun r5 =>
 .lI r5 0 (fun c6 =>
  .ret (-1)) fun c6 =>
 .cl (JY a0.Exprs r5) fun r7 =>
 .lI r7 0 (fun c8 =>
  .ret (-1)) fun c8 =>
 .ret r7) (zs Try.func5)
def YK (F : (List UInt8) → Option (List UInt8)) : Prop := ∀ (a0 : (List UInt8)), Oc (F a0) 30 [] [vq za a0] fun r => (.val false [.own 1 (eL za r)], [])
def xx (a0 : (List UInt8)) : Nat → Int → (List UInt8) → Option (Int × (List UInt8))
  | 0, _, _ => none
  | m + 1, v1, v2 =>
  if v1 < (a0.length : Int) then
   (zT v1).bind fun i2 =>
   (a0[i2]?).bind fun x3 =>
   (v2[i2]?).bind fun x4 =>
   xx a0 m (w64 (v1 + 1)) (v2.set i2 x3)
  else
  some (v1, v2)
theorem Wx (a0 : (List UInt8)) (m : Nat) : ∀ (v1 : Int) (v2 : (List UInt8)), Ol (xx a0 m v1 v2) 30 (zY Try.f30 0) ⟨[(0, vq za a0), (3, vr 0), (4, vi v1)], [.obj 1 (eL za v2)], 0⟩ fun o => match o with | ⟨o_0, o_1⟩ => (.exit 0, ⟨[(0, vq za a0), (3, vr 0), (4, vi o_0), (11, vb false)], [.obj 1 (eL za o_1)], 0⟩) := by
  induction m with
  | zero => intro v1 v2 o h; cases h
  | succ m ih => exact fun v1 v2 => tlp (
   .le za a0 <|
   .lI v1 (a0.length : Int) (fun c1 =>
    .na v1 fun i2 =>
    .ix0 za a0 i2 fun x3 =>
    .ag 1 <|
    .ix0 za v2 i2 fun x4 =>
    .ag 0 <|
    .sl (e := za) (x := x3) (c := [.int .u8 ((x3.toNat : Nat) : Int)]) rfl v2 i2 <|
    .go (ih (w64 (v1 + 1)) (v2.set i2 x3))) fun c1 =>
   .ret (v1, v2))
def vv (n : Nat) (a0 : (List UInt8)) : Option (List UInt8) :=
 (Yv 1 (a0.length : Int)).bind fun k1 =>
 (xx a0 n 0 (List.replicate k1 0)).bind fun ⟨o2_0, o2_1⟩ =>
 some o2_1
theorem Vf (n : Nat) : YK (vv n) := fun a0 => tc (
 .le za a0 <|
 .q (.eTo (a0.length : Int) (a0.length : Int) rfl) <|
 .md 1 (a0.length : Int) fun k1 =>
 .q ⟨.rep k1 [.int .u8 0], .l (eL za (List.replicate k1 0)), A.rep rfl⟩ <|
 .lp (Wx a0 n 0 (List.replicate k1 0)) fun ⟨o2_0, o2_1⟩ =>
 .ret o2_1) (zs Try.func30)
theorem TF {a : List UInt8} (ha : a.length <= 2 ^ 20) : ∀ (d i m : Nat) (v : List UInt8), i + d = a.length → d < m → Pre a v i → ∃ z, xx a m (i : Int) v = some (z, a) := by
 intro d
 induction d with
 | zero =>
  intro i m v hi hm hp
  obtain ⟨m, rfl, _⟩ := zl hm
  exact ⟨_, by rw [xx, if_neg (by omega), hp.done (by omega)]⟩
 | succ d ih =>
  intro i m v hi hm hp
  obtain ⟨m, rfl, hm'⟩ := zl hm
  have hil : i < a.length := by omega
  rw [xx, if_pos (by omega), zu, Option.bind_some, zo hil, Option.bind_some, zo (by rw [hp.1]; exact hil), Option.bind_some, yb (by omega)]
  exact ih (i + 1) m _ (by omega) (by omega) (hp.step hil)
def yE (a0 : (List UInt8)) : Option (List UInt8) := if a0.length <= 2 ^ 20 then some a0 else none
theorem Qi (a0 : (List UInt8)) (r : (List UInt8)) (h : yE a0 = some r) : ∃ n, vv n a0 = some r := by
 unfold yE at h
 obtain ⟨ha, h⟩ := yl h
 refine ⟨a0.length + 1, ?_⟩
 obtain ⟨z, hz⟩ := TF ha a0.length 0 (a0.length + 1) (List.replicate a0.length 0) (by omega) (by omega) (Pre.start (by simp))
 unfold vv
 rw [Vb ha (by decide), Option.bind_some, show (0 : Int) = ((0 : Nat) : Int) from rfl, hz]
 exact h
theorem va : YK yE := fun a0 r h => (Qi a0 r h).elim fun n hn => Vf n a0 r hn
def Yy (F : (List (List UInt8)) → Option (List (List UInt8))) : Prop := ∀ (a0 : (List (List UInt8))), Oc (F a0) 32 [] [vq (zk za) a0] fun r => (.val false [.own 1 (eL (zS 1 za) r)], [])
def xf (a0 : (List (List UInt8))) : Nat → Int → (List (List UInt8)) → Option (Int × (List (List UInt8)))
  | 0, _, _ => none
  | m + 1, v1, v2 =>
  if v1 < (a0.length : Int) then
   (zT v1).bind fun i2 =>
   (a0[i2]?).bind fun x3 =>
   (yE x3).bind fun r4 =>
   (v2[i2]?).bind fun x5 =>
   xf a0 m (w64 (v1 + 1)) (v2.set i2 r4)
  else
  some (v1, v2)
theorem XO (a0 : (List (List UInt8))) (m : Nat) : ∀ (v1 : Int) (v2 : (List (List UInt8))), Ol (xf a0 m v1 v2) 32 (zY Try.f32 0) ⟨[(0, vq (zk za) a0), (3, vr 0), (4, vi v1)], [.obj 1 (eL (zS 1 za) v2)], 0⟩ fun o => match o with | ⟨o_0, o_1⟩ => (.exit 0, ⟨[(0, vq (zk za) a0), (3, vr 0), (4, vi o_0), (11, vb false)], [.obj 1 (eL (zS 1 za) o_1)], 0⟩) := by
  induction m with
  | zero => intro v1 v2 o h; cases h
  | succ m ih => exact fun v1 v2 => tlp (
   .le (zk za) a0 <|
   .lI v1 (a0.length : Int) (fun c1 =>
    .na v1 fun i2 =>
    .ix0 (zk za) a0 i2 fun x3 =>
    .cl (va x3) fun r4 =>
    .ag 2 <|
    .ix0 (zS 1 za) v2 i2 fun x5 =>
    .ag 0 <|
    .sl (e := (zS 1 za)) (x := r4) (c := [.own 1 (eL za r4)]) rfl v2 i2 <|
    .go (ih (w64 (v1 + 1)) (v2.set i2 r4))) fun c1 =>
   .ret (v1, v2))
def vc (n : Nat) (a0 : (List (List UInt8))) : Option (List (List UInt8)) :=
 (Yv 24 (a0.length : Int)).bind fun k1 =>
 (xf a0 n 0 (List.replicate k1 [])).bind fun ⟨o2_0, o2_1⟩ =>
 some o2_1
theorem JZ (n : Nat) : Yy (vc n) := fun a0 => tc (
 .le (zk za) a0 <|
 .q (.eTo (a0.length : Int) (a0.length : Int) rfl) <|
 .md 24 (a0.length : Int) fun k1 =>
 .q ⟨.rep k1 [.own 1 []], .l (eL (zS 1 za) (List.replicate k1 [])), A.rep rfl⟩ <|
 .lp (XO a0 n 0 (List.replicate k1 [])) fun ⟨o2_0, o2_1⟩ =>
 .ret o2_1) (zs Try.func32)
theorem Rj {a : List (List UInt8)} (ha : bsz a <= 2 ^ 20) : ∀ (d i m : Nat) (v : List (List UInt8)), i + d = a.length → d < m → Pre a v i → ∃ z, xf a m (i : Int) v = some (z, a) := by
 have hl := qq a
 intro d
 induction d with
 | zero =>
  intro i m v hi hm hp
  obtain ⟨m, rfl, _⟩ := zl hm
  exact ⟨_, by rw [xf, if_neg (by omega), hp.done (by omega)]⟩
 | succ d ih =>
  intro i m v hi hm hp
  obtain ⟨m, rfl, hm'⟩ := zl hm
  have hil : i < a.length := by omega
  have hx := vG (List.getElem_mem hil)
  rw [xf, if_pos (by omega), zu, Option.bind_some, zo hil, Option.bind_some]
  unfold yE
  rw [if_pos (by omega), Option.bind_some, zo (by rw [hp.1]; exact hil), Option.bind_some, yb (by omega)]
  exact ih (i + 1) m _ (by omega) (by omega) (hp.step hil)
def xt (a0 : (List (List UInt8))) : Option (List (List UInt8)) := if bsz a0 <= 2 ^ 20 then some a0 else none
theorem Wy (a0 : (List (List UInt8))) (r : (List (List UInt8))) (h : xt a0 = some r) : ∃ n, vc n a0 = some r := by
 unfold xt at h
 obtain ⟨ha, h⟩ := yl h
 have hl := qq a0
 refine ⟨a0.length + 1, ?_⟩
 obtain ⟨z, hz⟩ := Rj ha a0.length 0 (a0.length + 1) (List.replicate a0.length []) (by omega) (by omega) (Pre.start (by simp))
 unfold vc
 rw [Vb (by omega) (by decide), Option.bind_some, show (0 : Int) = ((0 : Nat) : Int) from rfl, hz]
 exact h
theorem ZP : Yy xt := fun a0 r h => (Wy a0 r h).elim fun n hn => JZ n a0 r hn
def jC (F : (List GExpr) → Option (List GExpr)) : Prop := ∀ (a0 : (List GExpr)), Oc (F a0) 33 [] [vq zb a0] fun r => (.val false [.own 5 (eL zN r)], [])
def qF (F : GExpr → Option GExpr) : Prop := ∀ (a0 : GExpr), Oc (F a0) 31 [] [.val true (yv a0)] fun r => (.val true (Vy r), [])
def xy (G_laws_toExpr : GExpr → Option GExpr) (a0 : (List GExpr)) : Nat → Int → (List GExpr) → Option (Int × (List GExpr))
  | 0, _, _ => none
  | m + 1, v1, v2 =>
  if v1 < (a0.length : Int) then
   (zT v1).bind fun i2 =>
   (a0[i2]?).bind fun x3 =>
   (G_laws_toExpr x3).bind fun r4 =>
   (v2[i2]?).bind fun x5 =>
   xy G_laws_toExpr a0 m (w64 (v1 + 1)) (v2.set i2 r4)
  else
  some (v1, v2)
theorem Wz (G_laws_toExpr : GExpr → Option GExpr) (H_laws_toExpr : qF G_laws_toExpr) (a0 : (List GExpr)) (m : Nat) : ∀ (v1 : Int) (v2 : (List GExpr)), Ol (xy G_laws_toExpr a0 m v1 v2) 33 (zY Try.f33 0) ⟨[(0, vq zb a0), (3, vr 0), (4, vi v1)], [.obj 5 (eL zN v2)], 0⟩ fun o => match o with | ⟨o_0, o_1⟩ => (.exit 0, ⟨[(0, vq zb a0), (3, vr 0), (4, vi o_0), (11, vb false)], [.obj 5 (eL zN o_1)], 0⟩) := by
  induction m with
  | zero => intro v1 v2 o h; cases h
  | succ m ih => exact fun v1 v2 => tlp (
   .le zb a0 <|
   .lI v1 (a0.length : Int) (fun c1 =>
    .na v1 fun i2 =>
    .ix zV a0 i2 fun x3 =>
    .cl (H_laws_toExpr x3) fun r4 =>
    .ag 2 <|
    .ix yU v2 i2 fun x5 =>
    .ag 0 <|
    .sl (yU r4) v2 i2 <|
    .go (ih (w64 (v1 + 1)) (v2.set i2 r4))) fun c1 =>
   .ret (v1, v2))
def jD (G_laws_toExpr : GExpr → Option GExpr) (n : Nat) (a0 : (List GExpr)) : Option (List GExpr) :=
 (Yv 88 (a0.length : Int)).bind fun k1 =>
 (xy G_laws_toExpr a0 n 0 (List.replicate k1 (GExpr.mk 0 0 [] [] []))).bind fun ⟨o2_0, o2_1⟩ =>
 some o2_1
theorem Vg (G_laws_toExpr : GExpr → Option GExpr) (H_laws_toExpr : qF G_laws_toExpr) (n : Nat) : jC (jD G_laws_toExpr n) := fun a0 => tc (
 .le zb a0 <|
 .q (.eTo (a0.length : Int) (a0.length : Int) rfl) <|
 .md 88 (a0.length : Int) fun k1 =>
 .q ⟨.rep k1 [.int .i64 0, .int .i64 0, .own 1 [], .own 1 [], .own 5 []], .l (eL zN (List.replicate k1 (GExpr.mk 0 0 [] [] []))), A.rep (yU (GExpr.mk 0 0 [] [] []))⟩ <|
 .lp (Wz G_laws_toExpr H_laws_toExpr a0 n 0 (List.replicate k1 (GExpr.mk 0 0 [] [] []))) fun ⟨o2_0, o2_1⟩ =>
 .ret o2_1) (zs Try.func33)
def Zi (G_laws_toExprS : (List GExpr) → Option (List GExpr)) (a0 : GExpr) : Option GExpr :=
 (yE a0.S).bind fun r1 =>
 (xt a0.K).bind fun r2 =>
 (G_laws_toExprS a0.Kids).bind fun r3 =>
 some (GExpr.mk a0.Kind a0.N r1 r2 r3)
theorem Rk (G_laws_toExprS : (List GExpr) → Option (List GExpr)) (H_laws_toExprS : jC G_laws_toExprS) : qF (Zi G_laws_toExprS) := fun a0 => tc (
 .cl (va a0.S) fun r1 =>
 .cl (ZP a0.K) fun r2 =>
 .cl (H_laws_toExprS a0.Kids) fun r3 =>
 .ret (GExpr.mk a0.Kind a0.N r1 r2 r3)) (zs Try.func31)
mutual
def xg : Nat → (List GExpr) → Option (List GExpr)
 | 0, _ => none
 | n + 1, a0 => jD (xG n) n a0
def xG : Nat → GExpr → Option GExpr
 | 0, _ => none
 | n + 1, a0 => Zi (xg n) a0
end
theorem ZQ (n : Nat) : jC (xg n) ∧ qF (xG n) := by
 induction n with
 | zero => exact ⟨fun _ _ h => (by rw [xg] at h; cases h), fun _ _ h => (by rw [xG] at h; cases h)⟩
 | succ n ih =>
  obtain ⟨ih_laws_toExprS, ih_laws_toExpr⟩ := ih
  exact ⟨fun a0 r h => Vg (xG n) ih_laws_toExpr n a0 r (by rw [xg] at h; exact h),
   fun a0 r h => Rk (xg n) ih_laws_toExprS a0 r (by rw [xG] at h; exact h)⟩
theorem VP {G : GExpr → Option GExpr} {a : List GExpr} {f : Nat} (ha : a.length <= 2 ^ 20) (hf : a.length < f) (hG : ∀ v ∈ a, G v = some v) : jD G f a = some a := by
 have loop : ∀ (d i m : Nat) (v : List GExpr), i + d = a.length → d < m → Pre a v i → ∃ z, xy G a m (i : Int) v = some (z, a) := by
  intro d
  induction d with
  | zero =>
   intro i m v hi hm hp
   obtain ⟨m, rfl, _⟩ := zl hm
   exact ⟨_, by rw [xy, if_neg (by omega), hp.done (by omega)]⟩
  | succ d ih =>
   intro i m v hi hm hp
   obtain ⟨m, rfl, hm'⟩ := zl hm
   have hil : i < a.length := by omega
   rw [xy, if_pos (by omega), zu, Option.bind_some, zo hil, Option.bind_some, hG _ (List.getElem_mem hil), Option.bind_some, zo (by rw [hp.1]; exact hil), Option.bind_some, yb (by omega)]
   exact ih (i + 1) m _ (by omega) (by omega) (hp.step hil)
 obtain ⟨z, hz⟩ := loop a.length 0 f (List.replicate a.length (GExpr.mk 0 0 [] [] [])) (by omega) (by omega) (Pre.start (by simp))
 rw [show ((0 : Nat) : Int) = 0 from rfl] at hz
 unfold jD
 rw [Vb ha (by decide), Option.bind_some, hz]; rfl
theorem TG : ∀ (N : Nat) (v : GExpr), xsz v < N → xsz v <= 2 ^ 20 → ∀ f : Nat, 2 * xsz v + 3 <= f → xG f v = some v := by
 intro N
 induction N with
 | zero => intro v hv; omega
 | succ N ih =>
  intro v hv hs f hf
  obtain ⟨f, rfl, _⟩ := zl (show 0 < f by omega)
  obtain ⟨f, rfl, _⟩ := zl (show 0 < f by omega)
  have he := w5 v
  have hl := zX v.Kids
  rw [xG]
  unfold Zi yE xt
  rw [if_pos (by omega), Option.bind_some, if_pos (by omega), Option.bind_some, xg, VP (by omega) (by omega) fun x hx => ?_, Option.bind_some, GExpr.eta]
  have := yy hx
  exact ih x (by omega) (by omega) f (by omega)
def qi (a0 : (List GExpr)) : Option (List GExpr) := if zB a0 <= 2 ^ 20 then some a0 else none
theorem Qj (a0 : (List GExpr)) (r : (List GExpr)) (h : qi a0 = some r) : ∃ n, xg n a0 = some r := by
 unfold qi at h
 obtain ⟨ha, h⟩ := yl h
 have hl := zX a0
 refine ⟨2 * zB a0 + 5, ?_⟩
 rw [xg, VP (by omega) (by omega) fun x hx => ?_, h]
 have := yy hx
 exact TG _ x (Nat.lt_succ_self _) (by omega) _ (by omega)
def qG (a0 : GExpr) : Option GExpr := if xsz a0 <= 2 ^ 20 then some a0 else none
theorem QP (a0 : GExpr) (r : GExpr) (h : qG a0 = some r) : ∃ n, xG n a0 = some r := by
 unfold qG at h
 obtain ⟨ha, h⟩ := yl h
 exact ⟨2 * xsz a0 + 3, by rw [<- h]; exact TG _ a0 (Nat.lt_succ_self _) ha _ (Nat.le_refl _)⟩
theorem Ka : jC qi := by
 intro a0 r h
 obtain ⟨n, hn⟩ := Qj a0 r h
 exact (ZQ n).1 a0 r hn
theorem Vh : qF qG := by
 intro a0 r h
 obtain ⟨n, hn⟩ := QP a0 r h
 exact (ZQ n).2 a0 r hn
def kf (a0 : GItem) : Option GItem :=
 (yE a0.Name).bind fun r1 =>
 (qG a0.By).bind fun r2 =>
 (xt a0.Names).bind fun r3 =>
 (qi a0.Exprs).bind fun r4 =>
 some (GItem.mk a0.Kind r1 a0.Many r2 r3 r4)
theorem Vi (a0 : GItem) : Oc (kf a0) 7 [] [.val true (zJ a0)] fun r => (.val true (UD r), []) := tc (
 .cl (va a0.Name) fun r1 =>
 .cl (Vh a0.By) fun r2 =>
 .cl (ZP a0.Names) fun r3 =>
 .cl (Ka a0.Exprs) fun r4 =>
 .ret (GItem.mk a0.Kind r1 a0.Many r2 r3 r4)) (zs Try.func7)
def XE (F : (List UInt8) → Option Bool) : Prop := ∀ (a0 : (List UInt8)), Oc (F a0) 59 [] [vq za a0] fun r => (vb r, [])
def xN (a0 : (List UInt8)) : Nat → Int → Option (Bool ⊕ Int)
  | 0, _ => none
  | m + 1, v1 =>
  if v1 < (a0.length : Int) then
   (zT v1).bind fun i2 =>
   (a0[i2]?).bind fun x3 =>
   if ((x3.toNat : Nat) : Int) < 97 then
    some (.inl false)
   else
   if 122 < ((x3.toNat : Nat) : Int) then
    some (.inl false)
   else
   xN a0 m (w64 (v1 + 1))
  else
  some (.inr v1)
theorem Qk (a0 : (List UInt8)) (m : Nat) : ∀ (v1 : Int), Ol (xN a0 m v1) 59 (zY Try.f59 0) ⟨[(0, vq za a0), (3, vi v1)], [], 0⟩ fun o => match o with | .inl o_0 => (.ret, ⟨[(2, vb o_0)], [], 0⟩) | .inr (o_1) => (.exit 0, ⟨[(0, vq za a0), (3, vi o_1), (15, vb false)], [], 0⟩) := by
  induction m with
  | zero => intro v1 o h; cases h
  | succ m ih => exact fun v1 => tlp (
   .le za a0 <|
   .lI v1 (a0.length : Int) (fun c1 =>
    .na v1 fun i2 =>
    .ix0 za a0 i2 fun x3 =>
    .lI ((x3.toNat : Nat) : Int) 97 (fun c4 =>
     .ret (.inl false)) fun c4 =>
    .ag 1 <|
    .ag 0 <|
    .lI 122 ((x3.toNat : Nat) : Int) (fun c5 =>
     .ret (.inl false)) fun c5 =>
    .go (ih (w64 (v1 + 1)))) fun c1 =>
   .ret (.inr v1))
def Zj (n : Nat) (a0 : (List UInt8)) : Option Bool :=
 if (a0.length : Int) < 1 then
  some false
 else
 if 8 < (a0.length : Int) then
  some false
 else
 (xN a0 n 0).bind fun o3 =>
 match o3 with
 | .inl o3_0 =>
  some o3_0
 | .inr (o3_1) =>
  some true
theorem Rl (n : Nat) : XE (Zj n) := fun a0 => tc (
 .le za a0 <|
 .lI (a0.length : Int) 1 (fun c1 =>
  .ret false) fun c1 =>
 .le za a0 <|
 .lI 8 (a0.length : Int) (fun c2 =>
  .ret false) fun c2 =>
 .l2 (Qk a0 n 0) (fun o3_0 =>
  .ret o3_0) fun o3_1 =>
 .ret true) (zs Try.func59)
theorem QQ {a : List UInt8} (ha : a.length <= 2 ^ 20) : ∀ (d i m : Nat), i + d = a.length → d < m → ∃ z, xN a m (i : Int) = some (if (a.drop i).all (inB 97 122) = true then .inr z else .inl false) := by
 intro d
 induction d with
 | zero =>
  intro i m hi hm
  obtain ⟨m, rfl, _⟩ := zl hm
  exact ⟨_, by rw [xN, if_neg (by omega), List.drop_eq_nil_of_le (by omega)]; rfl⟩
 | succ d ih =>
  intro i m hi hm
  obtain ⟨m, rfl, hm'⟩ := zl hm
  have hil : i < a.length := by omega
  rw [xN, if_pos (by omega), zu, Option.bind_some, zo hil, Option.bind_some, yb (by omega), yR hil, List.all_cons]
  by_cases h1 : ((a[i].toNat : Nat) : Int) < 97
  ·exact ⟨0, by rw [if_pos h1, if_neg]; simp [inB]; omega⟩
  ·rw [if_neg h1]
   by_cases h2 : (122 : Int) < ((a[i].toNat : Nat) : Int)
   ·exact ⟨0, by rw [if_pos h2, if_neg]; simp [inB]; omega⟩
   ·rw [if_neg h2, show inB 97 122 a[i] = true by simp [inB]; omega, Bool.true_and]
    exact ih (i + 1) m (by omega) (by omega)
def ya (a0 : (List UInt8)) : Option Bool := if a0.length <= 2 ^ 20 then some (y5 a0) else none
theorem QR (a0 : (List UInt8)) (r : Bool) (h : ya a0 = some r) : ∃ n, Zj n a0 = some r := by
 unfold ya at h
 obtain ⟨ha, h⟩ := yl h
 refine ⟨a0.length + 1, ?_⟩
 obtain ⟨z, hz⟩ := QQ ha a0.length 0 (a0.length + 1) (by omega) (by omega)
 rw [show ((0 : Nat) : Int) = 0 from rfl, List.drop_zero] at hz
 unfold Zj
 rw [<- h, hz]
 unfold y5
 by_cases h1 : 1 <= a0.length
 ·rw [if_neg (by omega)]
  by_cases hl : a0.length <= 8
  ·rw [if_neg (by omega), decide_eq_true ⟨h1, hl⟩]
   cases a0.all (inB 97 122) <;> rfl
  ·rw [if_pos (by omega), decide_eq_false (fun h => hl h.2)]; rfl
 ·rw [if_pos (by omega), decide_eq_false (fun h => h1 h.1)]; rfl
theorem yF : XE ya := fun a0 r h => (QR a0 r h).elim fun n hn => Rl n a0 r hn
def XF (F : (List UInt8) → Option Bool) : Prop := ∀ (a0 : (List UInt8)), Oc (F a0) 84 [] [vq za a0] fun r => (vb r, [])
def xO (a0 : (List UInt8)) (v2 : (List (List UInt8))) : Nat → Int → Option (Bool ⊕ Int)
  | 0, _ => none
  | m + 1, v1 =>
  if v1 < (v2.length : Int) then
   (zT v1).bind fun i2 =>
   (v2[i2]?).bind fun x3 =>
   if x3 = a0 then
    some (.inl true)
   else
   xO a0 v2 m (w64 (v1 + 1))
  else
  some (.inr v1)
theorem Ql (a0 : (List UInt8)) (v2 : (List (List UInt8))) (m : Nat) : ∀ (v1 : Int), Ol (xO a0 v2 m v1) 84 (zY Try.f84 0) ⟨[(0, vq za a0), (3, vr 0), (4, vi v1)], [.obj 1 (eL qX v2)], 0⟩ fun o => match o with | .inl o_0 => (.ret, ⟨[(2, vb o_0)], [], 0⟩) | .inr (o_1) => (.exit 0, ⟨[(0, vq za a0), (3, vr 0), (4, vi o_1), (9, vb false)], [.obj 1 (eL qX v2)], 0⟩) := by
  induction m with
  | zero => intro v1 o h; cases h
  | succ m ih => exact fun v1 => tlp (
   .le qX v2 <|
   .lI v1 (v2.length : Int) (fun c1 =>
    .na v1 fun i2 =>
    .ix0 qX v2 i2 fun x3 =>
    .ag 0 <|
    .bt a0 <|
    .sI x3 a0 (fun c4 =>
     .ret (.inl true)) fun c4 =>
    .go (ih (w64 (v1 + 1)))) fun c1 =>
   .ret (.inr v1))
def Zk (n : Nat) (a0 : (List UInt8)) : Option Bool :=
 (xO a0 [[110, 117, 108, 108], [116, 114, 117, 101], [102, 97, 108, 115, 101], [105, 110, 100, 101, 120], [107, 101, 121], [118, 97, 108], [108, 111, 99, 97, 108], [114, 101, 115], [111, 117, 116], [99, 111, 117, 110, 116], [101, 97, 99, 104]] n 0).bind fun o1 =>
 match o1 with
 | .inl o1_0 =>
  some o1_0
 | .inr (o1_1) =>
  some false
theorem Rm (n : Nat) : XF (Zk n) := fun a0 => tc (
 .l2 (Ql a0 [[110, 117, 108, 108], [116, 114, 117, 101], [102, 97, 108, 115, 101], [105, 110, 100, 101, 120], [107, 101, 121], [118, 97, 108], [108, 111, 99, 97, 108], [114, 101, 115], [111, 117, 116], [99, 111, 117, 110, 116], [101, 97, 99, 104]] n 0) (fun o1_0 =>
  .ret o1_0) fun o1_1 =>
 .ret false) (zs Try.func84)
theorem Uo {a : List UInt8} {l : List (List UInt8)} (hl : l.length <= 2 ^ 20) : ∀ (d i m : Nat), i + d = l.length → d < m → ∃ z, xO a l m (i : Int) = some (if ((l.drop i).any fun w => decide (w = a)) = true then .inl true else .inr z) := by
 intro d
 induction d with
 | zero =>
  intro i m hi hm
  obtain ⟨m, rfl, _⟩ := zl hm
  exact ⟨_, by rw [xO, if_neg (by omega), List.drop_eq_nil_of_le (by omega)]; rfl⟩
 | succ d ih =>
  intro i m hi hm
  obtain ⟨m, rfl, hm'⟩ := zl hm
  have hil : i < l.length := by omega
  rw [xO, if_pos (by omega), zu, Option.bind_some, zo hil, Option.bind_some, yb (by omega), yR hil, List.any_cons]
  by_cases h : l[i] = a
  ·exact ⟨0, by rw [if_pos h, decide_eq_true h, Bool.true_or]; rfl⟩
  ·rw [if_neg h, decide_eq_false h, Bool.false_or]
   exact ih (i + 1) m (by omega) (by omega)
def wA (a0 : (List UInt8)) : Option Bool := some (ko a0)
theorem QS (a0 : (List UInt8)) (r : Bool) (h : wA a0 = some r) : ∃ n, Zk n a0 = some r := by
 obtain rfl := Option.some.inj h
 obtain ⟨z, hz⟩ := Uo (a := a0) (l := Kq) (by decide) 11 0 12 (by decide) (by omega)
 rw [show ((0 : Nat) : Int) = 0 from rfl, List.drop_zero] at hz
 refine ⟨12, ?_⟩
 unfold Zk
 rw [show [[110, 117, 108, 108], [116, 114, 117, 101], [102, 97, 108, 115, 101], [105, 110, 100, 101, 120], [107, 101, 121], [118, 97, 108], [108, 111, 99, 97, 108], [114, 101, 115], [111, 117, 116], [99, 111, 117, 110, 116], [101, 97, 99, 104]] = Kq from rfl, hz]
 unfold ko
 cases Kq.any fun w => decide (w = a0) <;> rfl
theorem vx : XF wA := fun a0 r h => (QS a0 r h).elim fun n hn => Rm n a0 r hn
def wB (a0 : (List UInt8)) : Option Bool :=
 (ya a0).bind fun r1 =>
 match r1 with
 | true =>
  (wA a0).bind fun r2 =>
  some (!r2)
 | false =>
  some false
theorem vy (a0 : (List UInt8)) : Oc (wB a0) 56 [] [vq za a0] fun r => (vb r, []) := tc (
 .cl (yF a0) fun r1 =>
 .vM 0 r1 (
  .az 0 0 <|
  .cl (vx a0) fun r2 =>
  .az 0 1 <|
  .az 0 1 <|
  .ret (!r2)) <|
 .az 0 0 <|
 .az 0 0 <|
 .az 0 0 <|
 .ret false) (zs Try.func56)
def kg (a0 : GExpr) : Option Bool :=
 if a0.Kind = 0 then
  if a0.N = 0 then
   if (a0.S.length : Int) = 0 then
    if (a0.K.length : Int) = 0 then
     some (decide ((a0.Kids.length : Int) = 0))
    else
    some false
   else
   some false
  else
  some false
 else
 some false
theorem YL (a0 : GExpr) : Oc (kg a0) 57 [] [.val true (yv a0)] fun r => (vb r, []) := tc (
 .eI a0.Kind 0 (fun c1 =>
  .eI a0.N 0 (fun c2 =>
   .le za a0.S <|
   .eI (a0.S.length : Int) 0 (fun c3 =>
    .le (zk za) a0.K <|
    .eI (a0.K.length : Int) 0 (fun c4 =>
     .le zb a0.Kids <|
     .eD (a0.Kids.length : Int) 0 <|
     .ret (decide ((a0.Kids.length : Int) = 0))) fun c4 =>
    .ret false) fun c3 =>
   .ret false) fun c2 =>
  .ret false) fun c1 =>
 .ret false) (zs Try.func57)
def qj (a0 : Int) : Option Int :=
 if a0 = 4 then
  some (-1)
 else
 if a0 = 5 then
  some (-1)
 else
 if a0 = 23 then
  some (-1)
 else
 if a0 = 8 then
  some 1
 else
 if a0 = 13 then
  some 1
 else
 if a0 = 14 then
  some 1
 else
 if a0 = 9 then
  some 2
 else
 if a0 = 15 then
  some 2
 else
 if a0 = 16 then
  some 2
 else
 if a0 = 17 then
  some 2
 else
 if a0 = 18 then
  some 2
 else
 if a0 = 19 then
  some 2
 else
 if a0 = 20 then
  some 2
 else
 if a0 = 21 then
  some 2
 else
 if a0 = 22 then
  some 3
 else
 some 0
theorem Kb (a0 : Int) : Oc (qj a0) 85 [] [vi a0] fun r => (vi r, []) := tc (
 .eI a0 4 (fun c1 =>
  .ret (-1)) fun c1 =>
 .eI a0 5 (fun c2 =>
  .ret (-1)) fun c2 =>
 .eI a0 23 (fun c3 =>
  .ret (-1)) fun c3 =>
 .eI a0 8 (fun c4 =>
  .ret 1) fun c4 =>
 .eI a0 13 (fun c5 =>
  .ret 1) fun c5 =>
 .eI a0 14 (fun c6 =>
  .ret 1) fun c6 =>
 .eI a0 9 (fun c7 =>
  .ret 2) fun c7 =>
 .eI a0 15 (fun c8 =>
  .ret 2) fun c8 =>
 .eI a0 16 (fun c9 =>
  .ret 2) fun c9 =>
 .eI a0 17 (fun c10 =>
  .ret 2) fun c10 =>
 .eI a0 18 (fun c11 =>
  .ret 2) fun c11 =>
 .eI a0 19 (fun c12 =>
  .ret 2) fun c12 =>
 .eI a0 20 (fun c13 =>
  .ret 2) fun c13 =>
 .eI a0 21 (fun c14 =>
  .ret 2) fun c14 =>
 .eI a0 22 (fun c15 =>
  .ret 3) fun c15 =>
 .ret 0) (zs Try.func85)
def XG (F : (List UInt8) → Option Bool) : Prop := ∀ (a0 : (List UInt8)), Oc (F a0) 86 [] [vq za a0] fun r => (vb r, [])
def xP (a0 : (List UInt8)) : Nat → Int → Option (Bool ⊕ Int)
  | 0, _ => none
  | m + 1, v1 =>
  if v1 < (a0.length : Int) then
   (zT v1).bind fun i2 =>
   (a0[i2]?).bind fun x3 =>
   if ((x3.toNat : Nat) : Int) < 32 then
    some (.inl false)
   else
   if 126 < ((x3.toNat : Nat) : Int) then
    some (.inl false)
   else
   xP a0 m (w64 (v1 + 1))
  else
  some (.inr v1)
theorem Qm (a0 : (List UInt8)) (m : Nat) : ∀ (v1 : Int), Ol (xP a0 m v1) 86 (zY Try.f86 0) ⟨[(0, vq za a0), (3, vi v1)], [], 0⟩ fun o => match o with | .inl o_0 => (.ret, ⟨[(2, vb o_0)], [], 0⟩) | .inr (o_1) => (.exit 0, ⟨[(0, vq za a0), (3, vi o_1), (10, vb false)], [], 0⟩) := by
  induction m with
  | zero => intro v1 o h; cases h
  | succ m ih => exact fun v1 => tlp (
   .le za a0 <|
   .lI v1 (a0.length : Int) (fun c1 =>
    .na v1 fun i2 =>
    .ix0 za a0 i2 fun x3 =>
    .lI ((x3.toNat : Nat) : Int) 32 (fun c4 =>
     .ret (.inl false)) fun c4 =>
    .ag 1 <|
    .ag 0 <|
    .lI 126 ((x3.toNat : Nat) : Int) (fun c5 =>
     .ret (.inl false)) fun c5 =>
    .go (ih (w64 (v1 + 1)))) fun c1 =>
   .ret (.inr v1))
def Zl (n : Nat) (a0 : (List UInt8)) : Option Bool :=
 if 20 < (a0.length : Int) then
  some false
 else
 (xP a0 n 0).bind fun o2 =>
 match o2 with
 | .inl o2_0 =>
  some o2_0
 | .inr (o2_1) =>
  some true
theorem Rn (n : Nat) : XG (Zl n) := fun a0 => tc (
 .le za a0 <|
 .lI 20 (a0.length : Int) (fun c1 =>
  .ret false) fun c1 =>
 .l2 (Qm a0 n 0) (fun o2_0 =>
  .ret o2_0) fun o2_1 =>
 .ret true) (zs Try.func86)
theorem QT {a : List UInt8} (ha : a.length <= 2 ^ 20) : ∀ (d i m : Nat), i + d = a.length → d < m → ∃ z, xP a m (i : Int) = some (if (a.drop i).all (inB 32 126) = true then .inr z else .inl false) := by
 intro d
 induction d with
 | zero =>
  intro i m hi hm
  obtain ⟨m, rfl, _⟩ := zl hm
  exact ⟨_, by rw [xP, if_neg (by omega), List.drop_eq_nil_of_le (by omega)]; rfl⟩
 | succ d ih =>
  intro i m hi hm
  obtain ⟨m, rfl, hm'⟩ := zl hm
  have hil : i < a.length := by omega
  rw [xP, if_pos (by omega), zu, Option.bind_some, zo hil, Option.bind_some, yb (by omega), yR hil, List.all_cons]
  by_cases h1 : ((a[i].toNat : Nat) : Int) < 32
  ·exact ⟨0, by rw [if_pos h1, if_neg]; simp [inB]; omega⟩
  ·rw [if_neg h1]
   by_cases h2 : (126 : Int) < ((a[i].toNat : Nat) : Int)
   ·exact ⟨0, by rw [if_pos h2, if_neg]; simp [inB]; omega⟩
   ·rw [if_neg h2, show inB 32 126 a[i] = true by simp [inB]; omega, Bool.true_and]
    exact ih (i + 1) m (by omega) (by omega)
def wC (a0 : (List UInt8)) : Option Bool := if a0.length <= 2 ^ 20 then some (X7 a0) else none
theorem QU (a0 : (List UInt8)) (r : Bool) (h : wC a0 = some r) : ∃ n, Zl n a0 = some r := by
 unfold wC at h
 obtain ⟨ha, h⟩ := yl h
 refine ⟨a0.length + 1, ?_⟩
 obtain ⟨z, hz⟩ := QT ha a0.length 0 (a0.length + 1) (by omega) (by omega)
 rw [show ((0 : Nat) : Int) = 0 from rfl, List.drop_zero] at hz
 unfold Zl
 rw [<- h, hz]
 unfold X7
 by_cases hl : a0.length <= 20
 ·rw [if_neg (by omega), decide_eq_true hl]
  cases a0.all (inB 32 126) <;> rfl
 ·rw [if_pos (by omega), decide_eq_false hl]; rfl
theorem YM : XG wC := fun a0 r h => (QU a0 r h).elim fun n hn => Rn n a0 r hn
def qH (F : GExpr → Int → Int → Option Int) : Prop := ∀ (a0 : GExpr) (a1 : Int) (a2 : Int), Oc (F a0 a1 a2) 58 [] [.val true (yv a0), vi a1, vi a2] fun r => (vi r, [])
def ze (G_spec_l6expr : GExpr → Int → Int → Option Int) (a1 : Int) (a0 : GExpr) : Nat → Int → Int → Option (Int ⊕ (Int × Int))
  | 0, _, _ => none
  | m + 1, v1, v2 =>
  if v2 < (a0.Kids.length : Int) then
   if a0.Kind = 5 then
    (zT v2).bind fun i3 =>
    (a0.K[i3]?).bind fun x4 =>
    (ya x4).bind fun r5 =>
    match r5 with
    | true =>
     if 0 < v2 then
      (zT (w64 (v2 - 1))).bind fun i7 =>
      (a0.K[i7]?).bind fun x8 =>
      if Op.bytesLess x8 x4 = true then
       (a0.Kids[i3]?).bind fun x10 =>
       (G_spec_l6expr x10 (w64 (a1 + 1)) v1).bind fun r11 =>
       if r11 < 0 then
        some (.inl (-1))
       else
       ze G_spec_l6expr a1 a0 m r11 (w64 (v2 + 1))
      else
      some (.inl (-1))
     else
     (a0.Kids[i3]?).bind fun x7 =>
     (G_spec_l6expr x7 (w64 (a1 + 1)) v1).bind fun r8 =>
     if r8 < 0 then
      some (.inl (-1))
     else
     ze G_spec_l6expr a1 a0 m r8 (w64 (v2 + 1))
    | false =>
     some (.inl (-1))
   else
   (zT v2).bind fun i3 =>
   (a0.Kids[i3]?).bind fun x4 =>
   (G_spec_l6expr x4 (w64 (a1 + 1)) v1).bind fun r5 =>
   if r5 < 0 then
    some (.inl (-1))
   else
   ze G_spec_l6expr a1 a0 m r5 (w64 (v2 + 1))
  else
  some (.inr (v1, v2))
theorem zt (G_spec_l6expr : GExpr → Int → Int → Option Int) (H_spec_l6expr : qH G_spec_l6expr) (a1 : Int) (a0 : GExpr) (m : Nat) : ∀ (v1 : Int) (v2 : Int), Ol (ze G_spec_l6expr a1 a0 m v1 v2) 58 (zY Try.f58 0) ⟨[(1, vi a1), (2, vi v1), (3, vp 0 0), (8, vi v2)], [.var (yv a0)], 0⟩ fun o => match o with | .inl o_0 => (.ret, ⟨[(6, vi o_0)], [], 0⟩) | .inr (⟨o_1_0, o_1_1⟩) => (.exit 2, ⟨[(1, vi a1), (2, vi o_1_0), (3, vp 0 0), (8, vi o_1_1), (129, vb false)], [.var (yv a0)], 0⟩) := by
  induction m with
  | zero => intro v1 v2 o h; cases h
  | succ m ih => exact fun v1 v2 => tlp (
   .le zb a0.Kids <|
   .lI v2 (a0.Kids.length : Int) (fun c1 =>
    .eI a0.Kind 5 (fun c2 =>
     .na v2 fun i3 =>
     .ix0 (zk za) a0.K i3 fun x4 =>
     .cl (yF x4) fun r5 =>
     .vN 2 r5 (
      .an 0 0 <|
      .lI 0 v2 (fun c6 =>
       .an 0 0 <|
       .na (w64 (v2 - 1)) fun i7 =>
       .ix0 (zk za) a0.K i7 fun x8 =>
       .bt x8 <|
       .ag 5 <|
       .ag 4 <|
       .bt x4 <|
       .bI x8 x4 (fun c9 =>
        .an 0 2 <|
        .an 2 2 <|
        .ag 5 <|
        .ix zV a0.Kids i3 fun x10 =>
        .cl (H_spec_l6expr x10 (w64 (a1 + 1)) v1) fun r11 =>
        .lI r11 0 (fun c12 =>
         .ret (.inl (-1))) fun c12 =>
        .go (ih r11 (w64 (v2 + 1)))) fun c9 =>
       .an 0 2 <|
       .an 2 2 <|
       .ret (.inl (-1))) fun c6 =>
      .an 0 0 <|
      .an 14 0 <|
      .an 2 0 <|
      .ag 3 <|
      .ix zV a0.Kids i3 fun x7 =>
      .cl (H_spec_l6expr x7 (w64 (a1 + 1)) v1) fun r8 =>
      .lI r8 0 (fun c9 =>
       .ret (.inl (-1))) fun c9 =>
      .go (ih r8 (w64 (v2 + 1)))) <|
     .an 0 0 <|
     .an 0 0 <|
     .an 0 0 <|
     .an 1 0 <|
     .ret (.inl (-1))) fun c2 =>
    .na v2 fun i3 =>
    .ix zV a0.Kids i3 fun x4 =>
    .cl (H_spec_l6expr x4 (w64 (a1 + 1)) v1) fun r5 =>
    .lI r5 0 (fun c6 =>
     .ret (.inl (-1))) fun c6 =>
    .go (ih r5 (w64 (v2 + 1)))) fun c1 =>
   .ret (.inr (v1, v2)))
def we (G_spec_l6expr : GExpr → Int → Int → Option Int) (n : Nat) (a0 : GExpr) (a1 : Int) (a2 : Int) : Option Int :=
 if (w64 (a2 - 1)) < 0 then
  some (-1)
 else
 if 10 < a1 then
  some (-1)
 else
 if a0.Kind < 0 then
  some (-1)
 else
 if 23 < a0.Kind then
  some (-1)
 else
 (qj a0.Kind).bind fun r5 =>
 if 0 <= r5 then
  if (a0.Kids.length : Int) = r5 then
   if a0.Kind = 5 then
    if (a0.K.length : Int) = (a0.Kids.length : Int) then
     if a0.N = 0 then
      if 0 < (a0.S.length : Int) then
       some (-1)
      else
      (ze G_spec_l6expr a1 a0 n (w64 (a2 - 1)) 0).bind fun o12 =>
      match o12 with
      | .inl o12_0 =>
       some o12_0
      | .inr (⟨o12_1_0, o12_1_1⟩) =>
       some o12_1_0
     else
     some (-1)
    else
    some (-1)
   else
   if 0 < (a0.K.length : Int) then
    some (-1)
   else
   if a0.Kind = 1 then
    if a0.N < 0 then
     some (-1)
    else
    if 1 < a0.N then
     some (-1)
    else
    if 0 < (a0.S.length : Int) then
     some (-1)
    else
    (ze G_spec_l6expr a1 a0 n (w64 (a2 - 1)) 0).bind fun o14 =>
    match o14 with
    | .inl o14_0 =>
     some o14_0
    | .inr (⟨o14_1_0, o14_1_1⟩) =>
     some o14_1_0
   else
   if a0.Kind = 2 then
    if a0.N < 0 then
     some (-1)
    else
    if 1000000000000 < a0.N then
     some (-1)
    else
    if 0 < (a0.S.length : Int) then
     some (-1)
    else
    (ze G_spec_l6expr a1 a0 n (w64 (a2 - 1)) 0).bind fun o15 =>
    match o15 with
    | .inl o15_0 =>
     some o15_0
    | .inr (⟨o15_1_0, o15_1_1⟩) =>
     some o15_1_0
   else
   if a0.N = 0 then
    if a0.Kind = 3 then
     (wC a0.S).bind fun r14 =>
     match r14 with
     | true =>
      (ze G_spec_l6expr a1 a0 n (w64 (a2 - 1)) 0).bind fun o15 =>
      match o15 with
      | .inl o15_0 =>
       some o15_0
      | .inr (⟨o15_1_0, o15_1_1⟩) =>
       some o15_1_0
     | false =>
      some (-1)
    else
    if a0.Kind = 6 then
     (ya a0.S).bind fun r15 =>
     match r15 with
     | true =>
      (ze G_spec_l6expr a1 a0 n (w64 (a2 - 1)) 0).bind fun o16 =>
      match o16 with
      | .inl o16_0 =>
       some o16_0
      | .inr (⟨o16_1_0, o16_1_1⟩) =>
       some o16_1_0
     | false =>
      some (-1)
    else
    if a0.Kind = 8 then
     (ya a0.S).bind fun r16 =>
     match r16 with
     | true =>
      (ze G_spec_l6expr a1 a0 n (w64 (a2 - 1)) 0).bind fun o17 =>
      match o17 with
      | .inl o17_0 =>
       some o17_0
      | .inr (⟨o17_1_0, o17_1_1⟩) =>
       some o17_1_0
     | false =>
      some (-1)
    else
    if a0.Kind = 23 then
     (ya a0.S).bind fun r17 =>
     match r17 with
     | true =>
      (wA a0.S).bind fun r18 =>
      match r18 with
      | true =>
       some (-1)
      | false =>
       (ze G_spec_l6expr a1 a0 n (w64 (a2 - 1)) 0).bind fun o19 =>
       match o19 with
       | .inl o19_0 =>
        some o19_0
       | .inr (⟨o19_1_0, o19_1_1⟩) =>
        some o19_1_0
     | false =>
      some (-1)
    else
    if a0.Kind = 7 then
     (wB a0.S).bind fun r18 =>
     match r18 with
     | true =>
      (ze G_spec_l6expr a1 a0 n (w64 (a2 - 1)) 0).bind fun o19 =>
      match o19 with
      | .inl o19_0 =>
       some o19_0
      | .inr (⟨o19_1_0, o19_1_1⟩) =>
       some o19_1_0
     | false =>
      some (-1)
    else
    if 0 < (a0.S.length : Int) then
     some (-1)
    else
    (ze G_spec_l6expr a1 a0 n (w64 (a2 - 1)) 0).bind fun o19 =>
    match o19 with
    | .inl o19_0 =>
     some o19_0
    | .inr (⟨o19_1_0, o19_1_1⟩) =>
     some o19_1_0
   else
   some (-1)
  else
  some (-1)
 else
 if a0.Kind = 5 then
  if (a0.K.length : Int) = (a0.Kids.length : Int) then
   if a0.N = 0 then
    if 0 < (a0.S.length : Int) then
     some (-1)
    else
    (ze G_spec_l6expr a1 a0 n (w64 (a2 - 1)) 0).bind fun o11 =>
    match o11 with
    | .inl o11_0 =>
     some o11_0
    | .inr (⟨o11_1_0, o11_1_1⟩) =>
     some o11_1_0
   else
   some (-1)
  else
  some (-1)
 else
 if 0 < (a0.K.length : Int) then
  some (-1)
 else
 if a0.Kind = 1 then
  if a0.N < 0 then
   some (-1)
  else
  if 1 < a0.N then
   some (-1)
  else
  if 0 < (a0.S.length : Int) then
   some (-1)
  else
  (ze G_spec_l6expr a1 a0 n (w64 (a2 - 1)) 0).bind fun o13 =>
  match o13 with
  | .inl o13_0 =>
   some o13_0
  | .inr (⟨o13_1_0, o13_1_1⟩) =>
   some o13_1_0
 else
 if a0.Kind = 2 then
  if a0.N < 0 then
   some (-1)
  else
  if 1000000000000 < a0.N then
   some (-1)
  else
  if 0 < (a0.S.length : Int) then
   some (-1)
  else
  (ze G_spec_l6expr a1 a0 n (w64 (a2 - 1)) 0).bind fun o14 =>
  match o14 with
  | .inl o14_0 =>
   some o14_0
  | .inr (⟨o14_1_0, o14_1_1⟩) =>
   some o14_1_0
 else
 if a0.N = 0 then
  if a0.Kind = 3 then
   (wC a0.S).bind fun r13 =>
   match r13 with
   | true =>
    (ze G_spec_l6expr a1 a0 n (w64 (a2 - 1)) 0).bind fun o14 =>
    match o14 with
    | .inl o14_0 =>
     some o14_0
    | .inr (⟨o14_1_0, o14_1_1⟩) =>
     some o14_1_0
   | false =>
    some (-1)
  else
  if a0.Kind = 6 then
   (ya a0.S).bind fun r14 =>
   match r14 with
   | true =>
    (ze G_spec_l6expr a1 a0 n (w64 (a2 - 1)) 0).bind fun o15 =>
    match o15 with
    | .inl o15_0 =>
     some o15_0
    | .inr (⟨o15_1_0, o15_1_1⟩) =>
     some o15_1_0
   | false =>
    some (-1)
  else
  if a0.Kind = 8 then
   (ya a0.S).bind fun r15 =>
   match r15 with
   | true =>
    (ze G_spec_l6expr a1 a0 n (w64 (a2 - 1)) 0).bind fun o16 =>
    match o16 with
    | .inl o16_0 =>
     some o16_0
    | .inr (⟨o16_1_0, o16_1_1⟩) =>
     some o16_1_0
   | false =>
    some (-1)
  else
  if a0.Kind = 23 then
   (ya a0.S).bind fun r16 =>
   match r16 with
   | true =>
    (wA a0.S).bind fun r17 =>
    match r17 with
    | true =>
     some (-1)
    | false =>
     (ze G_spec_l6expr a1 a0 n (w64 (a2 - 1)) 0).bind fun o18 =>
     match o18 with
     | .inl o18_0 =>
      some o18_0
     | .inr (⟨o18_1_0, o18_1_1⟩) =>
      some o18_1_0
   | false =>
    some (-1)
  else
  if a0.Kind = 7 then
   (wB a0.S).bind fun r17 =>
   match r17 with
   | true =>
    (ze G_spec_l6expr a1 a0 n (w64 (a2 - 1)) 0).bind fun o18 =>
    match o18 with
    | .inl o18_0 =>
     some o18_0
    | .inr (⟨o18_1_0, o18_1_1⟩) =>
     some o18_1_0
   | false =>
    some (-1)
  else
  if 0 < (a0.S.length : Int) then
   some (-1)
  else
  (ze G_spec_l6expr a1 a0 n (w64 (a2 - 1)) 0).bind fun o18 =>
  match o18 with
  | .inl o18_0 =>
   some o18_0
  | .inr (⟨o18_1_0, o18_1_1⟩) =>
   some o18_1_0
 else
 some (-1)
theorem Ro (G_spec_l6expr : GExpr → Int → Int → Option Int) (H_spec_l6expr : qH G_spec_l6expr) (n : Nat) : qH (we G_spec_l6expr n) := fun a0 a1 a2 => tc (
 .lI (w64 (a2 - 1)) 0 (fun c1 =>
  .ret (-1)) fun c1 =>
 .lI 10 a1 (fun c2 =>
  .ret (-1)) fun c2 =>
 .lI a0.Kind 0 (fun c3 =>
  .ret (-1)) fun c3 =>
 .lI 23 a0.Kind (fun c4 =>
  .ret (-1)) fun c4 =>
 .cl (Kb a0.Kind) fun r5 =>
 .gI 0 r5 (fun c6 =>
  .le zb a0.Kids <|
  .eI (a0.Kids.length : Int) r5 (fun c7 =>
   .eI a0.Kind 5 (fun c8 =>
    .le (zk za) a0.K <|
    .le zb a0.Kids <|
    .eI (a0.K.length : Int) (a0.Kids.length : Int) (fun c9 =>
     .q (.eT c8) <|
     .q (.eFo a0.Kind 1 (by omega)) <|
     .q (.eFo a0.Kind 2 (by omega)) <|
     .eI a0.N 0 (fun c10 =>
      .q (.eFo a0.Kind 3 (by omega)) <|
      .q (.eFo a0.Kind 6 (by omega)) <|
      .q (.eFo a0.Kind 8 (by omega)) <|
      .q (.eFo a0.Kind 23 (by omega)) <|
      .q (.eFo a0.Kind 7 (by omega)) <|
      .le za a0.S <|
      .lI 0 (a0.S.length : Int) (fun c11 =>
       .ret (-1)) fun c11 =>
      .l2 (zt G_spec_l6expr H_spec_l6expr a1 a0 n (w64 (a2 - 1)) 0) (fun o12_0 =>
       .ret o12_0) fun ⟨o12_1_0, o12_1_1⟩ =>
      .ret o12_1_0) fun c10 =>
     .ret (-1)) fun c9 =>
    .ret (-1)) fun c8 =>
   .q (.eF c8) <|
   .le (zk za) a0.K <|
   .lI 0 (a0.K.length : Int) (fun c9 =>
    .ret (-1)) fun c9 =>
   .eI a0.Kind 1 (fun c10 =>
    .lI a0.N 0 (fun c11 =>
     .ret (-1)) fun c11 =>
    .lI 1 a0.N (fun c12 =>
     .ret (-1)) fun c12 =>
    .q (.eFo a0.Kind 3 (by omega)) <|
    .q (.eFo a0.Kind 6 (by omega)) <|
    .q (.eFo a0.Kind 8 (by omega)) <|
    .q (.eFo a0.Kind 23 (by omega)) <|
    .q (.eFo a0.Kind 7 (by omega)) <|
    .le za a0.S <|
    .lI 0 (a0.S.length : Int) (fun c13 =>
     .ret (-1)) fun c13 =>
    .l2 (zt G_spec_l6expr H_spec_l6expr a1 a0 n (w64 (a2 - 1)) 0) (fun o14_0 =>
     .ret o14_0) fun ⟨o14_1_0, o14_1_1⟩ =>
    .ret o14_1_0) fun c10 =>
   .eI a0.Kind 2 (fun c11 =>
    .lI a0.N 0 (fun c12 =>
     .ret (-1)) fun c12 =>
    .lI 1000000000000 a0.N (fun c13 =>
     .ret (-1)) fun c13 =>
    .q (.eFo a0.Kind 3 (by omega)) <|
    .q (.eFo a0.Kind 6 (by omega)) <|
    .q (.eFo a0.Kind 8 (by omega)) <|
    .q (.eFo a0.Kind 23 (by omega)) <|
    .q (.eFo a0.Kind 7 (by omega)) <|
    .le za a0.S <|
    .lI 0 (a0.S.length : Int) (fun c14 =>
     .ret (-1)) fun c14 =>
    .l2 (zt G_spec_l6expr H_spec_l6expr a1 a0 n (w64 (a2 - 1)) 0) (fun o15_0 =>
     .ret o15_0) fun ⟨o15_1_0, o15_1_1⟩ =>
    .ret o15_1_0) fun c11 =>
   .eI a0.N 0 (fun c12 =>
    .eI a0.Kind 3 (fun c13 =>
     .cl (YM a0.S) fun r14 =>
     .vN 0 r14 (
      .l2 (zt G_spec_l6expr H_spec_l6expr a1 a0 n (w64 (a2 - 1)) 0) (fun o15_0 =>
       .ret o15_0) fun ⟨o15_1_0, o15_1_1⟩ =>
      .ret o15_1_0) <|
     .ret (-1)) fun c13 =>
    .eI a0.Kind 6 (fun c14 =>
     .cl (yF a0.S) fun r15 =>
     .vN 0 r15 (
      .an 0 0 <|
      .an 0 0 <|
      .q (.eFo a0.Kind 23 (by omega)) <|
      .an 0 0 <|
      .an 3 0 <|
      .an 1 0 <|
      .l2 (zt G_spec_l6expr H_spec_l6expr a1 a0 n (w64 (a2 - 1)) 0) (fun o16_0 =>
       .ret o16_0) fun ⟨o16_1_0, o16_1_1⟩ =>
      .ret o16_1_0) <|
     .an 0 0 <|
     .an 0 0 <|
     .an 0 0 <|
     .an 0 0 <|
     .an 0 0 <|
     .ret (-1)) fun c14 =>
    .eI a0.Kind 8 (fun c15 =>
     .cl (yF a0.S) fun r16 =>
     .vN 0 r16 (
      .an 0 0 <|
      .an 0 0 <|
      .q (.eFo a0.Kind 23 (by omega)) <|
      .an 0 0 <|
      .an 3 0 <|
      .an 1 0 <|
      .l2 (zt G_spec_l6expr H_spec_l6expr a1 a0 n (w64 (a2 - 1)) 0) (fun o17_0 =>
       .ret o17_0) fun ⟨o17_1_0, o17_1_1⟩ =>
      .ret o17_1_0) <|
     .an 0 0 <|
     .an 0 0 <|
     .an 0 0 <|
     .an 0 0 <|
     .an 0 0 <|
     .ret (-1)) fun c15 =>
    .eI a0.Kind 23 (fun c16 =>
     .cl (yF a0.S) fun r17 =>
     .vN 0 r17 (
      .an 0 0 <|
      .an 0 0 <|
      .q (.eT c16) <|
      .an 0 0 <|
      .cl (vx a0.S) fun r18 =>
      .an 0 1 <|
      .an 1 1 <|
      .vM 0 r18 (
       .ret (-1)) <|
      .l2 (zt G_spec_l6expr H_spec_l6expr a1 a0 n (w64 (a2 - 1)) 0) (fun o19_0 =>
       .ret o19_0) fun ⟨o19_1_0, o19_1_1⟩ =>
      .ret o19_1_0) <|
     .an 0 0 <|
     .an 0 0 <|
     .an 0 0 <|
     .an 0 0 <|
     .an 0 0 <|
     .ret (-1)) fun c16 =>
    .eI a0.Kind 7 (fun c17 =>
     .cl (vy a0.S) fun r18 =>
     .vN 0 r18 (
      .l2 (zt G_spec_l6expr H_spec_l6expr a1 a0 n (w64 (a2 - 1)) 0) (fun o19_0 =>
       .ret o19_0) fun ⟨o19_1_0, o19_1_1⟩ =>
      .ret o19_1_0) <|
     .ret (-1)) fun c17 =>
    .le za a0.S <|
    .lI 0 (a0.S.length : Int) (fun c18 =>
     .ret (-1)) fun c18 =>
    .l2 (zt G_spec_l6expr H_spec_l6expr a1 a0 n (w64 (a2 - 1)) 0) (fun o19_0 =>
     .ret o19_0) fun ⟨o19_1_0, o19_1_1⟩ =>
    .ret o19_1_0) fun c12 =>
   .ret (-1)) fun c7 =>
  .ret (-1)) fun c6 =>
 .eI a0.Kind 5 (fun c7 =>
  .le (zk za) a0.K <|
  .le zb a0.Kids <|
  .eI (a0.K.length : Int) (a0.Kids.length : Int) (fun c8 =>
   .q (.eT c7) <|
   .q (.eFo a0.Kind 1 (by omega)) <|
   .q (.eFo a0.Kind 2 (by omega)) <|
   .eI a0.N 0 (fun c9 =>
    .q (.eFo a0.Kind 3 (by omega)) <|
    .q (.eFo a0.Kind 6 (by omega)) <|
    .q (.eFo a0.Kind 8 (by omega)) <|
    .q (.eFo a0.Kind 23 (by omega)) <|
    .q (.eFo a0.Kind 7 (by omega)) <|
    .le za a0.S <|
    .lI 0 (a0.S.length : Int) (fun c10 =>
     .ret (-1)) fun c10 =>
    .l2 (zt G_spec_l6expr H_spec_l6expr a1 a0 n (w64 (a2 - 1)) 0) (fun o11_0 =>
     .ret o11_0) fun ⟨o11_1_0, o11_1_1⟩ =>
    .ret o11_1_0) fun c9 =>
   .ret (-1)) fun c8 =>
  .ret (-1)) fun c7 =>
 .q (.eF c7) <|
 .le (zk za) a0.K <|
 .lI 0 (a0.K.length : Int) (fun c8 =>
  .ret (-1)) fun c8 =>
 .eI a0.Kind 1 (fun c9 =>
  .lI a0.N 0 (fun c10 =>
   .ret (-1)) fun c10 =>
  .lI 1 a0.N (fun c11 =>
   .ret (-1)) fun c11 =>
  .q (.eFo a0.Kind 3 (by omega)) <|
  .q (.eFo a0.Kind 6 (by omega)) <|
  .q (.eFo a0.Kind 8 (by omega)) <|
  .q (.eFo a0.Kind 23 (by omega)) <|
  .q (.eFo a0.Kind 7 (by omega)) <|
  .le za a0.S <|
  .lI 0 (a0.S.length : Int) (fun c12 =>
   .ret (-1)) fun c12 =>
  .l2 (zt G_spec_l6expr H_spec_l6expr a1 a0 n (w64 (a2 - 1)) 0) (fun o13_0 =>
   .ret o13_0) fun ⟨o13_1_0, o13_1_1⟩ =>
  .ret o13_1_0) fun c9 =>
 .eI a0.Kind 2 (fun c10 =>
  .lI a0.N 0 (fun c11 =>
   .ret (-1)) fun c11 =>
  .lI 1000000000000 a0.N (fun c12 =>
   .ret (-1)) fun c12 =>
  .q (.eFo a0.Kind 3 (by omega)) <|
  .q (.eFo a0.Kind 6 (by omega)) <|
  .q (.eFo a0.Kind 8 (by omega)) <|
  .q (.eFo a0.Kind 23 (by omega)) <|
  .q (.eFo a0.Kind 7 (by omega)) <|
  .le za a0.S <|
  .lI 0 (a0.S.length : Int) (fun c13 =>
   .ret (-1)) fun c13 =>
  .l2 (zt G_spec_l6expr H_spec_l6expr a1 a0 n (w64 (a2 - 1)) 0) (fun o14_0 =>
   .ret o14_0) fun ⟨o14_1_0, o14_1_1⟩ =>
  .ret o14_1_0) fun c10 =>
 .eI a0.N 0 (fun c11 =>
  .eI a0.Kind 3 (fun c12 =>
   .cl (YM a0.S) fun r13 =>
   .vN 0 r13 (
    .l2 (zt G_spec_l6expr H_spec_l6expr a1 a0 n (w64 (a2 - 1)) 0) (fun o14_0 =>
     .ret o14_0) fun ⟨o14_1_0, o14_1_1⟩ =>
    .ret o14_1_0) <|
   .ret (-1)) fun c12 =>
  .eI a0.Kind 6 (fun c13 =>
   .cl (yF a0.S) fun r14 =>
   .vN 0 r14 (
    .an 0 0 <|
    .an 0 0 <|
    .q (.eFo a0.Kind 23 (by omega)) <|
    .an 0 0 <|
    .an 3 0 <|
    .an 1 0 <|
    .l2 (zt G_spec_l6expr H_spec_l6expr a1 a0 n (w64 (a2 - 1)) 0) (fun o15_0 =>
     .ret o15_0) fun ⟨o15_1_0, o15_1_1⟩ =>
    .ret o15_1_0) <|
   .an 0 0 <|
   .an 0 0 <|
   .an 0 0 <|
   .an 0 0 <|
   .an 0 0 <|
   .ret (-1)) fun c13 =>
  .eI a0.Kind 8 (fun c14 =>
   .cl (yF a0.S) fun r15 =>
   .vN 0 r15 (
    .an 0 0 <|
    .an 0 0 <|
    .q (.eFo a0.Kind 23 (by omega)) <|
    .an 0 0 <|
    .an 3 0 <|
    .an 1 0 <|
    .l2 (zt G_spec_l6expr H_spec_l6expr a1 a0 n (w64 (a2 - 1)) 0) (fun o16_0 =>
     .ret o16_0) fun ⟨o16_1_0, o16_1_1⟩ =>
    .ret o16_1_0) <|
   .an 0 0 <|
   .an 0 0 <|
   .an 0 0 <|
   .an 0 0 <|
   .an 0 0 <|
   .ret (-1)) fun c14 =>
  .eI a0.Kind 23 (fun c15 =>
   .cl (yF a0.S) fun r16 =>
   .vN 0 r16 (
    .an 0 0 <|
    .an 0 0 <|
    .q (.eT c15) <|
    .an 0 0 <|
    .cl (vx a0.S) fun r17 =>
    .an 0 1 <|
    .an 1 1 <|
    .vM 0 r17 (
     .ret (-1)) <|
    .l2 (zt G_spec_l6expr H_spec_l6expr a1 a0 n (w64 (a2 - 1)) 0) (fun o18_0 =>
     .ret o18_0) fun ⟨o18_1_0, o18_1_1⟩ =>
    .ret o18_1_0) <|
   .an 0 0 <|
   .an 0 0 <|
   .an 0 0 <|
   .an 0 0 <|
   .an 0 0 <|
   .ret (-1)) fun c15 =>
  .eI a0.Kind 7 (fun c16 =>
   .cl (vy a0.S) fun r17 =>
   .vN 0 r17 (
    .l2 (zt G_spec_l6expr H_spec_l6expr a1 a0 n (w64 (a2 - 1)) 0) (fun o18_0 =>
     .ret o18_0) fun ⟨o18_1_0, o18_1_1⟩ =>
    .ret o18_1_0) <|
   .ret (-1)) fun c16 =>
  .le za a0.S <|
  .lI 0 (a0.S.length : Int) (fun c17 =>
   .ret (-1)) fun c17 =>
  .l2 (zt G_spec_l6expr H_spec_l6expr a1 a0 n (w64 (a2 - 1)) 0) (fun o18_0 =>
   .ret o18_0) fun ⟨o18_1_0, o18_1_1⟩ =>
  .ret o18_1_0) fun c11 =>
 .ret (-1)) (zs Try.func58)
def yZ : Nat → GExpr → Int → Int → Option Int
 | 0, _, _, _ => none
 | n + 1, a0, a1, a2 => we (yZ n) n a0 a1 a2
theorem Kc (n : Nat) : qH (yZ n) := by
 induction n with
 | zero => exact fun _ _ _ _ h => (by rw [yZ] at h; cases h)
 | succ n ih =>
  have ih_spec_l6expr := ih
  exact fun a0 a1 a2 r h => Ro (yZ n) ih_spec_l6expr n a0 a1 a2 r (by rw [yZ] at h; exact h)
noncomputable def okX (d : Nat) (left : Int) (v : GExpr) : Int := if frX d v = true ∧ (ptX v : Int) <= left then left - ptX v else -1
theorem Md (k : Int) : qj k = some (arI k) := by
 have h := Vz k
 have hd : Dec (some (arI k)) none True (qj k) := by
  unfold qj
  repeat' (refine Dec.ite (fun _ => ?_) (fun _ => ?_))
  all_goals (refine .inl ⟨?_, trivial⟩; congr 1; omega)
 rcases hd with h | h
 ·exact h.1
 ·exact (h.2 trivial).elim
theorem Yz {a : List UInt8} (h : a.length <= 2 ^ 20) : ya a = some (y5 a) := if_pos h
theorem OB {a : List UInt8} (h : a.length <= 2 ^ 20) : wC a = some (X7 a) := if_pos h
theorem OC (a : List UInt8) : wA a = some (ko a) := rfl
theorem VQ {a : List UInt8} (h : a.length <= 2 ^ 20) : wB a = some (y5 a && !ko a) := by
 unfold wB
 rw [Yz h, Option.bind_some]
 cases y5 a <;> rfl
theorem Up {G : GExpr → Int → Int → Option Int} {v : GExpr} {dd : Nat} {deep : Int} (hdd : deep + dd = 10) (h1d : 1 <= deep) (hs : xsz v <= 2 ^ 20) (hk : ¬ v.Kind = 5 ∨ (v.Kind = 5 ∧ v.K.length = v.Kids.length))
  (hG : ∀ x ∈ v.Kids, ∀ r : Int, 0 <= r → r <= 150 → G x (deep + 1) r = some (okX dd r x)) : ∀ (d i m : Nat) (r : Int), i + d = v.Kids.length → d < m → 0 <= r → r <= 150 →
  ∃ z, ze G deep v m r (i : Int) = some (if ((v.Kind = 5 → xo v.K i d = true) ∧ (v.Kids.drop i).all (frX dd) = true) ∧ (zP (v.Kids.drop i) : Int) <= r then .inr (r - zP (v.Kids.drop i), z) else .inl (-1)) := by
 have he := w5 v
 have hl := zX v.Kids
 intro d
 induction d with
 | zero =>
  intro i m r hi hm h0 h1
  obtain ⟨m, rfl, _⟩ := zl hm
  refine ⟨(i : Int), ?_⟩
  rw [ze, if_neg (by omega), List.drop_eq_nil_of_le (by omega), if_pos ⟨⟨fun _ => rfl, rfl⟩, by simpa [zP] using h0⟩]
  simp [zP]
 | succ d ih =>
  intro i m r hi hm h0 h1
  obtain ⟨m, rfl, hm'⟩ := zl hm
  have hil : i < v.Kids.length := by omega
  have hp : zP (v.Kids.drop i) = ptX v.Kids[i] + zP (v.Kids.drop (i + 1)) := by rw [yR hil]; simp only [zP]
  have ha : (v.Kids.drop i).all (frX dd) = (frX dd v.Kids[i] && (v.Kids.drop (i + 1)).all (frX dd)) := by rw [yR hil, List.all_cons]
  have hd1 : w64 (deep + 1) = deep + 1 := xZ (by omega) (by omega)
  have tail : (v.Kind = 5 → kOk v.K i = true) → ∃ z, ((G v.Kids[i] (w64 (deep + 1)) r).bind fun r12 => if r12 < 0 then some (.inl (-1)) else ze G deep v m r12 (w64 ((i : Int) + 1))) =
    some (if ((v.Kind = 5 → xo v.K i (d + 1) = true) ∧ (v.Kids.drop i).all (frX dd) = true) ∧ (zP (v.Kids.drop i) : Int) <= r then .inr (r - zP (v.Kids.drop i), z) else .inl (-1)) := by
   intro hki
   rw [hd1, hG _ (List.getElem_mem hil) r h0 h1, Option.bind_some, yb (by omega), hp, ha]
   unfold okX
   by_cases hc : frX dd v.Kids[i] = true ∧ (ptX v.Kids[i] : Int) <= r
   ·rw [if_pos hc, if_neg (by omega)]
    obtain ⟨z, hz⟩ := ih (i + 1) m (r - ptX v.Kids[i]) (by omega) (by omega) (by omega) (by omega)
    refine ⟨z, ?_⟩
    rw [hz, hc.1, Bool.true_and]
    have hcond : (((v.Kind = 5 → xo v.K (i + 1) d = true) ∧ (v.Kids.drop (i + 1)).all (frX dd) = true) ∧ (zP (v.Kids.drop (i + 1)) : Int) <= r - ptX v.Kids[i]) ↔
      (((v.Kind = 5 → xo v.K i (d + 1) = true) ∧ (v.Kids.drop (i + 1)).all (frX dd) = true) ∧ ((ptX v.Kids[i] + zP (v.Kids.drop (i + 1)) : Nat) : Int) <= r) := by
     have hka : (v.Kind = 5 → xo v.K (i + 1) d = true) ↔ (v.Kind = 5 → xo v.K i (d + 1) = true) := by
      constructor
      ·intro h hk; rw [qw, hki hk, h hk]; rfl
      ·intro h hk; have := h hk; rw [qw, hki hk, Bool.true_and] at this; exact this
     rw [hka]
     constructor
     ·rintro ⟨h1, h2⟩; exact ⟨h1, by omega⟩
     ·rintro ⟨h1, h2⟩; exact ⟨h1, by omega⟩
    by_cases hd : ((v.Kind = 5 → xo v.K (i + 1) d = true) ∧ (v.Kids.drop (i + 1)).all (frX dd) = true) ∧ (zP (v.Kids.drop (i + 1)) : Int) <= r - ptX v.Kids[i]
    ·rw [if_pos hd, if_pos (hcond.1 hd)]; congr 3; omega
    ·rw [if_neg hd, if_neg (fun h => hd (hcond.2 h))]
   ·refine ⟨0, ?_⟩
    rw [if_neg hc, if_pos (by omega), if_neg]
    rintro ⟨⟨_, h2⟩, h3⟩
    rw [Bool.and_eq_true] at h2
    exact hc ⟨h2.1, by omega⟩
  have bad : v.Kind = 5 → kOk v.K i = false → ∃ z, (some (.inl (-1)) : Option (Int ⊕ (Int × Int))) = some (if ((v.Kind = 5 → xo v.K i (d + 1) = true) ∧ (v.Kids.drop i).all (frX dd) = true) ∧ (zP (v.Kids.drop i) : Int) <= r then .inr (r - zP (v.Kids.drop i), z) else .inl (-1)) := by
   intro hk hki
   refine ⟨0, ?_⟩
   rw [if_neg]
   rintro ⟨⟨h1, _⟩, _⟩
   have := h1 hk
   rw [qw, hki] at this
   cases this
  rw [ze, if_pos (by omega)]
  rcases hk with hk | ⟨hk, hkl⟩
  ·rw [if_neg hk, zu, Option.bind_some, zo hil, Option.bind_some]
   exact tail fun h => (hk h).elim
  ·have hik : i < v.K.length := by omega
   have hx := vG (List.getElem_mem hik)
   rw [if_pos hk, zu, Option.bind_some, zo hik, Option.bind_some, Yz (by omega), Option.bind_some]
   cases hnm : y5 v.K[i] with
   | false =>
    dsimp only
    refine bad hk ?_
    by_cases h0 : i = 0
    ·subst h0; rw [jx hik, hnm]
    ·rw [qO hik (by omega), hnm]; rfl
   | true =>
    dsimp only
    by_cases h0 : 0 < i
    ·rw [if_pos (by omega), ZL (by omega) h0, zu, Option.bind_some, zo (show i - 1 < v.K.length by omega), Option.bind_some]
     by_cases hb : Op.bytesLess (v.K[i - 1]'(by omega)) v.K[i] = true
     ·rw [if_pos hb, zo hil, Option.bind_some]
      exact tail fun _ => by rw [qO hik h0, hnm, hb]; rfl
     ·rw [if_neg hb]
      refine bad hk ?_
      rw [qO hik h0, hnm]; simpa using hb
    ·have : i = 0 := by omega
     subst this
     rw [if_neg (by omega), zo hil, Option.bind_some]
     exact tail fun _ => by rw [jx hik, hnm]
theorem P2 {G : GExpr → Int → Int → Option Int} {v : GExpr} {n : Nat} {a1 a2 : Int} {X : Option Int} (hs : v.S.length <= 2 ^ 20) (h1 : ¬ w64 (a2 - 1) < 0) (h2 : ¬ 10 < a1)
  (hX : ((ze G a1 v n (w64 (a2 - 1)) 0).bind fun o11 => match o11 with | .inl o11_0 => some o11_0 | .inr (⟨o11_1_0, o11_1_1⟩) => some o11_1_0) = X) : Dec X (some (-1)) (kD v) (we G n v a1 a2) := by
 have har := Vz v.Kind
 have hw := OT (y5 v.S) (ko v.S)
 unfold we
 rw [if_neg h1, if_neg h2]
 repeat' first
  | refine Dec.ite (fun _ => ?_) (fun _ => ?_)
  | refine Dec.bnd (Md _) ?_
  | refine Dec.bndB (OB hs) (fun _ => ?_) (fun _ => ?_)
  | refine Dec.bndB (Yz hs) (fun _ => ?_) (fun _ => ?_)
  | refine Dec.bndB (VQ hs) (fun _ => ?_) (fun _ => ?_)
  | refine Dec.bndB (OC _) (fun _ => ?_) (fun _ => ?_)
 all_goals first
  | exact .inl ⟨hX, by unfold kD Zp; omega⟩
  | exact .inr ⟨rfl, by unfold kD Zp; omega⟩
theorem ZR (d : Nat) (v : GExpr) : frX (d + 1) v = (kE v && v.Kids.all (frX d)) := rfl
open Classical in
theorem P3 {v : GExpr} (h : ¬ kD v) : kE v = false := by unfold kE; rw [decide_eq_false (fun h' => h h'.1)]; rfl
open Classical in
theorem Y0 {v : GExpr} (h : kD v) (hk : v.Kids.length <= 150) (h5 : v.Kind = 5 → xo v.K 0 v.K.length = true) : kE v = true := by
 unfold kE
 rw [decide_eq_true ⟨h, hk⟩, Bool.true_and]
 by_cases k : v.Kind = 5
 ·rw [h5 k, Bool.or_true]
 ·rw [decide_eq_true k, Bool.true_or]
open Classical in
theorem QV {v : GExpr} (h : kE v = true) : kD v ∧ v.Kids.length <= 150 ∧ (v.Kind = 5 → xo v.K 0 v.K.length = true) := by
 unfold kE at h
 rw [Bool.and_eq_true] at h
 have h1 := of_decide_eq_true h.1
 refine ⟨h1.1, h1.2, fun k => ?_⟩
 have h2 := h.2
 rw [decide_eq_false (fun hh => hh k), Bool.false_or] at h2
 exact h2
theorem Me {G : GExpr → Int → Int → Option Int} {v : GExpr} {f dd : Nat} {deep left : Int} (hdd : deep + dd = 10 ∨ (deep = 11 ∧ dd = 0)) (h1d : 1 <= deep) (hs : xsz v <= 2 ^ 20) (hf : v.Kids.length < f) (h0 : 0 <= left) (h1 : left <= 150)
  (hG : deep <= 10 → ∀ x ∈ v.Kids, ∀ r : Int, 0 <= r → r <= 150 → G x (deep + 1) r = some (okX dd r x)) : we G f v deep left = some (okX (if deep <= 10 then dd + 1 else 0) left v) := by
 have he := w5 v
 have hl := zX v.Kids
 have hpt := Kp v
 have hpl := Mp v.Kids
 have hw : w64 (left - 1) = left - 1 := xZ (by omega) (by omega)
 by_cases hleft : left - 1 < 0
 ·unfold we
  rw [hw, if_pos hleft]
  unfold okX; rw [if_neg (by rintro ⟨_, h⟩; omega)]
 by_cases hdeep : 10 < deep
 ·unfold we
  rw [hw, if_neg hleft, if_pos hdeep, if_neg (show ¬ deep <= 10 by omega)]
  unfold okX; rw [if_neg (by rintro ⟨h, _⟩; simp [frX] at h)]
 rw [if_pos (show deep <= 10 by omega)]
 have hdd : deep + dd = 10 := by omega
 have hG := hG (by omega)
 rcases P2 (G := G) (n := f) (v := v) (a1 := deep) (a2 := left) (by omega) (by rw [hw]; exact hleft) hdeep rfl with ⟨h, hL⟩ | ⟨h, hL⟩
 ·rw [h, hw]
  have hk : ¬ v.Kind = 5 ∨ (v.Kind = 5 ∧ v.K.length = v.Kids.length) := by
   have := hL.2.2.1
   omega
  obtain ⟨z, hz⟩ := Up (G := G) hdd h1d hs hk hG v.Kids.length 0 f (left - 1) (by omega) (by omega) (by omega) (by omega)
  rw [show ((0 : Nat) : Int) = 0 from rfl, List.drop_zero] at hz
  rw [hz, Option.bind_some]
  by_cases hc : ((v.Kind = 5 → xo v.K 0 v.Kids.length = true) ∧ v.Kids.all (frX dd) = true) ∧ (zP v.Kids : Int) <= left - 1
  ·have h2 : okX (dd + 1) left v = left - ptX v := if_pos ⟨by rw [ZR, Y0 hL (by omega) (fun k => by have := hc.1.1 k; rw [show v.K.length = v.Kids.length by omega]; exact this), hc.1.2]; rfl, by omega⟩
   rw [if_pos hc, h2, hpt]
   dsimp only
   congr 1; omega
  ·have h2 : okX (dd + 1) left v = -1 := if_neg (by
    rintro ⟨h2, h3⟩
    rw [ZR, Bool.and_eq_true] at h2
    have hi := QV h2.1
    exact hc ⟨⟨fun k => by have := hi.2.2 k; rw [show v.K.length = v.Kids.length by omega] at this; exact this, h2.2⟩, by omega⟩)
   rw [if_neg hc, h2]
 ·rw [h]
  have h2 : okX (dd + 1) left v = -1 := if_neg (by
   rintro ⟨h2, _⟩
   rw [ZR, P3 hL] at h2
   cases h2)
  rw [h2]
theorem Mf : ∀ (N : Nat) (v : GExpr), xsz v < N → xsz v <= 2 ^ 20 → ∀ (f : Nat) (deep left : Int), xsz v + 2 <= f → 1 <= deep → deep <= 11 → 0 <= left → left <= 150 → yZ f v deep left = some (okX (11 - deep).toNat left v) := by
 intro N
 induction N with
 | zero => intro v hv; omega
 | succ N ih =>
  intro v hv hs f deep left hf h1 h2 h3 h4
  obtain ⟨f, rfl, _⟩ := zl (show 0 < f by omega)
  have he := w5 v
  have hl := zX v.Kids
  rw [yZ]
  have := Me (G := yZ f) (f := f) (dd := (10 - deep).toNat) (deep := deep) (left := left) (v := v) (by omega) h1 hs (by omega) h3 h4 fun hd x hx r g0 g1 => by
   have hm := yy hx
   have := ih x (by omega) (by omega) f (deep + 1) r (by omega) (by omega) (by omega) g0 g1
   rw [show (11 - (deep + 1)).toNat = (10 - deep).toNat by omega] at this
   exact this
  rw [this]
  congr 2
  by_cases hd : deep <= 10
  ·rw [if_pos hd]; omega
  ·rw [if_neg hd]; omega
noncomputable def yB (a0 : GExpr) (a1 : Int) (a2 : Int) : Option Int := if xsz a0 <= 2 ^ 20 ∧ (1 <= a1 ∧ a1 <= 11) ∧ 0 <= a2 ∧ a2 <= 150 then some (okX (11 - a1).toNat a2 a0) else none
theorem QW (a0 : GExpr) (a1 : Int) (a2 : Int) (r : Int) (h : yB a0 a1 a2 = some r) : ∃ n, yZ n a0 a1 a2 = some r := by
 unfold yB at h
 obtain ⟨⟨hs, ⟨h1, h2⟩, h3, h4⟩, h⟩ := yl h
 exact ⟨xsz a0 + 2, by rw [<- h]; exact Mf _ a0 (Nat.lt_succ_self _) hs _ a1 a2 (Nat.le_refl _) h1 h2 h3 h4⟩
theorem jE : qH yB := by
 intro a0 a1 a2 r h
 obtain ⟨n, hn⟩ := QW a0 a1 a2 r h
 exact (Kc n) a0 a1 a2 r hn
def XH (F : GItem → Int → Option Int) : Prop := ∀ (a0 : GItem) (a1 : Int), Oc (F a0 a1) 27 [] [.val true (zJ a0), vi a1] fun r => (vi r, [])
def zO (a0 : GItem) : Nat → Int → Int → Option (Int ⊕ (Int × Int))
  | 0, _, _ => none
  | m + 1, a1, v1 =>
  if v1 < (a0.Exprs.length : Int) then
   if 0 <= a1 then
    if a0.Kind = 1 then
     (zT v1).bind fun i4 =>
     (a0.Names[i4]?).bind fun x5 =>
     (ya x5).bind fun r6 =>
     match r6 with
     | true =>
      if 0 < v1 then
       (zT (w64 (v1 - 1))).bind fun i8 =>
       (a0.Names[i8]?).bind fun x9 =>
       if Op.bytesLess x9 x5 = true then
        (a0.Exprs[i4]?).bind fun x11 =>
        (yB x11 1 a1).bind fun r12 =>
        zO a0 m r12 (w64 (v1 + 1))
       else
       some (.inl (-1))
      else
      (a0.Exprs[i4]?).bind fun x8 =>
      (yB x8 1 a1).bind fun r9 =>
      zO a0 m r9 (w64 (v1 + 1))
     | false =>
      some (.inl (-1))
    else
    (zT v1).bind fun i4 =>
    (a0.Exprs[i4]?).bind fun x5 =>
    (yB x5 1 a1).bind fun r6 =>
    zO a0 m r6 (w64 (v1 + 1))
   else
   some (.inr (a1, v1))
  else
  some (.inr (a1, v1))
theorem jN (a0 : GItem) (m : Nat) : ∀ (a1 : Int) (v1 : Int), Ol (zO a0 m a1 v1) 27 (zY Try.f27 0) ⟨[(1, vi a1), (2, vp 0 0), (5, vi v1)], [.var (zJ a0)], 0⟩ fun o => match o with | .inl o_0 => (.ret, ⟨[(4, vi o_0)], [], 0⟩) | .inr (⟨o_1_0, o_1_1⟩) => (.exit 0, ⟨[(1, vi o_1_0), (2, vp 0 0), (5, vi o_1_1), (93, vb false)], [.var (zJ a0)], 0⟩) := by
  induction m with
  | zero => intro a1 v1 o h; cases h
  | succ m ih => exact fun a1 v1 => tlp (
   .le zb a0.Exprs <|
   .lI v1 (a0.Exprs.length : Int) (fun c1 =>
    .gI 0 a1 (fun c2 =>
     .eI a0.Kind 1 (fun c3 =>
      .na v1 fun i4 =>
      .ix0 (zk za) a0.Names i4 fun x5 =>
      .cl (yF x5) fun r6 =>
      .vN 2 r6 (
       .an 0 0 <|
       .lI 0 v1 (fun c7 =>
        .an 0 0 <|
        .na (w64 (v1 - 1)) fun i8 =>
        .ix0 (zk za) a0.Names i8 fun x9 =>
        .bt x9 <|
        .ag 5 <|
        .ag 4 <|
        .bt x5 <|
        .bI x9 x5 (fun c10 =>
         .an 0 2 <|
         .an 2 2 <|
         .ag 5 <|
         .ix zV a0.Exprs i4 fun x11 =>
         .cl (jE x11 1 a1) fun r12 =>
         .go (ih r12 (w64 (v1 + 1)))) fun c10 =>
        .an 0 2 <|
        .an 2 2 <|
        .ret (.inl (-1))) fun c7 =>
       .an 0 0 <|
       .an 14 0 <|
       .an 2 0 <|
       .ag 3 <|
       .ix zV a0.Exprs i4 fun x8 =>
       .cl (jE x8 1 a1) fun r9 =>
       .go (ih r9 (w64 (v1 + 1)))) <|
      .an 0 0 <|
      .an 0 0 <|
      .an 0 0 <|
      .an 1 0 <|
      .ret (.inl (-1))) fun c3 =>
     .na v1 fun i4 =>
     .ix zV a0.Exprs i4 fun x5 =>
     .cl (jE x5 1 a1) fun r6 =>
     .go (ih r6 (w64 (v1 + 1)))) fun c2 =>
    .ret (.inr (a1, v1))) fun c1 =>
   .ret (.inr (a1, v1)))
def kh (n : Nat) (a0 : GItem) (a1 : Int) : Option Int :=
 if a0.Kind < 0 then
  some (-1)
 else
 if 2 < a0.Kind then
  some (-1)
 else
 (wB a0.Name).bind fun r3 =>
 match r3 with
 | true =>
  if 6 < (a0.Exprs.length : Int) then
   some (-1)
  else
  if a0.Kind = 1 then
   if a0.Many < 0 then
    some (-1)
   else
   if 2 < a0.Many then
    some (-1)
   else
   if a0.Many = 0 then
    (kg a0.By).bind fun r9 =>
    match r9 with
    | true =>
     if (a0.Names.length : Int) = (a0.Exprs.length : Int) then
      (zO a0 n a1 0).bind fun o11 =>
      match o11 with
      | .inl o11_0 =>
       some o11_0
      | .inr (⟨o11_1_0, o11_1_1⟩) =>
       some o11_1_0
     else
     some (-1)
    | false =>
     some (-1)
   else
   if (a0.Names.length : Int) = (a0.Exprs.length : Int) then
    (yB a0.By 1 a1).bind fun r10 =>
    (zO a0 n r10 0).bind fun o11 =>
    match o11 with
    | .inl o11_0 =>
     some o11_0
    | .inr (⟨o11_1_0, o11_1_1⟩) =>
     some o11_1_0
   else
   some (-1)
  else
  if a0.Many = 0 then
   (kg a0.By).bind fun r7 =>
   match r7 with
   | true =>
    if 0 < (a0.Names.length : Int) then
     some (-1)
    else
    if (a0.Exprs.length : Int) = 1 then
     (zO a0 n a1 0).bind fun o10 =>
     match o10 with
     | .inl o10_0 =>
      some o10_0
     | .inr (⟨o10_1_0, o10_1_1⟩) =>
      some o10_1_0
    else
    some (-1)
   | false =>
    some (-1)
  else
  some (-1)
 | false =>
  some (-1)
theorem Rp (n : Nat) : XH (kh n) := fun a0 a1 => tc (
 .lI a0.Kind 0 (fun c1 =>
  .ret (-1)) fun c1 =>
 .lI 2 a0.Kind (fun c2 =>
  .ret (-1)) fun c2 =>
 .cl (vy a0.Name) fun r3 =>
 .vN 2 r3 (
  .an 0 0 <|
  .an 0 0 <|
  .le zb a0.Exprs <|
  .an 0 0 <|
  .lI 6 (a0.Exprs.length : Int) (fun c4 =>
   .an 0 0 <|
   .ret (-1)) fun c4 =>
  .an 0 0 <|
  .eI a0.Kind 1 (fun c5 =>
   .lI a0.Many 0 (fun c6 =>
    .ret (-1)) fun c6 =>
   .lI 2 a0.Many (fun c7 =>
    .ret (-1)) fun c7 =>
   .eI a0.Many 0 (fun c8 =>
    .cl (YL a0.By) fun r9 =>
    .vN 4 r9 (
     .an 0 0 <|
     .an 0 0 <|
     .le (zk za) a0.Names <|
     .an 0 0 <|
     .an 0 0 <|
     .an 0 0 <|
     .le zb a0.Exprs <|
     .an 0 0 <|
     .eI (a0.Names.length : Int) (a0.Exprs.length : Int) (fun c10 =>
      .an 0 0 <|
      .q (.eT c8) <|
      .l2 (jN a0 n a1 0) (fun o11_0 =>
       .ret o11_0) fun ⟨o11_1_0, o11_1_1⟩ =>
      .ret o11_1_0) fun c10 =>
     .an 0 0 <|
     .ret (-1)) <|
    .an 0 0 <|
    .an 0 0 <|
    .an 0 0 <|
    .an 0 0 <|
    .an 0 0 <|
    .an 0 0 <|
    .an 0 0 <|
    .ret (-1)) fun c8 =>
   .le (zk za) a0.Names <|
   .le zb a0.Exprs <|
   .eI (a0.Names.length : Int) (a0.Exprs.length : Int) (fun c9 =>
    .q (.eF c8) <|
    .cl (jE a0.By 1 a1) fun r10 =>
    .l2 (jN a0 n r10 0) (fun o11_0 =>
     .ret o11_0) fun ⟨o11_1_0, o11_1_1⟩ =>
    .ret o11_1_0) fun c9 =>
   .ret (-1)) fun c5 =>
  .eI a0.Many 0 (fun c6 =>
   .cl (YL a0.By) fun r7 =>
   .vN 2 r7 (
    .an 0 0 <|
    .an 0 0 <|
    .le (zk za) a0.Names <|
    .an 0 0 <|
    .lI 0 (a0.Names.length : Int) (fun c8 =>
     .an 0 0 <|
     .ret (-1)) fun c8 =>
    .an 0 0 <|
    .le zb a0.Exprs <|
    .eI (a0.Exprs.length : Int) 1 (fun c9 =>
     .q (.eT c6) <|
     .l2 (jN a0 n a1 0) (fun o10_0 =>
      .ret o10_0) fun ⟨o10_1_0, o10_1_1⟩ =>
     .ret o10_1_0) fun c9 =>
    .ret (-1)) <|
   .an 0 0 <|
   .an 0 0 <|
   .an 0 0 <|
   .an 0 0 <|
   .ret (-1)) fun c6 =>
  .ret (-1)) <|
 .an 0 0 <|
 .an 0 0 <|
 .an 0 0 <|
 .an 0 0 <|
 .ret (-1)) (zs Try.func27)
def qI (a0 : GItem) (a1 : Int) : Option Int := kh (a0.Exprs.length + 5) a0 a1
theorem QX (a0 : GItem) (a1 : Int) (r : Int) (h : qI a0 a1 = some r) : ∃ n, kh n a0 a1 = some r := ⟨_, h⟩
theorem Vj : XH qI := fun a0 a1 r h => (QX a0 a1 r h).elim fun n hn => Rp n a0 a1 r hn
def wq (a0 : (List UInt8)) (a1 : (List UInt8)) : Option Int :=
 if Op.bytesLess a0 a1 = true then
  some (-1)
 else
 if Op.bytesLess a1 a0 = true then
  some 1
 else
 some 0
theorem Kd (a0 : (List UInt8)) (a1 : (List UInt8)) : Oc (wq a0 a1) 74 [] [vq za a0, vq za a1] fun r => (vi r, []) := tc (
 .bt a0 <|
 .bt a1 <|
 .bI a0 a1 (fun c1 =>
  .ret (-1)) fun c1 =>
 .bt a0 <|
 .bt a1 <|
 .bI a1 a0 (fun c2 =>
  .ret 1) fun c2 =>
 .ret 0) (zs Try.func74)
def Y1 (F : (List (List UInt8)) → (List UInt8) → Option (List (List UInt8))) : Prop := ∀ (a0 : (List (List UInt8))) (a1 : (List UInt8)), Oc (F a0 a1) 87 [] [vq (zk za) a0, vq za a1] fun r => (vq (zk za) r, [])
def zL (a0 : (List (List UInt8))) (a1 : (List UInt8)) : Nat → Bool → Int → (List (List UInt8)) → Option (Bool × Int × (List (List UInt8)))
  | 0, _, _, _ => none
  | m + 1, v2, v3, v4 =>
  if v3 < (a0.length : Int) then
   (zT v3).bind fun i2 =>
   (a0[i2]?).bind fun x3 =>
   (wq a1 x3).bind fun r4 =>
   match v2 with
   | true =>
    if r4 = 0 then
     zL a0 a1 m v2 (w64 (v3 + 1)) v4
    else
    if xJ 24 (v4.length + [x3].length) then
    zL a0 a1 m v2 (w64 (v3 + 1)) (v4 ++ [x3])
    else none
   | false =>
    if r4 <= 0 then
     if xJ 24 (v4.length + [a1].length) then
     if r4 = 0 then
      zL a0 a1 m true (w64 (v3 + 1)) (v4 ++ [a1])
     else
     if xJ 24 ((v4 ++ [a1]).length + [x3].length) then
     zL a0 a1 m true (w64 (v3 + 1)) ((v4 ++ [a1]) ++ [x3])
     else none
     else none
    else
    if r4 = 0 then
     zL a0 a1 m v2 (w64 (v3 + 1)) v4
    else
    if xJ 24 (v4.length + [x3].length) then
    zL a0 a1 m v2 (w64 (v3 + 1)) (v4 ++ [x3])
    else none
  else
  some (v2, v3, v4)
theorem XP (a0 : (List (List UInt8))) (a1 : (List UInt8)) (m : Nat) : ∀ (v2 : Bool) (v3 : Int) (v4 : (List (List UInt8))), Ol (zL a0 a1 m v2 v3 v4) 87 (zY Try.f87 0) ⟨[(0, vq (zk za) a0), (1, vq za a1), (5, vr 0), (6, vb v2), (7, vi v3)], [.obj 1 (eL (zk za) v4)], 0⟩ fun o => match o with | ⟨o_0, o_1, o_2⟩ => (.exit 0, ⟨[(0, vq (zk za) a0), (1, vq za a1), (5, vr 0), (6, vb o_0), (7, vi o_1), (12, vb false)], [.obj 1 (eL (zk za) o_2)], 0⟩) := by
  induction m with
  | zero => intro v2 v3 v4 o h; cases h
  | succ m ih => exact fun v2 v3 v4 => tlp (
   .le (zk za) a0 <|
   .lI v3 (a0.length : Int) (fun c1 =>
    .na v3 fun i2 =>
    .ix0 (zk za) a0 i2 fun x3 =>
    .cl (Kd a1 x3) fun r4 =>
    .vN 0 v2 (
     .an 0 0 <|
     .an 0 0 <|
     .eI r4 0 (fun c5 =>
      .go (ih v2 (w64 (v3 + 1)) v4)) fun c5 =>
     .ag 3 <|
     .ag 2 <|
     .pl (kX za) [x3] <|
     .ap 24 (kX za) v4 [x3] fun n6 =>
     .go (ih v2 (w64 (v3 + 1)) (v4 ++ [x3]))) <|
    .an 0 0 <|
    .gI r4 0 (fun c5 =>
     .an 0 0 <|
     .pl (kX za) [a1] <|
     .ap 24 (kX za) v4 [a1] fun n6 =>
     .eI r4 0 (fun c7 =>
      .go (ih true (w64 (v3 + 1)) (v4 ++ [a1]))) fun c7 =>
     .ag 3 <|
     .ag 2 <|
     .pl (kX za) [x3] <|
     .ap 24 (kX za) (v4 ++ [a1]) [x3] fun n8 =>
     .go (ih true (w64 (v3 + 1)) ((v4 ++ [a1]) ++ [x3]))) fun c5 =>
    .an 0 0 <|
    .eI r4 0 (fun c6 =>
     .go (ih v2 (w64 (v3 + 1)) v4)) fun c6 =>
    .ag 3 <|
    .ag 2 <|
    .pl (kX za) [x3] <|
    .ap 24 (kX za) v4 [x3] fun n7 =>
    .go (ih v2 (w64 (v3 + 1)) (v4 ++ [x3]))) fun c1 =>
   .ret (v2, v3, v4))
def vd (n : Nat) (a0 : (List (List UInt8))) (a1 : (List UInt8)) : Option (List (List UInt8)) :=
 (zL a0 a1 n false 0 []).bind fun ⟨o1_0, o1_1, o1_2⟩ =>
 match o1_0 with
 | true =>
  some o1_2
 | false =>
  if xJ 24 (o1_2.length + [a1].length) then
  some (o1_2 ++ [a1])
  else none
theorem Ke (n : Nat) : Y1 (vd n) := fun a0 a1 => tc (
 .lp (XP a0 a1 n false 0 []) fun ⟨o1_0, o1_1, o1_2⟩ =>
 .vN 0 o1_0 (
  .vw (kX za) o1_2 <|
  .ret o1_2) <|
 .pl (kX za) [a1] <|
 .ap 24 (kX za) o1_2 [a1] fun n2 =>
 .vw (kX za) (o1_2 ++ [a1]) <|
 .ret (o1_2 ++ [a1])) (zs Try.func87)
theorem GM : ∀ (a b : List UInt8), wq a b = some (Lib.compareBytes a b) := by
 intro a
 induction a with
 | nil => intro b; cases b <;> simp [wq, Op.bytesLess, Lib.compareBytes]
 | cons x a ih =>
  intro b
  cases b with
  | nil => simp [wq, Op.bytesLess, Lib.compareBytes]
  | cons y b =>
   have := ih b
   unfold wq at this ⊢
   simp only [Op.bytesLess, Lib.compareBytes]
   by_cases h1 : x < y
   ·simp [h1]
   ·by_cases h2 : y < x
    ·have h3 : ¬ x = y := fun e => by subst e; exact h1 h2
     have h4 : ¬ y = x := fun e => h3 e.symm
     simp [h1, h2, h3, h4]
    ·have h3 : x = y := UInt8.le_antisymm (UInt8.not_lt.1 h2) (UInt8.not_lt.1 h1)
     subst h3
     simpa [h1] using this
def y6 (x : List UInt8) : Bool → List (List UInt8) → List (List UInt8)
 | true, [] => []
 | false, [] => [x]
 | true, y :: r => if Lib.compareBytes x y = 0 then y6 x true r else y :: y6 x true r
 | false, y :: r => if Lib.compareBytes x y <= 0 then x :: (if Lib.compareBytes x y = 0 then y6 x true r else y :: y6 x true r) else y :: y6 x false r
def flU : Bool → Nat
 | true => 0
 | false => 1
theorem Ns {a : List (List UInt8)} {x : List UInt8} (ha : a.length <= 2 ^ 38) : ∀ (l p acc : List (List UInt8)) (b : Bool) (m : Nat), a = p ++ l → l.length < m → acc.length + l.length + flU b <= 2 ^ 39 →
  ∃ b' z q, zL a x m b (p.length : Int) acc = some (b', z, q) ∧ q.length <= acc.length + l.length + flU b ∧ (match b' with | true => q | false => q ++ [x]) = acc ++ y6 x b l := by
 intro l
 induction l with
 | nil =>
  intro p acc b m he hm _
  subst he
  obtain ⟨m, rfl, _⟩ := zl hm
  exact ⟨b, _, acc, by rw [zL, if_neg (vH p)], by simp only [List.length_nil]; omega, by cases b <;> simp [y6]⟩
 | cons y l ih =>
  intro p acc b m he hm hb
  obtain ⟨m, rfl, hm'⟩ := zl hm
  simp only [List.length_cons] at hb hm'
  have hlen : a.length = p.length + (l.length + 1) := by rw [he]; simp
  have next := fun (acc : List (List UInt8)) (b : Bool) (h : acc.length + l.length + flU b <= 2 ^ 39) => ih (p ++ [y]) acc b m (by rw [he]; simp) hm' h
  rw [zL, if_pos (by rw [he]; exact Ya p y l), zu, Option.bind_some, show a[p.length]? = some y by rw [he]; exact xn p y l, Option.bind_some, GM, Option.bind_some, wt p y (by omega)]
  cases b with
  | true =>
   simp only [flU] at hb ⊢
   by_cases c : Lib.compareBytes x y = 0
   ·obtain ⟨b', z, q, h1, h2, h3⟩ := next acc true (by simp only [flU]; omega)
    rw [if_pos c]
    exact ⟨b', z, q, h1, by simp only [flU, List.length_cons] at h2 ⊢; omega, by rw [h3, y6, if_pos c]⟩
   ·obtain ⟨b', z, q, h1, h2, h3⟩ := next (acc ++ [y]) true (by simp only [flU, List.length_append, List.length_cons, List.length_nil]; omega)
    rw [if_neg c, if_pos (qu (by decide) (by simp only [List.length_cons, List.length_nil]; omega))]
    exact ⟨b', z, q, h1, by simp only [flU, List.length_append, List.length_cons, List.length_nil] at h2 ⊢; omega, by rw [h3, y6, if_neg c]; simp⟩
  | false =>
   simp only [flU] at hb ⊢
   by_cases c1 : Lib.compareBytes x y <= 0
   ·rw [if_pos c1, if_pos (qu (by decide) (by simp only [List.length_cons, List.length_nil]; omega))]
    by_cases c : Lib.compareBytes x y = 0
    ·obtain ⟨b', z, q, h1, h2, h3⟩ := next (acc ++ [x]) true (by simp only [flU, List.length_append, List.length_cons, List.length_nil]; omega)
     rw [if_pos c]
     exact ⟨b', z, q, h1, by simp only [flU, List.length_append, List.length_cons, List.length_nil] at h2 ⊢; omega, by rw [h3, y6, if_pos c1, if_pos c]; simp⟩
    ·obtain ⟨b', z, q, h1, h2, h3⟩ := next ((acc ++ [x]) ++ [y]) true (by simp only [flU, List.length_append, List.length_cons, List.length_nil]; omega)
     rw [if_neg c, if_pos (qu (by decide) (by simp only [List.length_append, List.length_cons, List.length_nil]; omega))]
     exact ⟨b', z, q, h1, by simp only [flU, List.length_append, List.length_cons, List.length_nil] at h2 ⊢; omega, by rw [h3, y6, if_pos c1, if_neg c]; simp⟩
   ·obtain ⟨b', z, q, h1, h2, h3⟩ := next (acc ++ [y]) false (by simp only [flU, List.length_append, List.length_cons, List.length_nil]; omega)
    rw [if_neg c1, if_neg (by omega), if_pos (qu (by decide) (by simp only [List.length_cons, List.length_nil]; omega))]
    exact ⟨b', z, q, h1, by simp only [flU, List.length_append, List.length_cons, List.length_nil] at h2 ⊢; omega, by rw [h3, y6, if_neg c1]; simp⟩
def wM (a0 : (List (List UInt8))) (a1 : (List UInt8)) : Option (List (List UInt8)) := if a0.length <= 2 ^ 38 then some (y6 a1 false a0) else none
theorem W1 (a0 : (List (List UInt8))) (a1 : (List UInt8)) (r : (List (List UInt8))) (h : wM a0 a1 = some r) : ∃ n, vd n a0 a1 = some r := by
 unfold wM at h
 obtain ⟨ha, h⟩ := yl h
 obtain ⟨b, z, q, h1, h2, h3⟩ := Ns (x := a1) ha a0 [] [] false (a0.length + 1) rfl (by omega) (by simp only [List.length_nil, flU]; omega)
 refine ⟨a0.length + 1, ?_⟩
 unfold vd
 simp only [List.length_nil, Int.natCast_zero, flU] at h1 h2
 rw [h1, Option.bind_some, <- h]
 cases b with
 | true => exact congrArg some h3
 | false =>
  dsimp only at h3 ⊢
  rw [if_pos (qu (by decide) (by simp only [List.length_cons, List.length_nil]; omega)), h3]; rfl
theorem QY : Y1 wM := fun a0 a1 r h => (W1 a0 a1 r h).elim fun n hn => Ke n a0 a1 r hn
def qk (F : GExpr → Int → (List (List UInt8)) → Option (List (List UInt8))) : Prop := ∀ (a0 : GExpr) (a1 : Int) (a2 : (List (List UInt8))), Oc (F a0 a1 a2) 60 [] [.val true (yv a0), vi a1, vq (zk za) a2] fun r => (vq (zk za) r, [])
def yN (G_spec_l6names : GExpr → Int → (List (List UInt8)) → Option (List (List UInt8))) (a1 : Int) (a0 : GExpr) : Nat → (List (List UInt8)) → Int → Option (List (List UInt8))
  | 0, _, _ => none
  | m + 1, v1, v2 =>
  if v2 < (a0.Kids.length : Int) then
   (zT v2).bind fun i2 =>
   (a0.Kids[i2]?).bind fun x3 =>
   (G_spec_l6names x3 a1 v1).bind fun r4 =>
   yN G_spec_l6names a1 a0 m r4 (w64 (v2 + 1))
  else
  some v1
theorem vV (G_spec_l6names : GExpr → Int → (List (List UInt8)) → Option (List (List UInt8))) (H_spec_l6names : qk G_spec_l6names) (a1 : Int) (a0 : GExpr) (m : Nat) : ∀ (v1 : (List (List UInt8))) (v2 : Int), Ol (yN G_spec_l6names a1 a0 m v1 v2) 60 (zY Try.f60 0) ⟨[(1, vi a1), (2, vq (zk za) v1), (3, vp 0 0), (7, vi v2)], [.var (yv a0)], 0⟩ fun o => (.exit 0, ⟨[(2, vq (zk za) o)], [], 0⟩) := by
  induction m with
  | zero => intro v1 v2 o h; cases h
  | succ m ih => exact fun v1 v2 => tlp (
   .le zb a0.Kids <|
   .lI v2 (a0.Kids.length : Int) (fun c1 =>
    .na v2 fun i2 =>
    .ix zV a0.Kids i2 fun x3 =>
    .cl (H_spec_l6names x3 a1 v1) fun r4 =>
    .go (ih r4 (w64 (v2 + 1)))) fun c1 =>
   .ret v1)
def jF (G_spec_l6names : GExpr → Int → (List (List UInt8)) → Option (List (List UInt8))) (n : Nat) (a0 : GExpr) (a1 : Int) (a2 : (List (List UInt8))) : Option (List (List UInt8)) :=
 if a0.Kind = a1 then
  (wM a2 a0.S).bind fun r2 =>
  (yN G_spec_l6names a1 a0 n r2 0).bind fun o3 =>
  some o3
 else
 (yN G_spec_l6names a1 a0 n a2 0).bind fun o2 =>
 some o2
theorem Vk (G_spec_l6names : GExpr → Int → (List (List UInt8)) → Option (List (List UInt8))) (H_spec_l6names : qk G_spec_l6names) (n : Nat) : qk (jF G_spec_l6names n) := fun a0 a1 a2 => tc (
 .eI a0.Kind a1 (fun c1 =>
  .cl (QY a2 a0.S) fun r2 =>
  .lp (vV G_spec_l6names H_spec_l6names a1 a0 n r2 0) fun o3 =>
  .ret o3) fun c1 =>
 .lp (vV G_spec_l6names H_spec_l6names a1 a0 n a2 0) fun o2 =>
 .ret o2) (zs Try.func60)
def yj : Nat → GExpr → Int → (List (List UInt8)) → Option (List (List UInt8))
 | 0, _, _, _ => none
 | n + 1, a0, a1, a2 => jF (yj n) n a0 a1 a2
theorem QZ (n : Nat) : qk (yj n) := by
 induction n with
 | zero => exact fun _ _ _ _ h => (by rw [yj] at h; cases h)
 | succ n ih =>
  have ih_spec_l6names := ih
  exact fun a0 a1 a2 r h => Vk (yj n) ih_spec_l6names n a0 a1 a2 r (by rw [yj] at h; exact h)
def ql (a0 : GExpr) (a1 : Int) (a2 : (List (List UInt8))) : Option (List (List UInt8)) := yj (xsz a0 + 3) a0 a1 a2
theorem Qn (a0 : GExpr) (a1 : Int) (a2 : (List (List UInt8))) (r : (List (List UInt8))) (h : ql a0 a1 a2 = some r) : ∃ n, yj n a0 a1 a2 = some r := ⟨_, h⟩
theorem Y2 : qk ql := by
 intro a0 a1 a2 r h
 obtain ⟨n, hn⟩ := Qn a0 a1 a2 r h
 exact (QZ n) a0 a1 a2 r hn
def XI (F : GItem → Option (List (List UInt8))) : Prop := ∀ (a0 : GItem), Oc (F a0) 29 [] [.val true (zJ a0)] fun r => (vq (zk za) r, [])
def xz (a0 : GItem) : Nat → (List (List UInt8)) → Int → Option (List (List UInt8))
  | 0, _, _ => none
  | m + 1, v0, v1 =>
  if v1 < (a0.Exprs.length : Int) then
   (zT v1).bind fun i2 =>
   (a0.Exprs[i2]?).bind fun x3 =>
   (ql x3 7 v0).bind fun r4 =>
   xz a0 m r4 (w64 (v1 + 1))
  else
  some v0
theorem W2 (a0 : GItem) (m : Nat) : ∀ (v0 : (List (List UInt8))) (v1 : Int), Ol (xz a0 m v0 v1) 29 (zY Try.f29 0) ⟨[(1, vp 0 0), (3, vq (zk za) v0), (4, vi v1)], [.var (zJ a0)], 0⟩ fun o => (.exit 0, ⟨[(3, vq (zk za) o)], [], 0⟩) := by
  induction m with
  | zero => intro v0 v1 o h; cases h
  | succ m ih => exact fun v0 v1 => tlp (
   .le zb a0.Exprs <|
   .lI v1 (a0.Exprs.length : Int) (fun c1 =>
    .na v1 fun i2 =>
    .ix zV a0.Exprs i2 fun x3 =>
    .cl (Y2 x3 7 v0) fun r4 =>
    .go (ih r4 (w64 (v1 + 1)))) fun c1 =>
   .ret v0)
def q8 (n : Nat) (v0 : Int) (a0 : GItem) (v2 : (List (List UInt8))) : Nat → Option ((List (List UInt8)) ⊕ Unit)
  | 0 => none
  | m + 1 =>
  if v0 < (a0.Exprs.length : Int) then
   (zT v0).bind fun i2 =>
   (a0.Exprs[i2]?).bind fun x3 =>
   (ql x3 7 v2).bind fun r4 =>
   (xz a0 n r4 (w64 (v0 + 1))).bind fun o5 =>
   some (.inl o5)
  else
  some (.inr ())
theorem Qo (n : Nat) (v0 : Int) (a0 : GItem) (v2 : (List (List UInt8))) (m : Nat) : Ol (q8 n v0 a0 v2 m) 29 (zY Try.f29 0) ⟨[(1, vp 0 0), (3, vr 1), (4, vi v0)], [.var (zJ a0), .obj 1 (eL (zk za) v2)], 0⟩ fun o => match o with | .inl o_0 => (.exit 0, ⟨[(3, vq (zk za) o_0)], [], 0⟩) | .inr (()) => (.exit 0, ⟨[(3, vr 0)], [.obj 1 (eL (zk za) v2)], 0⟩) := by
  induction m with
  | zero => intro o h; cases h
  | succ m ih => exact tlp (
   .le zb a0.Exprs <|
   .lI v0 (a0.Exprs.length : Int) (fun c1 =>
    .na v0 fun i2 =>
    .ix zV a0.Exprs i2 fun x3 =>
    .vw (kX za) v2 <|
    .cl (Y2 x3 7 v2) fun r4 =>
    .gb (W2 a0 n r4 (w64 (v0 + 1))) (fun o5 =>
     some (.inl o5)) (by intro x a h; first | (cases h; rfl) | (rcases x with x | x <;> cases h <;> rfl) | (rcases x with x | x | x <;> cases h <;> rfl))) fun c1 =>
   .ret (.inr ()))
def ki (n : Nat) (a0 : GItem) : Option (List (List UInt8)) :=
 (q8 n 0 a0 [] n).bind fun o1 =>
 match o1 with
 | .inl o1_0 =>
  some o1_0
 | .inr (()) =>
  some []
theorem Rq (n : Nat) : XI (ki n) := fun a0 => tc (
 .l2 (Qo n 0 a0 [] n) (fun o1_0 =>
  .ret o1_0) fun ⟨⟩ =>
 .vw (kX za) [] <|
 .ret []) (zs Try.func29)
def qJ (a0 : GItem) : Option (List (List UInt8)) := ki (a0.Exprs.length + 5) a0
theorem Ja (a0 : GItem) (r : (List (List UInt8))) (h : qJ a0 = some r) : ∃ n, ki n a0 = some r := ⟨_, h⟩
theorem Vl : XI qJ := fun a0 r h => (Ja a0 r h).elim fun n hn => Rq n a0 r hn
def Zq (F : (List (List UInt8)) → Option (List (List UInt8))) : Prop := ∀ (a0 : (List (List UInt8))), Oc (F a0) 28 [] [vq (zk za) a0] fun r => (.val false [.own 1 (eL (zS 1 za) r)], [])
def yG (a0 : (List (List UInt8))) : Nat → Int → (List (List UInt8)) → Option (Int × (List (List UInt8)))
  | 0, _, _ => none
  | m + 1, v1, v2 =>
  if v1 < (a0.length : Int) then
   (zT v1).bind fun i2 =>
   (a0[i2]?).bind fun x3 =>
   if xJ 1 (0 + x3.length) then
   if xJ 24 (v2.length + [x3].length) then
   yG a0 m (w64 (v1 + 1)) (v2 ++ [x3])
   else none
   else none
  else
  some (v1, v2)
theorem YN (a0 : (List (List UInt8))) (m : Nat) : ∀ (v1 : Int) (v2 : (List (List UInt8))), Ol (yG a0 m v1 v2) 28 (zY Try.f28 0) ⟨[(0, vq (zk za) a0), (3, vr 0), (4, vi v1)], [.obj 1 (eL (zS 1 za) v2)], 0⟩ fun o => match o with | ⟨o_0, o_1⟩ => (.exit 0, ⟨[(0, vq (zk za) a0), (3, vr 0), (4, vi o_0), (8, vb false)], [.obj 1 (eL (zS 1 za) o_1)], 0⟩) := by
  induction m with
  | zero => intro v1 v2 o h; cases h
  | succ m ih => exact fun v1 v2 => tlp (
   .le (zk za) a0 <|
   .lI v1 (a0.length : Int) (fun c1 =>
    .na v1 fun i2 =>
    .ix0 (zk za) a0 i2 fun x3 =>
    .ap 1 Zg [] x3 fun n4 =>
    .ao 24 (xq 1 yM) v2 [x3] fun n5 =>
    .go (ih (w64 (v1 + 1)) (v2 ++ [x3]))) fun c1 =>
   .ret (v1, v2))
def jO (n : Nat) (a0 : (List (List UInt8))) : Option (List (List UInt8)) :=
 (yG a0 n 0 []).bind fun ⟨o1_0, o1_1⟩ =>
 some o1_1
theorem Qp (n : Nat) : Zq (jO n) := fun a0 => tc (
 .lp (YN a0 n 0 []) fun ⟨o1_0, o1_1⟩ =>
 .ret o1_1) (zs Try.func28)
theorem P4 {a : List (List UInt8)} (ha : bsz a <= 2 ^ 39) : ∀ (l p : List (List UInt8)) (m : Nat), a = p ++ l → l.length < m → ∃ z, yG a m (p.length : Int) p = some (z, a) := by
 have hl := qq a
 intro l
 induction l with
 | nil =>
  intro p m he hm
  subst he
  obtain ⟨m, rfl, _⟩ := zl hm
  exact ⟨_, by rw [yG, if_neg (vH p)]; simp; rfl⟩
 | cons x l ih =>
  intro p m he hm
  obtain ⟨m, rfl, hm'⟩ := zl hm
  have hx : 1 + x.length <= bsz a := vG (by rw [he]; simp)
  have hlen : a.length = p.length + (l.length + 1) := by rw [he]; simp
  obtain ⟨z, hz⟩ := ih (p ++ [x]) m (by rw [he]; simp) (by simp only [List.length_cons] at hm'; omega)
  refine ⟨z, ?_⟩
  rw [yG, if_pos (by rw [he]; exact Ya p x l), zu, Option.bind_some, show a[p.length]? = some x by rw [he]; exact xn p x l, Option.bind_some, if_pos (qu (by decide) (by omega)), if_pos (qu (by decide) (by simp only [List.length_cons, List.length_nil]; omega)), wt p x (by omega), hz]
def wh (a0 : (List (List UInt8))) : Option (List (List UInt8)) := if bsz a0 <= 2 ^ 39 then some a0 else none
theorem Xu (a0 : (List (List UInt8))) (r : (List (List UInt8))) (h : wh a0 = some r) : ∃ n, jO n a0 = some r := by
 unfold wh at h
 obtain ⟨ha, h⟩ := yl h
 obtain ⟨z, hz⟩ := P4 ha a0 [] (a0.length + 1) rfl (by omega)
 refine ⟨a0.length + 1, ?_⟩
 unfold jO
 simp only [List.length_nil, Int.natCast_zero] at hz
 rw [hz]; exact h
theorem W3 : Zq wh := fun a0 r h => (Xu a0 r h).elim fun n hn => Qp n a0 r hn
def qZ (a0 : GItem) : Option (List (List UInt8)) :=
 (qI a0 150).bind fun r1 =>
 if r1 < 0 then
  some []
 else
 (qJ a0).bind fun r3 =>
 (wh r3).bind fun r4 =>
 some r4
theorem Jb (a0 : GItem) : Oc (qZ a0) 6 [] [.val true (zJ a0)] fun r => (.val false [.own 1 (eL (zS 1 za) r)], []) := tc (
 .cl (Vj a0 150) fun r1 =>
 .lI r1 0 (fun c2 =>
  .ret []) fun c2 =>
 .cl (Vl a0) fun r3 =>
 .cl (W3 r3) fun r4 =>
 .ret r4) (zs Try.func6)
def wa (a0 : Int) (a1 : Int) (a2 : Int) : Option Bool :=
 if a1 <= a0 then
  some (decide (a0 <= a2))
 else
 some false
theorem jG (a0 : Int) (a1 : Int) (a2 : Int) : Oc (wa a0 a1 a2) 88 [] [vi a0, vi a1, vi a2] fun r => (vb r, []) := tc (
 .gI a1 a0 (fun c1 =>
  .gD a0 a2 <|
  .ret (decide (a0 <= a2))) fun c1 =>
 .ret false) (zs Try.func88)
def XJ (F : (List UInt8) → Option Bool) : Prop := ∀ (a0 : (List UInt8)), Oc (F a0) 94 [] [vq za a0] fun r => (vb r, [])
def xQ (a0 : (List UInt8)) (v1 : Int) : Nat → Int → Option (Bool ⊕ Int)
  | 0, _ => none
  | m + 1, v2 =>
  if v2 < v1 then
   (zT v2).bind fun i2 =>
   (a0[i2]?).bind fun x3 =>
   if ((x3.toNat : Nat) : Int) < 97 then
    some (.inl false)
   else
   if 122 < ((x3.toNat : Nat) : Int) then
    some (.inl false)
   else
   xQ a0 v1 m (w64 (v2 + 1))
  else
  some (.inr v2)
theorem Qq (a0 : (List UInt8)) (v1 : Int) (m : Nat) : ∀ (v2 : Int), Ol (xQ a0 v1 m v2) 94 (zY Try.f94 0) ⟨[(0, vq za a0), (5, vq za a0), (6, vi v1), (7, vi v2)], [], 0⟩ fun o => match o with | .inl o_0 => (.ret, ⟨[(2, vb o_0)], [], 0⟩) | .inr (o_1) => (.exit 0, ⟨[(0, vq za a0), (5, vq za a0), (6, vi v1), (7, vi o_1), (8, vb false)], [], 0⟩) := by
  induction m with
  | zero => intro v2 o h; cases h
  | succ m ih => exact fun v2 => tlp (
   .lI v2 v1 (fun c1 =>
    .na v2 fun i2 =>
    .ix0 za a0 i2 fun x3 =>
    .lI ((x3.toNat : Nat) : Int) 97 (fun c4 =>
     .ret (.inl false)) fun c4 =>
    .lI 122 ((x3.toNat : Nat) : Int) (fun c5 =>
     .ret (.inl false)) fun c5 =>
    .go (ih (w64 (v2 + 1)))) fun c1 =>
   .ret (.inr v2))
def Zm (n : Nat) (a0 : (List UInt8)) : Option Bool :=
 (xQ a0 (a0.length : Int) n 0).bind fun o1 =>
 match o1 with
 | .inl o1_0 =>
  some o1_0
 | .inr (o1_1) =>
  (wa (a0.length : Int) 1 8).bind fun r2 =>
  some r2
theorem Rr (n : Nat) : XJ (Zm n) := fun a0 => tc (
 .le za a0 <|
 .l2 (Qq a0 (a0.length : Int) n 0) (fun o1_0 =>
  .ret o1_0) fun o1_1 =>
 .le za a0 <|
 .cl (jG (a0.length : Int) 1 8) fun r2 =>
 .ret r2) (zs Try.func94)
theorem Jc {a : List UInt8} (ha : a.length <= 2 ^ 20) : ∀ (d i m : Nat), i + d = a.length → d < m → ∃ z, xQ a (a.length : Int) m (i : Int) = some (if (a.drop i).all (inB 97 122) = true then .inr z else .inl false) := by
 intro d
 induction d with
 | zero =>
  intro i m hi hm
  obtain ⟨m, rfl, _⟩ := zl hm
  exact ⟨_, by rw [xQ, if_neg (by omega), List.drop_eq_nil_of_le (by omega)]; rfl⟩
 | succ d ih =>
  intro i m hi hm
  obtain ⟨m, rfl, hm'⟩ := zl hm
  have hil : i < a.length := by omega
  rw [xQ, if_pos (by omega), zu, Option.bind_some, zo hil, Option.bind_some, yb (by omega), yR hil, List.all_cons]
  by_cases h1 : ((a[i].toNat : Nat) : Int) < 97
  ·exact ⟨0, by rw [if_pos h1, if_neg]; simp [inB]; omega⟩
  ·rw [if_neg h1]
   by_cases h2 : (122 : Int) < ((a[i].toNat : Nat) : Int)
   ·exact ⟨0, by rw [if_pos h2, if_neg]; simp [inB]; omega⟩
   ·rw [if_neg h2, show inB 97 122 a[i] = true by simp [inB]; omega, Bool.true_and]
    exact ih (i + 1) m (by omega) (by omega)
theorem M8 (a b c : Int) : wa a b c = some (decide (b <= a ∧ a <= c)) := by
 unfold wa
 by_cases h : b <= a
 ·rw [if_pos h]; simp [h]
 ·rw [if_neg h]; simp [h]
def xc (a0 : (List UInt8)) : Option Bool := if a0.length <= 2 ^ 20 then some (y5 a0) else none
theorem Jd (a0 : (List UInt8)) (r : Bool) (h : xc a0 = some r) : ∃ n, Zm n a0 = some r := by
 unfold xc at h
 obtain ⟨ha, h⟩ := yl h
 refine ⟨a0.length + 1, ?_⟩
 obtain ⟨z, hz⟩ := Jc ha a0.length 0 (a0.length + 1) (by omega) (by omega)
 rw [show ((0 : Nat) : Int) = 0 from rfl, List.drop_zero] at hz
 unfold Zm
 rw [<- h, hz]
 unfold y5
 have hd : decide (1 <= a0.length ∧ a0.length <= 8) = decide ((1 : Int) <= (a0.length : Int) ∧ (a0.length : Int) <= 8) := decide_eq_decide.2 (by omega)
 rw [hd]
 cases a0.all (inB 97 122)
 ·rw [Bool.and_false]; rfl
 ·rw [Bool.and_true]
  simp only [if_true, Option.bind_some, M8]
theorem qm : XJ xc := fun a0 r h => (Jd a0 r h).elim fun n hn => Rr n a0 r hn
def kz : Option (List (List UInt8)) :=
 some [[110, 117, 108, 108], [116, 114, 117, 101], [102, 97, 108, 115, 101], [105, 110, 100, 101, 120], [107, 101, 121], [118, 97, 108], [108, 111, 99, 97, 108], [114, 101, 115], [111, 117, 116], [99, 111, 117, 110, 116], [101, 97, 99, 104]]
theorem Qr : Oc kz 109 [] [] fun r => (.val false [.own 1 (eL qX r)], []) := tc (
 .ret [[110, 117, 108, 108], [116, 114, 117, 101], [102, 97, 108, 115, 101], [105, 110, 100, 101, 120], [107, 101, 121], [118, 97, 108], [108, 111, 99, 97, 108], [114, 101, 115], [111, 117, 116], [99, 111, 117, 110, 116], [101, 97, 99, 104]]) (zs Try.func109)
def kK (F : (List (List UInt8)) → (List UInt8) → Option Int) : Prop := ∀ (a0 : (List (List UInt8))) (a1 : (List UInt8)), Oc (F a0 a1) 124 [] [vq qX a0, vs a1] fun r => (vi r, [])
def yk (a0 : (List (List UInt8))) (a1 : (List UInt8)) (v2 : Int) : Nat → Int → Option (Int ⊕ Int)
  | 0, _ => none
  | m + 1, v3 =>
  if v3 < v2 then
   (zT v3).bind fun i2 =>
   (a0[i2]?).bind fun x3 =>
   if a1 = x3 then
    some (.inl v3)
   else
   yk a0 a1 v2 m (w64 (v3 + 1))
  else
  some (.inr v3)
theorem Z3 (a0 : (List (List UInt8))) (a1 : (List UInt8)) (v2 : Int) (m : Nat) : ∀ (v3 : Int), Ol (yk a0 a1 v2 m v3) 124 (zY Try.f124 0) ⟨[(0, vq qX a0), (1, vs a1), (7, vi v2), (8, vi v3)], [], 0⟩ fun o => match o with | .inl o_0 => (.ret, ⟨[(4, vi o_0)], [], 0⟩) | .inr (o_1) => (.exit 0, ⟨[(0, vq qX a0), (1, vs a1), (7, vi v2), (8, vi o_1), (9, vb false)], [], 0⟩) := by
  induction m with
  | zero => intro v3 o h; cases h
  | succ m ih => exact fun v3 => tlp (
   .lI v3 v2 (fun c1 =>
    .na v3 fun i2 =>
    .ix0 qX a0 i2 fun x3 =>
    .sI a1 x3 (fun c4 =>
     .ret (.inl v3)) fun c4 =>
    .go (ih (w64 (v3 + 1)))) fun c1 =>
   .ret (.inr v3))
def qn (n : Nat) (a0 : (List (List UInt8))) (a1 : (List UInt8)) : Option Int :=
 (yk a0 a1 (a0.length : Int) n 0).bind fun o1 =>
 match o1 with
 | .inl o1_0 =>
  some o1_0
 | .inr (o1_1) =>
  some (-1)
theorem YO (n : Nat) : kK (qn n) := fun a0 a1 => tc (
 .le qX a0 <|
 .l2 (Z3 a0 a1 (a0.length : Int) n 0) (fun o1_0 =>
  .ret o1_0) fun o1_1 =>
 .ret (-1)) (zs Try.func124)
def ixF (a : List UInt8) : List (List UInt8) → Nat → Int
 | [], _ => -1
 | x :: r, i => if a = x then (i : Int) else ixF a r (i + 1)
theorem Nt (a : List UInt8) (l : List (List UInt8)) (i : Nat) : decide (0 <= ixF a l i) = l.any fun w => decide (w = a) := by
 induction l generalizing i with
 | nil => rfl
 | cons x l ih =>
  rw [ixF, List.any_cons]
  by_cases h : a = x
  ·rw [if_pos h, decide_eq_true h.symm, Bool.true_or]; exact decide_eq_true (by omega)
  ·rw [if_neg h, show decide (x = a) = false from decide_eq_false fun e => h e.symm, Bool.false_or]; exact ih _
theorem P5 {a : List UInt8} {l : List (List UInt8)} (hl : l.length <= 2 ^ 20) : ∀ (d i m : Nat), i + d = l.length → d < m → ∃ z, yk l a (l.length : Int) m (i : Int) = some (if 0 <= ixF a (l.drop i) i then .inl (ixF a (l.drop i) i) else .inr z) := by
 intro d
 induction d with
 | zero =>
  intro i m hi hm
  obtain ⟨m, rfl, _⟩ := zl hm
  exact ⟨_, by rw [yk, if_neg (by omega), List.drop_eq_nil_of_le (by omega)]; rfl⟩
 | succ d ih =>
  intro i m hi hm
  obtain ⟨m, rfl, hm'⟩ := zl hm
  have hil : i < l.length := by omega
  rw [yk, if_pos (by omega), zu, Option.bind_some, zo hil, Option.bind_some, yb (by omega), yR hil, ixF]
  by_cases h : a = l[i]
  ·exact ⟨0, by rw [if_pos h, if_pos h, if_pos (by omega)]⟩
  ·rw [if_neg h, if_neg h]
   exact ih (i + 1) m (by omega) (by omega)
def xh (a0 : (List (List UInt8))) (a1 : (List UInt8)) : Option Int := if a0.length <= 2 ^ 20 then some (ixF a1 a0 0) else none
theorem ZS (a0 : (List (List UInt8))) (a1 : (List UInt8)) (r : Int) (h : xh a0 a1 = some r) : ∃ n, qn n a0 a1 = some r := by
 unfold xh at h
 obtain ⟨ha, h⟩ := yl h
 obtain ⟨z, hz⟩ := P5 (a := a1) ha a0.length 0 (a0.length + 1) (by omega) (by omega)
 rw [show ((0 : Nat) : Int) = 0 from rfl, List.drop_zero] at hz
 refine ⟨a0.length + 1, ?_⟩
 unfold qn
 rw [hz, <- h]
 have hm : ∀ (l : List (List UInt8)) (i : Nat), ixF a1 l i = -1 ∨ 0 <= ixF a1 l i := fun l => by
  induction l with
  | nil => exact fun i => .inl rfl
  | cons x l ih => intro i; rw [ixF]; split; exact .inr (by omega); exact ih _
 rcases hm a0 0 with h | h
 ·rw [h]; rfl
 ·rw [if_pos h]; rfl
theorem YA : kK xh := fun a0 a1 r h => (ZS a0 a1 r h).elim fun n hn => YO n a0 a1 r hn
def wx (a0 : (List (List UInt8))) (a1 : (List UInt8)) : Option Bool :=
 (xh a0 a1).bind fun r1 =>
 some (decide (0 <= r1))
theorem Z4 (a0 : (List (List UInt8))) (a1 : (List UInt8)) : Oc (wx a0 a1) 108 [] [vq qX a0, vs a1] fun r => (vb r, []) := tc (
 .cl (YA a0 a1) fun r1 =>
 .gD 0 r1 <|
 .ret (decide (0 <= r1))) (zs Try.func108)
def wD (a0 : (List UInt8)) : Option Bool :=
 (xc a0).bind fun r1 =>
 match r1 with
 | true =>
  (kz).bind fun r2 =>
  (wx r2 a0).bind fun r3 =>
  some (!r3)
 | false =>
  some false
theorem v8 (a0 : (List UInt8)) : Oc (wD a0) 89 [] [vq za a0] fun r => (vb r, []) := tc (
 .cl (qm a0) fun r1 =>
 .vM 0 r1 (
  .cl (Qr) fun r2 =>
  .az 0 1 <|
  .az 0 1 <|
  .bt a0 <|
  .az 0 1 <|
  .vw Hm r2 <|
  .cl (Z4 r2 a0) fun r3 =>
  .az 0 2 <|
  .az 0 2 <|
  .ret (!r3)) <|
 .az 0 0 <|
 .az 0 0 <|
 .az 0 0 <|
 .az 0 0 <|
 .az 0 0 <|
 .ret false) (zs Try.func89)
def ja (a0 : (List UInt8)) (a1 : (List UInt8)) : Option Int :=
 (qP a0 a1).bind fun r1 =>
 some r1
theorem ZT (a0 : (List UInt8)) (a1 : (List UInt8)) : Oc (ja a0 a1) 68 [] [vq za a0, vq za a1] fun r => (vi r, []) := tc (
 .cl (vW a0 a1) fun r1 =>
 .ret r1) (zs Try.func68)
end
end Go.Am.Try
