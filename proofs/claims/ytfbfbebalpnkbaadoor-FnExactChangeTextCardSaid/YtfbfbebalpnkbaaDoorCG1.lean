/- The functions of the program in plain Lean, and that the machine answers as they do; conditions at each theorem. -/
import Derived.Test.YtfbfbebalpnkbaaDoorCP1
set_option linter.unusedVariables false
set_option linter.unusedSimpArgs false
namespace Go.Am.Try
open Go.Am Go.Proofs
set_option linter.unusedVariables false
set_option maxRecDepth 20000
set_option maxHeartbeats 2000000
noncomputable section
def wB (a0 : (List UInt8)) (a1 : Int) : Option Int :=
 if (w64 (a1 - (a0.length : Int))) < 0 then
  some (-1)
 else
 some (w64 (a1 - (a0.length : Int)))
theorem vh (a0 : (List UInt8)) (a1 : Int) : Oc (wB a0 a1) 44 [] [vq za a0, vi a1] fun r => (vi r, []) := tc (
 .le za a0 <|
 .lI (w64 (a1 - (a0.length : Int))) 0 (fun c1 =>
  .ret (-1)) fun c1 =>
 .ret (w64 (a1 - (a0.length : Int)))) (zr Tryd.func44)
def qT (a0 : GStep) (a1 : Int) : Option Int :=
 (wB a0.Key a1).bind fun r1 =>
 if r1 < 0 then
  some (-1)
 else
 some r1
theorem Vw (a0 : GStep) (a1 : Int) : Oc (qT a0 a1) 43 [] [.val true (jf a0), vi a1] fun r => (vi r, []) := tc (
 .cl (vh a0.Key a1) fun r1 =>
 .lI r1 0 (fun c2 =>
  .ret (-1)) fun c2 =>
 .ret r1) (zr Tryd.func43)
def YM (F : (List GStep) → Int → Option Int) : Prop := ∀ (a0 : (List GStep)) (a1 : Int), Oc (F a0 a1) 20 [] [vq zb a0, vi a1] fun r => (vi r, [])
def xD (a0 : (List GStep)) : Nat → Int → Int → Option (Int ⊕ (Int × Int))
  | 0, _, _ => none
  | m + 1, v1, v2 =>
  if v2 < (a0.length : Int) then
   (z7 v2).bind fun i2 =>
   (a0[i2]?).bind fun x3 =>
   (qT x3 v1).bind fun r4 =>
   if r4 < 0 then
    some (.inl (-1))
   else
   xD a0 m r4 (w64 (v2 + 1))
  else
  some (.inr (v1, v2))
theorem WD (a0 : (List GStep)) (m : Nat) : ∀ (v1 : Int) (v2 : Int), Ol (xD a0 m v1 v2) 20 (ye Tryd.f20 0) ⟨[(0, vq zb a0), (1, vi v1), (5, vi v2)], [], 0⟩ fun o => match o with | .inl o_0 => (.ret, ⟨[(4, vi o_0)], [], 0⟩) | .inr (⟨o_1_0, o_1_1⟩) => (.exit 0, ⟨[(0, vq zb a0), (1, vi o_1_0), (5, vi o_1_1), (15, vb false)], [], 0⟩) := by
  induction m with
  | zero => intro v1 v2 o h; cases h
  | succ m ih => exact fun v1 v2 => tlp (
   .le zb a0 <|
   .lI v2 (a0.length : Int) (fun c1 =>
    .na v2 fun i2 =>
    .ix yv a0 i2 fun x3 =>
    .cl (Vw x3 v1) fun r4 =>
    .lI r4 0 (fun c5 =>
     .ret (.inl (-1))) fun c5 =>
    .go (ih r4 (w64 (v2 + 1)))) fun c1 =>
   .ret (.inr (v1, v2)))
def vG (n : Nat) (a0 : (List GStep)) (a1 : Int) : Option Int :=
 if (w64 (a1 - (a0.length : Int))) < 0 then
  some (-1)
 else
 (xD a0 n (w64 (a1 - (a0.length : Int))) 0).bind fun o2 =>
 match o2 with
 | .inl o2_0 =>
  some o2_0
 | .inr (⟨o2_1_0, o2_1_1⟩) =>
  some o2_1_0
theorem Vx (n : Nat) : YM (vG n) := fun a0 a1 => tc (
 .le zb a0 <|
 .lI (w64 (a1 - (a0.length : Int))) 0 (fun c1 =>
  .ret (-1)) fun c1 =>
 .l2 (WD a0 n (w64 (a1 - (a0.length : Int))) 0) (fun o2_0 =>
  .ret o2_0) fun ⟨o2_1_0, o2_1_1⟩ =>
 .ret o2_1_0) (zr Tryd.func20)
theorem X0 {a : List UInt8} {n : Int} (h : a.length <= 2 ^ 63 - 1) (h0 : 0 <= n) (h1 : n <= 2 ^ 20) : wB a n = some (if (a.length : Int) <= n then n - a.length else -1) := by
 unfold wB
 rw [yD (by omega) (by omega)]
 by_cases hc : (a.length : Int) <= n
 ·rw [if_neg (by omega), if_pos hc]
 ·rw [if_pos (by omega), if_neg hc]
def Uh (e : GStep) : Prop := e.Key.length <= 2 ^ 63 - 1
def Z8 : List GStep → Prop
 | [] => True
 | v :: l => Uh v ∧ Z8 l
theorem Lv {l : List GStep} (h : Z8 l) {v : GStep} (hv : v ∈ l) : Uh v := by
 induction l with
 | nil => cases hv
 | cons x l ih =>
  simp only [Z8] at h
  rcases List.mem_cons.1 hv with rfl | hv
  ·exact h.1
  ·exact ih h.2 hv
def km (l : List GStep) : Nat := (l.map wA).sum
theorem MM (l : List GStep) : zW l = l.length + km l := by
 unfold km
 induction l with
 | nil => rfl
 | cons v l ih => simp only [zW, ih, List.length_cons, List.map_cons, List.sum_cons]; omega
theorem Ui {a : List GStep} (ha : a.length <= 2 ^ 20) (hG : ∀ v ∈ a, ∀ n : Int, 0 <= n → n <= 2 ^ 20 → qT v n = some (wa (wA v) n)) : ∀ (d i m : Nat) (r : Int), i + d = a.length → d < m → 0 <= r → r <= 2 ^ 20 →
  ∃ z, xD a m r (i : Int) = some (if (km (a.drop i) : Int) <= r then .inr (r - km (a.drop i), z) else .inl (-1)) := by
 intro d
 induction d with
 | zero =>
  intro i m r hi hm h0 h1
  obtain ⟨m, rfl, _⟩ := zo hm
  refine ⟨(i : Int), ?_⟩
  rw [xD, if_neg (by omega), List.drop_eq_nil_of_le (by omega)]
  simp only [km, List.map_nil, List.sum_nil]
  rw [if_pos (by simpa using h0)]; simp
 | succ d ih =>
  intro i m r hi hm h0 h1
  obtain ⟨m, rfl, hm'⟩ := zo hm
  have hil : i < a.length := by omega
  rw [xD, if_pos (by omega), zg, Option.bind_some, zw hil, Option.bind_some, hG _ (List.getElem_mem hil) r h0 h1, Option.bind_some]
  have hv : km (a.drop i) = wA a[i] + km (a.drop (i + 1)) := by simp only [km, xL hil, List.map_cons, List.sum_cons]
  rw [hv]
  unfold wa
  by_cases hc : (wA a[i] : Int) <= r
  ·rw [if_pos hc, if_neg (by omega), yf (by omega)]
   obtain ⟨z, hz⟩ := ih (i + 1) m (r - wA a[i]) (by omega) (by omega) (by omega) (by omega)
   refine ⟨z, ?_⟩
   rw [hz]
   by_cases hd : (km (a.drop (i + 1)) : Int) <= r - wA a[i]
   ·rw [if_pos hd, if_pos (by omega)]; congr 3; omega
   ·rw [if_neg hd, if_neg (by omega)]
  ·refine ⟨0, ?_⟩
   rw [if_neg hc, if_pos (by omega), if_neg (by omega)]
theorem Lw {v : GStep} {n : Int} (h : Uh v) (h0 : 0 <= n) (h1 : n <= 2 ^ 20) : qT v n = some (wa (wA v) n) := by
 unfold qT
 rw [X0 h h0 h1, Option.bind_some]
 unfold wa wA
 by_cases c1 : (v.Key.length : Int) <= n
 ·rw [if_pos c1, if_neg (by omega)]
 ·rw [if_neg c1, if_pos (by omega)]
open Classical in
noncomputable def q7 (a0 : (List GStep)) (a1 : Int) : Option Int := if a0.length <= 2 ^ 63 - 1 ∧ Z8 a0 ∧ 0 <= a1 ∧ a1 <= 2 ^ 20 then some (wa (zW a0) a1) else none
theorem Q7 (a0 : (List GStep)) (a1 : Int) (r : Int) (h : q7 a0 a1 = some r) : ∃ n, vG n a0 a1 = some r := by
 unfold q7 at h
 obtain ⟨⟨hl, hm, h0, h1⟩, h⟩ := zM h
 refine ⟨a0.length + 5, ?_⟩
 unfold vG
 rw [<- h, yD (by omega) (by omega), MM]
 unfold wa
 by_cases hc : (a0.length : Int) <= a1
 ·rw [if_neg (by omega)]
  obtain ⟨z, hz⟩ := Ui (a := a0) (by omega) (fun v hv n h0 h1 => Lw (Lv hm hv) h0 h1) a0.length 0 (a0.length + 5) (a1 - a0.length) (by omega) (by omega) (by omega) (by omega)
  rw [show ((0 : Nat) : Int) = 0 from rfl] at hz
  rw [hz]
  simp only [List.drop_zero]
  by_cases hd : (km a0 : Int) <= a1 - a0.length
  ·rw [if_pos hd, if_pos (by omega)]
   simp only [Option.bind_some]; congr 1; omega
  ·rw [if_neg hd, if_neg (by omega)]; rfl
 ·rw [if_pos (by omega), if_neg (by omega)]
theorem Kr : YM q7 := fun a0 a1 r h => (Q7 a0 a1 r h).elim fun n hn => Vx n a0 a1 r hn
def Yv (F : (List (List UInt8)) → Int → Option Int) : Prop := ∀ (a0 : (List (List UInt8))) (a1 : Int), Oc (F a0 a1) 45 [] [vq (zL za) a0, vi a1] fun r => (vi r, [])
def xi (a0 : (List (List UInt8))) : Nat → Int → Int → Option (Int ⊕ (Int × Int))
  | 0, _, _ => none
  | m + 1, v1, v2 =>
  if v2 < (a0.length : Int) then
   (z7 v2).bind fun i2 =>
   (a0[i2]?).bind fun x3 =>
   (wB x3 v1).bind fun r4 =>
   if r4 < 0 then
    some (.inl (-1))
   else
   xi a0 m r4 (w64 (v2 + 1))
  else
  some (.inr (v1, v2))
theorem XW (a0 : (List (List UInt8))) (m : Nat) : ∀ (v1 : Int) (v2 : Int), Ol (xi a0 m v1 v2) 45 (ye Tryd.f45 0) ⟨[(0, vq (zL za) a0), (1, vi v1), (5, vi v2)], [], 0⟩ fun o => match o with | .inl o_0 => (.ret, ⟨[(4, vi o_0)], [], 0⟩) | .inr (⟨o_1_0, o_1_1⟩) => (.exit 0, ⟨[(0, vq (zL za) a0), (1, vi o_1_0), (5, vi o_1_1), (15, vb false)], [], 0⟩) := by
  induction m with
  | zero => intro v1 v2 o h; cases h
  | succ m ih => exact fun v1 v2 => tlp (
   .le (zL za) a0 <|
   .lI v2 (a0.length : Int) (fun c1 =>
    .na v2 fun i2 =>
    .ix0 (zL za) a0 i2 fun x3 =>
    .cl (vh x3 v1) fun r4 =>
    .lI r4 0 (fun c5 =>
     .ret (.inl (-1))) fun c5 =>
    .go (ih r4 (w64 (v2 + 1)))) fun c1 =>
   .ret (.inr (v1, v2)))
def jl (n : Nat) (a0 : (List (List UInt8))) (a1 : Int) : Option Int :=
 if (w64 (a1 - (a0.length : Int))) < 0 then
  some (-1)
 else
 (xi a0 n (w64 (a1 - (a0.length : Int))) 0).bind fun o2 =>
 match o2 with
 | .inl o2_0 =>
  some o2_0
 | .inr (⟨o2_1_0, o2_1_1⟩) =>
  some o2_1_0
theorem Ks (n : Nat) : Yv (jl n) := fun a0 a1 => tc (
 .le (zL za) a0 <|
 .lI (w64 (a1 - (a0.length : Int))) 0 (fun c1 =>
  .ret (-1)) fun c1 =>
 .l2 (XW a0 n (w64 (a1 - (a0.length : Int))) 0) (fun o2_0 =>
  .ret o2_0) fun ⟨o2_1_0, o2_1_1⟩ =>
 .ret o2_1_0) (zr Tryd.func45)
def MdB (k : List (List UInt8)) : Prop := k.length <= 2 ^ 63 - 1 ∧ ∀ b ∈ k, b.length <= 2 ^ 63 - 1
theorem RE {a : List (List UInt8)} (ha : a.length <= 2 ^ 20) (hb : ∀ b ∈ a, b.length <= 2 ^ 63 - 1) : ∀ (d i m : Nat) (r : Int), i + d = a.length → d < m → 0 <= r → r <= 2 ^ 20 →
  ∃ z, xi a m r (i : Int) = some (if (((a.drop i).map List.length).sum : Int) <= r then .inr (r - ((a.drop i).map List.length).sum, z) else .inl (-1)) := by
 intro d
 induction d with
 | zero =>
  intro i m r hi hm h0 h1
  obtain ⟨m, rfl, _⟩ := zo hm
  refine ⟨(i : Int), ?_⟩
  rw [xi, if_neg (by omega), List.drop_eq_nil_of_le (by omega)]
  rw [List.map_nil, List.sum_nil, if_pos (by simpa using h0)]; simp
 | succ d ih =>
  intro i m r hi hm h0 h1
  obtain ⟨m, rfl, hm'⟩ := zo hm
  have hil : i < a.length := by omega
  have hx := hb a[i] (List.getElem_mem hil)
  rw [xi, if_pos (by omega), zg, Option.bind_some, zw hil, Option.bind_some, X0 hx h0 h1, Option.bind_some]
  rw [xL hil, List.map_cons, List.sum_cons]
  by_cases hc : ((a[i]).length : Int) <= r
  ·rw [if_pos hc, if_neg (by omega), yf (by omega)]
   obtain ⟨z, hz⟩ := ih (i + 1) m (r - (a[i]).length) (by omega) (by omega) (by omega) (by omega)
   refine ⟨z, ?_⟩
   rw [hz]
   by_cases hd : (((a.drop (i + 1)).map List.length).sum : Int) <= r - (a[i]).length
   ·rw [if_pos hd, if_pos (by omega)]; congr 3; omega
   ·rw [if_neg hd, if_neg (by omega)]
  ·refine ⟨0, ?_⟩
   rw [if_neg hc, if_pos (by omega), if_neg (by omega)]
theorem Uj {a : List (List UInt8)} {n : Int} (h : MdB a ∧ 0 <= n ∧ n <= 2 ^ 20) : jl (a.length + 1) a n = some (if (bsz a : Int) <= n then n - bsz a else -1) := by
 obtain ⟨⟨ha, hb⟩, h0, h1⟩ := h
 unfold jl
 rw [yD (by omega) (by omega)]
 unfold bsz
 by_cases hc : (a.length : Int) <= n
 ·rw [if_neg (by omega)]
  obtain ⟨z, hz⟩ := RE (by omega) hb a.length 0 (a.length + 1) (n - a.length) (by omega) (by omega) (by omega) (by omega)
  rw [show ((0 : Nat) : Int) = 0 from rfl] at hz
  rw [hz]
  simp only [List.drop_zero]
  by_cases hd : ((a.map List.length).sum : Int) <= n - a.length
  ·rw [if_pos hd, if_pos (by omega)]
   simp only [Option.bind_some]; congr 1; omega
  ·rw [if_neg hd, if_neg (by omega)]; rfl
 ·rw [if_pos (by omega), if_neg (by omega)]
open Classical in
noncomputable def qd (a0 : (List (List UInt8))) (a1 : Int) : Option Int := if MdB a0 ∧ 0 <= a1 ∧ a1 <= 2 ^ 20 then some (if (bsz a0 : Int) <= a1 then a1 - bsz a0 else -1) else none
theorem WE (a0 : (List (List UInt8))) (a1 : Int) (r : Int) (h : qd a0 a1 = some r) : ∃ n, jl n a0 a1 = some r := by
 unfold qd at h
 obtain ⟨hp, h⟩ := zM h
 exact ⟨_, by rw [<- h]; exact Uj hp⟩
theorem Jp : Yv qd := fun a0 a1 r h => (WE a0 a1 r h).elim fun n hn => Ks n a0 a1 r hn
def jm (F : (List GValue) → Int → Option Int) : Prop := ∀ (a0 : (List GValue)) (a1 : Int), Oc (F a0 a1) 46 [] [vq zd a0, vi a1] fun r => (vi r, [])
def q8 (F : GValue → Int → Option Int) : Prop := ∀ (a0 : GValue) (a1 : Int), Oc (F a0 a1) 21 [] [.val true (zH a0), vi a1] fun r => (vi r, [])
def xj (G_laws_szValue : GValue → Int → Option Int) (a0 : (List GValue)) : Nat → Int → Int → Option (Int ⊕ (Int × Int))
  | 0, _, _ => none
  | m + 1, v1, v2 =>
  if v2 < (a0.length : Int) then
   (z7 v2).bind fun i2 =>
   (a0[i2]?).bind fun x3 =>
   (G_laws_szValue x3 v1).bind fun r4 =>
   if r4 < 0 then
    some (.inl (-1))
   else
   xj G_laws_szValue a0 m r4 (w64 (v2 + 1))
  else
  some (.inr (v1, v2))
theorem XX (G_laws_szValue : GValue → Int → Option Int) (H_laws_szValue : q8 G_laws_szValue) (a0 : (List GValue)) (m : Nat) : ∀ (v1 : Int) (v2 : Int), Ol (xj G_laws_szValue a0 m v1 v2) 46 (ye Tryd.f46 0) ⟨[(0, vq zd a0), (1, vi v1), (5, vi v2)], [], 0⟩ fun o => match o with | .inl o_0 => (.ret, ⟨[(4, vi o_0)], [], 0⟩) | .inr (⟨o_1_0, o_1_1⟩) => (.exit 0, ⟨[(0, vq zd a0), (1, vi o_1_0), (5, vi o_1_1), (15, vb false)], [], 0⟩) := by
  induction m with
  | zero => intro v1 v2 o h; cases h
  | succ m ih => exact fun v1 v2 => tlp (
   .le zd a0 <|
   .lI v2 (a0.length : Int) (fun c1 =>
    .na v2 fun i2 =>
    .ix zU a0 i2 fun x3 =>
    .cl (H_laws_szValue x3 v1) fun r4 =>
    .lI r4 0 (fun c5 =>
     .ret (.inl (-1))) fun c5 =>
    .go (ih r4 (w64 (v2 + 1)))) fun c1 =>
   .ret (.inr (v1, v2)))
def jn (G_laws_szValue : GValue → Int → Option Int) (n : Nat) (a0 : (List GValue)) (a1 : Int) : Option Int :=
 if (w64 (a1 - (a0.length : Int))) < 0 then
  some (-1)
 else
 (xj G_laws_szValue a0 n (w64 (a1 - (a0.length : Int))) 0).bind fun o2 =>
 match o2 with
 | .inl o2_0 =>
  some o2_0
 | .inr (⟨o2_1_0, o2_1_1⟩) =>
  some o2_1_0
theorem Kt (G_laws_szValue : GValue → Int → Option Int) (H_laws_szValue : q8 G_laws_szValue) (n : Nat) : jm (jn G_laws_szValue n) := fun a0 a1 => tc (
 .le zd a0 <|
 .lI (w64 (a1 - (a0.length : Int))) 0 (fun c1 =>
  .ret (-1)) fun c1 =>
 .l2 (XX G_laws_szValue H_laws_szValue a0 n (w64 (a1 - (a0.length : Int))) 0) (fun o2_0 =>
  .ret o2_0) fun ⟨o2_1_0, o2_1_1⟩ =>
 .ret o2_1_0) (zr Tryd.func46)
def vH (G_laws_szValueS : (List GValue) → Int → Option Int) (a0 : GValue) (a1 : Int) : Option Int :=
 (wB a0.S a1).bind fun r1 =>
 if r1 < 0 then
  some (-1)
 else
 (qd a0.K r1).bind fun r3 =>
 if r3 < 0 then
  some (-1)
 else
 (G_laws_szValueS a0.L r3).bind fun r5 =>
 if r5 < 0 then
  some (-1)
 else
 some r5
theorem Vy (G_laws_szValueS : (List GValue) → Int → Option Int) (H_laws_szValueS : jm G_laws_szValueS) : q8 (vH G_laws_szValueS) := fun a0 a1 => tc (
 .cl (vh a0.S a1) fun r1 =>
 .lI r1 0 (fun c2 =>
  .ret (-1)) fun c2 =>
 .cl (Jp a0.K r1) fun r3 =>
 .lI r3 0 (fun c4 =>
  .ret (-1)) fun c4 =>
 .cl (H_laws_szValueS a0.L r3) fun r5 =>
 .lI r5 0 (fun c6 =>
  .ret (-1)) fun c6 =>
 .ret r5) (zr Tryd.func21)
mutual
def yQ : Nat → (List GValue) → Int → Option Int
 | 0, _, _ => none
 | n + 1, a0, a1 => jn (xl n) n a0 a1
def xl : Nat → GValue → Int → Option Int
 | 0, _, _ => none
 | n + 1, a0, a1 => vH (yQ n) a0 a1
end
theorem Zv (n : Nat) : jm (yQ n) ∧ q8 (xl n) := by
 induction n with
 | zero => exact ⟨fun _ _ _ h => (by rw [yQ] at h; cases h), fun _ _ _ h => (by rw [xl] at h; cases h)⟩
 | succ n ih =>
  obtain ⟨ih_laws_szValueS, ih_laws_szValue⟩ := ih
  exact ⟨fun a0 a1 r h => Kt (xl n) ih_laws_szValue n a0 a1 r (by rw [yQ] at h; exact h),
   fun a0 a1 r h => Vy (yQ n) ih_laws_szValueS a0 a1 r (by rw [xl] at h; exact h)⟩
mutual
def MdV : GValue → Prop
 | .mk _ _ s k l => s.length <= 2 ^ 63 - 1 ∧ MdB k ∧ l.length <= 2 ^ 63 - 1 ∧ X1 l
def X1 : List GValue → Prop
 | [] => True
 | v :: l => MdV v ∧ X1 l
end
theorem Uk {l : List GValue} (h : X1 l) {v : GValue} (hv : v ∈ l) : MdV v := by
 induction l with
 | nil => cases hv
 | cons x l ih =>
  simp only [X1] at h
  rcases List.mem_cons.1 hv with rfl | hv
  ·exact h.1
  ·exact ih h.2 hv
theorem Lx (v : GValue) : MdV v = (v.S.length <= 2 ^ 63 - 1 ∧ MdB v.K ∧ v.L.length <= 2 ^ 63 - 1 ∧ X1 v.L) := by cases v; simp only [MdV, GValue.S, GValue.K, GValue.L]
def vin (l : List GValue) : Nat := (l.map vsz).sum
theorem MN (l : List GValue) : yw l = l.length + vin l := by
 unfold vin
 induction l with
 | nil => rfl
 | cons v l ih => simp only [yw, ih, List.length_cons, List.map_cons, List.sum_cons]; omega
theorem RF {G : GValue → Int → Option Int} {a : List GValue} (ha : a.length <= 2 ^ 20) (hG : ∀ v ∈ a, ∀ n : Int, 0 <= n → n <= 2 ^ 20 → G v n = some (wa (vsz v) n)) : ∀ (d i m : Nat) (r : Int), i + d = a.length → d < m → 0 <= r → r <= 2 ^ 20 →
  ∃ z, xj G a m r (i : Int) = some (if (vin (a.drop i) : Int) <= r then .inr (r - vin (a.drop i), z) else .inl (-1)) := by
 intro d
 induction d with
 | zero =>
  intro i m r hi hm h0 h1
  obtain ⟨m, rfl, _⟩ := zo hm
  refine ⟨(i : Int), ?_⟩
  rw [xj, if_neg (by omega), List.drop_eq_nil_of_le (by omega)]
  simp only [vin, List.map_nil, List.sum_nil]
  rw [if_pos (by simpa using h0)]; simp
 | succ d ih =>
  intro i m r hi hm h0 h1
  obtain ⟨m, rfl, hm'⟩ := zo hm
  have hil : i < a.length := by omega
  rw [xj, if_pos (by omega), zg, Option.bind_some, zw hil, Option.bind_some, hG _ (List.getElem_mem hil) r h0 h1, Option.bind_some]
  have hv : vin (a.drop i) = vsz a[i] + vin (a.drop (i + 1)) := by simp only [vin, xL hil, List.map_cons, List.sum_cons]
  rw [hv]
  unfold wa
  by_cases hc : (vsz a[i] : Int) <= r
  ·rw [if_pos hc, if_neg (by omega), yf (by omega)]
   obtain ⟨z, hz⟩ := ih (i + 1) m (r - vsz a[i]) (by omega) (by omega) (by omega) (by omega)
   refine ⟨z, ?_⟩
   rw [hz]
   by_cases hd : (vin (a.drop (i + 1)) : Int) <= r - vsz a[i]
   ·rw [if_pos hd, if_pos (by omega)]; congr 3; omega
   ·rw [if_neg hd, if_neg (by omega)]
  ·refine ⟨0, ?_⟩
   rw [if_neg hc, if_pos (by omega), if_neg (by omega)]
theorem Ku {G : GValue → Int → Option Int} {a : List GValue} {f : Nat} {n : Int} (ha : a.length <= 2 ^ 63 - 1) (h0 : 0 <= n) (h1 : n <= 2 ^ 20) (hf : a.length < f ∨ n < a.length) (hG : ∀ v ∈ a, ∀ n : Int, 0 <= n → n <= 2 ^ 20 → G v n = some (wa (vsz v) n)) :
  jn G f a n = some (wa (yw a) n) := by
 unfold jn
 rw [yD (by omega) (by omega), MN]
 unfold wa
 by_cases hc : (a.length : Int) <= n
 ·rw [if_neg (by omega)]
  obtain ⟨z, hz⟩ := RF (G := G) (by omega) hG a.length 0 f (n - a.length) (by omega) (by omega) (by omega) (by omega)
  rw [show ((0 : Nat) : Int) = 0 from rfl] at hz
  rw [hz]
  simp only [List.drop_zero]
  by_cases hd : (vin a : Int) <= n - a.length
  ·rw [if_pos hd, if_pos (by omega)]
   simp only [Option.bind_some]; congr 1; omega
  ·rw [if_neg hd, if_neg (by omega)]; rfl
 ·rw [if_pos (by omega), if_neg (by omega)]
theorem Rs : ∀ (N : Nat) (v : GValue), vsz v < N → MdV v → ∀ (f : Nat) (n : Int), 2 * vsz v + 3 <= f → 0 <= n → n <= 2 ^ 20 → xl f v n = some (wa (vsz v) n) := by
 intro N
 induction N with
 | zero => intro v hv; omega
 | succ N ih =>
  intro v hv hmd f n hf h0 h1
  obtain ⟨f, rfl, _⟩ := zo (show 0 < f by omega)
  rw [Lx] at hmd
  have he := xR v
  have hl := yC v.L
  obtain ⟨f, rfl, _⟩ := zo (show 0 < f by omega)
  rw [xl]
  unfold vH
  rw [X0 hmd.1 h0 h1, Option.bind_some]
  unfold wa
  by_cases c1 : (v.S.length : Int) <= n
  ·rw [if_pos c1, if_neg (by omega)]
   unfold qd
   rw [if_pos ⟨hmd.2.1, by omega, by omega⟩, Option.bind_some]
   by_cases c2 : (bsz v.K : Int) <= n - v.S.length
   ·rw [if_pos c2, if_neg (by omega)]
    rw [yQ, Ku hmd.2.2.1 (by omega) (by omega) (.inl (by omega)) (fun x hx m g0 g1 => ?_), Option.bind_some]
    ·unfold wa
     by_cases c3 : (yw v.L : Int) <= n - v.S.length - bsz v.K
     ·rw [if_pos c3, if_neg (by omega), if_pos (by omega)]; congr 1; omega
     ·rw [if_neg c3, if_pos (by omega), if_neg (by omega)]
    ·have := wy hx
     exact ih x (by omega) (Uk hmd.2.2.2 hx) f m (by omega) g0 g1
   ·rw [if_neg c2, if_pos (by omega), if_neg (by omega)]
  ·rw [if_neg c1, if_pos (by omega), if_neg (by omega)]
open Classical in
noncomputable def vj (a0 : (List GValue)) (a1 : Int) : Option Int := if a0.length <= 2 ^ 63 - 1 ∧ X1 a0 ∧ 0 <= a1 ∧ a1 <= 2 ^ 20 then some (wa (yw a0) a1) else none
theorem WF (a0 : (List GValue)) (a1 : Int) (r : Int) (h : vj a0 a1 = some r) : ∃ n, yQ n a0 a1 = some r := by
 unfold vj at h
 obtain ⟨⟨hl, hm, h0, h1⟩, h⟩ := zM h
 refine ⟨2 * yw a0 + 5, ?_⟩
 have := yC a0
 rw [yQ, Ku hl h0 h1 (.inl (by omega)) fun x hx m g0 g1 => ?_, h]
 have := wy hx
 exact Rs _ x (Nat.lt_succ_self _) (Uk hm hx) _ m (by omega) g0 g1
open Classical in
noncomputable def wC (a0 : GValue) (a1 : Int) : Option Int := if MdV a0 ∧ 0 <= a1 ∧ a1 <= 2 ^ 20 then some (wa (vsz a0) a1) else none
theorem Q8 (a0 : GValue) (a1 : Int) (r : Int) (h : wC a0 a1 = some r) : ∃ n, xl n a0 a1 = some r := by
 unfold wC at h
 obtain ⟨⟨hm, h0, h1⟩, h⟩ := zM h
 exact ⟨2 * vsz a0 + 3, by rw [<- h]; exact Rs _ a0 (Nat.lt_succ_self _) hm _ a1 (Nat.le_refl _) h0 h1⟩
theorem MO : jm vj := by
 intro a0 a1 r h
 obtain ⟨n, hn⟩ := WF a0 a1 r h
 exact (Zv n).1 a0 a1 r hn
theorem Yw : q8 wC := by
 intro a0 a1 r h
 obtain ⟨n, hn⟩ := Q8 a0 a1 r h
 exact (Zv n).2 a0 a1 r hn
def jo (a0 : GChange) (a1 : Int) : Option Int :=
 (q7 a0.Path a1).bind fun r1 =>
 if r1 < 0 then
  some (-1)
 else
 (wC a0.Old r1).bind fun r3 =>
 if r3 < 0 then
  some (-1)
 else
 (wC a0.New r3).bind fun r5 =>
 if r5 < 0 then
  some (-1)
 else
 some r5
theorem Jq (a0 : GChange) (a1 : Int) : Oc (jo a0 a1) 5 [] [.val true (qJ a0), vi a1] fun r => (vi r, []) := tc (
 .cl (Kr a0.Path a1) fun r1 =>
 .lI r1 0 (fun c2 =>
  .ret (-1)) fun c2 =>
 .cl (Yw a0.Old r1) fun r3 =>
 .lI r3 0 (fun c4 =>
  .ret (-1)) fun c4 =>
 .cl (Yw a0.New r3) fun r5 =>
 .lI r5 0 (fun c6 =>
  .ret (-1)) fun c6 =>
 .ret r5) (zr Tryd.func5)
def YN (F : (List UInt8) → Option (List UInt8)) : Prop := ∀ (a0 : (List UInt8)), Oc (F a0) 55 [] [vq za a0] fun r => (.val false [.own 1 (eL za r)], [])
def xE (a0 : (List UInt8)) : Nat → Int → (List UInt8) → Option (Int × (List UInt8))
  | 0, _, _ => none
  | m + 1, v1, v2 =>
  if v1 < (a0.length : Int) then
   (z7 v1).bind fun i2 =>
   (a0[i2]?).bind fun x3 =>
   (v2[i2]?).bind fun x4 =>
   xE a0 m (w64 (v1 + 1)) (v2.set i2 x3)
  else
  some (v1, v2)
theorem WG (a0 : (List UInt8)) (m : Nat) : ∀ (v1 : Int) (v2 : (List UInt8)), Ol (xE a0 m v1 v2) 55 (ye Tryd.f55 0) ⟨[(0, vq za a0), (3, vr 0), (4, vi v1)], [.obj 1 (eL za v2)], 0⟩ fun o => match o with | ⟨o_0, o_1⟩ => (.exit 0, ⟨[(0, vq za a0), (3, vr 0), (4, vi o_0), (11, vb false)], [.obj 1 (eL za o_1)], 0⟩) := by
  induction m with
  | zero => intro v1 v2 o h; cases h
  | succ m ih => exact fun v1 v2 => tlp (
   .le za a0 <|
   .lI v1 (a0.length : Int) (fun c1 =>
    .na v1 fun i2 =>
    .ix0 za a0 i2 fun x3 =>
    .ag 1 <|
    .ix0 za v2 i2 fun x4 =>
    .ag 0 <|
    .sl (e := za) (x := x3) (c := [.int .u8 ((x3.toNat : Nat) : Int)]) rfl v2 i2 <|
    .go (ih (w64 (v1 + 1)) (v2.set i2 x3))) fun c1 =>
   .ret (v1, v2))
def vI (n : Nat) (a0 : (List UInt8)) : Option (List UInt8) :=
 (Z7 1 (a0.length : Int)).bind fun k1 =>
 (xE a0 n 0 (List.replicate k1 0)).bind fun ⟨o2_0, o2_1⟩ =>
 some o2_1
theorem Vz (n : Nat) : YN (vI n) := fun a0 => tc (
 .le za a0 <|
 .q (.eTo (a0.length : Int) (a0.length : Int) rfl) <|
 .md 1 (a0.length : Int) fun k1 =>
 .q ⟨.rep k1 [.int .u8 0], .l (eL za (List.replicate k1 0)), A.rep rfl⟩ <|
 .lp (WG a0 n 0 (List.replicate k1 0)) fun ⟨o2_0, o2_1⟩ =>
 .ret o2_1) (zr Tryd.func55)
theorem Ul {a : List UInt8} (ha : a.length <= 2 ^ 20) : ∀ (d i m : Nat) (v : List UInt8), i + d = a.length → d < m → Pre a v i → ∃ z, xE a m (i : Int) v = some (z, a) := by
 intro d
 induction d with
 | zero =>
  intro i m v hi hm hp
  obtain ⟨m, rfl, _⟩ := zo hm
  exact ⟨_, by rw [xE, if_neg (by omega), hp.done (by omega)]⟩
 | succ d ih =>
  intro i m v hi hm hp
  obtain ⟨m, rfl, hm'⟩ := zo hm
  have hil : i < a.length := by omega
  rw [xE, if_pos (by omega), zg, Option.bind_some, zw hil, Option.bind_some, zw (by rw [hp.1]; exact hil), Option.bind_some, yf (by omega)]
  exact ih (i + 1) m _ (by omega) (by omega) (hp.step hil)
def y8 (a0 : (List UInt8)) : Option (List UInt8) := if a0.length <= 2 ^ 20 then some a0 else none
theorem Q9 (a0 : (List UInt8)) (r : (List UInt8)) (h : y8 a0 = some r) : ∃ n, vI n a0 = some r := by
 unfold y8 at h
 obtain ⟨ha, h⟩ := zM h
 refine ⟨a0.length + 1, ?_⟩
 obtain ⟨z, hz⟩ := Ul ha a0.length 0 (a0.length + 1) (List.replicate a0.length 0) (by omega) (by omega) (Pre.start (by simp))
 unfold vI
 rw [Qz ha (by decide), Option.bind_some, show (0 : Int) = ((0 : Nat) : Int) from rfl, hz]
 exact h
theorem vk : YN y8 := fun a0 r h => (Q9 a0 r h).elim fun n hn => Vz n a0 r hn
def qU (a0 : GStep) : Option GStep :=
 (y8 a0.Key).bind fun r1 =>
 some (GStep.mk a0.Kind r1 a0.I)
theorem V0 (a0 : GStep) : Oc (qU a0) 54 [] [.val true (jf a0)] fun r => (.val true (Pt r), []) := tc (
 .cl (vk a0.Key) fun r1 =>
 .ret (GStep.mk a0.Kind r1 a0.I)) (zr Tryd.func54)
def YO (F : (List GStep) → Option (List GStep)) : Prop := ∀ (a0 : (List GStep)), Oc (F a0) 25 [] [vq zb a0] fun r => (.val false [.own 3 (eL xu r)], [])
def xF (a0 : (List GStep)) : Nat → Int → (List GStep) → Option (Int × (List GStep))
  | 0, _, _ => none
  | m + 1, v1, v2 =>
  if v1 < (a0.length : Int) then
   (z7 v1).bind fun i2 =>
   (a0[i2]?).bind fun x3 =>
   (qU x3).bind fun r4 =>
   (v2[i2]?).bind fun x5 =>
   xF a0 m (w64 (v1 + 1)) (v2.set i2 r4)
  else
  some (v1, v2)
theorem WH (a0 : (List GStep)) (m : Nat) : ∀ (v1 : Int) (v2 : (List GStep)), Ol (xF a0 m v1 v2) 25 (ye Tryd.f25 0) ⟨[(0, vq zb a0), (3, vr 0), (4, vi v1)], [.obj 3 (eL xu v2)], 0⟩ fun o => match o with | ⟨o_0, o_1⟩ => (.exit 0, ⟨[(0, vq zb a0), (3, vr 0), (4, vi o_0), (11, vb false)], [.obj 3 (eL xu o_1)], 0⟩) := by
  induction m with
  | zero => intro v1 v2 o h; cases h
  | succ m ih => exact fun v1 v2 => tlp (
   .le zb a0 <|
   .lI v1 (a0.length : Int) (fun c1 =>
    .na v1 fun i2 =>
    .ix yv a0 i2 fun x3 =>
    .cl (V0 x3) fun r4 =>
    .ag 2 <|
    .ix qm v2 i2 fun x5 =>
    .ag 0 <|
    .sl (qm r4) v2 i2 <|
    .go (ih (w64 (v1 + 1)) (v2.set i2 r4))) fun c1 =>
   .ret (v1, v2))
def vJ (n : Nat) (a0 : (List GStep)) : Option (List GStep) :=
 (Z7 40 (a0.length : Int)).bind fun k1 =>
 (xF a0 n 0 (List.replicate k1 (GStep.mk 0 [] 0))).bind fun ⟨o2_0, o2_1⟩ =>
 some o2_1
theorem V1 (n : Nat) : YO (vJ n) := fun a0 => tc (
 .le zb a0 <|
 .q (.eTo (a0.length : Int) (a0.length : Int) rfl) <|
 .md 40 (a0.length : Int) fun k1 =>
 .q ⟨.rep k1 [.int .i64 0, .own 1 [], .int .i64 0], .l (eL xu (List.replicate k1 (GStep.mk 0 [] 0))), A.rep (qm (GStep.mk 0 [] 0))⟩ <|
 .lp (WH a0 n 0 (List.replicate k1 (GStep.mk 0 [] 0))) fun ⟨o2_0, o2_1⟩ =>
 .ret o2_1) (zr Tryd.func25)
theorem Um {a : List GStep} (ha : a.length <= 2 ^ 20) (hG : ∀ v ∈ a, qU v = some v) : ∀ (d i m : Nat) (v : List GStep), i + d = a.length → d < m → Pre a v i → ∃ z, xF a m (i : Int) v = some (z, a) := by
 intro d
 induction d with
 | zero =>
  intro i m v hi hm hp
  obtain ⟨m, rfl, _⟩ := zo hm
  exact ⟨_, by rw [xF, if_neg (by omega), hp.done (by omega)]⟩
 | succ d ih =>
  intro i m v hi hm hp
  obtain ⟨m, rfl, hm'⟩ := zo hm
  have hil : i < a.length := by omega
  rw [xF, if_pos (by omega), zg, Option.bind_some, zw hil, Option.bind_some, hG _ (List.getElem_mem hil), Option.bind_some, zw (by rw [hp.1]; exact hil), Option.bind_some, yf (by omega)]
  exact ih (i + 1) m _ (by omega) (by omega) (hp.step hil)
theorem Ly {v : GStep} (h : wA v <= 2 ^ 20) : qU v = some v := by
 unfold wA at h
 unfold qU y8
 rw [if_pos (by omega), Option.bind_some]
 cases v; rfl
def q9 (a0 : (List GStep)) : Option (List GStep) := if zW a0 <= 2 ^ 20 then some a0 else none
theorem QA (a0 : (List GStep)) (r : (List GStep)) (h : q9 a0 = some r) : ∃ n, vJ n a0 = some r := by
 unfold q9 at h
 obtain ⟨ha, h⟩ := zM h
 have hl := wk a0
 refine ⟨a0.length + 1, ?_⟩
 obtain ⟨z, hz⟩ := Um (a := a0) (by omega) (fun v hv => Ly (by have := Y7 hv; omega)) a0.length 0 (a0.length + 1) (List.replicate a0.length (GStep.mk 0 [] 0)) (by omega) (by omega) (Pre.start (by simp))
 unfold vJ
 rw [Qz (by omega) (by decide), Option.bind_some, show (0 : Int) = ((0 : Nat) : Int) from rfl]
 exact (congrArg (fun x => Option.bind x _) hz).trans h
theorem Kv : YO q9 := fun a0 r h => (QA a0 r h).elim fun n hn => V1 n a0 r hn
def Yx (F : (List (List UInt8)) → Option (List (List UInt8))) : Prop := ∀ (a0 : (List (List UInt8))), Oc (F a0) 56 [] [vq (zL za) a0] fun r => (.val false [.own 1 (eL (xN 1 za) r)], [])
def xm (a0 : (List (List UInt8))) : Nat → Int → (List (List UInt8)) → Option (Int × (List (List UInt8)))
  | 0, _, _ => none
  | m + 1, v1, v2 =>
  if v1 < (a0.length : Int) then
   (z7 v1).bind fun i2 =>
   (a0[i2]?).bind fun x3 =>
   (y8 x3).bind fun r4 =>
   (v2[i2]?).bind fun x5 =>
   xm a0 m (w64 (v1 + 1)) (v2.set i2 r4)
  else
  some (v1, v2)
theorem XY (a0 : (List (List UInt8))) (m : Nat) : ∀ (v1 : Int) (v2 : (List (List UInt8))), Ol (xm a0 m v1 v2) 56 (ye Tryd.f56 0) ⟨[(0, vq (zL za) a0), (3, vr 0), (4, vi v1)], [.obj 1 (eL (xN 1 za) v2)], 0⟩ fun o => match o with | ⟨o_0, o_1⟩ => (.exit 0, ⟨[(0, vq (zL za) a0), (3, vr 0), (4, vi o_0), (11, vb false)], [.obj 1 (eL (xN 1 za) o_1)], 0⟩) := by
  induction m with
  | zero => intro v1 v2 o h; cases h
  | succ m ih => exact fun v1 v2 => tlp (
   .le (zL za) a0 <|
   .lI v1 (a0.length : Int) (fun c1 =>
    .na v1 fun i2 =>
    .ix0 (zL za) a0 i2 fun x3 =>
    .cl (vk x3) fun r4 =>
    .ag 2 <|
    .ix0 (xN 1 za) v2 i2 fun x5 =>
    .ag 0 <|
    .sl (e := (xN 1 za)) (x := r4) (c := [.own 1 (eL za r4)]) rfl v2 i2 <|
    .go (ih (w64 (v1 + 1)) (v2.set i2 r4))) fun c1 =>
   .ret (v1, v2))
def vl (n : Nat) (a0 : (List (List UInt8))) : Option (List (List UInt8)) :=
 (Z7 24 (a0.length : Int)).bind fun k1 =>
 (xm a0 n 0 (List.replicate k1 [])).bind fun ⟨o2_0, o2_1⟩ =>
 some o2_1
theorem Kw (n : Nat) : Yx (vl n) := fun a0 => tc (
 .le (zL za) a0 <|
 .q (.eTo (a0.length : Int) (a0.length : Int) rfl) <|
 .md 24 (a0.length : Int) fun k1 =>
 .q ⟨.rep k1 [.own 1 []], .l (eL (xN 1 za) (List.replicate k1 [])), A.rep rfl⟩ <|
 .lp (XY a0 n 0 (List.replicate k1 [])) fun ⟨o2_0, o2_1⟩ =>
 .ret o2_1) (zr Tryd.func56)
theorem RG {a : List (List UInt8)} (ha : bsz a <= 2 ^ 20) : ∀ (d i m : Nat) (v : List (List UInt8)), i + d = a.length → d < m → Pre a v i → ∃ z, xm a m (i : Int) v = some (z, a) := by
 have hl := kQ a
 intro d
 induction d with
 | zero =>
  intro i m v hi hm hp
  obtain ⟨m, rfl, _⟩ := zo hm
  exact ⟨_, by rw [xm, if_neg (by omega), hp.done (by omega)]⟩
 | succ d ih =>
  intro i m v hi hm hp
  obtain ⟨m, rfl, hm'⟩ := zo hm
  have hil : i < a.length := by omega
  have hx := Q3 (List.getElem_mem hil)
  rw [xm, if_pos (by omega), zg, Option.bind_some, zw hil, Option.bind_some]
  unfold y8
  rw [if_pos (by omega), Option.bind_some, zw (by rw [hp.1]; exact hil), Option.bind_some, yf (by omega)]
  exact ih (i + 1) m _ (by omega) (by omega) (hp.step hil)
def qe (a0 : (List (List UInt8))) : Option (List (List UInt8)) := if bsz a0 <= 2 ^ 20 then some a0 else none
theorem WI (a0 : (List (List UInt8))) (r : (List (List UInt8))) (h : qe a0 = some r) : ∃ n, vl n a0 = some r := by
 unfold qe at h
 obtain ⟨ha, h⟩ := zM h
 have hl := kQ a0
 refine ⟨a0.length + 1, ?_⟩
 obtain ⟨z, hz⟩ := RG ha a0.length 0 (a0.length + 1) (List.replicate a0.length []) (by omega) (by omega) (Pre.start (by simp))
 unfold vl
 rw [Qz (by omega) (by decide), Option.bind_some, show (0 : Int) = ((0 : Nat) : Int) from rfl, hz]
 exact h
theorem Jr : Yx qe := fun a0 r h => (WI a0 r h).elim fun n hn => Kw n a0 r hn
def jp (F : (List GValue) → Option (List GValue)) : Prop := ∀ (a0 : (List GValue)), Oc (F a0) 57 [] [vq zd a0] fun r => (.val false [.own 5 (eL zJ r)], [])
def qA (F : GValue → Option GValue) : Prop := ∀ (a0 : GValue), Oc (F a0) 26 [] [.val true (zH a0)] fun r => (.val true (JG r), [])
def xn (G_laws_toValue : GValue → Option GValue) (a0 : (List GValue)) : Nat → Int → (List GValue) → Option (Int × (List GValue))
  | 0, _, _ => none
  | m + 1, v1, v2 =>
  if v1 < (a0.length : Int) then
   (z7 v1).bind fun i2 =>
   (a0[i2]?).bind fun x3 =>
   (G_laws_toValue x3).bind fun r4 =>
   (v2[i2]?).bind fun x5 =>
   xn G_laws_toValue a0 m (w64 (v1 + 1)) (v2.set i2 r4)
  else
  some (v1, v2)
theorem XZ (G_laws_toValue : GValue → Option GValue) (H_laws_toValue : qA G_laws_toValue) (a0 : (List GValue)) (m : Nat) : ∀ (v1 : Int) (v2 : (List GValue)), Ol (xn G_laws_toValue a0 m v1 v2) 57 (ye Tryd.f57 0) ⟨[(0, vq zd a0), (3, vr 0), (4, vi v1)], [.obj 5 (eL zJ v2)], 0⟩ fun o => match o with | ⟨o_0, o_1⟩ => (.exit 0, ⟨[(0, vq zd a0), (3, vr 0), (4, vi o_0), (11, vb false)], [.obj 5 (eL zJ o_1)], 0⟩) := by
  induction m with
  | zero => intro v1 v2 o h; cases h
  | succ m ih => exact fun v1 v2 => tlp (
   .le zd a0 <|
   .lI v1 (a0.length : Int) (fun c1 =>
    .na v1 fun i2 =>
    .ix zU a0 i2 fun x3 =>
    .cl (H_laws_toValue x3) fun r4 =>
    .ag 2 <|
    .ix yF v2 i2 fun x5 =>
    .ag 0 <|
    .sl (yF r4) v2 i2 <|
    .go (ih (w64 (v1 + 1)) (v2.set i2 r4))) fun c1 =>
   .ret (v1, v2))
def jq (G_laws_toValue : GValue → Option GValue) (n : Nat) (a0 : (List GValue)) : Option (List GValue) :=
 (Z7 88 (a0.length : Int)).bind fun k1 =>
 (xn G_laws_toValue a0 n 0 (List.replicate k1 (GValue.mk 0 0 [] [] []))).bind fun ⟨o2_0, o2_1⟩ =>
 some o2_1
theorem Kx (G_laws_toValue : GValue → Option GValue) (H_laws_toValue : qA G_laws_toValue) (n : Nat) : jp (jq G_laws_toValue n) := fun a0 => tc (
 .le zd a0 <|
 .q (.eTo (a0.length : Int) (a0.length : Int) rfl) <|
 .md 88 (a0.length : Int) fun k1 =>
 .q ⟨.rep k1 [.int .i64 0, .int .i64 0, .own 1 [], .own 1 [], .own 5 []], .l (eL zJ (List.replicate k1 (GValue.mk 0 0 [] [] []))), A.rep (yF (GValue.mk 0 0 [] [] []))⟩ <|
 .lp (XZ G_laws_toValue H_laws_toValue a0 n 0 (List.replicate k1 (GValue.mk 0 0 [] [] []))) fun ⟨o2_0, o2_1⟩ =>
 .ret o2_1) (zr Tryd.func57)
def vK (G_laws_toValueS : (List GValue) → Option (List GValue)) (a0 : GValue) : Option GValue :=
 (y8 a0.S).bind fun r1 =>
 (qe a0.K).bind fun r2 =>
 (G_laws_toValueS a0.L).bind fun r3 =>
 some (GValue.mk a0.Kind a0.N r1 r2 r3)
theorem V2 (G_laws_toValueS : (List GValue) → Option (List GValue)) (H_laws_toValueS : jp G_laws_toValueS) : qA (vK G_laws_toValueS) := fun a0 => tc (
 .cl (vk a0.S) fun r1 =>
 .cl (Jr a0.K) fun r2 =>
 .cl (H_laws_toValueS a0.L) fun r3 =>
 .ret (GValue.mk a0.Kind a0.N r1 r2 r3)) (zr Tryd.func26)
mutual
def yR : Nat → (List GValue) → Option (List GValue)
 | 0, _ => none
 | n + 1, a0 => jq (xo n) n a0
def xo : Nat → GValue → Option GValue
 | 0, _ => none
 | n + 1, a0 => vK (yR n) a0
end
theorem Zw (n : Nat) : jp (yR n) ∧ qA (xo n) := by
 induction n with
 | zero => exact ⟨fun _ _ h => (by rw [yR] at h; cases h), fun _ _ h => (by rw [xo] at h; cases h)⟩
 | succ n ih =>
  obtain ⟨ih_laws_toValueS, ih_laws_toValue⟩ := ih
  exact ⟨fun a0 r h => Kx (xo n) ih_laws_toValue n a0 r (by rw [yR] at h; exact h),
   fun a0 r h => V2 (yR n) ih_laws_toValueS a0 r (by rw [xo] at h; exact h)⟩
theorem Ky {G : GValue → Option GValue} {a : List GValue} {f : Nat} (ha : a.length <= 2 ^ 20) (hf : a.length < f) (hG : ∀ v ∈ a, G v = some v) : jq G f a = some a := by
 have loop : ∀ (d i m : Nat) (v : List GValue), i + d = a.length → d < m → Pre a v i → ∃ z, xn G a m (i : Int) v = some (z, a) := by
  intro d
  induction d with
  | zero =>
   intro i m v hi hm hp
   obtain ⟨m, rfl, _⟩ := zo hm
   exact ⟨_, by rw [xn, if_neg (by omega), hp.done (by omega)]⟩
  | succ d ih =>
   intro i m v hi hm hp
   obtain ⟨m, rfl, hm'⟩ := zo hm
   have hil : i < a.length := by omega
   rw [xn, if_pos (by omega), zg, Option.bind_some, zw hil, Option.bind_some, hG _ (List.getElem_mem hil), Option.bind_some, zw (by rw [hp.1]; exact hil), Option.bind_some, yf (by omega)]
   exact ih (i + 1) m _ (by omega) (by omega) (hp.step hil)
 obtain ⟨z, hz⟩ := loop a.length 0 f (List.replicate a.length (GValue.mk 0 0 [] [] [])) (by omega) (by omega) (Pre.start (by simp))
 rw [show ((0 : Nat) : Int) = 0 from rfl] at hz
 unfold jq
 rw [Qz ha (by decide), Option.bind_some, hz]; rfl
theorem Rt : ∀ (N : Nat) (v : GValue), vsz v < N → vsz v <= 2 ^ 20 → ∀ f : Nat, 2 * vsz v + 3 <= f → xo f v = some v := by
 intro N
 induction N with
 | zero => intro v hv; omega
 | succ N ih =>
  intro v hv hs f hf
  obtain ⟨f, rfl, _⟩ := zo (show 0 < f by omega)
  obtain ⟨f, rfl, _⟩ := zo (show 0 < f by omega)
  have he := xR v
  have hl := yC v.L
  rw [xo]
  unfold vK y8 qe
  rw [if_pos (by omega), Option.bind_some, if_pos (by omega), Option.bind_some, yR, Ky (by omega) (by omega) fun x hx => ?_, Option.bind_some, GValue.eta]
  have := wy hx
  exact ih x (by omega) (by omega) f (by omega)
def vm (a0 : (List GValue)) : Option (List GValue) := if yw a0 <= 2 ^ 20 then some a0 else none
theorem WJ (a0 : (List GValue)) (r : (List GValue)) (h : vm a0 = some r) : ∃ n, yR n a0 = some r := by
 unfold vm at h
 obtain ⟨ha, h⟩ := zM h
 have hl := yC a0
 refine ⟨2 * yw a0 + 5, ?_⟩
 rw [yR, Ky (by omega) (by omega) fun x hx => ?_, h]
 have := wy hx
 exact Rt _ x (Nat.lt_succ_self _) (by omega) _ (by omega)
def wD (a0 : GValue) : Option GValue := if vsz a0 <= 2 ^ 20 then some a0 else none
theorem QB (a0 : GValue) (r : GValue) (h : wD a0 = some r) : ∃ n, xo n a0 = some r := by
 unfold wD at h
 obtain ⟨ha, h⟩ := zM h
 exact ⟨2 * vsz a0 + 3, by rw [<- h]; exact Rt _ a0 (Nat.lt_succ_self _) ha _ (Nat.le_refl _)⟩
theorem MP : jp vm := by
 intro a0 r h
 obtain ⟨n, hn⟩ := WJ a0 r h
 exact (Zw n).1 a0 r hn
theorem Yy : qA wD := by
 intro a0 r h
 obtain ⟨n, hn⟩ := QB a0 r h
 exact (Zw n).2 a0 r hn
def jr (a0 : GChange) : Option GChange :=
 (q9 a0.Path).bind fun r1 =>
 (wD a0.Old).bind fun r2 =>
 (wD a0.New).bind fun r3 =>
 some (GChange.mk r1 a0.Had r2 a0.Has r3)
theorem Js (a0 : GChange) : Oc (jr a0) 7 [] [.val true (qJ a0)] fun r => (.val true (R3 r), []) := tc (
 .cl (Kv a0.Path) fun r1 =>
 .cl (Yy a0.Old) fun r2 =>
 .cl (Yy a0.New) fun r3 =>
 .ret (GChange.mk r1 a0.Had r2 a0.Has r3)) (zr Tryd.func7)
def XN (F : (List UInt8) → Option Bool) : Prop := ∀ (a0 : (List UInt8)), Oc (F a0) 83 [] [vq za a0] fun r => (vb r, [])
def xU (a0 : (List UInt8)) : Nat → Int → Option (Bool ⊕ Int)
  | 0, _ => none
  | m + 1, v1 =>
  if v1 < (a0.length : Int) then
   (z7 v1).bind fun i2 =>
   (a0[i2]?).bind fun x3 =>
   if ((x3.toNat : Nat) : Int) < 97 then
    some (.inl false)
   else
   if 122 < ((x3.toNat : Nat) : Int) then
    some (.inl false)
   else
   xU a0 m (w64 (v1 + 1))
  else
  some (.inr v1)
theorem QC (a0 : (List UInt8)) (m : Nat) : ∀ (v1 : Int), Ol (xU a0 m v1) 83 (ye Tryd.f83 0) ⟨[(0, vq za a0), (3, vi v1)], [], 0⟩ fun o => match o with | .inl o_0 => (.ret, ⟨[(2, vb o_0)], [], 0⟩) | .inr (o_1) => (.exit 0, ⟨[(0, vq za a0), (3, vi o_1), (15, vb false)], [], 0⟩) := by
  induction m with
  | zero => intro v1 o h; cases h
  | succ m ih => exact fun v1 => tlp (
   .le za a0 <|
   .lI v1 (a0.length : Int) (fun c1 =>
    .na v1 fun i2 =>
    .ix0 za a0 i2 fun x3 =>
    .lI ((x3.toNat : Nat) : Int) 97 (fun c4 =>
     .ret (.inl false)) fun c4 =>
    .ag 1 <|
    .ag 0 <|
    .lI 122 ((x3.toNat : Nat) : Int) (fun c5 =>
     .ret (.inl false)) fun c5 =>
    .go (ih (w64 (v1 + 1)))) fun c1 =>
   .ret (.inr v1))
def Zn (n : Nat) (a0 : (List UInt8)) : Option Bool :=
 if (a0.length : Int) < 1 then
  some false
 else
 if 8 < (a0.length : Int) then
  some false
 else
 (xU a0 n 0).bind fun o3 =>
 match o3 with
 | .inl o3_0 =>
  some o3_0
 | .inr (o3_1) =>
  some true
theorem RH (n : Nat) : XN (Zn n) := fun a0 => tc (
 .le za a0 <|
 .lI (a0.length : Int) 1 (fun c1 =>
  .ret false) fun c1 =>
 .le za a0 <|
 .lI 8 (a0.length : Int) (fun c2 =>
  .ret false) fun c2 =>
 .l2 (QC a0 n 0) (fun o3_0 =>
  .ret o3_0) fun o3_1 =>
 .ret true) (zr Tryd.func83)
theorem Jt {a : List UInt8} (ha : a.length <= 2 ^ 20) : ∀ (d i m : Nat), i + d = a.length → d < m → ∃ z, xU a m (i : Int) = some (if (a.drop i).all (inB 97 122) = true then .inr z else .inl false) := by
 intro d
 induction d with
 | zero =>
  intro i m hi hm
  obtain ⟨m, rfl, _⟩ := zo hm
  exact ⟨_, by rw [xU, if_neg (by omega), List.drop_eq_nil_of_le (by omega)]; rfl⟩
 | succ d ih =>
  intro i m hi hm
  obtain ⟨m, rfl, hm'⟩ := zo hm
  have hil : i < a.length := by omega
  rw [xU, if_pos (by omega), zg, Option.bind_some, zw hil, Option.bind_some, yf (by omega), xL hil, List.all_cons]
  by_cases h1 : ((a[i].toNat : Nat) : Int) < 97
  ·exact ⟨0, by rw [if_pos h1, if_neg]; simp [inB]; omega⟩
  ·rw [if_neg h1]
   by_cases h2 : (122 : Int) < ((a[i].toNat : Nat) : Int)
   ·exact ⟨0, by rw [if_pos h2, if_neg]; simp [inB]; omega⟩
   ·rw [if_neg h2, show inB 97 122 a[i] = true by simp [inB]; omega, Bool.true_and]
    exact ih (i + 1) m (by omega) (by omega)
def wv (a0 : (List UInt8)) : Option Bool := if a0.length <= 2 ^ 20 then some (w9 a0) else none
theorem Ju (a0 : (List UInt8)) (r : Bool) (h : wv a0 = some r) : ∃ n, Zn n a0 = some r := by
 unfold wv at h
 obtain ⟨ha, h⟩ := zM h
 refine ⟨a0.length + 1, ?_⟩
 obtain ⟨z, hz⟩ := Jt ha a0.length 0 (a0.length + 1) (by omega) (by omega)
 rw [show ((0 : Nat) : Int) = 0 from rfl, List.drop_zero] at hz
 unfold Zn
 rw [<- h, hz]
 unfold w9
 by_cases h1 : 1 <= a0.length
 ·rw [if_neg (by omega)]
  by_cases hl : a0.length <= 8
  ·rw [if_neg (by omega), decide_eq_true ⟨h1, hl⟩]
   cases a0.all (inB 97 122) <;> rfl
  ·rw [if_pos (by omega), decide_eq_false (fun h => hl h.2)]; rfl
 ·rw [if_pos (by omega), decide_eq_false (fun h => h1 h.1)]; rfl
theorem YP : XN wv := fun a0 r h => (Ju a0 r h).elim fun n hn => RH n a0 r hn
def XO (F : (List GStep) → Option Bool) : Prop := ∀ (a0 : (List GStep)), Oc (F a0) 47 [] [vq zb a0] fun r => (vb r, [])
def xg (a0 : (List GStep)) : Nat → Int → Option (Bool ⊕ Int)
  | 0, _ => none
  | m + 1, v1 =>
  if v1 < (a0.length : Int) then
   (z7 v1).bind fun i2 =>
   (a0[i2]?).bind fun x3 =>
   if x3.Kind = 0 then
    (wv x3.Key).bind fun r5 =>
    match r5 with
    | true =>
     if x3.I = 0 then
      xg a0 m (w64 (v1 + 1))
     else
     some (.inl false)
    | false =>
     some (.inl false)
   else
   if x3.Kind = 1 then
    if 0 < (x3.Key.length : Int) then
     some (.inl false)
    else
    if x3.I < 0 then
     some (.inl false)
    else
    if 40 <= x3.I then
     some (.inl false)
    else
    xg a0 m (w64 (v1 + 1))
   else
   some (.inl false)
  else
  some (.inr v1)
theorem QD (a0 : (List GStep)) (m : Nat) : ∀ (v1 : Int), Ol (xg a0 m v1) 47 (ye Tryd.f47 0) ⟨[(0, vq zb a0), (3, vi v1)], [], 0⟩ fun o => match o with | .inl o_0 => (.ret, ⟨[(2, vb o_0)], [], 0⟩) | .inr (o_1) => (.exit 0, ⟨[(0, vq zb a0), (3, vi o_1), (11, vb false)], [], 0⟩) := by
  induction m with
  | zero => intro v1 o h; cases h
  | succ m ih => exact fun v1 => tlp (
   .le zb a0 <|
   .lI v1 (a0.length : Int) (fun c1 =>
    .na v1 fun i2 =>
    .ix yv a0 i2 fun x3 =>
    .eI x3.Kind 0 (fun c4 =>
     .cl (YP x3.Key) fun r5 =>
     .vN 0 r5 (
      .an 0 0 <|
      .an 0 0 <|
      .eI x3.I 0 (fun c6 =>
       .an 0 0 <|
       .go (ih (w64 (v1 + 1)))) fun c6 =>
      .an 0 0 <|
      .ret (.inl false)) <|
     .an 0 0 <|
     .an 0 0 <|
     .an 0 0 <|
     .ret (.inl false)) fun c4 =>
    .eI x3.Kind 1 (fun c5 =>
     .le za x3.Key <|
     .lI 0 (x3.Key.length : Int) (fun c6 =>
      .ret (.inl false)) fun c6 =>
     .lI x3.I 0 (fun c7 =>
      .ret (.inl false)) fun c7 =>
     .gI 40 x3.I (fun c8 =>
      .ret (.inl false)) fun c8 =>
     .go (ih (w64 (v1 + 1)))) fun c5 =>
    .ret (.inl false)) fun c1 =>
   .ret (.inr v1))
def Zo (n : Nat) (a0 : (List GStep)) : Option Bool :=
 if 6 < (a0.length : Int) then
  some false
 else
 (xg a0 n 0).bind fun o2 =>
 match o2 with
 | .inl o2_0 =>
  some o2_0
 | .inr (o2_1) =>
  some true
theorem RI (n : Nat) : XO (Zo n) := fun a0 => tc (
 .le zb a0 <|
 .lI 6 (a0.length : Int) (fun c1 =>
  .ret false) fun c1 =>
 .l2 (QD a0 n 0) (fun o2_0 =>
  .ret o2_0) fun o2_1 =>
 .ret true) (zr Tryd.func47)
theorem MQ {s : GStep} (hs : s.Key.length <= 2 ^ 20) : wv s.Key = some (w9 s.Key) := if_pos hs
theorem UU {a : List GStep} (ha : zW a <= 2 ^ 20) : ∀ (l p : List GStep) (m : Nat), a = p ++ l → l.length < m → ∃ z, xg a m (p.length : Int) = some (if l.all xd = true then .inr z else .inl false) := by
 have hlen := wk a
 intro l
 induction l with
 | nil =>
  intro p m he hm
  obtain ⟨m, rfl, _⟩ := zo hm
  exact ⟨_, by rw [xg, he, if_neg (ZG p), List.all_nil, if_pos rfl]⟩
 | cons s l ih =>
  intro p m he hm
  obtain ⟨m, rfl, hm'⟩ := zo hm
  have hl : a.length = p.length + (l.length + 1) := by rw [he]; simp
  have hx : 1 + wA s <= zW a := Y7 (by rw [he]; simp)
  unfold wA at hx
  obtain ⟨z, hz⟩ := ih (p ++ [s]) m (by rw [he]; simp) (by simp only [List.length_cons] at hm'; omega)
  rw [xg, if_pos (by omega), zg, Option.bind_some, show a[p.length]? = some s by rw [he]; exact zZ p s l, Option.bind_some, yj p s (by omega), List.all_cons]
  unfold xd
  by_cases k0 : s.Kind = 0
  ·rw [if_pos k0, if_pos k0, MQ (by omega), Option.bind_some]
   cases w9 s.Key with
   | false => exact ⟨0, rfl⟩
   | true =>
    dsimp only
    by_cases hi : s.I = 0
    ·rw [if_pos hi, hz, decide_eq_true hi]; exact ⟨z, rfl⟩
    ·rw [if_neg hi, decide_eq_false hi]; exact ⟨0, rfl⟩
  ·rw [if_neg k0, if_neg k0]
   by_cases k1 : s.Kind = 1
   ·rw [if_pos k1]
    by_cases hk : s.Key = []
    ·rw [if_neg (by rw [hk]; simp)]
     by_cases h1 : s.I < 0
     ·rw [if_pos h1, decide_eq_false (fun h => by omega)]; exact ⟨0, rfl⟩
     rw [if_neg h1]
     by_cases h2 : 40 <= s.I
     ·rw [if_pos h2, decide_eq_false (fun h => by omega)]; exact ⟨0, rfl⟩
     ·rw [if_neg h2, hz, decide_eq_true ⟨k1, hk, by omega, by omega⟩]; exact ⟨z, rfl⟩
    ·rw [if_pos (by
      have : s.Key.length ≠ 0 := fun e => hk (List.eq_nil_of_length_eq_zero e)
      omega), decide_eq_false (fun h => hk h.2.1)]
     exact ⟨0, rfl⟩
   ·rw [if_neg k1, decide_eq_false (fun h => k1 h.1)]; exact ⟨0, rfl⟩
def qV (a0 : (List GStep)) : Option Bool := if zW a0 <= 2 ^ 20 then some (q4 a0) else none
theorem Jv (a0 : (List GStep)) (r : Bool) (h : qV a0 = some r) : ∃ n, Zo n a0 = some r := by
 unfold qV at h
 obtain ⟨ha, h⟩ := zM h
 obtain ⟨z, hz⟩ := UU ha a0 [] (a0.length + 1) rfl (by omega)
 refine ⟨a0.length + 1, ?_⟩
 unfold Zo
 simp only [List.length_nil, Int.natCast_zero] at hz
 rw [<- h]
 unfold q4
 by_cases c : a0.length <= 6
 ·rw [if_neg (by omega), hz, decide_eq_true c, Option.bind_some]
  cases a0.all xd <;> rfl
 ·rw [if_pos (by omega), decide_eq_false c]; rfl
theorem V3 : XO qV := fun a0 r h => (Jv a0 r h).elim fun n hn => RI n a0 r hn
def XP (F : (List UInt8) → Option Bool) : Prop := ∀ (a0 : (List UInt8)), Oc (F a0) 115 [] [vq za a0] fun r => (vb r, [])
def xV (a0 : (List UInt8)) : Nat → Int → Option (Bool ⊕ Int)
  | 0, _ => none
  | m + 1, v1 =>
  if v1 < (a0.length : Int) then
   (z7 v1).bind fun i2 =>
   (a0[i2]?).bind fun x3 =>
   if ((x3.toNat : Nat) : Int) < 32 then
    some (.inl false)
   else
   if 126 < ((x3.toNat : Nat) : Int) then
    some (.inl false)
   else
   xV a0 m (w64 (v1 + 1))
  else
  some (.inr v1)
theorem QE (a0 : (List UInt8)) (m : Nat) : ∀ (v1 : Int), Ol (xV a0 m v1) 115 (ye Tryd.f115 0) ⟨[(0, vq za a0), (3, vi v1)], [], 0⟩ fun o => match o with | .inl o_0 => (.ret, ⟨[(2, vb o_0)], [], 0⟩) | .inr (o_1) => (.exit 0, ⟨[(0, vq za a0), (3, vi o_1), (10, vb false)], [], 0⟩) := by
  induction m with
  | zero => intro v1 o h; cases h
  | succ m ih => exact fun v1 => tlp (
   .le za a0 <|
   .lI v1 (a0.length : Int) (fun c1 =>
    .na v1 fun i2 =>
    .ix0 za a0 i2 fun x3 =>
    .lI ((x3.toNat : Nat) : Int) 32 (fun c4 =>
     .ret (.inl false)) fun c4 =>
    .ag 1 <|
    .ag 0 <|
    .lI 126 ((x3.toNat : Nat) : Int) (fun c5 =>
     .ret (.inl false)) fun c5 =>
    .go (ih (w64 (v1 + 1)))) fun c1 =>
   .ret (.inr v1))
def Zp (n : Nat) (a0 : (List UInt8)) : Option Bool :=
 if 20 < (a0.length : Int) then
  some false
 else
 (xV a0 n 0).bind fun o2 =>
 match o2 with
 | .inl o2_0 =>
  some o2_0
 | .inr (o2_1) =>
  some true
theorem RJ (n : Nat) : XP (Zp n) := fun a0 => tc (
 .le za a0 <|
 .lI 20 (a0.length : Int) (fun c1 =>
  .ret false) fun c1 =>
 .l2 (QE a0 n 0) (fun o2_0 =>
  .ret o2_0) fun o2_1 =>
 .ret true) (zr Tryd.func115)
theorem Jw {a : List UInt8} (ha : a.length <= 2 ^ 20) : ∀ (d i m : Nat), i + d = a.length → d < m → ∃ z, xV a m (i : Int) = some (if (a.drop i).all (inB 32 126) = true then .inr z else .inl false) := by
 intro d
 induction d with
 | zero =>
  intro i m hi hm
  obtain ⟨m, rfl, _⟩ := zo hm
  exact ⟨_, by rw [xV, if_neg (by omega), List.drop_eq_nil_of_le (by omega)]; rfl⟩
 | succ d ih =>
  intro i m hi hm
  obtain ⟨m, rfl, hm'⟩ := zo hm
  have hil : i < a.length := by omega
  rw [xV, if_pos (by omega), zg, Option.bind_some, zw hil, Option.bind_some, yf (by omega), xL hil, List.all_cons]
  by_cases h1 : ((a[i].toNat : Nat) : Int) < 32
  ·exact ⟨0, by rw [if_pos h1, if_neg]; simp [inB]; omega⟩
  ·rw [if_neg h1]
   by_cases h2 : (126 : Int) < ((a[i].toNat : Nat) : Int)
   ·exact ⟨0, by rw [if_pos h2, if_neg]; simp [inB]; omega⟩
   ·rw [if_neg h2, show inB 32 126 a[i] = true by simp [inB]; omega, Bool.true_and]
    exact ih (i + 1) m (by omega) (by omega)
def qW (a0 : (List UInt8)) : Option Bool := if a0.length <= 2 ^ 20 then some (vB a0) else none
theorem Jx (a0 : (List UInt8)) (r : Bool) (h : qW a0 = some r) : ∃ n, Zp n a0 = some r := by
 unfold qW at h
 obtain ⟨ha, h⟩ := zM h
 refine ⟨a0.length + 1, ?_⟩
 obtain ⟨z, hz⟩ := Jw ha a0.length 0 (a0.length + 1) (by omega) (by omega)
 rw [show ((0 : Nat) : Int) = 0 from rfl, List.drop_zero] at hz
 unfold Zp
 rw [<- h, hz]
 unfold vB
 by_cases hl : a0.length <= 20
 ·rw [if_neg (by omega), decide_eq_true hl]
  cases a0.all (inB 32 126) <;> rfl
 ·rw [if_pos (by omega), decide_eq_false hl]; rfl
theorem V4 : XP qW := fun a0 r h => (Jx a0 r h).elim fun n hn => RJ n a0 r hn
def vn (a0 : Int) : Option Bool :=
 if (-1000000000000) <= a0 then
  some (decide (a0 <= 1000000000000))
 else
 some false
theorem RK (a0 : Int) : Oc (vn a0) 114 [] [vi a0] fun r => (vb r, []) := tc (
 .gI (-1000000000000) a0 (fun c1 =>
  .gD a0 1000000000000 <|
  .ret (decide (a0 <= 1000000000000))) fun c1 =>
 .ret false) (zr Tryd.func114)
def kn (F : GValue → Int → Int → Option Int) : Prop := ∀ (a0 : GValue) (a1 : Int) (a2 : Int), Oc (F a0 a1 a2) 84 [] [.val true (zH a0), vi a1, vi a2] fun r => (vi r, [])
def yr (G_spec_l2ok : GValue → Int → Int → Option Int) (a1 : Int) (a0 : GValue) : Nat → Int → Int → Option (Int ⊕ (Int × Int))
  | 0, _, _ => none
  | m + 1, v1, v2 =>
  if v2 < (a0.L.length : Int) then
   if a0.Kind = 5 then
    (z7 v2).bind fun i3 =>
    (a0.K[i3]?).bind fun x4 =>
    (wv x4).bind fun r5 =>
    match r5 with
    | true =>
     if 0 < v2 then
      (z7 (w64 (v2 - 1))).bind fun i7 =>
      (a0.K[i7]?).bind fun x8 =>
      if Op.bytesLess x8 x4 = true then
       (a0.L[i3]?).bind fun x10 =>
       (G_spec_l2ok x10 (w64 (a1 + 1)) v1).bind fun r11 =>
       if r11 < 0 then
        some (.inl (-1))
       else
       yr G_spec_l2ok a1 a0 m r11 (w64 (v2 + 1))
      else
      some (.inl (-1))
     else
     (a0.L[i3]?).bind fun x7 =>
     (G_spec_l2ok x7 (w64 (a1 + 1)) v1).bind fun r8 =>
     if r8 < 0 then
      some (.inl (-1))
     else
     yr G_spec_l2ok a1 a0 m r8 (w64 (v2 + 1))
    | false =>
     some (.inl (-1))
   else
   (z7 v2).bind fun i3 =>
   (a0.L[i3]?).bind fun x4 =>
   (G_spec_l2ok x4 (w64 (a1 + 1)) v1).bind fun r5 =>
   if r5 < 0 then
    some (.inl (-1))
   else
   yr G_spec_l2ok a1 a0 m r5 (w64 (v2 + 1))
  else
  some (.inr (v1, v2))
theorem Yz (G_spec_l2ok : GValue → Int → Int → Option Int) (H_spec_l2ok : kn G_spec_l2ok) (a1 : Int) (a0 : GValue) (m : Nat) : ∀ (v1 : Int) (v2 : Int), Ol (yr G_spec_l2ok a1 a0 m v1 v2) 84 (ye Tryd.f84 0) ⟨[(1, vi a1), (2, vi v1), (3, vp 0 0), (7, vi v2)], [.var (zH a0)], 0⟩ fun o => match o with | .inl o_0 => (.ret, ⟨[(6, vi o_0)], [], 0⟩) | .inr (⟨o_1_0, o_1_1⟩) => (.exit 1, ⟨[(1, vi a1), (2, vi o_1_0), (3, vp 0 0), (7, vi o_1_1), (117, vb false)], [.var (zH a0)], 0⟩) := by
  induction m with
  | zero => intro v1 v2 o h; cases h
  | succ m ih => exact fun v1 v2 => tlp (
   .le zd a0.L <|
   .lI v2 (a0.L.length : Int) (fun c1 =>
    .eI a0.Kind 5 (fun c2 =>
     .na v2 fun i3 =>
     .ix0 (zL za) a0.K i3 fun x4 =>
     .cl (YP x4) fun r5 =>
     .vN 2 r5 (
      .an 0 0 <|
      .lI 0 v2 (fun c6 =>
       .an 0 0 <|
       .na (w64 (v2 - 1)) fun i7 =>
       .ix0 (zL za) a0.K i7 fun x8 =>
       .bt x8 <|
       .ag 5 <|
       .ag 4 <|
       .bt x4 <|
       .bI x8 x4 (fun c9 =>
        .an 0 2 <|
        .an 2 2 <|
        .ag 5 <|
        .ix zU a0.L i3 fun x10 =>
        .cl (H_spec_l2ok x10 (w64 (a1 + 1)) v1) fun r11 =>
        .lI r11 0 (fun c12 =>
         .ret (.inl (-1))) fun c12 =>
        .go (ih r11 (w64 (v2 + 1)))) fun c9 =>
       .an 0 2 <|
       .an 2 2 <|
       .ret (.inl (-1))) fun c6 =>
      .an 0 0 <|
      .an 14 0 <|
      .an 2 0 <|
      .ag 3 <|
      .ix zU a0.L i3 fun x7 =>
      .cl (H_spec_l2ok x7 (w64 (a1 + 1)) v1) fun r8 =>
      .lI r8 0 (fun c9 =>
       .ret (.inl (-1))) fun c9 =>
      .go (ih r8 (w64 (v2 + 1)))) <|
     .an 0 0 <|
     .an 0 0 <|
     .an 0 0 <|
     .an 1 0 <|
     .ret (.inl (-1))) fun c2 =>
    .na v2 fun i3 =>
    .ix zU a0.L i3 fun x4 =>
    .cl (H_spec_l2ok x4 (w64 (a1 + 1)) v1) fun r5 =>
    .lI r5 0 (fun c6 =>
     .ret (.inl (-1))) fun c6 =>
    .go (ih r5 (w64 (v2 + 1)))) fun c1 =>
   .ret (.inr (v1, v2)))
def vW (G_spec_l2ok : GValue → Int → Int → Option Int) (n : Nat) (a0 : GValue) (a1 : Int) (a2 : Int) : Option Int :=
 if (w64 (a2 - 1)) < 0 then
  some (-1)
 else
 if 5 < a1 then
  some (-1)
 else
 if a0.Kind = 3 then
  if 0 < (a0.K.length : Int) then
   some (-1)
  else
  if a0.N = 0 then
   if 0 < (a0.L.length : Int) then
    some (-1)
   else
   (qW a0.S).bind fun r7 =>
   match r7 with
   | true =>
    some (w64 (a2 - 1))
   | false =>
    some (-1)
  else
  some (-1)
 else
 if 0 < (a0.S.length : Int) then
  some (-1)
 else
 if a0.Kind = 5 then
  if a0.N = 0 then
   if (a0.K.length : Int) = (a0.L.length : Int) then
    (yr G_spec_l2ok a1 a0 n (w64 (a2 - 1)) 0).bind fun o8 =>
    match o8 with
    | .inl o8_0 =>
     some o8_0
    | .inr (⟨o8_1_0, o8_1_1⟩) =>
     some o8_1_0
   else
   some (-1)
  else
  some (-1)
 else
 if 0 < (a0.K.length : Int) then
  some (-1)
 else
 if a0.Kind = 1 then
  if 0 < (a0.L.length : Int) then
   some (-1)
  else
  if a0.N < 0 then
   some (-1)
  else
  if 1 < a0.N then
   some (-1)
  else
  some (w64 (a2 - 1))
 else
 if a0.Kind = 2 then
  if 0 < (a0.L.length : Int) then
   some (-1)
  else
  (vn a0.N).bind fun r10 =>
  match r10 with
  | true =>
   some (w64 (a2 - 1))
  | false =>
   some (-1)
 else
 if a0.N = 0 then
  if a0.Kind = 4 then
   (yr G_spec_l2ok a1 a0 n (w64 (a2 - 1)) 0).bind fun o11 =>
   match o11 with
   | .inl o11_0 =>
    some o11_0
   | .inr (⟨o11_1_0, o11_1_1⟩) =>
    some o11_1_0
  else
  if 0 < (a0.L.length : Int) then
   some (-1)
  else
  if a0.Kind = 0 then
   some (w64 (a2 - 1))
  else
  if a0.Kind = 6 then
   some (w64 (a2 - 1))
  else
  some (-1)
 else
 some (-1)
theorem UV (G_spec_l2ok : GValue → Int → Int → Option Int) (H_spec_l2ok : kn G_spec_l2ok) (n : Nat) : kn (vW G_spec_l2ok n) := fun a0 a1 a2 => tc (
 .lI (w64 (a2 - 1)) 0 (fun c1 =>
  .ret (-1)) fun c1 =>
 .lI 5 a1 (fun c2 =>
  .ret (-1)) fun c2 =>
 .eI a0.Kind 3 (fun c3 =>
  .q (.eFo a0.Kind 5 (by omega)) <|
  .le (zL za) a0.K <|
  .lI 0 (a0.K.length : Int) (fun c4 =>
   .ret (-1)) fun c4 =>
  .q (.eFo a0.Kind 1 (by omega)) <|
  .q (.eFo a0.Kind 2 (by omega)) <|
  .eI a0.N 0 (fun c5 =>
   .q (.eFo a0.Kind 4 (by omega)) <|
   .q (.eFo a0.Kind 5 (by omega)) <|
   .le zd a0.L <|
   .lI 0 (a0.L.length : Int) (fun c6 =>
    .ret (-1)) fun c6 =>
   .q (.eFo a0.Kind 0 (by omega)) <|
   .q (.eFo a0.Kind 6 (by omega)) <|
   .q (.eFo a0.Kind 1 (by omega)) <|
   .q (.eFo a0.Kind 2 (by omega)) <|
   .q (.eT c3) <|
   .cl (V4 a0.S) fun r7 =>
   .vN 0 r7 (
    .ret (w64 (a2 - 1))) <|
   .ret (-1)) fun c5 =>
  .ret (-1)) fun c3 =>
 .le za a0.S <|
 .lI 0 (a0.S.length : Int) (fun c4 =>
  .ret (-1)) fun c4 =>
 .eI a0.Kind 5 (fun c5 =>
  .q (.eFo a0.Kind 1 (by omega)) <|
  .q (.eFo a0.Kind 2 (by omega)) <|
  .eI a0.N 0 (fun c6 =>
   .q (.eFo a0.Kind 4 (by omega)) <|
   .q (.eT c5) <|
   .q (.eFo a0.Kind 0 (by omega)) <|
   .q (.eFo a0.Kind 6 (by omega)) <|
   .q (.eFo a0.Kind 1 (by omega)) <|
   .q (.eFo a0.Kind 2 (by omega)) <|
   .q (.eF c3) <|
   .q (.eFo a0.Kind 4 (by omega)) <|
   .q (.eT c5) <|
   .q (.eT c5) <|
   .le (zL za) a0.K <|
   .le zd a0.L <|
   .eI (a0.K.length : Int) (a0.L.length : Int) (fun c7 =>
    .l2 (Yz G_spec_l2ok H_spec_l2ok a1 a0 n (w64 (a2 - 1)) 0) (fun o8_0 =>
     .ret o8_0) fun ⟨o8_1_0, o8_1_1⟩ =>
    .ret o8_1_0) fun c7 =>
   .ret (-1)) fun c6 =>
  .ret (-1)) fun c5 =>
 .le (zL za) a0.K <|
 .lI 0 (a0.K.length : Int) (fun c6 =>
  .ret (-1)) fun c6 =>
 .eI a0.Kind 1 (fun c7 =>
  .q (.eFo a0.Kind 4 (by omega)) <|
  .q (.eF c5) <|
  .le zd a0.L <|
  .lI 0 (a0.L.length : Int) (fun c8 =>
   .ret (-1)) fun c8 =>
  .q (.eFo a0.Kind 0 (by omega)) <|
  .q (.eFo a0.Kind 6 (by omega)) <|
  .q (.eT c7) <|
  .lI a0.N 0 (fun c9 =>
   .ret (-1)) fun c9 =>
  .lI 1 a0.N (fun c10 =>
   .ret (-1)) fun c10 =>
  .ret (w64 (a2 - 1))) fun c7 =>
 .eI a0.Kind 2 (fun c8 =>
  .q (.eFo a0.Kind 4 (by omega)) <|
  .q (.eF c5) <|
  .le zd a0.L <|
  .lI 0 (a0.L.length : Int) (fun c9 =>
   .ret (-1)) fun c9 =>
  .q (.eFo a0.Kind 0 (by omega)) <|
  .q (.eFo a0.Kind 6 (by omega)) <|
  .q (.eF c7) <|
  .q (.eT c8) <|
  .cl (RK a0.N) fun r10 =>
  .vN 0 r10 (
   .ret (w64 (a2 - 1))) <|
  .ret (-1)) fun c8 =>
 .eI a0.N 0 (fun c9 =>
  .eI a0.Kind 4 (fun c10 =>
   .q (.eFo a0.Kind 0 (by omega)) <|
   .q (.eFo a0.Kind 6 (by omega)) <|
   .q (.eF c7) <|
   .q (.eF c8) <|
   .q (.eF c3) <|
   .q (.eT c10) <|
   .q (.eF c5) <|
   .l2 (Yz G_spec_l2ok H_spec_l2ok a1 a0 n (w64 (a2 - 1)) 0) (fun o11_0 =>
    .ret o11_0) fun ⟨o11_1_0, o11_1_1⟩ =>
   .ret o11_1_0) fun c10 =>
  .q (.eF c5) <|
  .le zd a0.L <|
  .lI 0 (a0.L.length : Int) (fun c11 =>
   .ret (-1)) fun c11 =>
  .eI a0.Kind 0 (fun c12 =>
   .ret (w64 (a2 - 1))) fun c12 =>
  .eI a0.Kind 6 (fun c13 =>
   .ret (w64 (a2 - 1))) fun c13 =>
  .q (.eF c7) <|
  .q (.eF c8) <|
  .q (.eF c3) <|
  .q (.eF c10) <|
  .q (.eF c5) <|
  .ret (-1)) fun c9 =>
 .ret (-1)) (zr Tryd.func84)
def xZ : Nat → GValue → Int → Int → Option Int
 | 0, _, _, _ => none
 | n + 1, a0, a1, a2 => vW (xZ n) n a0 a1 a2
theorem RL (n : Nat) : kn (xZ n) := by
 induction n with
 | zero => exact fun _ _ _ _ h => (by rw [xZ] at h; cases h)
 | succ n ih =>
  have ih_spec_l2ok := ih
  exact fun a0 a1 a2 r h => UV (xZ n) ih_spec_l2ok n a0 a1 a2 r (by rw [xZ] at h; exact h)
def okV (d : Nat) (left : Int) (v : GValue) : Int := if shV d v = true ∧ (ptV v : Int) <= left then left - ptV v else -1
theorem Lz {a : List UInt8} (h : a.length <= 2 ^ 20) : wv a = some (w9 a) := if_pos h
theorem L0 {a : List UInt8} (h : a.length <= 2 ^ 20) : qW a = some (vB a) := if_pos h
theorem MR (n : Int) : vn n = some (decide (-1000000000000 <= n ∧ n <= 1000000000000)) := by
 unfold vn
 by_cases h : (-1000000000000 : Int) <= n
 ·rw [if_pos h]; simp [h]
 ·rw [if_neg h]; simp [h]
theorem L1 {G : GValue → Int → Int → Option Int} {v : GValue} {dd : Nat} {deep : Int} (hdd : deep + dd = 5) (h1d : 1 <= deep) (hs : vsz v <= 2 ^ 20) (hk : v.Kind = 4 ∨ (v.Kind = 5 ∧ v.K.length = v.L.length))
  (hG : ∀ x ∈ v.L, ∀ r : Int, 0 <= r → r <= 40 → G x (deep + 1) r = some (okV dd r x)) : ∀ (d i m : Nat) (r : Int), i + d = v.L.length → d < m → 0 <= r → r <= 40 →
  ∃ z, yr G deep v m r (i : Int) = some (if ((v.Kind = 5 → wT v.K i d = true) ∧ (v.L.drop i).all (shV dd) = true) ∧ (xB (v.L.drop i) : Int) <= r then .inr (r - xB (v.L.drop i), z) else .inl (-1)) := by
 have he := xR v
 have hl := yC v.L
 intro d
 induction d with
 | zero =>
  intro i m r hi hm h0 h1
  obtain ⟨m, rfl, _⟩ := zo hm
  refine ⟨(i : Int), ?_⟩
  rw [yr, if_neg (by omega), List.drop_eq_nil_of_le (by omega), if_pos ⟨⟨fun _ => rfl, rfl⟩, by simpa [xB] using h0⟩]
  simp [xB]
 | succ d ih =>
  intro i m r hi hm h0 h1
  obtain ⟨m, rfl, hm'⟩ := zo hm
  have hil : i < v.L.length := by omega
  have hp : xB (v.L.drop i) = ptV v.L[i] + xB (v.L.drop (i + 1)) := by rw [xL hil]; simp only [xB]
  have ha : (v.L.drop i).all (shV dd) = (shV dd v.L[i] && (v.L.drop (i + 1)).all (shV dd)) := by rw [xL hil, List.all_cons]
  have hd1 : w64 (deep + 1) = deep + 1 := yD (by omega) (by omega)
  have tail : (v.Kind = 5 → kOk v.K i = true) → ∃ z, ((G v.L[i] (w64 (deep + 1)) r).bind fun r12 => if r12 < 0 then some (.inl (-1)) else yr G deep v m r12 (w64 ((i : Int) + 1))) =
    some (if ((v.Kind = 5 → wT v.K i (d + 1) = true) ∧ (v.L.drop i).all (shV dd) = true) ∧ (xB (v.L.drop i) : Int) <= r then .inr (r - xB (v.L.drop i), z) else .inl (-1)) := by
   intro hki
   rw [hd1, hG _ (List.getElem_mem hil) r h0 h1, Option.bind_some, yf (by omega), hp, ha]
   unfold okV
   by_cases hc : shV dd v.L[i] = true ∧ (ptV v.L[i] : Int) <= r
   ·rw [if_pos hc, if_neg (by omega)]
    obtain ⟨z, hz⟩ := ih (i + 1) m (r - ptV v.L[i]) (by omega) (by omega) (by omega) (by omega)
    refine ⟨z, ?_⟩
    rw [hz, hc.1, Bool.true_and]
    have hcond : (((v.Kind = 5 → wT v.K (i + 1) d = true) ∧ (v.L.drop (i + 1)).all (shV dd) = true) ∧ (xB (v.L.drop (i + 1)) : Int) <= r - ptV v.L[i]) ↔
      (((v.Kind = 5 → wT v.K i (d + 1) = true) ∧ (v.L.drop (i + 1)).all (shV dd) = true) ∧ ((ptV v.L[i] + xB (v.L.drop (i + 1)) : Nat) : Int) <= r) := by
     have hka : (v.Kind = 5 → wT v.K (i + 1) d = true) ↔ (v.Kind = 5 → wT v.K i (d + 1) = true) := by
      constructor
      ·intro h hk; rw [Y6, hki hk, h hk]; rfl
      ·intro h hk; have := h hk; rw [Y6, hki hk, Bool.true_and] at this; exact this
     rw [hka]
     constructor
     ·rintro ⟨h1, h2⟩; exact ⟨h1, by omega⟩
     ·rintro ⟨h1, h2⟩; exact ⟨h1, by omega⟩
    by_cases hd : ((v.Kind = 5 → wT v.K (i + 1) d = true) ∧ (v.L.drop (i + 1)).all (shV dd) = true) ∧ (xB (v.L.drop (i + 1)) : Int) <= r - ptV v.L[i]
    ·rw [if_pos hd, if_pos (hcond.1 hd)]; congr 3; omega
    ·rw [if_neg hd, if_neg (fun h => hd (hcond.2 h))]
   ·refine ⟨0, ?_⟩
    rw [if_neg hc, if_pos (by omega), if_neg]
    rintro ⟨⟨_, h2⟩, h3⟩
    rw [Bool.and_eq_true] at h2
    exact hc ⟨h2.1, by omega⟩
  have bad : v.Kind = 5 → kOk v.K i = false → ∃ z, (some (.inl (-1)) : Option (Int ⊕ (Int × Int))) = some (if ((v.Kind = 5 → wT v.K i (d + 1) = true) ∧ (v.L.drop i).all (shV dd) = true) ∧ (xB (v.L.drop i) : Int) <= r then .inr (r - xB (v.L.drop i), z) else .inl (-1)) := by
   intro hk hki
   refine ⟨0, ?_⟩
   rw [if_neg]
   rintro ⟨⟨h1, _⟩, _⟩
   have := h1 hk
   rw [Y6, hki] at this
   cases this
  rw [yr, if_pos (by omega)]
  rcases hk with hk | ⟨hk, hkl⟩
  ·rw [if_neg (by omega), zg, Option.bind_some, zw hil, Option.bind_some]
   exact tail fun h => by omega
  ·have hik : i < v.K.length := by omega
   have hx := Q3 (List.getElem_mem hik)
   rw [if_pos hk, zg, Option.bind_some, zw hik, Option.bind_some, Lz (by omega), Option.bind_some]
   cases hnm : w9 v.K[i] with
   | false =>
    dsimp only
    refine bad hk ?_
    by_cases h0 : i = 0
    ·subst h0; rw [XD hik, hnm]
    ·rw [Yd hik (by omega), hnm]; rfl
   | true =>
    dsimp only
    by_cases h0 : 0 < i
    ·rw [if_pos (by omega), Jn (by omega) h0, zg, Option.bind_some, zw (show i - 1 < v.K.length by omega), Option.bind_some]
     by_cases hb : Op.bytesLess (v.K[i - 1]'(by omega)) v.K[i] = true
     ·rw [if_pos hb, zw hil, Option.bind_some]
      exact tail fun _ => by rw [Yd hik h0, hnm, hb]; rfl
     ·rw [if_neg hb]
      refine bad hk ?_
      rw [Yd hik h0, hnm]; simpa using hb
    ·have : i = 0 := by omega
     subst this
     rw [if_neg (by omega), zw hil, Option.bind_some]
     exact tail fun _ => by rw [XD hik, hnm]
theorem HT {G : GValue → Int → Int → Option Int} {v : GValue} {f dd : Nat} {deep left : Int} (hdd : deep + dd = 5 ∨ (deep = 6 ∧ dd = 0)) (h1d : 1 <= deep) (hs : vsz v <= 2 ^ 20) (hf : v.L.length < f) (h0 : 0 <= left) (h1 : left <= 40)
  (hG : deep <= 5 → ∀ x ∈ v.L, ∀ r : Int, 0 <= r → r <= 40 → G x (deep + 1) r = some (okV dd r x)) : vW G f v deep left = some (okV (if deep <= 5 then dd + 1 else 0) left v) := by
 have he := xR v
 have hl := yC v.L
 have hpt := U3 v
 have hpl := MY v.L
 unfold vW
 rw [yD (by omega) (by omega)]
 by_cases hleft : left - 1 < 0
 ·rw [if_pos hleft]
  unfold okV; rw [if_neg (by rintro ⟨_, h⟩; omega)]
 rw [if_neg hleft]
 by_cases hdeep : 5 < deep
 ·rw [if_pos hdeep, if_neg (show ¬ deep <= 5 by omega)]
  unfold okV; rw [if_neg (by rintro ⟨h, _⟩; simp [shV] at h)]
 rw [if_neg hdeep, if_pos (show deep <= 5 by omega)]
 have hdd : deep + dd = 5 := by omega
 have hG := hG (by omega)
 unfold okV
 simp only [shV]
 have fin0 : v.L.length = 0 → (v.L.all (shV dd) = true ∧ ptV v = 1) := fun h => by
  have : v.L = [] := List.eq_nil_of_length_eq_zero h
  rw [hpt, this]; exact ⟨rfl, rfl⟩
 have yes : yh v = true → v.L.length = 0 → some (left - 1) = some (if (yh v && v.L.all (shV dd)) = true ∧ (ptV v : Int) <= left then left - ptV v else -1) := fun h1 h2 => by
  obtain ⟨a1, a2⟩ := fin0 h2
  rw [h1, a1, a2, if_pos ⟨rfl, by omega⟩]; rfl
 have no : yh v = false → some (-1) = some (if (yh v && v.L.all (shV dd)) = true ∧ (ptV v : Int) <= left then left - ptV v else -1) := fun h1 => by
  rw [h1, if_neg (by rintro ⟨h, _⟩; cases h)]
 have lp : v.Kind = 4 ∨ (v.Kind = 5 ∧ v.K.length = v.L.length) → (∀ b : Bool, v.L.length <= 40 → ((v.Kind = 5 → wT v.K 0 v.L.length = true) ↔ b = true) → yh v = b) → ((yr G deep v f (left - 1) 0).bind fun o8 => match o8 with | .inl o8_0 => some o8_0 | .inr (⟨o8_1_0, o8_1_1⟩) => some o8_1_0) =
   some (if (yh v && v.L.all (shV dd)) = true ∧ (ptV v : Int) <= left then left - ptV v else -1) := fun hk hloc => by
  obtain ⟨z, hz⟩ := L1 (G := G) hdd h1d hs hk hG v.L.length 0 f (left - 1) (by omega) (by omega) (by omega) (by omega)
  rw [show ((0 : Nat) : Int) = 0 from rfl, List.drop_zero] at hz
  rw [hz, Option.bind_some]
  by_cases hc : ((v.Kind = 5 → wT v.K 0 v.L.length = true) ∧ v.L.all (shV dd) = true) ∧ (xB v.L : Int) <= left - 1
  ·rw [if_pos hc]
   have h40 : v.L.length <= 40 := by omega
   have := hloc true h40 ⟨fun _ => rfl, fun _ => hc.1.1⟩
   rw [this, hc.1.2, if_pos ⟨rfl, by omega⟩, hpt]
   dsimp only
   congr 1; omega
  ·rw [if_neg hc, if_neg]
   rintro ⟨h2, h3⟩
   rw [Bool.and_eq_true] at h2
   refine hc ⟨⟨?_, h2.2⟩, by omega⟩
   by_cases h40 : v.L.length <= 40
   ·by_cases hb : (v.Kind = 5 → wT v.K 0 v.L.length = true)
    ·exact hb
    ·have := hloc false h40 ⟨fun h => (hb h).elim, fun h => by cases h⟩
     rw [this] at h2; cases h2.1
   ·omega
 have hloc : ∀ k, v.Kind = k → yh v = (if k = 0 ∨ k = 6 then decide (v.N = 0 ∧ v.S.length = 0 ∧ v.K.length = 0 ∧ v.L.length = 0)
   else if k = 1 then decide ((0 <= v.N ∧ v.N <= 1) ∧ v.S.length = 0 ∧ v.K.length = 0 ∧ v.L.length = 0)
   else if k = 2 then decide ((-1000000000000 <= v.N ∧ v.N <= 1000000000000) ∧ v.S.length = 0 ∧ v.K.length = 0 ∧ v.L.length = 0)
   else if k = 3 then vB v.S && decide (v.N = 0 ∧ v.K.length = 0 ∧ v.L.length = 0)
   else if k = 4 then decide (v.N = 0 ∧ v.S.length = 0 ∧ v.K.length = 0 ∧ v.L.length <= 40)
   else if k = 5 then decide (v.K.length = v.L.length ∧ v.N = 0 ∧ v.S.length = 0 ∧ v.L.length <= 40) && wT v.K 0 v.K.length
   else false) := fun k hk => by unfold yh; rw [hk]
 by_cases k3 : v.Kind = 3
 ·have hv := hloc 3 k3
  simp only [show ¬ ((3 : Int) = 0 ∨ (3 : Int) = 6) by omega, if_false, show ¬ ((3 : Int) = 1) by omega, show ¬ ((3 : Int) = 2) by omega, if_true] at hv
  rw [if_pos k3]
  by_cases a1 : 0 < (v.K.length : Int)
  ·rw [if_pos a1]; exact no (by rw [hv, decide_eq_false (by omega)]; simp)
  ·rw [if_neg a1]
   by_cases a2 : v.N = 0
   ·rw [if_pos a2]
    by_cases a3 : 0 < (v.L.length : Int)
    ·rw [if_pos a3]; exact no (by rw [hv, decide_eq_false (by omega)]; simp)
    ·rw [if_neg a3, L0 (by omega), Option.bind_some]
     rw [decide_eq_true (by omega), Bool.and_true] at hv
     cases ht : vB v.S with
     | true => exact yes (by rw [hv, ht]) (by omega)
     | false => exact no (by rw [hv, ht])
   ·rw [if_neg a2]; exact no (by rw [hv, decide_eq_false (by omega)]; simp)
 rw [if_neg k3]
 by_cases hS : 0 < (v.S.length : Int)
 ·rw [if_pos hS]
  refine no ?_
  unfold yh
  simp only [k3, if_false]
  repeat' split
  all_goals first | rfl | (rw [decide_eq_false (by omega)]; try rfl)
 rw [if_neg hS]
 by_cases k5 : v.Kind = 5
 ·have hv := hloc 5 k5
  simp only [show ¬ ((5 : Int) = 0 ∨ (5 : Int) = 6) by omega, if_false, show ¬ ((5 : Int) = 1) by omega, show ¬ ((5 : Int) = 2) by omega, show ¬ ((5 : Int) = 3) by omega, show ¬ ((5 : Int) = 4) by omega, if_true] at hv
  rw [if_pos k5]
  by_cases a2 : v.N = 0
  ·rw [if_pos a2]
   by_cases a3 : (v.K.length : Int) = (v.L.length : Int)
   ·rw [if_pos a3]
    refine lp (.inr ⟨k5, by omega⟩) fun b h40 hb => ?_
    rw [hv, decide_eq_true (by omega), Bool.true_and, show v.K.length = v.L.length by omega, Bool.eq_iff_iff, <- hb]
    exact ⟨fun h _ => h, fun h => h k5⟩
   ·rw [if_neg a3]; exact no (by rw [hv, decide_eq_false (by omega)]; rfl)
  ·rw [if_neg a2]; exact no (by rw [hv, decide_eq_false (by omega)]; rfl)
 rw [if_neg k5]
 by_cases hK : 0 < (v.K.length : Int)
 ·rw [if_pos hK]
  refine no ?_
  unfold yh
  simp only [k3, k5, if_false]
  repeat' split
  all_goals first | rfl | (rw [decide_eq_false (by omega)]; try rfl)
 rw [if_neg hK]
 by_cases k1 : v.Kind = 1
 ·have hv := hloc 1 k1
  simp only [show ¬ ((1 : Int) = 0 ∨ (1 : Int) = 6) by omega, if_false, if_true] at hv
  rw [if_pos k1]
  by_cases a3 : 0 < (v.L.length : Int)
  ·rw [if_pos a3]; exact no (by rw [hv, decide_eq_false (by omega)])
  ·rw [if_neg a3]
   by_cases a4 : v.N < 0
   ·rw [if_pos a4]; exact no (by rw [hv, decide_eq_false (by omega)])
   ·rw [if_neg a4]
    by_cases a5 : 1 < v.N
    ·rw [if_pos a5]; exact no (by rw [hv, decide_eq_false (by omega)])
    ·rw [if_neg a5]; exact yes (by rw [hv, decide_eq_true (by omega)]) (by omega)
 rw [if_neg k1]
 by_cases k2 : v.Kind = 2
 ·have hv := hloc 2 k2
  simp only [show ¬ ((2 : Int) = 0 ∨ (2 : Int) = 6) by omega, if_false, show ¬ ((2 : Int) = 1) by omega, if_true] at hv
  rw [if_pos k2]
  by_cases a3 : 0 < (v.L.length : Int)
  ·rw [if_pos a3]; exact no (by rw [hv, decide_eq_false (by omega)])
  ·rw [if_neg a3, MR, Option.bind_some]
   by_cases a4 : -1000000000000 <= v.N ∧ v.N <= 1000000000000
   ·rw [decide_eq_true a4]; exact yes (by rw [hv, decide_eq_true (by omega)]) (by omega)
   ·rw [decide_eq_false a4]; exact no (by rw [hv, decide_eq_false (by omega)])
 rw [if_neg k2]
 by_cases a2 : v.N = 0
 ·rw [if_pos a2]
  by_cases k4 : v.Kind = 4
  ·have hv := hloc 4 k4
   simp only [show ¬ ((4 : Int) = 0 ∨ (4 : Int) = 6) by omega, if_false, show ¬ ((4 : Int) = 1) by omega, show ¬ ((4 : Int) = 2) by omega, show ¬ ((4 : Int) = 3) by omega, if_true] at hv
   rw [if_pos k4]
   refine lp (.inl k4) fun b h40 hb => ?_
   rw [hv, decide_eq_true (by omega)]
   exact (hb.1 fun h => by omega).symm
  ·rw [if_neg k4]
   by_cases a3 : 0 < (v.L.length : Int)
   ·rw [if_pos a3]
    refine no ?_
    unfold yh
    simp only [k1, k2, k3, k4, k5, if_false]
    repeat' split
    all_goals first | rfl | (rw [decide_eq_false (by omega)])
   ·rw [if_neg a3]
    by_cases k0 : v.Kind = 0
    ·rw [if_pos k0]; exact yes (by unfold yh; rw [if_pos (.inl k0), decide_eq_true (by omega)]) (by omega)
    ·rw [if_neg k0]
     by_cases k6 : v.Kind = 6
     ·rw [if_pos k6]; exact yes (by unfold yh; rw [if_pos (.inr k6), decide_eq_true (by omega)]) (by omega)
     ·rw [if_neg k6]
      exact no (by unfold yh; simp only [k0, k1, k2, k3, k4, k5, k6, or_self, if_false])
 ·rw [if_neg a2]
  refine no ?_
  unfold yh
  simp only [k1, k2, k3, k5, if_false]
  repeat' split
  all_goals first | rfl | (rw [decide_eq_false (by omega)])
theorem HU : ∀ (N : Nat) (v : GValue), vsz v < N → vsz v <= 2 ^ 20 → ∀ (f : Nat) (deep left : Int), vsz v + 2 <= f → 1 <= deep → deep <= 6 → 0 <= left → left <= 40 → xZ f v deep left = some (okV (6 - deep).toNat left v) := by
 intro N
 induction N with
 | zero => intro v hv; omega
 | succ N ih =>
  intro v hv hs f deep left hf h1 h2 h3 h4
  obtain ⟨f, rfl, _⟩ := zo (show 0 < f by omega)
  have he := xR v
  have hl := yC v.L
  rw [xZ]
  have := HT (G := xZ f) (f := f) (dd := (5 - deep).toNat) (deep := deep) (left := left) (by omega) h1 hs (by omega) h3 h4 fun hd x hx r g0 g1 => by
   have hm := wy hx
   have := ih x (by omega) (by omega) f (deep + 1) r (by omega) (by omega) (by omega) g0 g1
   rw [show (6 - (deep + 1)).toNat = (5 - deep).toNat by omega] at this
   exact this
  rw [this]
  congr 2
  by_cases hd : deep <= 5
  ·rw [if_pos hd]; omega
  ·rw [if_neg hd]; omega
def ko (a0 : GValue) (a1 : Int) (a2 : Int) : Option Int := if vsz a0 <= 2 ^ 20 ∧ (1 <= a1 ∧ a1 <= 6) ∧ 0 <= a2 ∧ a2 <= 40 then some (okV (6 - a1).toNat a2 a0) else none
theorem V5 (a0 : GValue) (a1 : Int) (a2 : Int) (r : Int) (h : ko a0 a1 a2 = some r) : ∃ n, xZ n a0 a1 a2 = some r := by
 unfold ko at h
 obtain ⟨⟨hs, ⟨h1, h2⟩, h3, h4⟩, h⟩ := zM h
 exact ⟨vsz a0 + 2, by rw [<- h]; exact HU _ a0 (Nat.lt_succ_self _) hs _ a1 a2 (Nat.le_refl _) h1 h2 h3 h4⟩
theorem Un : kn ko := by
 intro a0 a1 a2 r h
 obtain ⟨n, hn⟩ := V5 a0 a1 a2 r h
 exact (RL n) a0 a1 a2 r hn
def jC (a0 : GValue) : Option Bool :=
 (ko a0 1 40).bind fun r1 =>
 some (decide (0 <= r1))
theorem XQ (a0 : GValue) : Oc (jC a0) 48 [] [.val true (zH a0)] fun r => (vb r, []) := tc (
 .cl (Un a0 1 40) fun r1 =>
 .gD 0 r1 <|
 .ret (decide (0 <= r1))) (zr Tryd.func48)
def xw (a0 : Int) (a1 : Int) : Option Int :=
 if a0 < a1 then
  some (-1)
 else
 if a1 < a0 then
  some 1
 else
 some 0
theorem wW (a0 : Int) (a1 : Int) : Oc (xw a0 a1) 87 [] [vi a0, vi a1] fun r => (vi r, []) := tc (
 .lI a0 a1 (fun c1 =>
  .ret (-1)) fun c1 =>
 .lI a1 a0 (fun c2 =>
  .ret 1) fun c2 =>
 .ret 0) (zr Tryd.func87)
def xp (a0 : (List UInt8)) (a1 : (List UInt8)) : Option Int :=
 if Op.bytesLess a0 a1 = true then
  some (-1)
 else
 if Op.bytesLess a1 a0 = true then
  some 1
 else
 some 0
theorem vt (a0 : (List UInt8)) (a1 : (List UInt8)) : Oc (xp a0 a1) 116 [] [vq za a0, vq za a1] fun r => (vi r, []) := tc (
 .bt a0 <|
 .bt a1 <|
 .bI a0 a1 (fun c1 =>
  .ret (-1)) fun c1 =>
 .bt a0 <|
 .bt a1 <|
 .bI a1 a0 (fun c2 =>
  .ret 1) fun c2 =>
 .ret 0) (zr Tryd.func116)
def kz (a0 : GStep) (a1 : GStep) : Option Int :=
 if a0.Kind = a1.Kind then
  if a0.Kind = 1 then
   (xw a0.I a1.I).bind fun r3 =>
   some r3
  else
  (xp a0.Key a1.Key).bind fun r3 =>
  some r3
 else
 (xw a0.Kind a1.Kind).bind fun r2 =>
 some r2
theorem V6 (a0 : GStep) (a1 : GStep) : Oc (kz a0 a1) 86 [] [.val true (jf a0), .val true (jf a1)] fun r => (vi r, []) := tc (
 .eI a0.Kind a1.Kind (fun c1 =>
  .eI a0.Kind 1 (fun c2 =>
   .cl (wW a0.I a1.I) fun r3 =>
   .ret r3) fun c2 =>
  .cl (vt a0.Key a1.Key) fun r3 =>
  .ret r3) fun c1 =>
 .cl (wW a0.Kind a1.Kind) fun r2 =>
 .ret r2) (zr Tryd.func86)
def WK (F : (List GStep) → (List GStep) → Option Int) : Prop := ∀ (a0 : (List GStep)) (a1 : (List GStep)), Oc (F a0 a1) 50 [] [vq zb a0, vq zb a1] fun r => (vi r, [])
def xx (a0 : (List GStep)) (a1 : (List GStep)) : Nat → Int → Option (Int ⊕ Int)
  | 0, _ => none
  | m + 1, v2 =>
  if v2 < (a0.length : Int) then
   if v2 < (a1.length : Int) then
    (z7 v2).bind fun i3 =>
    (a0[i3]?).bind fun x4 =>
    (a1[i3]?).bind fun x5 =>
    (kz x4 x5).bind fun r6 =>
    if r6 = 0 then
     xx a0 a1 m (w64 (v2 + 1))
    else
    some (.inl r6)
   else
   some (.inr v2)
  else
  some (.inr v2)
theorem Jy (a0 : (List GStep)) (a1 : (List GStep)) (m : Nat) : ∀ (v2 : Int), Ol (xx a0 a1 m v2) 50 (ye Tryd.f50 0) ⟨[(0, vq zb a0), (1, vq zb a1), (5, vi v2)], [], 0⟩ fun o => match o with | .inl o_0 => (.ret, ⟨[(4, vi o_0)], [], 0⟩) | .inr (o_1) => (.exit 0, ⟨[(0, vq zb a0), (1, vq zb a1), (5, vi o_1), (16, vb false)], [], 0⟩) := by
  induction m with
  | zero => intro v2 o h; cases h
  | succ m ih => exact fun v2 => tlp (
   .le zb a0 <|
   .lI v2 (a0.length : Int) (fun c1 =>
    .le zb a1 <|
    .lI v2 (a1.length : Int) (fun c2 =>
     .na v2 fun i3 =>
     .ix yv a0 i3 fun x4 =>
     .ag 1 <|
     .ix yv a1 i3 fun x5 =>
     .cl (V6 x4 x5) fun r6 =>
     .eI r6 0 (fun c7 =>
      .go (ih (w64 (v2 + 1)))) fun c7 =>
     .ret (.inl r6)) fun c2 =>
    .ret (.inr v2)) fun c1 =>
   .ret (.inr v2))
def ZS (n : Nat) (a0 : (List GStep)) (a1 : (List GStep)) : Option Int :=
 (xx a0 a1 n 0).bind fun o1 =>
 match o1 with
 | .inl o1_0 =>
  some o1_0
 | .inr (o1_1) =>
  (xw (a0.length : Int) (a1.length : Int)).bind fun r2 =>
  some r2
theorem Uo (n : Nat) : WK (ZS n) := fun a0 a1 => tc (
 .l2 (Jy a0 a1 n 0) (fun o1_0 =>
  .ret o1_0) fun o1_1 =>
 .le zb a0 <|
 .le zb a1 <|
 .cl (wW (a0.length : Int) (a1.length : Int)) fun r2 =>
 .ret r2) (zr Tryd.func50)
theorem Y0 (a b : Int) : xw a b = some (ki a b) := by
 unfold xw ki
 split
 ·rfl
 ·split <;> rfl
theorem Gg : ∀ (a b : List UInt8), xp a b = some (Lib.compareBytes a b) := by
 intro a
 induction a with
 | nil => intro b; cases b <;> simp [xp, Op.bytesLess, Lib.compareBytes]
 | cons x a ih =>
  intro b
  cases b with
  | nil => simp [xp, Op.bytesLess, Lib.compareBytes]
  | cons y b =>
   have := ih b
   unfold xp at this ⊢
   simp only [Op.bytesLess, Lib.compareBytes]
   by_cases h1 : x < y
   ·simp [h1]
   ·by_cases h2 : y < x
    ·have h3 : ¬ x = y := fun e => by subst e; exact h1 h2
     have h4 : ¬ y = x := fun e => h3 e.symm
     simp [h1, h2, h3, h4]
    ·have h3 : x = y := UInt8.le_antisymm (UInt8.not_lt.1 h2) (UInt8.not_lt.1 h1)
     subst h3
     simpa [h1] using this
theorem L2 (s t : GStep) : kz s t = some (Qk s t) := by
 unfold kz Qk
 rw [Y0, Y0, Gg]
 by_cases c : s.Kind = t.Kind
 ·rw [if_pos c, if_pos c]
  by_cases c1 : s.Kind = 1
  ·rw [if_pos c1, if_pos c1]; rfl
  ·rw [if_neg c1, if_neg c1]; rfl
 ·rw [if_neg c, if_neg c]; rfl
theorem Od {a b : List GStep} (ha : a.length <= 2 ^ 40) : ∀ (la lb p q : List GStep) (m : Nat), a = p ++ la → b = q ++ lb → p.length = q.length → la.length < m → ∃ z, xx a b m (p.length : Int) = some z ∧ jN la lb = (match z with | .inl c => c | .inr _ => ki (a.length : Int) (b.length : Int)) := by
 intro la
 induction la with
 | nil =>
  intro lb p q m ea eb hpq hm
  obtain ⟨m, rfl, _⟩ := zo hm
  refine ⟨.inr (p.length : Int), by rw [xx, ea, List.append_nil, if_neg (by omega)], ?_⟩
  have l1 : a.length = p.length := by rw [ea]; simp
  have l2 : b.length = q.length + lb.length := by rw [eb]; simp
  cases lb with
  | nil => rw [show (b.length : Int) = (a.length : Int) by simp only [List.length_nil] at l2; omega]; simp only [R5]; rfl
  | cons y lb => simp only [List.length_cons] at l2; unfold ki; rw [if_pos (by omega)]; rfl
 | cons x la ih =>
  intro lb p q m ea eb hpq hm
  obtain ⟨m, rfl, hm'⟩ := zo hm
  have l1 : a.length = p.length + (la.length + 1) := by rw [ea]; simp
  have l2 : b.length = q.length + lb.length := by rw [eb]; simp
  simp only [List.length_cons] at hm'
  cases lb with
  | nil =>
   simp only [List.length_nil] at l2
   refine ⟨.inr (p.length : Int), by rw [xx, if_pos (by omega), if_neg (by omega)], ?_⟩
   unfold ki; rw [if_neg (by omega), if_pos (by omega)]; rfl
  | cons y lb =>
   simp only [List.length_cons] at l2
   have ga : a[p.length]? = some x := by rw [ea]; exact zZ p x la
   have gb : b[p.length]? = some y := by rw [eb, hpq]; exact zZ q y lb
   rw [xx, if_pos (by omega), if_pos (by omega), zg, Option.bind_some, ga, Option.bind_some, gb, Option.bind_some, L2, Option.bind_some, jN]
   by_cases c : Qk x y = 0
   ·rw [if_pos c, if_pos c, yj p x (by omega)]
    exact ih lb (p ++ [x]) (q ++ [y]) m (by rw [ea]; simp) (by rw [eb]; simp) (by simp [hpq]) (by omega)
   ·rw [if_neg c, if_neg c]
    exact ⟨_, rfl, rfl⟩
def xa (a0 : (List GStep)) (a1 : (List GStep)) : Option Int := if a0.length <= 2 ^ 40 then some (jN a0 a1) else none
theorem Kz (a0 : (List GStep)) (a1 : (List GStep)) (r : Int) (h : xa a0 a1 = some r) : ∃ n, ZS n a0 a1 = some r := by
 unfold xa at h
 obtain ⟨h0, h⟩ := zM h
 obtain ⟨z, hz, hr⟩ := Od (b := a1) h0 a0 a1 [] [] (a0.length + 1) rfl rfl rfl (by omega)
 refine ⟨a0.length + 1, ?_⟩
 unfold ZS
 simp only [List.length_nil, Int.natCast_zero] at hz
 rw [hz, Option.bind_some, <- h, hr]
 cases z with
 | inl c => rfl
 | inr c => dsimp only; rw [Y0]; rfl
theorem k7 : WK xa := fun a0 a1 r h => (Kz a0 a1 r h).elim fun n hn => Uo n a0 a1 r hn
def xy (a0 : (List GStep)) (a1 : (List GStep)) : Option Bool :=
 if (a0.length : Int) <= (a1.length : Int) then
  (z7 (a0.length : Int)).bind fun i2 =>
  (jB a1 none (some i2)).bind fun s3 =>
  (xa a0 s3).bind fun r4 =>
  some (decide (r4 = 0))
 else
 some false
theorem kC (a0 : (List GStep)) (a1 : (List GStep)) : Oc (xy a0 a1) 51 [] [vq zb a0, vq zb a1] fun r => (vb r, []) := tc (
 .le zb a0 <|
 .le zb a1 <|
 .gI (a0.length : Int) (a1.length : Int) (fun c1 =>
  .le zb a0 <|
  .na (a0.length : Int) fun i2 =>
  .ct zb a1 none (some i2) fun s3 =>
  .un Q2 a1 <|
  .cl (k7 a0 s3) fun r4 =>
  .eD r4 0 <|
  .ret (decide (r4 = 0))) fun c1 =>
 .ret false) (zr Tryd.func51)
def jD (F : GValue → GValue → Option Int) : Prop := ∀ (a0 : GValue) (a1 : GValue), Oc (F a0 a1) 85 [] [.val true (zH a0), .val true (zH a1)] fun r => (vi r, [])
def js (G_spec_l2cmp : GValue → GValue → Option Int) (a0 : GValue) (a1 : GValue) : Nat → Int → Option (Int ⊕ Int)
  | 0, _ => none
  | m + 1, v0 =>
  if v0 < (a0.L.length : Int) then
   if v0 < (a1.L.length : Int) then
    if a0.Kind = 5 then
     (z7 v0).bind fun i4 =>
     (a0.K[i4]?).bind fun x5 =>
     (a1.K[i4]?).bind fun x6 =>
     (xp x5 x6).bind fun r7 =>
     if r7 = 0 then
      (a0.L[i4]?).bind fun x9 =>
      (a1.L[i4]?).bind fun x10 =>
      (G_spec_l2cmp x9 x10).bind fun r11 =>
      if r11 = 0 then
       js G_spec_l2cmp a0 a1 m (w64 (v0 + 1))
      else
      some (.inl r11)
     else
     some (.inl r7)
    else
    (z7 v0).bind fun i4 =>
    (a0.L[i4]?).bind fun x5 =>
    (a1.L[i4]?).bind fun x6 =>
    (G_spec_l2cmp x5 x6).bind fun r7 =>
    if r7 = 0 then
     js G_spec_l2cmp a0 a1 m (w64 (v0 + 1))
    else
    some (.inl r7)
   else
   some (.inr v0)
  else
  some (.inr v0)
theorem Jz (G_spec_l2cmp : GValue → GValue → Option Int) (H_spec_l2cmp : jD G_spec_l2cmp) (a0 : GValue) (a1 : GValue) (m : Nat) : ∀ (v0 : Int), Ol (js G_spec_l2cmp a0 a1 m v0) 85 (ye Tryd.f85 0) ⟨[(2, vp 0 0), (3, vp 1 0), (5, vi v0)], [.var (zH a0), .var (zH a1)], 0⟩ fun o => match o with | .inl o_0 => (.ret, ⟨[(4, vi o_0)], [], 0⟩) | .inr (o_1) => (.exit 0, ⟨[(2, vp 0 0), (3, vp 1 0), (5, vi o_1), (47, vb false)], [.var (zH a0), .var (zH a1)], 0⟩) := by
  induction m with
  | zero => intro v0 o h; cases h
  | succ m ih => exact fun v0 => tlp (
   .le zd a0.L <|
   .lI v0 (a0.L.length : Int) (fun c1 =>
    .le zd a1.L <|
    .lI v0 (a1.L.length : Int) (fun c2 =>
     .eI a0.Kind 5 (fun c3 =>
      .na v0 fun i4 =>
      .ix0 (zL za) a0.K i4 fun x5 =>
      .ag 1 <|
      .ix0 (zL za) a1.K i4 fun x6 =>
      .cl (vt x5 x6) fun r7 =>
      .eI r7 0 (fun c8 =>
       .ag 3 <|
       .ix zU a0.L i4 fun x9 =>
       .ag 4 <|
       .ix zU a1.L i4 fun x10 =>
       .cl (H_spec_l2cmp x9 x10) fun r11 =>
       .eI r11 0 (fun c12 =>
        .go (ih (w64 (v0 + 1)))) fun c12 =>
       .ret (.inl r11)) fun c8 =>
      .ret (.inl r7)) fun c3 =>
     .na v0 fun i4 =>
     .ix zU a0.L i4 fun x5 =>
     .ag 1 <|
     .ix zU a1.L i4 fun x6 =>
     .cl (H_spec_l2cmp x5 x6) fun r7 =>
     .eI r7 0 (fun c8 =>
      .go (ih (w64 (v0 + 1)))) fun c8 =>
     .ret (.inl r7)) fun c2 =>
    .ret (.inr v0)) fun c1 =>
   .ret (.inr v0))
def vu (G_spec_l2cmp : GValue → GValue → Option Int) (n : Nat) (a0 : GValue) (a1 : GValue) : Option Int :=
 if a0.Kind = a1.Kind then
  if a0.Kind = 3 then
   (xp a0.S a1.S).bind fun r3 =>
   some r3
  else
  if a0.N = a1.N then
   (js G_spec_l2cmp a0 a1 n 0).bind fun o4 =>
   match o4 with
   | .inl o4_0 =>
    some o4_0
   | .inr (o4_1) =>
    (xw (a0.L.length : Int) (a1.L.length : Int)).bind fun r5 =>
    some r5
  else
  (xw a0.N a1.N).bind fun r4 =>
  some r4
 else
 (xw a0.Kind a1.Kind).bind fun r2 =>
 some r2
theorem Up (G_spec_l2cmp : GValue → GValue → Option Int) (H_spec_l2cmp : jD G_spec_l2cmp) (n : Nat) : jD (vu G_spec_l2cmp n) := fun a0 a1 => tc (
 .eI a0.Kind a1.Kind (fun c1 =>
  .eI a0.Kind 3 (fun c2 =>
   .cl (vt a0.S a1.S) fun r3 =>
   .ret r3) fun c2 =>
  .eI a0.N a1.N (fun c3 =>
   .l2 (Jz G_spec_l2cmp H_spec_l2cmp a0 a1 n 0) (fun o4_0 =>
    .ret o4_0) fun o4_1 =>
   .le zd a0.L <|
   .le zd a1.L <|
   .cl (wW (a0.L.length : Int) (a1.L.length : Int)) fun r5 =>
   .ret r5) fun c3 =>
  .cl (wW a0.N a1.N) fun r4 =>
  .ret r4) fun c1 =>
 .cl (wW a0.Kind a1.Kind) fun r2 =>
 .ret r2) (zr Tryd.func85)
def xz : Nat → GValue → GValue → Option Int
 | 0, _, _ => none
 | n + 1, a0, a1 => vu (xz n) n a0 a1
theorem V7 (n : Nat) : jD (xz n) := by
 induction n with
 | zero => exact fun _ _ _ h => (by rw [xz] at h; cases h)
 | succ n ih =>
  have ih_spec_l2cmp := ih
  exact fun a0 a1 r h => Up (xz n) ih_spec_l2cmp n a0 a1 r (by rw [xz] at h; exact h)
def vv (a0 : GValue) (a1 : GValue) : Option Int := xz (vsz a0 + 3) a0 a1
theorem K0 (a0 : GValue) (a1 : GValue) (r : Int) (h : vv a0 a1 = some r) : ∃ n, xz n a0 a1 = some r := ⟨_, h⟩
theorem RM : jD vv := by
 intro a0 a1 r h
 obtain ⟨n, hn⟩ := K0 a0 a1 r h
 exact (V7 n) a0 a1 r hn
def wX (a0 : GValue) : Option Bool :=
 (vv a0 (GValue.mk 0 0 [] [] [])).bind fun r1 =>
 some (decide (r1 = 0))
theorem vL (a0 : GValue) : Oc (wX a0) 49 [] [.val true (zH a0)] fun r => (vb r, []) := tc (
 .cl (RM a0 (GValue.mk 0 0 [] [] [])) fun r1 =>
 .eD r1 0 <|
 .ret (decide (r1 = 0))) (zr Tryd.func49)
def ZT (F : (List GChange) → Option Bool) : Prop := ∀ (a0 : (List GChange)), Oc (F a0) 22 [] [vq yz a0] fun r => (vb r, [])
def zy (a0 : (List GChange)) : Nat → Int → Option (Bool ⊕ Int)
  | 0, _ => none
  | m + 1, v1 =>
  if v1 < (a0.length : Int) then
   (z7 v1).bind fun i2 =>
   (a0[i2]?).bind fun x3 =>
   (qV x3.Path).bind fun r4 =>
   if r4 = true then
    (jC x3.Old).bind fun r6 =>
    if r6 = true then
     (jC x3.New).bind fun r8 =>
     if r8 = true then
      if x3.Had = true then
       if x3.Has = true then
        if 0 < v1 then
         (z7 (w64 (v1 - 1))).bind fun i13 =>
         (a0[i13]?).bind fun x14 =>
         (xa x14.Path x3.Path).bind fun r15 =>
         if 0 <= r15 then
          some (.inl false)
         else
         (xy x14.Path x3.Path).bind fun r17 =>
         if r17 = true then
          some (.inl false)
         else
         zy a0 m (w64 (v1 + 1))
        else
        zy a0 m (w64 (v1 + 1))
       else
       (wX x3.New).bind fun r12 =>
       if r12 = true then
        if (x3.Path.length : Int) = 0 then
         some (.inl false)
        else
        (z7 (w64 ((x3.Path.length : Int) - 1))).bind fun i15 =>
        (x3.Path[i15]?).bind fun x16 =>
        if x16.Kind = 0 then
         if 0 < v1 then
          (z7 (w64 (v1 - 1))).bind fun i19 =>
          (a0[i19]?).bind fun x20 =>
          (xa x20.Path x3.Path).bind fun r21 =>
          if 0 <= r21 then
           some (.inl false)
          else
          (xy x20.Path x3.Path).bind fun r23 =>
          if r23 = true then
           some (.inl false)
          else
          zy a0 m (w64 (v1 + 1))
         else
         zy a0 m (w64 (v1 + 1))
        else
        some (.inl false)
       else
       some (.inl false)
      else
      (wX x3.Old).bind fun r11 =>
      if r11 = true then
       if x3.Has = true then
        if (x3.Path.length : Int) = 0 then
         some (.inl false)
        else
        (z7 (w64 ((x3.Path.length : Int) - 1))).bind fun i15 =>
        (x3.Path[i15]?).bind fun x16 =>
        if x16.Kind = 0 then
         if 0 < v1 then
          (z7 (w64 (v1 - 1))).bind fun i19 =>
          (a0[i19]?).bind fun x20 =>
          (xa x20.Path x3.Path).bind fun r21 =>
          if 0 <= r21 then
           some (.inl false)
          else
          (xy x20.Path x3.Path).bind fun r23 =>
          if r23 = true then
           some (.inl false)
          else
          zy a0 m (w64 (v1 + 1))
         else
         zy a0 m (w64 (v1 + 1))
        else
        some (.inl false)
       else
       (wX x3.New).bind fun r14 =>
       if r14 = true then
        some (.inl false)
       else
       some (.inl false)
      else
      some (.inl false)
     else
     some (.inl false)
    else
    some (.inl false)
   else
   some (.inl false)
  else
  some (.inr v1)
theorem X2 (a0 : (List GChange)) (m : Nat) : ∀ (v1 : Int), Ol (zy a0 m v1) 22 (ye Tryd.f22 0) ⟨[(0, vq yz a0), (3, vi v1)], [], 0⟩ fun o => match o with | .inl o_0 => (.ret, ⟨[(2, vb o_0)], [], 0⟩) | .inr (o_1) => (.exit 0, ⟨[(0, vq yz a0), (3, vi o_1), (12, vb false)], [], 0⟩) := by
  induction m with
  | zero => intro v1 o h; cases h
  | succ m ih => exact fun v1 => tlp (
   .le yz a0 <|
   .lI v1 (a0.length : Int) (fun c1 =>
    .na v1 fun i2 =>
    .ix eq_GChange a0 i2 fun x3 =>
    .cl (V3 x3.Path) fun r4 =>
    .sp (r4 = true) (fun c5 =>
     .kF 0 (nT c5) <|
     .kF 0 (nT c5) <|
     .kF 0 (nT c5) <|
     .cl (XQ x3.Old) fun r6 =>
     .kF 0 (nT c5) <|
     .kF 0 (nT c5) <|
     .sp (r6 = true) (fun c7 =>
      .kF 0 (nT c7) <|
      .kF 0 (nT c7) <|
      .kF 0 (nT c7) <|
      .cl (XQ x3.New) fun r8 =>
      .kF 0 (nT c7) <|
      .kF 0 (nT c7) <|
      .sp (r8 = true) (fun c9 =>
       .kF 0 (nT c9) <|
       .kF 0 (nT c9) <|
       .kF 0 (nT c9) <|
       .kF 0 (nT c9) <|
       .sp (x3.Had = true) (fun c10 =>
        .kF 0 (nT c10) <|
        .kF 0 (nT c10) <|
        .kF 0 (nT c10) <|
        .kF 0 (nT c10) <|
        .kF 0 (nT c9) <|
        .kF 0 (nT c10) <|
        .kF 0 (nT c9) <|
        .sp (x3.Has = true) (fun c11 =>
         .kF 4 (nT c11) <|
         .kF 0 (nT c11) <|
         .kF 0 (nT c11) <|
         .kF 0 (nT c11) <|
         .kF 1 (nT c11) <|
         .kF 5 (nT c10) <|
         .kF 0 (nT c10) <|
         .kF 0 (nT c10) <|
         .kF 1 (nT c10) <|
         .le zb x3.Path <|
         .eb c10 c11 <|
         .lI 0 v1 (fun c12 =>
          .na (w64 (v1 - 1)) fun i13 =>
          .ix eq_GChange a0 i13 fun x14 =>
          .cl (k7 x14.Path x3.Path) fun r15 =>
          .gI 0 r15 (fun c16 =>
           .ret (.inl false)) fun c16 =>
          .ag 2 <|
          .ag 1 <|
          .cl (kC x14.Path x3.Path) fun r17 =>
          .sp (r17 = true) (fun c18 =>
           .kT 3 c18 <|
           .ret (.inl false)) fun c18 =>
          .kF 3 (bF c18) <|
          .go (ih (w64 (v1 + 1)))) fun c12 =>
         .go (ih (w64 (v1 + 1)))) fun c11 =>
        .kT 4 (nF (bF c11)) <|
        .kT 0 (nF (bF c11)) <|
        .kT 0 (nF (bF c11)) <|
        .cl (vL x3.New) fun r12 =>
        .kT 0 (nF (bF c11)) <|
        .kT 1 (nF (bF c11)) <|
        .sp (r12 = true) (fun c13 =>
         .kF 1 (nT c13) <|
         .kF 0 (nT c13) <|
         .kF 0 (nT c13) <|
         .kF 0 (nT c13) <|
         .kF 0 (nT c10) <|
         .kF 0 (nT c10) <|
         .kF 0 (nT c10) <|
         .kF 0 (nT c13) <|
         .kF 0 (nT c10) <|
         .kF 0 (nT c13) <|
         .le zb x3.Path <|
         .eb c10 (bF c11) <|
         .eI (x3.Path.length : Int) 0 (fun c14 =>
          .ret (.inl false)) fun c14 =>
         .na (w64 ((x3.Path.length : Int) - 1)) fun i15 =>
         .ix yv x3.Path i15 fun x16 =>
         .eI x16.Kind 0 (fun c17 =>
          .lI 0 v1 (fun c18 =>
           .na (w64 (v1 - 1)) fun i19 =>
           .ix eq_GChange a0 i19 fun x20 =>
           .cl (k7 x20.Path x3.Path) fun r21 =>
           .gI 0 r21 (fun c22 =>
            .ret (.inl false)) fun c22 =>
           .ag 2 <|
           .ag 1 <|
           .cl (kC x20.Path x3.Path) fun r23 =>
           .sp (r23 = true) (fun c24 =>
            .kT 3 c24 <|
            .ret (.inl false)) fun c24 =>
           .kF 3 (bF c24) <|
           .go (ih (w64 (v1 + 1)))) fun c18 =>
          .go (ih (w64 (v1 + 1)))) fun c17 =>
         .ret (.inl false)) fun c13 =>
        .kT 1 (nF (bF c13)) <|
        .kT 0 (nF (bF c13)) <|
        .kT 0 (nF (bF c13)) <|
        .kT 0 (nF (bF c13)) <|
        .kT 0 (nF (bF c13)) <|
        .kT 0 (nF (bF c13)) <|
        .ret (.inl false)) fun c10 =>
       .kT 0 (nF (bF c10)) <|
       .kT 0 (nF (bF c10)) <|
       .kT 0 (nF (bF c10)) <|
       .cl (vL x3.Old) fun r11 =>
       .kT 0 (nF (bF c10)) <|
       .kF 0 (nT c9) <|
       .kT 0 (nF (bF c10)) <|
       .kF 0 (nT c9) <|
       .sp (r11 = true) (fun c12 =>
        .kF 0 (nT c12) <|
        .kF 0 (nT c12) <|
        .kF 0 (nT c12) <|
        .kF 0 (nT c12) <|
        .sp (x3.Has = true) (fun c13 =>
         .kF 0 (nT c13) <|
         .kF 0 (nT c13) <|
         .kF 0 (nT c13) <|
         .kF 0 (nT c13) <|
         .kF 0 (nT c12) <|
         .kF 0 (nT c13) <|
         .kF 0 (nT c12) <|
         .kT 4 (nF (bF c10)) <|
         .kT 0 (nF (bF c10)) <|
         .kT 0 (nF (bF c10)) <|
         .kT 1 (nF (bF c10)) <|
         .kF 1 (nT c13) <|
         .le zb x3.Path <|
         .eb (bF c10) c13 <|
         .eI (x3.Path.length : Int) 0 (fun c14 =>
          .ret (.inl false)) fun c14 =>
         .na (w64 ((x3.Path.length : Int) - 1)) fun i15 =>
         .ix yv x3.Path i15 fun x16 =>
         .eI x16.Kind 0 (fun c17 =>
          .lI 0 v1 (fun c18 =>
           .na (w64 (v1 - 1)) fun i19 =>
           .ix eq_GChange a0 i19 fun x20 =>
           .cl (k7 x20.Path x3.Path) fun r21 =>
           .gI 0 r21 (fun c22 =>
            .ret (.inl false)) fun c22 =>
           .ag 2 <|
           .ag 1 <|
           .cl (kC x20.Path x3.Path) fun r23 =>
           .sp (r23 = true) (fun c24 =>
            .kT 3 c24 <|
            .ret (.inl false)) fun c24 =>
           .kF 3 (bF c24) <|
           .go (ih (w64 (v1 + 1)))) fun c18 =>
          .go (ih (w64 (v1 + 1)))) fun c17 =>
         .ret (.inl false)) fun c13 =>
        .kT 0 (nF (bF c13)) <|
        .kT 0 (nF (bF c13)) <|
        .kT 0 (nF (bF c13)) <|
        .cl (vL x3.New) fun r14 =>
        .kT 0 (nF (bF c13)) <|
        .kF 0 (nT c12) <|
        .kT 0 (nF (bF c13)) <|
        .kF 0 (nT c12) <|
        .sp (r14 = true) (fun c15 =>
         .kF 0 (nT c15) <|
         .kF 0 (nT c15) <|
         .kF 0 (nT c15) <|
         .kF 0 (nT c15) <|
         .kT 0 (nF (bF c10)) <|
         .kT 0 (nF (bF c10)) <|
         .kT 0 (nF (bF c10)) <|
         .kF 0 (nT c15) <|
         .kT 0 (nF (bF c10)) <|
         .kF 0 (nT c15) <|
         .kT 0 (nF (bF c13)) <|
         .ret (.inl false)) fun c15 =>
        .kT 0 (nF (bF c15)) <|
        .kT 0 (nF (bF c15)) <|
        .kT 0 (nF (bF c15)) <|
        .kT 0 (nF (bF c15)) <|
        .kT 0 (nF (bF c15)) <|
        .kT 0 (nF (bF c15)) <|
        .ret (.inl false)) fun c12 =>
       .kT 0 (nF (bF c12)) <|
       .kT 0 (nF (bF c12)) <|
       .kT 0 (nF (bF c12)) <|
       .kT 0 (nF (bF c12)) <|
       .kT 0 (nF (bF c12)) <|
       .kT 0 (nF (bF c12)) <|
       .ret (.inl false)) fun c9 =>
      .kT 0 (nF (bF c9)) <|
      .kT 0 (nF (bF c9)) <|
      .kT 0 (nF (bF c9)) <|
      .kT 0 (nF (bF c9)) <|
      .kT 0 (nF (bF c9)) <|
      .kT 0 (nF (bF c9)) <|
      .ret (.inl false)) fun c7 =>
     .kT 0 (nF (bF c7)) <|
     .kT 0 (nF (bF c7)) <|
     .kT 0 (nF (bF c7)) <|
     .kT 0 (nF (bF c7)) <|
     .kT 0 (nF (bF c7)) <|
     .ret (.inl false)) fun c5 =>
    .kT 0 (nF (bF c5)) <|
    .kT 0 (nF (bF c5)) <|
    .kT 0 (nF (bF c5)) <|
    .kT 0 (nF (bF c5)) <|
    .kT 0 (nF (bF c5)) <|
    .ret (.inl false)) fun c1 =>
   .ret (.inr v1))
def kD (n : Nat) (a0 : (List GChange)) : Option Bool :=
 if 80 < (a0.length : Int) then
  some false
 else
 (zy a0 n 0).bind fun o2 =>
 match o2 with
 | .inl o2_0 =>
  some o2_0
 | .inr (o2_1) =>
  some true
theorem J0 (n : Nat) : ZT (kD n) := fun a0 => tc (
 .le yz a0 <|
 .lI 80 (a0.length : Int) (fun c1 =>
  .ret false) fun c1 =>
 .l2 (X2 a0 n 0) (fun o2_0 =>
  .ret o2_0) fun o2_1 =>
 .ret true) (zr Tryd.func22)
theorem L3 {v : GValue} (h : vsz v <= 2 ^ 20) : jC v = some (jL v) := by
 unfold jC ko
 rw [if_pos ⟨h, by decide, by decide, by decide⟩, Option.bind_some]
 congr 1
 unfold okV jL
 rw [show (6 - (1 : Int)).toNat = 5 from rfl]
 by_cases hc : shV 5 v = true ∧ (ptV v : Int) <= 40
 ·rw [if_pos hc, decide_eq_true hc]; exact decide_eq_true (by omega)
 ·rw [if_neg hc, decide_eq_false hc]; rfl
theorem MS {v : GValue} (h : yh v = true) (h0 : v.Kind = 0) : v = GValue.mk 0 0 [] [] [] := by
 unfold yh at h
 rw [if_pos (.inl h0)] at h
 obtain ⟨h1, h2, h3, h4⟩ := of_decide_eq_true h
 cases v
 simp only [GValue.Kind, GValue.N, GValue.S, GValue.K, GValue.L] at *
 rw [h0, h1, List.eq_nil_of_length_eq_zero h2, List.eq_nil_of_length_eq_zero h3, List.eq_nil_of_length_eq_zero h4]
theorem Ru {v : GValue} (h : jL v = true) : wX v = some (decide (v.Kind = 0)) := by
 obtain ⟨h1, _⟩ := U4 h
 unfold wX vv
 rw [show vsz v + 3 = (vsz v + 2) + 1 from rfl, show ∀ n, xz (n + 1) v (GValue.mk 0 0 [] [] []) = vu (xz n) n v (GValue.mk 0 0 [] [] []) from fun _ => rfl]
 unfold vu
 by_cases c : v.Kind = 0
 ·rw [MS h1 c]; rfl
 ·rw [if_neg (show ¬ v.Kind = (GValue.mk 0 0 [] [] []).Kind from c), Y0, Option.bind_some, Option.bind_some, decide_eq_false c]
  congr 1
  exact decide_eq_false fun h => c (Qj.1 h)
theorem Rv {p : Nat} (h : 0 < p) (h1 : p <= 2 ^ 40) : z7 (w64 (((p : Nat) : Int) - 1)) = some (p - 1) := by
 rw [yD (by omega) (by omega), show ((p : Nat) : Int) - 1 = ((p - 1 : Nat) : Int) by omega, zg]
theorem L4 {a b : List GStep} (h : a.length <= 2 ^ 40) : xy a b = some (decide (a.length <= b.length) && decide (jN a (b.take a.length) = 0)) := by
 unfold xy
 by_cases c : a.length <= b.length
 ·rw [if_pos (by omega), zg, Option.bind_some, LM c, Option.bind_some, show xa a (b.take a.length) = some (jN a (b.take a.length)) from if_pos h, Option.bind_some, decide_eq_true c, Bool.true_and]
 ·rw [if_neg (by omega), decide_eq_false c]; rfl
theorem Uq {a : List GChange} {x : GChange} {p m : Nat} {pv : Bool} (ha : xf a <= 1048577) (hg : a[p]? = some x) (hp : (p = 0 ∧ pv = true) ∨ (0 < p ∧ ∃ y, a[p - 1]? = some y ∧ pv = ch2 y.Path x.Path)) :
    zy a (m + 1) ((p : Nat) : Int) = if (ch1 x && pv) = true then zy a m (((p + 1 : Nat) : Nat) : Int) else some (.inl false) := by
  have hl := kS a
  have hpl := (List.getElem?_eq_some_iff.1 hg).1
  have hx := Y8 (List.mem_of_getElem? hg)
  unfold qE at hx
  have hxl := wk x.Path
  have tail : (if (0 : Int) < ((p : Nat) : Int) then
         (z7 (w64 (((p : Nat) : Int) - 1))).bind fun i13 =>
         (a[i13]?).bind fun x14 =>
         (xa x14.Path x.Path).bind fun r15 =>
         if 0 <= r15 then
          some (.inl false)
         else
         (xy x14.Path x.Path).bind fun r17 =>
         if r17 = true then
          some (.inl false)
         else
         zy a m (w64 (((p : Nat) : Int) + 1))
        else
        zy a m (w64 (((p : Nat) : Int) + 1))) = if pv = true then zy a m (((p + 1 : Nat) : Nat) : Int) else some (.inl false) := by
    rw [show w64 (((p : Nat) : Int) + 1) = (((p + 1 : Nat) : Nat) : Int) from yf (by omega)]
    rcases hp with ⟨h1, h2⟩ | ⟨h1, y, h2, h3⟩
    · rw [if_neg (by omega), h2, if_pos rfl]
    · have hy := Y8 (List.mem_of_getElem? h2)
      unfold qE at hy
      have hyl := wk y.Path
      rw [if_pos (by omega), Rv h1 (by omega), Option.bind_some, h2, Option.bind_some, show xa y.Path x.Path = some (jN y.Path x.Path) from if_pos (by omega), Option.bind_some, h3, L4 (by omega), Option.bind_some]
      unfold ch2
      by_cases c : jN y.Path x.Path < 0
      · rw [if_neg (by omega), decide_eq_true c, Bool.true_and]
        cases (decide (y.Path.length <= x.Path.length) && decide (jN y.Path (x.Path.take y.Path.length) = 0)) <;> rfl
      · rw [if_pos (by omega), decide_eq_false c, Bool.false_and]; rfl
  have last : ∀ {α : Type} (A B : Option α), (if (x.Path.length : Int) = 0 then B else (z7 (w64 ((x.Path.length : Int) - 1))).bind fun i15 => (x.Path[i15]?).bind fun x16 => if x16.Kind = 0 then A else B) = if Y9 x.Path = true then A else B := by
    intro α A B
    unfold Y9
    by_cases c : x.Path.length = 0
    · rw [if_pos (by omega), List.eq_nil_of_length_eq_zero c]; rfl
    · have hlt : x.Path.length - 1 < x.Path.length := by omega
      rw [if_neg (by omega), Rv (by omega) (by omega), Option.bind_some, zw hlt, Option.bind_some]
      by_cases k : (x.Path[x.Path.length - 1]).Kind = 0
      · rw [if_pos k]; simp [k]
      · rw [if_neg k]; simp [k]
  rw [zy, if_pos (by omega), zg, Option.bind_some, hg, Option.bind_some, show qV x.Path = some (q4 x.Path) from if_pos (by omega), Option.bind_some, L3 (by omega), L3 (by omega)]
  simp only [Option.bind_some, last, tail]
  unfold ch1
  cases hpB : q4 x.Path with
  | false => simp
  | true =>
    cases hOld : jL x.Old with
    | false => simp
    | true =>
      cases hNew : jL x.New with
      | false => simp
      | true =>
        rw [Ru hOld, Ru hNew]
        simp only [Option.bind_some, if_true, Bool.true_and]
        cases x.Had <;> cases x.Has <;> cases Y9 x.Path <;> cases pv <;> by_cases c1 : x.Old.Kind = 0 <;> by_cases c2 : x.New.Kind = 0 <;> simp [c1, c2]
theorem MT {a : List GChange} (ha : xf a <= 1048577) : ∀ (l p : List GChange) (y : GChange) (m : Nat), a = p ++ y :: l → l.length < m → ∃ z, zy a m (((p.length + 1 : Nat) : Nat) : Int) = some (if chA y.Path l = true then .inr z else .inl false) := by
 intro l
 have hl := kS a
 induction l with
 | nil =>
  intro p y m he hm
  obtain ⟨m, rfl, _⟩ := zo hm
  have hlen : a.length = p.length + 1 := by rw [he]; simp
  exact ⟨_, by rw [zy, if_neg (by omega), chA, if_pos rfl]⟩
 | cons x l ih =>
  intro p y m he hm
  obtain ⟨m, rfl, hm'⟩ := zo hm
  have hgy : a[p.length + 1 - 1]? = some y := by rw [he]; exact zZ p y (x :: l)
  have hgx : a[p.length + 1]? = some x := by rw [he, show p ++ y :: x :: l = (p ++ [y]) ++ x :: l by simp, show p.length + 1 = (p ++ [y]).length by simp]; exact zZ (p ++ [y]) x l
  obtain ⟨z, hz⟩ := ih (p ++ [y]) x m (by rw [he]; simp) (by simp only [List.length_cons] at hm'; omega)
  rw [show (p ++ [y]).length + 1 = p.length + 1 + 1 by simp] at hz
  refine ⟨z, ?_⟩
  rw [Uq ha hgx (.inr ⟨by omega, y, hgy, rfl⟩), hz, chA]
  cases ch1 x <;> cases ch2 y.Path x.Path <;> simp
def wK (a0 : (List GChange)) : Option Bool := if xf a0 <= 1048577 then some (decide (a0.length <= 80) && XK a0) else none
theorem L5 {l : List GChange} (h : xf l <= 1048577) : wK l = some (decide (l.length <= 80) && XK l) := if_pos h
theorem Wa (a0 : (List GChange)) (r : Bool) (h : wK a0 = some r) : ∃ n, kD n a0 = some r := by
 unfold wK at h
 obtain ⟨ha, h⟩ := zM h
 have hl := kS a0
 refine ⟨a0.length + 2, ?_⟩
 unfold kD
 by_cases c : a0.length <= 80
 ·rw [if_neg (by omega), <- h, decide_eq_true c, Bool.true_and]
  cases a0 with
  | nil => rfl
  | cons x l =>
   obtain ⟨z, hz⟩ := MT ha l [] x (l.length + 2) rfl (by omega)
   have h0 := Uq (m := l.length + 2) (p := 0) (pv := true) ha rfl (.inl ⟨rfl, rfl⟩)
   rw [show ((0 : Nat) : Int) = 0 from rfl] at h0
   rw [show (x :: l).length + 2 = (l.length + 2) + 1 from rfl, h0, show (0 + 1 : Nat) = ([] : List GChange).length + 1 from rfl, hz, XK, Bool.and_true]
   cases ch1 x <;> cases chA x.Path l <;> rfl
 ·rw [if_pos (by omega), <- h, decide_eq_false c]; rfl
theorem QF : ZT wK := fun a0 r h => (Wa a0 r h).elim fun n hn => J0 n a0 r hn
end
end Go.Am.Try
