/- The functions of the program in plain Lean, and that the machine answers as they do; conditions at each theorem. -/
import Derived.Test.YtjmhaigcaidloaaGreatDoorTG2
set_option linter.unusedVariables false
set_option linter.unusedSimpArgs false
namespace Go.Am.Try
open Go.Am Go.Proofs
set_option linter.unusedVariables false
set_option maxRecDepth 20000
set_option maxHeartbeats 2000000
noncomputable section
def w5 (F : GValue → Option Bool) : Prop := ∀ (a0 : GValue), Oc (F a0) 204 [] [.val true (zI a0)] fun r => (vb r, [])
def yt (F : (List GValue) → Option Int) : Prop := ∀ (a0 : (List GValue)), Oc (F a0) 224 [] [vq zg a0, .val false [.fn 204 []]] fun r => (vi r, [])
def yp (F : (List GValue) → Option Bool) : Prop := ∀ (a0 : (List GValue)), Oc (F a0) 203 [] [vq zg a0, .val false [.fn 204 []]] fun r => (vb r, [])
def jx (F : GValue → Option Bool) : Prop := ∀ (a0 : GValue), Oc (F a0) 176 [] [.val true (zI a0)] fun r => (vb r, [])
def kD (G_impl_Value_known : GValue → Option Bool) (a0 : GValue) : Option Bool :=
 (G_impl_Value_known a0).bind fun r1 =>
 some (!r1)
theorem Jf (G_impl_Value_known : GValue → Option Bool) (H_impl_Value_known : jx G_impl_Value_known) : w5 (kD G_impl_Value_known) := fun a0 => tc (
 .cl (H_impl_Value_known a0) fun r1 =>
 .ret (!r1)) (zf Tryz.func204)
def zD (G_impl_Value_known_1 : GValue → Option Bool) (a0 : (List GValue)) (v1 : Int) : Nat → Int → Option (Int ⊕ Int)
  | 0, _ => none
  | m + 1, v2 =>
  if v2 < v1 then
   (zw v2).bind fun i2 =>
   (a0[i2]?).bind fun x3 =>
   (G_impl_Value_known_1 x3).bind fun r4 =>
   match r4 with
   | true =>
    some (.inl v2)
   | false =>
    zD G_impl_Value_known_1 a0 v1 m (w64 (v2 + 1))
  else
  some (.inr v2)
theorem jY (G_impl_Value_known_1 : GValue → Option Bool) (H_impl_Value_known_1 : w5 G_impl_Value_known_1) (a0 : (List GValue)) (v1 : Int) (m : Nat) : ∀ (v2 : Int), Ol (zD G_impl_Value_known_1 a0 v1 m v2) 224 (zQ Tryz.f224 0) ⟨[(0, vq zg a0), (1, .val false [.fn 204 []]), (7, vi v1), (8, vi v2)], [], 0⟩ fun o => match o with | .inl o_0 => (.ret, ⟨[(4, vi o_0)], [], 0⟩) | .inr (o_1) => (.exit 0, ⟨[(0, vq zg a0), (1, .val false [.fn 204 []]), (7, vi v1), (8, vi o_1), (9, vb false)], [], 0⟩) := by
  induction m with
  | zero => intro v2 o h; cases h
  | succ m ih => exact fun v2 => tlp (
   .lI v2 v1 (fun c1 =>
    .na v2 fun i2 =>
    .ix yo a0 i2 fun x3 =>
    .cl (H_impl_Value_known_1 x3) fun r4 =>
    .vM 0 r4 (
     .ret (.inl v2)) <|
    .go (ih (w64 (v2 + 1)))) fun c1 =>
   .ret (.inr v2))
def yu (G_impl_Value_known_1 : GValue → Option Bool) (n : Nat) (a0 : (List GValue)) : Option Int :=
 (zD G_impl_Value_known_1 a0 (a0.length : Int) n 0).bind fun o1 =>
 match o1 with
 | .inl o1_0 =>
  some o1_0
 | .inr (o1_1) =>
  some (-1)
theorem vg (G_impl_Value_known_1 : GValue → Option Bool) (H_impl_Value_known_1 : w5 G_impl_Value_known_1) (n : Nat) : yt (yu G_impl_Value_known_1 n) := fun a0 => tc (
 .le zg a0 <|
 .l2 (jY G_impl_Value_known_1 H_impl_Value_known_1 a0 (a0.length : Int) n 0) (fun o1_0 =>
  .ret o1_0) fun o1_1 =>
 .ret (-1)) (zf Tryz.func224)
def yK (G_slices_IndexFunc_Value_Value_known_1 : (List GValue) → Option Int) (a0 : (List GValue)) : Option Bool :=
 (G_slices_IndexFunc_Value_Value_known_1 a0).bind fun r1 =>
 some (decide (0 <= r1))
theorem kl (G_slices_IndexFunc_Value_Value_known_1 : (List GValue) → Option Int) (H_slices_IndexFunc_Value_Value_known_1 : yt G_slices_IndexFunc_Value_Value_known_1) : yp (yK G_slices_IndexFunc_Value_Value_known_1) := fun a0 => tc (
 .cl (H_slices_IndexFunc_Value_Value_known_1 a0) fun r1 =>
 .gD 0 r1 <|
 .ret (decide (0 <= r1))) (zf Tryz.func203)
def vO (G_slices_ContainsFunc_Value_Value_known_1 : (List GValue) → Option Bool) (a0 : GValue) : Option Bool :=
 if a0.Kind = 6 then
  some false
 else
 (G_slices_ContainsFunc_Value_Value_known_1 a0.L).bind fun r2 =>
 some (!r2)
theorem KK (G_slices_ContainsFunc_Value_Value_known_1 : (List GValue) → Option Bool) (H_slices_ContainsFunc_Value_Value_known_1 : yp G_slices_ContainsFunc_Value_Value_known_1) : jx (vO G_slices_ContainsFunc_Value_Value_known_1) := fun a0 => tc (
 .eI a0.Kind 6 (fun c1 =>
  .ret false) fun c1 =>
 .cl (H_slices_ContainsFunc_Value_Value_known_1 a0.L) fun r2 =>
 .ret (!r2)) (zf Tryz.func176)
mutual
def y4 : Nat → GValue → Option Bool
 | 0, _ => none
 | n + 1, a0 => kD (yM n) a0
def zB : Nat → (List GValue) → Option Int
 | 0, _ => none
 | n + 1, a0 => yu (y4 n) n a0
def zy : Nat → (List GValue) → Option Bool
 | 0, _ => none
 | n + 1, a0 => yK (zB n) a0
def yM : Nat → GValue → Option Bool
 | 0, _ => none
 | n + 1, a0 => vO (zy n) a0
end
theorem qm (n : Nat) : w5 (y4 n) ∧ yt (zB n) ∧ yp (zy n) ∧ jx (yM n) := by
 induction n with
 | zero => exact ⟨fun _ _ h => (by rw [y4] at h; cases h), fun _ _ h => (by rw [zB] at h; cases h), fun _ _ h => (by rw [zy] at h; cases h), fun _ _ h => (by rw [yM] at h; cases h)⟩
 | succ n ih =>
  obtain ⟨ih_impl_Value_known_1, ih_slices_IndexFunc_Value_Value_known_1, ih_slices_ContainsFunc_Value_Value_known_1, ih_impl_Value_known⟩ := ih
  exact ⟨fun a0 r h => Jf (yM n) ih_impl_Value_known a0 r (by rw [y4] at h; exact h),
   fun a0 r h => vg (y4 n) ih_impl_Value_known_1 n a0 r (by rw [zB] at h; exact h),
   fun a0 r h => kl (zB n) ih_slices_IndexFunc_Value_Value_known_1 a0 r (by rw [zy] at h; exact h),
   fun a0 r h => KK (zy n) ih_slices_ContainsFunc_Value_Value_known_1 a0 r (by rw [yM] at h; exact h)⟩
def Yz (a0 : GValue) : Option Bool := none
theorem W6 (a0 : GValue) (r : Bool) (h : Yz a0 = some r) : ∃ n, y4 n a0 = some r := by cases h
def wL (a0 : (List GValue)) : Option Int := none
theorem km (a0 : (List GValue)) (r : Int) (h : wL a0 = some r) : ∃ n, zB n a0 = some r := by cases h
def wy (a0 : (List GValue)) : Option Bool := none
theorem jA (a0 : (List GValue)) (r : Bool) (h : wy a0 = some r) : ∃ n, zy n a0 = some r := by cases h
theorem Di {G : GValue → Option Bool} {a : List GValue} {f : Nat} (ha : a.length <= 2 ^ 40) (hf : a.length < f) (hG : ∀ x ∈ a, G x = some (!knV x)) : ∃ r : Int, yu G f a = some r ∧ decide (0 <= r) = !(X6 a) := by
 have loop : ∀ (l p : List GValue) (m : Nat), a = p ++ l → l.length < m → ∃ (q : Nat) (z : Int), zD G a (a.length : Int) m (p.length : Int) = some (if X6 l = true then .inr z else .inl (q : Int)) := by
  intro l
  induction l with
  | nil =>
   intro p m he hm
   subst he
   obtain ⟨m, rfl, _⟩ := zh hm
   exact ⟨0, _, by rw [zD, if_neg (jk p)]; rfl⟩
  | cons x l ih =>
   intro p m he hm
   obtain ⟨m, rfl, hm'⟩ := zh hm
   have hlen : a.length = p.length + (l.length + 1) := by rw [he]; simp
   rw [zD, if_pos (by omega), zd, Option.bind_some, show a[p.length]? = some x by rw [he]; exact zR p x l, Option.bind_some, hG x (by rw [he]; simp), Option.bind_some, yI p x (by omega)]
   rw [show X6 (x :: l) = (knV x && X6 l) by simp only [X6]]
   by_cases hp : knV x = true
   ·obtain ⟨q, z, hz⟩ := ih (p ++ [x]) m (by rw [he]; simp) (by simp only [List.length_cons] at hm'; omega)
    exact ⟨q, z, by rw [hp, Bool.true_and]; exact hz⟩
   ·rw [Bool.eq_false_iff.2 hp]
    exact ⟨p.length, 0, rfl⟩
 obtain ⟨q, z, hz⟩ := loop a [] f rfl (by omega)
 simp only [List.length_nil, Int.natCast_zero] at hz
 unfold yu
 rw [hz, Option.bind_some]
 cases hp : X6 a with
 | true => exact ⟨-1, rfl, rfl⟩
 | false => exact ⟨(q : Int), rfl, by simp⟩
theorem A4 : ∀ (N : Nat) (v : GValue), vsz v < N → vsz v <= 2 ^ 39 → ∀ f : Nat, 4 * vsz v + 5 <= f → yM f v = some (knV v) := by
 intro N
 induction N with
 | zero => intro v hv; omega
 | succ N ih =>
  intro v hv hs f hf
  have he := qz v
  have hl := xj v.L
  obtain ⟨f, rfl, _⟩ := zh (show 0 < f by omega)
  obtain ⟨f, rfl, _⟩ := zh (show 0 < f by omega)
  obtain ⟨f, rfl, _⟩ := zh (show 0 < f by omega)
  obtain ⟨f, rfl, _⟩ := zh (show 0 < f by omega)
  obtain ⟨r, hr, hd⟩ := Di (G := y4 (f + 1)) (a := v.L) (f := f + 1) (by omega) (by omega) (fun x hx => by
   have := qh hx
   rw [y4]
   unfold kD
   rw [ih x (by omega) (by omega) f (by omega), Option.bind_some])
  rw [yM]
  unfold vO
  rw [zy]
  unfold yK
  rw [zB, hr, Option.bind_some, Option.bind_some, hd, HW]
  by_cases h6 : v.Kind = 6
  ·rw [if_pos h6, h6]; rfl
  ·rw [if_neg h6]; simp [h6]
def wj (a0 : GValue) : Option Bool := if vsz a0 <= 2 ^ 39 then some (knV a0) else none
theorem Q4 (a0 : GValue) (r : Bool) (h : wj a0 = some r) : ∃ n, yM n a0 = some r := by
 unfold wj at h
 obtain ⟨ha, h⟩ := zK h
 exact ⟨4 * vsz a0 + 5, by rw [<- h]; exact A4 _ a0 (Nat.lt_succ_self _) ha _ (Nat.le_refl _)⟩
theorem Nl : w5 Yz := by
 intro a0 r h
 obtain ⟨n, hn⟩ := W6 a0 r h
 exact (qm n).1 a0 r hn
theorem J9 : yt wL := by
 intro a0 r h
 obtain ⟨n, hn⟩ := km a0 r h
 exact (qm n).2.1 a0 r hn
theorem Q5 : yp wy := by
 intro a0 r h
 obtain ⟨n, hn⟩ := jA a0 r h
 exact (qm n).2.2.1 a0 r hn
theorem JM : jx wj := by
 intro a0 r h
 obtain ⟨n, hn⟩ := Q4 a0 r h
 exact (qm n).2.2.2 a0 r hn
def yV (a0 : GValue) : Option Bool :=
 (Yy a0).bind fun r1 =>
 match r1 with
 | true =>
  (wj a0).bind fun r2 =>
  some r2
 | false =>
  some false
theorem vP (a0 : GValue) : Oc (yV a0) 134 [] [.val true (zI a0)] fun r => (vb r, []) := tc (
 .cl (O5 a0) fun r1 =>
 .vM 0 r1 (
  .az 0 0 <|
  .cl (JM a0) fun r2 =>
  .az 0 1 <|
  .ret r2) <|
 .az 0 0 <|
 .az 0 0 <|
 .ret false) (zf Tryz.func134)
def WZ (F : (List (List UInt8)) → Option Bool) : Prop := ∀ (a0 : (List (List UInt8))), Oc (F a0) 135 [] [vq (zx za) a0] fun r => (vb r, [])
def xf (a0 : (List (List UInt8))) (v1 : Int) : Nat → Int → Option (Bool ⊕ Int)
  | 0, _ => none
  | m + 1, v2 =>
  if v2 < v1 then
   (zw v2).bind fun i2 =>
   (a0[i2]?).bind fun x3 =>
   (xl x3).bind fun r4 =>
   match r4 with
   | true =>
    if 0 < v2 then
     (zw (w64 (v2 - 1))).bind fun i6 =>
     (a0[i6]?).bind fun x7 =>
     (xD x7 x3).bind fun r8 =>
     if 0 <= r8 then
      some (.inl false)
     else
     xf a0 v1 m (w64 (v2 + 1))
    else
    xf a0 v1 m (w64 (v2 + 1))
   | false =>
    some (.inl false)
  else
  some (.inr v2)
theorem JN (a0 : (List (List UInt8))) (v1 : Int) (m : Nat) : ∀ (v2 : Int), Ol (xf a0 v1 m v2) 135 (zQ Tryz.f135 0) ⟨[(0, vq (zx za) a0), (5, vq (zx za) a0), (6, vi v1), (7, vi v2)], [], 0⟩ fun o => match o with | .inl o_0 => (.ret, ⟨[(2, vb o_0)], [], 0⟩) | .inr (o_1) => (.exit 0, ⟨[(0, vq (zx za) a0), (5, vq (zx za) a0), (6, vi v1), (7, vi o_1), (8, vb false)], [], 0⟩) := by
  induction m with
  | zero => intro v2 o h; cases h
  | succ m ih => exact fun v2 => tlp (
   .lI v2 v1 (fun c1 =>
    .na v2 fun i2 =>
    .ix0 (zx za) a0 i2 fun x3 =>
    .cl (qd x3) fun r4 =>
    .vN 0 r4 (
     .an 0 0 <|
     .lI 0 v2 (fun c5 =>
      .an 0 0 <|
      .na (w64 (v2 - 1)) fun i6 =>
      .ix0 (zx za) a0 i6 fun x7 =>
      .cl (kC x7 x3) fun r8 =>
      .gI 0 r8 (fun c9 =>
       .an 0 3 <|
       .an 1 3 <|
       .ret (.inl false)) fun c9 =>
      .an 0 3 <|
      .an 1 3 <|
      .go (ih (w64 (v2 + 1)))) fun c5 =>
     .an 0 0 <|
     .an 8 0 <|
     .an 1 0 <|
     .go (ih (w64 (v2 + 1)))) <|
    .an 0 0 <|
    .an 0 0 <|
    .an 0 0 <|
    .an 0 0 <|
    .ret (.inl false)) fun c1 =>
   .ret (.inr v2))
def Y0 (n : Nat) (a0 : (List (List UInt8))) : Option Bool :=
 (xf a0 (a0.length : Int) n 0).bind fun o1 =>
 match o1 with
 | .inl o1_0 =>
  some o1_0
 | .inr (o1_1) =>
  some (decide ((a0.length : Int) <= 8))
theorem TV (n : Nat) : WZ (Y0 n) := fun a0 => tc (
 .le (zx za) a0 <|
 .l2 (JN a0 (a0.length : Int) n 0) (fun o1_0 =>
  .ret o1_0) fun o1_1 =>
 .le (zx za) a0 <|
 .gD (a0.length : Int) 8 <|
 .ret (decide ((a0.length : Int) <= 8))) (zf Tryz.func135)
theorem H8 (c : UInt8) : ∀ b : List UInt8, Lib.indexByte b c = if b.dropWhile (fun x => decide (x ≠ c)) = [] then -1 else (((b.takeWhile fun x => decide (x ≠ c)).length : Nat) : Int)
 | [] => rfl
 | x :: b => by
  have ih := H8 c b
  rw [Lib.indexByte, List.dropWhile_cons, List.takeWhile_cons]
  by_cases h : x = c
  ·subst h; simp
  ·have hb : (x == c) = false := by simpa using h
   have hd : decide (x ≠ c) = true := decide_eq_true h
   rw [hb, if_neg (by simp), if_pos hd, if_pos hd, ih]
   by_cases hd : b.dropWhile (fun x => decide (x ≠ c)) = []
   ·rw [if_pos hd, if_pos hd]; rfl
   ·rw [if_neg hd, if_neg hd, if_neg (by simp), List.length_cons]; omega
theorem H9 (a : List UInt8) (c : UInt8) : kP a [c] = some (Lib.indexByte a c) := by
 unfold kP Zu qj
 rw [if_neg (by simp), if_pos (by simp)]
 rfl
theorem zcx {a : List UInt8} (h : a.length <= 2 ^ 20) : Xg a [91] = some (vh a, (jD a).drop 1, decide (jD a ≠ [])) := by
 have hix : kP a [91] = some (if jD a = [] then -1 else ((vh a).length : Int)) := by rw [H9, H8]; rfl
 unfold Xg
 have hlen := Mx a
 by_cases hr : jD a = []
 ·have hn := Ut a
  rw [hr, List.append_nil] at hn
  rw [hix, if_pos hr, Option.bind_some, if_neg (by omega), hr, hn]; rfl
 ·obtain ⟨t, ht⟩ := N0 hr
  have e : w64 (((vh a).length : Int) + (([91] : List UInt8).length : Int)) = (((vh a).length + 1 : Nat) : Int) := by
   show w64 (((vh a).length : Int) + 1) = _
   exact zC (by omega)
  have hl2 := hlen
  rw [ht, List.length_cons] at hl2
  rw [hix, if_neg hr, Option.bind_some, if_pos (by omega), zd, Option.bind_some, Us (by omega), Option.bind_some, Ny, e, zd, Option.bind_some, Jt (by omega), Option.bind_some, decide_eq_true hr, <- List.drop_drop, Nz]
theorem zb8 (s : List UInt8) (c : UInt8) (h : s.length <= 2 ^ 20) : jH s [c] = some (decide (s.getLast? = some c)) := by
 unfold jH
 rw [show (([c] : List UInt8).length : Int) = 1 from rfl]
 rcases List.eq_nil_or_concat s with rfl | ⟨l, x, rfl⟩
 ·rw [if_neg (by simp)]; rfl
 ·simp only [List.concat_eq_append, List.length_append, List.length_cons, List.length_nil] at h ⊢
  rw [if_pos (by omega), show w64 (((l.length + (0 + 1) : Nat) : Int) - 1) = (l.length : Int) by rw [yA (by omega) (by omega)]; omega, zd, Option.bind_some, Jt (by simp), Option.bind_some, List.drop_left]
  unfold yl
  rw [Option.bind_some, List.getLast?_concat]
  congr 1
  exact decide_eq_decide.2 (by simp)
theorem KM (s : List UInt8) (c : UInt8) (h : s.length <= 2 ^ 20) : qC s [c] = some (if s.getLast? = some c then (s.dropLast, true) else (s, false)) := by
 unfold qC
 rw [zb8 s c h, Option.bind_some]
 by_cases hc : s.getLast? = some c
 ·rw [decide_eq_true hc, if_pos hc]
  dsimp only
  have h0 : 0 < s.length := by
   cases s with
   | nil => simp at hc
   | cons x s => simp
  rw [show (([c] : List UInt8).length : Int) = 1 from rfl, j9 (by omega) h0, zd, Option.bind_some, Us (by omega), Option.bind_some, List.dropLast_eq_take]
 ·rw [decide_eq_false hc, if_neg hc]
theorem HA (s : List UInt8) (c : UInt8) : jI s [c] = some (if s[0]? = some c then (s.drop 1, true) else (s, false)) := by
 unfold jI Zv yl
 rw [show (([c] : List UInt8).length : Int) = ((1 : Nat) : Int) from rfl]
 cases s with
 | nil => rw [if_neg (by simp)]; rfl
 | cons x s =>
  rw [if_pos (by simp; omega), zd, Option.bind_some, Us (by simp), Option.bind_some, Option.bind_some, Option.bind_some]
  show (match decide ([x] = [c]) with | true => _ | false => _) = _
  by_cases hc : x = c
  ·subst hc
   rw [decide_eq_true rfl]
   dsimp only
   rw [Option.bind_some, Jt (by simp), Option.bind_some]
   simp
  ·rw [decide_eq_false (by simpa using hc), if_neg (by simpa using hc)]
theorem Nm : ∀ n : Fin 100, jX ((n.val : Nat) : Int) = some (Qh n.val) := by
 have h1 : ∀ n : Fin 100, qU ((n.val : Nat) : Int) = some (Qh n.val) := by decide +kernel
 intro n
 unfold jX jc qc
 rw [if_pos rfl, if_pos (by omega), if_pos (by omega), h1]; rfl
theorem HB : ∀ n : Fin 100, Lib.atoiAll (Qh n.val) = .ok ((n.val : Nat) : Int) := by decide +kernel
theorem Dj : ∀ n : Fin 100, Ju (Qh n.val) = true := by decide +kernel
theorem HC {l : List UInt8} (h : Ju l = true) : ∃ n : Fin 100, l = Qh n.val := by
 unfold Ju at h
 simp only [Bool.and_eq_true, Bool.not_eq_true', decide_eq_true_eq] at h
 obtain ⟨⟨⟨h1, h2⟩, h3⟩, h4⟩ := h
 match l, h1, h2 with
 | [x], _, _ =>
  simp only [List.all_cons, List.all_nil, Bool.and_true, inB, Bool.and_eq_true, decide_eq_true_eq] at h4
  refine ⟨⟨x.toNat - 48, by omega⟩, ?_⟩
  unfold Qh
  rw [if_pos (by simp only; omega)]
  simp only [List.cons.injEq, and_true]
  refine UInt8.toNat_inj.1 ?_
  rw [UInt8.toNat_ofNat_of_lt' (by show _ < 256; omega)]; omega
 | [x, y], _, _ =>
  simp only [List.all_cons, List.all_nil, Bool.and_true, inB, Bool.and_eq_true, decide_eq_true_eq] at h4
  have hx : x.toNat ≠ 48 := fun e => by
   have : x = 48 := UInt8.toNat_inj.1 e
   subst this
   simp at h3
  refine ⟨⟨(x.toNat - 48) * 10 + (y.toNat - 48), by omega⟩, ?_⟩
  unfold Qh
  rw [if_neg (by simp only; omega)]
  simp only [List.cons.injEq, and_true]
  constructor
  ·refine UInt8.toNat_inj.1 ?_
   rw [UInt8.toNat_ofNat_of_lt' (by show _ < 256; omega)]; omega
  ·refine UInt8.toNat_inj.1 ?_
   rw [UInt8.toNat_ofNat_of_lt' (by show _ < 256; omega)]; omega
theorem Nn {a : List UInt8} (h : a.length <= 2 ^ 20) : wI a = some (qI a) := if_pos h
theorem Gu {l : List UInt8} (hl : l.length <= 2 ^ 20) : ((qN l).bind fun ⟨n, e⟩ =>
  match e with
  | true => some false
  | false => (yT n 0 99).bind fun r13 =>
   match r13 with
   | true => (jX n).bind fun r15 => some (decide (r15 = l))
   | false => some false) = some (Ju l) := by
 unfold qN
 rw [if_pos (by omega), Option.bind_some]
 cases hd : Ju l with
 | true =>
  obtain ⟨n, rfl⟩ := HC hd
  have hr : y3 (Qh n.val) = (((n.val : Nat) : Int), false) := by unfold y3; rw [HB n]
  have hn := n.isLt
  rw [hr]
  dsimp only
  rw [XP, Option.bind_some, decide_eq_true (show (0 : Int) <= ((n.val : Nat) : Int) ∧ ((n.val : Nat) : Int) <= 99 by omega)]
  dsimp only
  rw [Nm n, Option.bind_some, decide_eq_true rfl]
 | false =>
  obtain ⟨n, e⟩ := y3 l
  cases e with
  | true => rfl
  | false =>
   dsimp only
   rw [XP, Option.bind_some]
   by_cases hn : (0 : Int) <= n ∧ n <= 99
   ·rw [decide_eq_true hn]
    dsimp only
    have := Nm ⟨n.toNat, by omega⟩
    rw [show (((⟨n.toNat, by omega⟩ : Fin 100).val : Nat) : Int) = n by simp only; omega] at this
    rw [this, Option.bind_some]
    congr 1
    refine decide_eq_false fun e => ?_
    rw [<- e, Dj] at hd; cases hd
   ·rw [decide_eq_false hn]
theorem vQ {a : List UInt8} (h : a.length <= 2 ^ 20) : xl a = some (ya a) := by
 unfold xl
 have hlen := Mx a
 rw [zcx h, Option.bind_some]
 dsimp only
 rw [Nn (by omega), Option.bind_some]
 unfold ya
 cases hn : qI (vh a) with
 | false => rfl
 | true =>
  dsimp only
  by_cases hr : jD a = []
  ·rw [decide_eq_false (fun h => h hr), if_pos hr]; rfl
  rw [decide_eq_true hr, if_neg hr]
  dsimp only
  have ht : ((jD a).drop 1).length <= 2 ^ 20 := by rw [List.length_drop]; omega
  generalize (jD a).drop 1 = t at ht ⊢
  rw [KM t 93 ht, Option.bind_some]
  by_cases h93 : t.getLast? = some 93
  ·rw [if_pos h93, if_pos h93]
   dsimp only
   have hl : t.dropLast.length <= 2 ^ 20 := by rw [List.length_dropLast]; omega
   generalize t.dropLast = l at hl ⊢
   rw [HA, Option.bind_some]
   unfold G2
   by_cases h34 : l[0]? = some 34
   ·rw [if_pos h34, if_pos h34]
    dsimp only
    rw [KM _ 34 (by rw [List.length_drop]; omega), Option.bind_some]
    by_cases h2 : (l.drop 1).getLast? = some 34
    ·rw [if_pos h2, if_pos h2]
     dsimp only
     rw [Nn (by rw [List.length_dropLast, List.length_drop]; omega), Option.bind_some]; rfl
    ·rw [if_neg h2, if_neg h2]; rfl
   ·rw [if_neg h34, if_neg h34]
    dsimp only
    rw [KM _ 34 hl, Option.bind_some]
    by_cases h2 : l.getLast? = some 34
    ·rw [if_pos h2]
     dsimp only
     have hd : Ju l = false := by
      unfold Ju
      have : l.all (inB 48 57) = false := by
       rcases List.eq_nil_or_concat l with rfl | ⟨k, x, rfl⟩
       ·simp at h2
       ·rw [List.concat_eq_append, List.getLast?_concat] at h2
        injection h2 with h2
        subst h2
        simp [inB]
      rw [this, Bool.and_false]
     rw [hd]; rfl
    ·rw [if_neg h2]
     dsimp only
     exact Gu hl
  ·rw [if_neg h93, if_neg h93]
   dsimp only
   rw [HA, Option.bind_some]
   by_cases h34 : t[0]? = some 34
   ·rw [if_pos h34]
    dsimp only
    rw [KM _ 34 (by rw [List.length_drop]; omega), Option.bind_some]
    rfl
   ·rw [if_neg h34]
    dsimp only
    rw [KM _ 34 ht, Option.bind_some]
    by_cases h2 : t.getLast? = some 34
    ·rw [if_pos h2]; rfl
    ·rw [if_neg h2]
     dsimp only
     unfold qN
     rw [if_pos (by omega), Option.bind_some]
     obtain ⟨n, e⟩ := y3 t
     cases e <;> rfl
theorem O6 {a : List (List UInt8)} (hs : ∀ x ∈ a, x.length <= 2 ^ 20) (ha : a.length <= 2 ^ 40) : ∀ (d i m : Nat), i + d = a.length → d < m → ∃ z, xf a (a.length : Int) m (i : Int) = some (if jh ya id a i d = true then .inr z else .inl false) := by
 intro d
 induction d with
 | zero =>
  intro i m hi hm
  obtain ⟨m, rfl, _⟩ := zh hm
  exact ⟨_, by rw [xf, if_neg (by omega)]; rfl⟩
 | succ d ih =>
  intro i m hi hm
  obtain ⟨m, rfl, hm'⟩ := zh hm
  have hil : i < a.length := by omega
  rw [xf, if_pos (by omega), zd, Option.bind_some, zk hil, Option.bind_some, vQ (hs _ (List.getElem_mem hil)), Option.bind_some, Qi]
  obtain ⟨z, hz⟩ := ih (i + 1) m (by omega) (by omega)
  cases hx : ya a[i] with
  | false =>
   refine ⟨0, ?_⟩
   have : gOk ya id a i = false := by
    unfold gOk; rw [zk hil]; simp [hx]
   rw [this]; rfl
  | true =>
   dsimp only
   by_cases h0 : 0 < i
   ·rw [if_pos (by omega), j9 (by omega) h0, zd, Option.bind_some, zk (show i - 1 < a.length by omega), Option.bind_some, Vg hil h0, hx, Bool.true_and, zC (by omega), hz]
    unfold xD xQ
    simp only [Option.bind_some]
    by_cases hl : Op.bytesLess a[i - 1] a[i] = true
    ·rw [if_neg (by rw [YX]; exact fun h => h hl), show Op.bytesLess (id a[i - 1]) (id a[i]) = true from hl, Bool.true_and]; exact ⟨z, rfl⟩
    ·rw [if_pos (by rw [YX]; exact hl), show Op.bytesLess (id a[i - 1]) (id a[i]) = false from Bool.eq_false_iff.2 hl]; exact ⟨z, rfl⟩
   ·obtain rfl : i = 0 := by omega
    rw [if_neg (by omega), Jv hil, hx, Bool.true_and, zC (by omega), hz]
    exact ⟨z, rfl⟩
def xF (a0 : (List (List UInt8))) : Option Bool := if bsz a0 <= 2 ^ 20 then some (j5 a0) else none
theorem KN (a0 : (List (List UInt8))) (r : Bool) (h : xF a0 = some r) : ∃ n, Y0 n a0 = some r := by
 unfold xF at h
 obtain ⟨ha, h⟩ := zK h
 have hl := kh a0
 obtain ⟨z, hz⟩ := O6 (a := a0) (fun x hx => by have := YW hx; omega) (by omega) a0.length 0 (a0.length + 1) (by omega) (by omega)
 refine ⟨a0.length + 1, ?_⟩
 unfold Y0
 rw [show ((0 : Nat) : Int) = 0 from rfl] at hz
 rw [<- h, hz, Option.bind_some]
 unfold j5
 cases jh ya id a0 0 a0.length
 ·rw [Bool.and_false]; rfl
 ·rw [Bool.and_true]
  show some (decide ((a0.length : Int) <= 8)) = _
  congr 1
  exact decide_eq_decide.2 (by omega)
theorem ZI : WZ xF := fun a0 r h => (KN a0 r h).elim fun n hn => TV n a0 r hn
def qn (a0 : GEntry) (a1 : (List UInt8)) : Option Int :=
 (xD a0.Addr a1).bind fun r1 =>
 some r1
theorem Zt (a0 : GEntry) (a1 : (List UInt8)) : Oc (qn a0 a1) 163 [] [.val true (jC a0), vq za a1] fun r => (vi r, []) := tc (
 .cl (kC a0.Addr a1) fun r1 =>
 .ret r1) (zf Tryz.func163)
def xt (F : (List GEntry) → (List UInt8) → Option (Int × Bool)) : Prop := ∀ (a0 : (List GEntry)) (a1 : (List UInt8)), Oc (F a0 a1) 162 [] [vq zl a0, vq za a1, .val false [.fn 163 []]] fun r => (.tup [(false, [ci r.1]), (false, [.bool r.2])], [])
def zb (a0 : (List GEntry)) (a1 : (List UInt8)) (v2 : Int) : Nat → Int → Int → Option (Int × Int)
  | 0, _, _ => none
  | m + 1, v3, v4 =>
  if v3 < v4 then
   (zw (w64 (Wd .shr .u64 (IntKind.u64.wrap (w64 (v3 + v4))) 1))).bind fun i2 =>
   (a0[i2]?).bind fun x3 =>
   (qn x3 a1).bind fun r4 =>
   if r4 < 0 then
    zb a0 a1 v2 m (w64 ((w64 (Wd .shr .u64 (IntKind.u64.wrap (w64 (v3 + v4))) 1)) + 1)) v4
   else
   zb a0 a1 v2 m v3 (w64 (Wd .shr .u64 (IntKind.u64.wrap (w64 (v3 + v4))) 1))
  else
  some (v3, v4)
theorem qH (a0 : (List GEntry)) (a1 : (List UInt8)) (v2 : Int) (m : Nat) : ∀ (v3 : Int) (v4 : Int), Ol (zb a0 a1 v2 m v3 v4) 162 (zQ Tryz.f162 0) ⟨[(0, vq zl a0), (1, vq za a1), (2, .val false [.fn 163 []]), (8, vi v2), (9, vi v3), (10, vi v4)], [], 0⟩ fun o => match o with | ⟨o_0, o_1⟩ => (.exit 0, ⟨[(0, vq zl a0), (1, vq za a1), (2, .val false [.fn 163 []]), (8, vi v2), (9, vi o_0), (10, vi o_1), (17, vb false)], [], 0⟩) := by
  induction m with
  | zero => intro v3 v4 o h; cases h
  | succ m ih => exact fun v3 v4 => tlp (
   .lI v3 v4 (fun c1 =>
    .q (.gTo 0 1 (by decide)) <|
    .cw (Wd .shr .u64 (IntKind.u64.wrap (w64 (v3 + v4))) 1) <|
    .na (w64 (Wd .shr .u64 (IntKind.u64.wrap (w64 (v3 + v4))) 1)) fun i2 =>
    .ix zX a0 i2 fun x3 =>
    .cl (Zt x3 a1) fun r4 =>
    .lI r4 0 (fun c5 =>
     .go (ih (w64 ((w64 (Wd .shr .u64 (IntKind.u64.wrap (w64 (v3 + v4))) 1)) + 1)) v4)) fun c5 =>
    .go (ih v3 (w64 (Wd .shr .u64 (IntKind.u64.wrap (w64 (v3 + v4))) 1)))) fun c1 =>
   .ret (v3, v4))
def zH (n : Nat) (a0 : (List GEntry)) (a1 : (List UInt8)) : Option (Int × Bool) :=
 (zb a0 a1 (a0.length : Int) n 0 (a0.length : Int)).bind fun ⟨o1_0, o1_1⟩ =>
 if o1_0 < (a0.length : Int) then
  (zw o1_0).bind fun i3 =>
  (a0[i3]?).bind fun x4 =>
  (qn x4 a1).bind fun r5 =>
  some (o1_0, (decide (r5 = 0)))
 else
 some (o1_0, false)
theorem jd (n : Nat) : xt (zH n) := fun a0 a1 => tc (
 .le zl a0 <|
 .lp (qH a0 a1 (a0.length : Int) n 0 (a0.length : Int)) fun ⟨o1_0, o1_1⟩ =>
 .lI o1_0 (a0.length : Int) (fun c2 =>
  .na o1_0 fun i3 =>
  .ix zX a0 i3 fun x4 =>
  .cl (Zt x4 a1) fun r5 =>
  .eD r5 0 <|
  .ret (o1_0, (decide (r5 = 0)))) fun c2 =>
 .ret (o1_0, false)) (zf Tryz.func162)
theorem Vv (e : GEntry) (x : List UInt8) : qn e x = some (Lib.compareBytes e.Addr x) := rfl
theorem A5 {a : List GEntry} {x : List UInt8} {v2 : Int} (ha : a.length <= 2 ^ 40) : ∀ (d i j m : Nat), j - i <= d → i <= j → j <= a.length → d < m → ∃ c c' : Nat, c <= a.length ∧ zb a x v2 m (i : Int) (j : Int) = some ((c : Int), (c' : Int)) := by
 intro d
 induction d with
 | zero =>
  intro i j m hd h1 h3 hm
  obtain ⟨m, rfl, _⟩ := zh hm
  exact ⟨i, j, by omega, by rw [zb, if_neg (by omega)]⟩
 | succ d ih =>
  intro i j m hd h1 h3 hm
  obtain ⟨m, rfl, hm'⟩ := zh hm
  by_cases hij : i < j
  ·have hk : (i + j) / 2 < a.length := by omega
   rw [zb, if_pos (by omega), HU (by omega), zd, Option.bind_some, zk hk, Option.bind_some, Vv, Option.bind_some]
   split
   ·rw [zC (by omega)]
    exact ih _ _ m (by omega) (by omega) h3 (by omega)
   ·exact ih _ _ m (by omega) (by omega) (by omega) (by omega)
  ·exact ⟨i, j, by omega, by rw [zb, if_neg (by omega)]⟩
theorem Dk {a : List GEntry} {x : List UInt8} {c : Nat} {v2 : Int} (hp : ki (a.map GEntry.Addr) x c) (ha : a.length <= 2 ^ 40) : ∀ (d i j m : Nat), j - i <= d → i <= c → c <= j → j <= a.length → d < m → zb a x v2 m (i : Int) (j : Int) = some ((c : Int), (c : Int)) := by
 intro d
 induction d with
 | zero =>
  intro i j m hd h1 h2 h3 hm
  obtain ⟨m, rfl, _⟩ := zh hm
  rw [zb, if_neg (by omega), show i = c by omega, show j = c by omega]
 | succ d ih =>
  intro i j m hd h1 h2 h3 hm
  obtain ⟨m, rfl, hm'⟩ := zh hm
  by_cases hij : i < j
  ·have hk : (i + j) / 2 < a.length := by omega
   rw [zb, if_pos (by omega), HU (by omega), zd, Option.bind_some, zk hk, Option.bind_some, Vv, Option.bind_some]
   have hq := hp.2 ((i + j) / 2) (by rw [List.length_map]; exact hk)
   rw [List.getElem_map] at hq
   by_cases hl : Op.bytesLess a[(i + j) / 2].Addr x = true
   ·rw [if_pos (by rw [P1]; exact hl), zC (by omega)]
    have := hq.2 hl
    exact ih _ _ m (by omega) (by omega) h2 h3 (by omega)
   ·rw [if_neg (by rw [P1]; exact hl)]
    have : ¬ (i + j) / 2 < c := fun h => hl (hq.1 h)
    exact ih _ _ m (by omega) h1 (by omega) (by omega) (by omega)
  ·rw [zb, if_neg (by omega), show i = c by omega, show j = c by omega]
def zu (a0 : (List GEntry)) (a1 : (List UInt8)) : Option (Int × Bool) := zH (a0.length + 5) a0 a1
theorem qM (a0 : (List GEntry)) (a1 : (List UInt8)) (r : (Int × Bool)) (h : zu a0 a1 = some r) : ∃ n, zH n a0 a1 = some r := ⟨_, h⟩
theorem Dl {a : List GEntry} {x : List UInt8} (ha : a.length <= 2 ^ 40) : ∃ (c : Nat) (b : Bool), zu a x = some ((c : Int), b) := by
 unfold zu zH
 obtain ⟨c, c', hc, hl⟩ := A5 (x := x) (v2 := (a.length : Int)) ha a.length 0 a.length (a.length + 5) (by omega) (by omega) (Nat.le_refl _) (by omega)
 rw [show ((0 : Nat) : Int) = 0 from rfl] at hl
 rw [hl, Option.bind_some]
 dsimp only
 by_cases h : c < a.length
 ·rw [if_pos (by omega), zd, Option.bind_some, zk h, Option.bind_some, Vv, Option.bind_some]
  exact ⟨c, _, rfl⟩
 ·rw [if_neg (by omega)]
  exact ⟨c, _, rfl⟩
theorem ZJ {l : List GEntry} {a : List UInt8} : yJ l a = true ↔ a ∈ l.map GEntry.Addr := by
 unfold yJ
 rw [List.any_eq_true, List.mem_map]
 constructor
 ·rintro ⟨e, he, h⟩; exact ⟨e, he, of_decide_eq_true h⟩
 ·rintro ⟨e, he, rfl⟩; exact ⟨e, he, decide_eq_true rfl⟩
theorem HD {a : List GEntry} {x : List UInt8} (ha : a.length <= 2 ^ 40) (h : Asc (a.map GEntry.Addr)) : ∃ c : Nat, ki (a.map GEntry.Addr) x c ∧ zu a x = some ((c : Int), yJ a x) := by
 obtain ⟨c, hp⟩ := ki.of h x
 refine ⟨c, hp, ?_⟩
 have hm := ki.mem h hp
 have hcl : c <= a.length := by have := hp.1; rwa [List.length_map] at this
 unfold zu zH
 have hl := Dk (v2 := (a.length : Int)) hp ha a.length 0 a.length (a.length + 5) (by omega) (by omega) hcl (Nat.le_refl _) (by omega)
 rw [show ((0 : Nat) : Int) = 0 from rfl] at hl
 rw [hl, Option.bind_some]
 dsimp only
 have hb : yJ a x = decide ((a.map GEntry.Addr)[c]? = some x) := by
  cases hx : yJ a x with
  | true => exact (decide_eq_true (hm.2 (ZJ.1 hx))).symm
  | false => exact (decide_eq_false fun h' => by rw [ZJ.2 (hm.1 h')] at hx; cases hx).symm
 rw [hb, List.getElem?_map]
 by_cases hc : c < a.length
 ·rw [if_pos (by omega), zd, Option.bind_some, zk hc, Option.bind_some, Vv, Option.bind_some]
  congr 2
  exact decide_eq_decide.2 ((Ms _ _).trans (by simp))
 ·rw [if_neg (by omega), List.getElem?_eq_none (by omega)]
  simp
theorem jb : xt zu := fun a0 a1 r h => (qM a0 a1 r h).elim fun n hn => jd n a0 a1 r hn
def zO (a0 : GState) (a1 : (List UInt8)) : Option (Int × Bool) :=
 (zu a0.Entries a1).bind fun ⟨r1_0, r1_1⟩ =>
 some (r1_0, r1_1)
theorem q9 (a0 : GState) (a1 : (List UInt8)) : Oc (zO a0 a1) 118 [] [.val true (yn a0), vq za a1] fun r => (.tup [(false, [ci r.1]), (false, [.bool r.2])], []) := tc (
 .cl (jb a0.Entries a1) fun ⟨r1_0, r1_1⟩ =>
 .ret (r1_0, r1_1)) (zf Tryz.func118)
def Q6 (F : GState → Option Bool) : Prop := ∀ (a0 : GState), Oc (F a0) 78 [] [.val true (yn a0)] fun r => (vb r, [])
def xx (v0 : (List GEntry)) (v1 : Int) (a0 : GState) : Nat → Int → Option (Bool ⊕ Int)
  | 0, _ => none
  | m + 1, v2 =>
  if v2 < v1 then
   (zw v2).bind fun i2 =>
   (v0[i2]?).bind fun x3 =>
   (xl x3.Addr).bind fun r4 =>
   match r4 with
   | true =>
    if 0 < v2 then
     (zw (w64 (v2 - 1))).bind fun i6 =>
     (a0.Entries[i6]?).bind fun x7 =>
     (xD x7.Addr x3.Addr).bind fun r8 =>
     if 0 <= r8 then
      some (.inl false)
     else
     (yV x3.Val).bind fun r10 =>
     match r10 with
     | true =>
      (xF x3.Deps).bind fun r11 =>
      match r11 with
      | true =>
       (yT x3.Turned 1 a0.Serial).bind fun r12 =>
       match r12 with
       | true =>
        xx v0 v1 a0 m (w64 (v2 + 1))
       | false =>
        some (.inl false)
      | false =>
       some (.inl false)
     | false =>
      some (.inl false)
    else
    (yV x3.Val).bind fun r6 =>
    match r6 with
    | true =>
     (xF x3.Deps).bind fun r7 =>
     match r7 with
     | true =>
      (yT x3.Turned 1 a0.Serial).bind fun r8 =>
      match r8 with
      | true =>
       xx v0 v1 a0 m (w64 (v2 + 1))
      | false =>
       some (.inl false)
     | false =>
      some (.inl false)
    | false =>
     some (.inl false)
   | false =>
    some (.inl false)
  else
  some (.inr v2)
theorem KO (v0 : (List GEntry)) (v1 : Int) (a0 : GState) (m : Nat) : ∀ (v2 : Int), Ol (xx v0 v1 a0 m v2) 78 (zQ Tryz.f78 0) ⟨[(1, vp 0 0), (18, vq zl v0), (19, vi v1), (20, vi v2)], [.var (yn a0)], 0⟩ fun o => match o with | .inl o_0 => (.ret, ⟨[(2, vb o_0)], [], 0⟩) | .inr (o_1) => (.exit 0, ⟨[(1, vp 0 0), (18, vq zl v0), (19, vi v1), (20, vi o_1), (21, vb false)], [.var (yn a0)], 0⟩) := by
  induction m with
  | zero => intro v2 o h; cases h
  | succ m ih => exact fun v2 => tlp (
   .lI v2 v1 (fun c1 =>
    .na v2 fun i2 =>
    .ix zX v0 i2 fun x3 =>
    .cl (qd x3.Addr) fun r4 =>
    .vN 0 r4 (
     .an 0 0 <|
     .lI 0 v2 (fun c5 =>
      .an 0 0 <|
      .na (w64 (v2 - 1)) fun i6 =>
      .ix zX a0.Entries i6 fun x7 =>
      .cl (kC x7.Addr x3.Addr) fun r8 =>
      .gI 0 r8 (fun c9 =>
       .an 0 3 <|
       .an 1 3 <|
       .ret (.inl false)) fun c9 =>
      .an 0 3 <|
      .an 1 3 <|
      .cl (vP x3.Val) fun r10 =>
      .vN 2 r10 (
       .an 0 0 <|
       .an 0 0 <|
       .cl (ZI x3.Deps) fun r11 =>
       .an 0 1 <|
       .an 0 1 <|
       .vN 0 r11 (
        .an 0 0 <|
        .an 0 0 <|
        .an 0 0 <|
        .an 0 0 <|
        .cl (ql x3.Turned 1 a0.Serial) fun r12 =>
        .an 0 1 <|
        .an 0 1 <|
        .vN 0 r12 (
         .go (ih (w64 (v2 + 1)))) <|
        .ret (.inl false)) <|
       .an 0 0 <|
       .an 0 0 <|
       .an 0 0 <|
       .an 0 0 <|
       .an 0 0 <|
       .an 0 0 <|
       .ret (.inl false)) <|
      .an 0 0 <|
      .an 0 0 <|
      .an 0 0 <|
      .an 0 0 <|
      .ret (.inl false)) fun c5 =>
     .an 0 0 <|
     .an 11 0 <|
     .an 1 0 <|
     .cl (vP x3.Val) fun r6 =>
     .vN 2 r6 (
      .an 0 0 <|
      .an 0 0 <|
      .cl (ZI x3.Deps) fun r7 =>
      .an 0 1 <|
      .an 0 1 <|
      .vN 0 r7 (
       .an 0 0 <|
       .an 0 0 <|
       .an 0 0 <|
       .an 0 0 <|
       .cl (ql x3.Turned 1 a0.Serial) fun r8 =>
       .an 0 1 <|
       .an 0 1 <|
       .vN 0 r8 (
        .go (ih (w64 (v2 + 1)))) <|
       .ret (.inl false)) <|
      .an 0 0 <|
      .an 0 0 <|
      .an 0 0 <|
      .an 0 0 <|
      .an 0 0 <|
      .an 0 0 <|
      .ret (.inl false)) <|
     .an 0 0 <|
     .an 0 0 <|
     .an 0 0 <|
     .an 0 0 <|
     .ret (.inl false)) <|
    .an 0 0 <|
    .an 0 0 <|
    .an 0 0 <|
    .an 0 0 <|
    .ret (.inl false)) fun c1 =>
   .ret (.inr v2))
def Zm (n : Nat) (a0 : GState) : Option Bool :=
 (yT a0.Serial 0 1000000).bind fun r1 =>
 match r1 with
 | true =>
  if 16 < (a0.Entries.length : Int) then
   some false
  else
  (xx a0.Entries (a0.Entries.length : Int) a0 n 0).bind fun o3 =>
  match o3 with
  | .inl o3_0 =>
   some o3_0
  | .inr (o3_1) =>
   if (a0.Pending.length : Int) = 0 then
    some (decide (a0.Act = 0))
   else
   (zO a0 a0.Pending).bind fun ⟨r5_0, r5_1⟩ =>
   match a0.Open with
   | true =>
    (xl a0.Pending).bind fun r6 =>
    match r6 with
    | true =>
     (yT a0.Act 1 4).bind fun r7 =>
     match r7 with
     | true =>
      if r5_1 = true then
       if a0.Act = 1 then
        some false
       else
       some true
      else
      if a0.Act = 1 then
       some true
      else
      some false
     | false =>
      some false
    | false =>
     some false
   | false =>
    some false
 | false =>
  some false
theorem Pl (n : Nat) : Q6 (Zm n) := fun a0 => tc (
 .cl (ql a0.Serial 0 1000000) fun r1 =>
 .vN 0 r1 (
  .an 0 0 <|
  .an 0 0 <|
  .le zl a0.Entries <|
  .an 0 0 <|
  .lI 16 (a0.Entries.length : Int) (fun c2 =>
   .an 0 0 <|
   .ret false) fun c2 =>
  .an 0 0 <|
  .le zl a0.Entries <|
  .l2 (KO a0.Entries (a0.Entries.length : Int) a0 n 0) (fun o3_0 =>
   .ret o3_0) fun o3_1 =>
  .le za a0.Pending <|
  .eI (a0.Pending.length : Int) 0 (fun c4 =>
   .eD a0.Act 0 <|
   .ret (decide (a0.Act = 0))) fun c4 =>
  .cl (q9 a0 a0.Pending) fun ⟨r5_0, r5_1⟩ =>
  .vM 0 a0.Open (
   .az 0 0 <|
   .az 0 0 <|
   .cl (qd a0.Pending) fun r6 =>
   .az 0 1 <|
   .vM 0 r6 (
    .az 0 0 <|
    .az 0 0 <|
    .cl (ql a0.Act 1 4) fun r7 =>
    .az 0 1 <|
    .vM 0 r7 (
     .az 0 0 <|
     .az 0 0 <|
     .az 0 0 <|
     .eD a0.Act 1 <|
     .az 0 0 <|
     .sp (r5_1 = true) (fun c8 =>
      .sp (a0.Act = 1) (fun c9 =>
       .eb c8 (nT (dT c9)) <|
       .az 0 0 <|
       .ret false) fun c9 =>
      .eb c8 (nF (dF c9)) <|
      .az 0 0 <|
      .ret true) fun c8 =>
     .sp (a0.Act = 1) (fun c9 =>
      .eb (bF c8) (nT (dT c9)) <|
      .az 0 0 <|
      .ret true) fun c9 =>
     .eb (bF c8) (nF (dF c9)) <|
     .az 0 0 <|
     .ret false) <|
    .az 0 0 <|
    .az 0 0 <|
    .az 0 0 <|
    .az 0 0 <|
    .az 0 0 <|
    .ret false) <|
   .az 0 0 <|
   .az 0 0 <|
   .az 0 0 <|
   .ret false) <|
  .az 0 0 <|
  .az 0 0 <|
  .az 0 0 <|
  .ret false) <|
 .an 0 0 <|
 .an 0 0 <|
 .an 0 0 <|
 .an 0 0 <|
 .ret false) (zf Tryz.func78)
theorem zcy {v : GValue} (h : vsz v <= 2 ^ 20) : qL v = some (kJ v) := by
 unfold qL q8 wh kJ
 rw [if_pos ⟨h, by decide, by decide⟩, Option.bind_some]
 rw [show (5 : Int).toNat = 5 from rfl]
 cases hs : shV 5 v
 ·simp
 ·dsimp only
  rw [if_pos h, Option.bind_some]
  simp
theorem HE {v : GValue} (h : vsz v <= 2 ^ 20) : yV v = some (jK v) := by
 unfold yV Yy jK
 by_cases h5 : v.Kind = 5
 ·rw [if_pos h5, zcy h, Option.bind_some, decide_eq_true h5, Bool.true_and]
  cases hv : kJ v with
  | false => rfl
  | true =>
   simp only [Bool.true_and]
   unfold wj
   rw [if_pos (by omega)]; rfl
 ·rw [if_neg h5, decide_eq_false h5]; rfl
theorem Gv {l : List (List UInt8)} (h : bsz l <= 2 ^ 20) : xF l = some (j5 l) := if_pos h
theorem LZ {s : GState} (hs : yh s.Entries <= 2 ^ 20) : ∀ (d i m : Nat), i + d = s.Entries.length → d < m → ∃ z, xx s.Entries (s.Entries.length : Int) s m (i : Int) = some (if jh (W4 s.Serial) GEntry.Addr s.Entries i d = true then .inr z else .inl false) := by
 have hlen := qX s.Entries
 intro d
 induction d with
 | zero =>
  intro i m hi hm
  obtain ⟨m, rfl, _⟩ := zh hm
  exact ⟨_, by rw [xx, if_neg (by omega)]; rfl⟩
 | succ d ih =>
  intro i m hi hm
  obtain ⟨m, rfl, hm'⟩ := zh hm
  have hil : i < s.Entries.length := by omega
  have hz0 := W3 (List.getElem_mem hil)
  obtain ⟨z, hz⟩ := ih (i + 1) m (by omega) (by omega)
  rw [xx, if_pos (by omega), zd, Option.bind_some, zk hil, Option.bind_some, Qi]
  unfold esz at hz0
  rw [vQ (by omega), Option.bind_some, HE (by omega), Option.bind_some, Gv (by omega), Option.bind_some, XP, Option.bind_some, zC (by omega), hz]
  generalize jh _ GEntry.Addr s.Entries (i + 1) d = g
  by_cases h0 : 0 < i
  ·rw [Vg hil h0]
   unfold W4
   cases ya s.Entries[i].Addr with
   | false => exact ⟨0, rfl⟩
   | true =>
    dsimp only
    rw [if_pos (by omega), j9 (by omega) h0, zd, Option.bind_some, zk (show i - 1 < s.Entries.length by omega), Option.bind_some]
    unfold xD xQ
    simp only [Option.bind_some]
    have hc := YX s.Entries[i - 1].Addr s.Entries[i].Addr
    generalize Lib.compareBytes s.Entries[i - 1].Addr s.Entries[i].Addr = q at hc ⊢
    generalize Op.bytesLess s.Entries[i - 1].Addr s.Entries[i].Addr = b at hc ⊢
    refine ⟨z, ?_⟩
    cases b with
    | true =>
     rw [if_neg (by rw [hc]; exact fun h => h rfl)]
     cases jK s.Entries[i].Val <;> cases j5 s.Entries[i].Deps <;> cases decide (1 <= s.Entries[i].Turned ∧ s.Entries[i].Turned <= s.Serial) <;> simp
    | false =>
     rw [if_pos (by rw [hc]; simp)]
     simp
  ·obtain rfl : i = 0 := by omega
   rw [Jv hil]
   unfold W4
   cases ya s.Entries[0].Addr with
   | false => exact ⟨0, rfl⟩
   | true =>
    dsimp only
    rw [if_neg (by omega)]
    refine ⟨z, ?_⟩
    cases jK s.Entries[0].Val <;> cases j5 s.Entries[0].Deps <;> cases decide (1 <= s.Entries[0].Turned ∧ s.Entries[0].Turned <= s.Serial) <;> simp
def jZ (a0 : GState) : Option Bool := if ssz a0 <= 2 ^ 20 then some (stB a0) else none
theorem HF {s : GState} (h : ssz s <= 2 ^ 20) : jZ s = some (stB s) := if_pos h
theorem MK {s : GState} (h : ssz s <= 2 ^ 20) : Zm (s.Entries.length + 1) s = some (stB s) := by
 have hlen := qX s.Entries
 unfold ssz at h
 obtain ⟨z, hz⟩ := LZ (s := s) (by omega) s.Entries.length 0 (s.Entries.length + 1) (by omega) (by omega)
 rw [show ((0 : Nat) : Int) = 0 from rfl] at hz
 unfold Zm
 rw [XP, Option.bind_some]
 unfold stB
 by_cases h1 : (0 : Int) <= s.Serial ∧ s.Serial <= 1000000
 ·rw [decide_eq_true h1]
  dsimp only
  by_cases h2 : (16 : Int) < (s.Entries.length : Int)
  ·rw [if_pos h2, decide_eq_false (p := 0 <= s.Serial ∧ s.Serial <= 1000000 ∧ s.Entries.length <= 16) (by omega)]; rfl
  rw [if_neg h2, hz, decide_eq_true (p := 0 <= s.Serial ∧ s.Serial <= 1000000 ∧ s.Entries.length <= 16) (by omega), Bool.true_and]
  have he : OS s = jh (W4 s.Serial) GEntry.Addr s.Entries 0 s.Entries.length := rfl
  cases hg : jh (W4 s.Serial) GEntry.Addr s.Entries 0 s.Entries.length with
  | false => rw [he, hg]; rfl
  | true =>
   rw [he, hg, Bool.true_and]
   simp only [if_true, Option.bind_some]
   unfold OR
   by_cases hp : s.Pending = []
   ·rw [if_pos (by rw [hp]; rfl), if_pos hp]
   ·have hp0 : ¬ (s.Pending.length : Int) = 0 := fun e => hp (List.eq_nil_of_length_eq_zero (by omega))
    rw [if_neg hp0, if_neg hp]
    unfold zO
    obtain ⟨c, _, hc⟩ := HD (x := s.Pending) (a := s.Entries) (by omega) (My hg)
    rw [hc, Option.bind_some, Option.bind_some]
    dsimp only
    rw [vQ (by omega), Option.bind_some, XP, Option.bind_some]
    cases s.Open
    ·rfl
    cases ya s.Pending
    ·rfl
    by_cases ha : (1 : Int) <= s.Act ∧ s.Act <= 4
    ·rw [decide_eq_true ha]
     by_cases h1 : s.Act = 1 <;> cases yJ s.Entries s.Pending <;> simp [h1]
    ·rw [decide_eq_false ha]; rfl
 ·rw [decide_eq_false h1, decide_eq_false (p := 0 <= s.Serial ∧ s.Serial <= 1000000 ∧ s.Entries.length <= 16) (fun h => h1 ⟨h.1, h.2.1⟩)]; rfl
theorem VH (a0 : GState) (r : Bool) (h : jZ a0 = some r) : ∃ n, Zm n a0 = some r := by
 unfold jZ at h
 obtain ⟨ha, h⟩ := zK h
 exact ⟨_, by rw [<- h]; exact MK ha⟩
theorem TW : Q6 jZ := fun a0 r h => (VH a0 r h).elim fun n hn => Pl n a0 r hn
def zS (a0 : (List UInt8)) : Option (List UInt8) :=
 if yC 1 (0 + a0.length) then
 some a0
 else none
theorem xy (a0 : (List UInt8)) : Oc (zS a0) 119 [] [vq za a0] fun r => (.val false [.own 1 (eL za r)], []) := tc (
 .ap 1 yd [] a0 fun n1 =>
 .ret a0) (zf Tryz.func119)
def Wq (F : (List (List UInt8)) → Option (List (List UInt8))) : Prop := ∀ (a0 : (List (List UInt8))), Oc (F a0) 139 [] [vq (zx za) a0] fun r => (.val false [.own 1 (eL (xu 1 za) r)], [])
def xH (a0 : (List (List UInt8))) (v1 : Int) : Nat → Int → (List (List UInt8)) → Option (Int × (List (List UInt8)))
  | 0, _, _ => none
  | m + 1, v2, v3 =>
  if v2 < v1 then
   (zw v2).bind fun i2 =>
   (a0[i2]?).bind fun x3 =>
   (zS x3).bind fun r4 =>
   if yC 24 (v3.length + [r4].length) then
   xH a0 v1 m (w64 (v2 + 1)) (v3 ++ [r4])
   else none
  else
  some (v2, v3)
theorem Jg (a0 : (List (List UInt8))) (v1 : Int) (m : Nat) : ∀ (v2 : Int) (v3 : (List (List UInt8))), Ol (xH a0 v1 m v2 v3) 139 (zQ Tryz.f139 0) ⟨[(3, vr 0), (7, vq (zx za) a0), (8, vi v1), (9, vi v2)], [.obj 1 (eL (xu 1 za) v3)], 0⟩ fun o => match o with | ⟨o_0, o_1⟩ => (.exit 0, ⟨[(3, vr 0), (7, vq (zx za) a0), (8, vi v1), (9, vi o_0), (10, vb false)], [.obj 1 (eL (xu 1 za) o_1)], 0⟩) := by
  induction m with
  | zero => intro v2 v3 o h; cases h
  | succ m ih => exact fun v2 v3 => tlp (
   .lI v2 v1 (fun c1 =>
    .na v2 fun i2 =>
    .ix0 (zx za) a0 i2 fun x3 =>
    .cl (xy x3) fun r4 =>
    .ao 24 (Ro 1 kZ) v3 [r4] fun n5 =>
    .go (ih (w64 (v2 + 1)) (v3 ++ [r4]))) fun c1 =>
   .ret (v2, v3))
def ZK (n : Nat) (a0 : (List (List UInt8))) : Option (List (List UInt8)) :=
 (xH a0 (a0.length : Int) n 0 []).bind fun ⟨o1_0, o1_1⟩ =>
 some o1_1
theorem RA (n : Nat) : Wq (ZK n) := fun a0 => tc (
 .le (zx za) a0 <|
 .lp (Jg a0 (a0.length : Int) n 0 []) fun ⟨o1_0, o1_1⟩ =>
 .ret o1_1) (zf Tryz.func139)
theorem KP {a : List UInt8} (h : a.length <= 2 ^ 39) : zS a = some a := if_pos (kY (by decide) (by omega))
theorem Pm {a : List (List UInt8)} (ha : bsz a <= 2 ^ 39) : ∀ (l p : List (List UInt8)) (m : Nat), a = p ++ l → l.length < m → ∃ z, xH a (a.length : Int) m (p.length : Int) p = some (z, a) := by
 have hl := kh a
 intro l
 induction l with
 | nil =>
  intro p m he hm
  subst he
  obtain ⟨m, rfl, _⟩ := zh hm
  exact ⟨_, by rw [xH, if_neg (jk p)]; simp; rfl⟩
 | cons x l ih =>
  intro p m he hm
  obtain ⟨m, rfl, hm'⟩ := zh hm
  have hx : 1 + x.length <= bsz a := YW (by rw [he]; simp)
  have hlen : a.length = p.length + (l.length + 1) := by rw [he]; simp
  obtain ⟨z, hz⟩ := ih (p ++ [x]) m (by rw [he]; simp) (by simp only [List.length_cons] at hm'; omega)
  refine ⟨z, ?_⟩
  rw [xH, if_pos (by omega), zd, Option.bind_some, show a[p.length]? = some x by rw [he]; exact zR p x l, Option.bind_some, KP (by omega), Option.bind_some, if_pos (kY (by decide) (by simp only [List.length_cons, List.length_nil]; omega)), yI p x (by omega), hz]
def yN (a0 : (List (List UInt8))) : Option (List (List UInt8)) := if bsz a0 <= 2 ^ 39 then some a0 else none
theorem Ma {a : List (List UInt8)} (h : bsz a <= 2 ^ 39) : yN a = some a := if_pos h
theorem JO (a0 : (List (List UInt8))) (r : (List (List UInt8))) (h : yN a0 = some r) : ∃ n, ZK n a0 = some r := by
 unfold yN at h
 obtain ⟨ha, h⟩ := zK h
 obtain ⟨z, hz⟩ := Pm ha a0 [] (a0.length + 1) rfl (by omega)
 refine ⟨a0.length + 1, ?_⟩
 unfold ZK
 simp only [List.length_nil, Int.natCast_zero] at hz
 rw [hz]; exact h
theorem Zx : Wq yN := fun a0 r h => (JO a0 r h).elim fun n hn => RA n a0 r hn
def qV (F : GValue → Option GValue) : Prop := ∀ (a0 : GValue), Oc (F a0) 138 [] [.val true (zI a0)] fun r => (.val true (jB r), [])
def xI (G_impl_copyValue : GValue → Option GValue) (v0 : (List GValue)) (v1 : Int) (v3 : Int) (v4 : Int) (v5 : Int) (v6 : Int) (v7 : (List UInt8)) (v8 : (List (List UInt8))) (v9 : (List GValue)) (v10 : (List UInt8)) (v11 : (List (List UInt8))) : Nat → Int → (List GValue) → Option (Int × (List GValue))
  | 0, _, _ => none
  | m + 1, v2, v12 =>
  if v2 < v1 then
   (zw v2).bind fun i2 =>
   (v0[i2]?).bind fun x3 =>
   (G_impl_copyValue x3).bind fun r4 =>
   if yC 88 (v12.length + [r4].length) then
   xI G_impl_copyValue v0 v1 v3 v4 v5 v6 v7 v8 v9 v10 v11 m (w64 (v2 + 1)) (v12 ++ [r4])
   else none
  else
  some (v2, v12)
theorem Jh (G_impl_copyValue : GValue → Option GValue) (H_impl_copyValue : qV G_impl_copyValue) (v0 : (List GValue)) (v1 : Int) (v3 : Int) (v4 : Int) (v5 : Int) (v6 : Int) (v7 : (List UInt8)) (v8 : (List (List UInt8))) (v9 : (List GValue)) (v10 : (List UInt8)) (v11 : (List (List UInt8))) (m : Nat) : ∀ (v2 : Int) (v12 : (List GValue)), Ol (xI G_impl_copyValue v0 v1 v3 v4 v5 v6 v7 v8 v9 v10 v11 m v2 v12) 138 (zQ Tryz.f138 0) ⟨[(2, vp 0 0), (3, vp 1 0), (18, vq zg v0), (19, vi v1), (20, vi v2)], [.var [ci v3, ci v4, .ref 2, .ref 3, .ref 4], .var [ci v5, ci v6, .ref 5, .ref 6, .ref 7], .obj 1 (eL za v7), .obj 1 (eL (xu 1 za) v8), .obj 5 (eL zJ v9), .obj 1 (eL za v10), .obj 1 (eL (xu 1 za) v11), .obj 5 (eL zJ v12)], 0⟩ fun o => match o with | ⟨o_0, o_1⟩ => (.exit 0, ⟨[(2, vp 0 0), (3, vp 1 0), (18, vq zg v0), (19, vi v1), (20, vi o_0), (21, vb false)], [.var [ci v3, ci v4, .ref 2, .ref 3, .ref 4], .var [ci v5, ci v6, .ref 5, .ref 6, .ref 7], .obj 1 (eL za v7), .obj 1 (eL (xu 1 za) v8), .obj 5 (eL zJ v9), .obj 1 (eL za v10), .obj 1 (eL (xu 1 za) v11), .obj 5 (eL zJ o_1)], 0⟩) := by
  induction m with
  | zero => intro v2 v12 o h; cases h
  | succ m ih => exact fun v2 v12 => tlp (
   .lI v2 v1 (fun c1 =>
    .na v2 fun i2 =>
    .ix yo v0 i2 fun x3 =>
    .cl (H_impl_copyValue x3) fun r4 =>
    .nd (yC 88 (v12.length + [r4].length)) fun n5 =>
    .q ⟨.room 88 (eL zJ v12) ([(jB r4)] : List (List C)), .b true, by rw [(show ([(jB r4)] : List (List C)) = eL zJ [r4] from (RN (y5 r4) Pz))]; exact (A.room n5)⟩ <|
    .q ⟨.uni 5 ([(jB r4)] : List (List C)), .b true, by rw [(show ([(jB r4)] : List (List C)) = eL zJ [r4] from (RN (y5 r4) Pz))]; exact (A.uniO Wx)⟩ <|
    .q ⟨.app (eL zJ v12) ([(jB r4)] : List (List C)), .l (eL zJ (v12 ++ [r4])), by rw [(show ([(jB r4)] : List (List C)) = eL zJ [r4] from (RN (y5 r4) Pz))]; exact A.app⟩ <|
    .go (ih (w64 (v2 + 1)) (v12 ++ [r4]))) fun c1 =>
   .ret (v2, v12))
def ZL (G_impl_copyValue : GValue → Option GValue) (n : Nat) (a0 : GValue) : Option GValue :=
 (zS a0.S).bind fun r1 =>
 (yN a0.K).bind fun r2 =>
 (xI G_impl_copyValue a0.L (a0.L.length : Int) 0 0 a0.Kind a0.N [] [] [] r1 r2 n 0 []).bind fun ⟨o3_0, o3_1⟩ =>
 some (GValue.mk a0.Kind a0.N r1 r2 o3_1)
theorem RB (G_impl_copyValue : GValue → Option GValue) (H_impl_copyValue : qV G_impl_copyValue) (n : Nat) : qV (ZL G_impl_copyValue n) := fun a0 => tc (
 .cl (xy a0.S) fun r1 =>
 .cl (Zx a0.K) fun r2 =>
 .le zg a0.L <|
 .lp (Jh G_impl_copyValue H_impl_copyValue a0.L (a0.L.length : Int) 0 0 a0.Kind a0.N [] [] [] r1 r2 n 0 []) fun ⟨o3_0, o3_1⟩ =>
 .ret (GValue.mk a0.Kind a0.N r1 r2 o3_1)) (zf Tryz.func138)
def yO : Nat → GValue → Option GValue
 | 0, _ => none
 | n + 1, a0 => ZL (yO n) n a0
theorem KQ (n : Nat) : qV (yO n) := by
 induction n with
 | zero => exact fun _ _ h => (by rw [yO] at h; cases h)
 | succ n ih =>
  have ih_impl_copyValue := ih
  exact fun a0 r h => RB (yO n) ih_impl_copyValue n a0 r (by rw [yO] at h; exact h)
theorem Pn {G : GValue → Option GValue} {a : List GValue} {v3 v4 v5 v6 : Int} {v7 : List UInt8} {v8 : List (List UInt8)} {v9 : List GValue} {v10 : List UInt8} {v11 : List (List UInt8)} (ha : a.length <= 2 ^ 39) : ∀ (l p : List GValue) (m : Nat), a = p ++ l → (∀ x ∈ l, G x = some x) → l.length < m → ∃ z, xI G a (a.length : Int) v3 v4 v5 v6 v7 v8 v9 v10 v11 m (p.length : Int) p = some (z, a) := by
 intro l
 induction l with
 | nil =>
  intro p m he _ hm
  subst he
  obtain ⟨m, rfl, _⟩ := zh hm
  exact ⟨_, by rw [xI, if_neg (jk p)]; simp; rfl⟩
 | cons x l ih =>
  intro p m he hG hm
  obtain ⟨m, rfl, hm'⟩ := zh hm
  have hlen : a.length = p.length + (l.length + 1) := by rw [he]; simp
  obtain ⟨z, hz⟩ := ih (p ++ [x]) m (by rw [he]; simp) (fun y hy => hG y (List.mem_cons_of_mem _ hy)) (by simp only [List.length_cons] at hm'; omega)
  refine ⟨z, ?_⟩
  rw [xI, if_pos (by omega), zd, Option.bind_some, show a[p.length]? = some x by rw [he]; exact zR p x l, Option.bind_some, hG x List.mem_cons_self, Option.bind_some, if_pos (kY (by decide) (by simp only [List.length_cons, List.length_nil]; omega)), yI p x (by omega), hz]
theorem ML : ∀ (N : Nat) (v : GValue), vsz v < N → vsz v <= 2 ^ 39 → ∀ f : Nat, vsz v + 2 <= f → yO f v = some v := by
 intro N
 induction N with
 | zero => intro v hv; omega
 | succ N ih =>
  intro v hv hs f hf
  obtain ⟨f, rfl, _⟩ := zh (show 0 < f by omega)
  have he := qz v
  have hl := xj v.L
  rw [yO]
  unfold ZL
  rw [KP (by omega), Ma (by omega)]
  simp only [Option.bind_some]
  obtain ⟨z, hz⟩ := Pn (G := yO f) (a := v.L) (v3 := 0) (v4 := 0) (v5 := v.Kind) (v6 := v.N) (v7 := []) (v8 := []) (v9 := []) (v10 := v.S) (v11 := v.K) (by omega) v.L [] f rfl (fun x hx => by
   have := qh hx
   exact ih x (by omega) (by omega) f (by omega)) (by omega)
  simp only [List.length_nil, Int.natCast_zero] at hz
  rw [hz]
  exact congrArg some (GValue.eta v)
def xT (a0 : GValue) : Option GValue := if vsz a0 <= 2 ^ 39 then some a0 else none
theorem JP (a0 : GValue) (r : GValue) (h : xT a0 = some r) : ∃ n, yO n a0 = some r := by
 unfold xT at h
 obtain ⟨ha, h⟩ := zK h
 exact ⟨vsz a0 + 2, by rw [<- h]; exact ML _ a0 (Nat.lt_succ_self _) ha _ (Nat.le_refl _)⟩
theorem XA : qV xT := by
 intro a0 r h
 obtain ⟨n, hn⟩ := JP a0 r h
 exact (KQ n) a0 r hn
def kE (a0 : GEntry) : Option GEntry :=
 (zS a0.Addr).bind fun r1 =>
 (xT a0.Val).bind fun r2 =>
 (yN a0.Deps).bind fun r3 =>
 some (GEntry.mk r1 r2 r3 a0.Taint a0.Turned)
theorem VI (a0 : GEntry) : Oc (kE a0) 177 [] [.val true (jC a0)] fun r => (.val true (RO r), []) := tc (
 .cl (xy a0.Addr) fun r1 =>
 .cl (XA a0.Val) fun r2 =>
 .cl (Zx a0.Deps) fun r3 =>
 .ret (GEntry.mk r1 r2 r3 a0.Taint a0.Turned)) (zf Tryz.func177)
def Wr (F : GState → Option GState) : Prop := ∀ (a0 : GState), Oc (F a0) 137 [] [.val true (yn a0)] fun r => (.val true (Wy r), [])
def xJ (v0 : (List GEntry)) (v1 : Int) (v3 : Int) (v4 : Bool) (v5 : Int) (v6 : Int) (v7 : Bool) (v8 : Int) (v9 : (List UInt8)) (v10 : (List GEntry)) (v11 : (List UInt8)) : Nat → Int → (List GEntry) → Option (Int × (List GEntry))
  | 0, _, _ => none
  | m + 1, v2, v12 =>
  if v2 < v1 then
   (zw v2).bind fun i2 =>
   (v0[i2]?).bind fun x3 =>
   (kE x3).bind fun r4 =>
   if yC 152 (v12.length + [r4].length) then
   xJ v0 v1 v3 v4 v5 v6 v7 v8 v9 v10 v11 m (w64 (v2 + 1)) (v12 ++ [r4])
   else none
  else
  some (v2, v12)
theorem Ji (v0 : (List GEntry)) (v1 : Int) (v3 : Int) (v4 : Bool) (v5 : Int) (v6 : Int) (v7 : Bool) (v8 : Int) (v9 : (List UInt8)) (v10 : (List GEntry)) (v11 : (List UInt8)) (m : Nat) : ∀ (v2 : Int) (v12 : (List GEntry)), Ol (xJ v0 v1 v3 v4 v5 v6 v7 v8 v9 v10 v11 m v2 v12) 137 (zQ Tryz.f137 0) ⟨[(2, vp 0 0), (3, vp 1 0), (17, vq zl v0), (18, vi v1), (19, vi v2)], [.var [ci v3, .bool v4, .ref 2, ci v5, .ref 3], .var [ci v6, .bool v7, .ref 4, ci v8, .ref 5], .obj 1 (eL za v9), .obj 9 (eL z8 v10), .obj 1 (eL za v11), .obj 9 (eL z8 v12)], 0⟩ fun o => match o with | ⟨o_0, o_1⟩ => (.exit 0, ⟨[(2, vp 0 0), (3, vp 1 0), (17, vq zl v0), (18, vi v1), (19, vi o_0), (20, vb false)], [.var [ci v3, .bool v4, .ref 2, ci v5, .ref 3], .var [ci v6, .bool v7, .ref 4, ci v8, .ref 5], .obj 1 (eL za v9), .obj 9 (eL z8 v10), .obj 1 (eL za v11), .obj 9 (eL z8 o_1)], 0⟩) := by
  induction m with
  | zero => intro v2 v12 o h; cases h
  | succ m ih => exact fun v2 v12 => tlp (
   .lI v2 v1 (fun c1 =>
    .na v2 fun i2 =>
    .ix zX v0 i2 fun x3 =>
    .cl (VI x3) fun r4 =>
    .ao 152 w8 v12 [r4] fun n5 =>
    .go (ih (w64 (v2 + 1)) (v12 ++ [r4]))) fun c1 =>
   .ret (v2, v12))
def ZM (n : Nat) (a0 : GState) : Option GState :=
 (zS a0.Pending).bind fun r1 =>
 (xJ a0.Entries (a0.Entries.length : Int) 0 false 0 a0.Serial a0.Open a0.Act [] [] r1 n 0 []).bind fun ⟨o2_0, o2_1⟩ =>
 some (GState.mk a0.Serial a0.Open r1 a0.Act o2_1)
theorem RC (n : Nat) : Wr (ZM n) := fun a0 => tc (
 .cl (xy a0.Pending) fun r1 =>
 .le zl a0.Entries <|
 .lp (Ji a0.Entries (a0.Entries.length : Int) 0 false 0 a0.Serial a0.Open a0.Act [] [] r1 n 0 []) fun ⟨o2_0, o2_1⟩ =>
 .ret (GState.mk a0.Serial a0.Open r1 a0.Act o2_1)) (zf Tryz.func137)
theorem HG {e : GEntry} (h : esz e <= 2 ^ 38) : kE e = some e := by
 unfold esz at h
 unfold kE zS xT yN
 rw [if_pos (kY (by decide) (by omega)), Option.bind_some, if_pos (by omega), Option.bind_some, if_pos (by omega), Option.bind_some]
 cases e; rfl
theorem Gw {a : List GEntry} {v3 : Int} {v4 : Bool} {v5 v6 : Int} {v7 : Bool} {v8 : Int} {v9 : List UInt8} {v10 : List GEntry} {v11 : List UInt8} (ha : yh a <= 2 ^ 38) : ∀ (l p : List GEntry) (m : Nat), a = p ++ l → l.length < m → ∃ z, xJ a (a.length : Int) v3 v4 v5 v6 v7 v8 v9 v10 v11 m (p.length : Int) p = some (z, a) := by
 have hl := qX a
 intro l
 induction l with
 | nil =>
  intro p m he hm
  obtain ⟨m, rfl, _⟩ := zh hm
  exact ⟨_, by rw [xJ, he, List.append_nil, if_neg (by omega)]⟩
 | cons x l ih =>
  intro p m he hm
  obtain ⟨m, rfl, hm'⟩ := zh hm
  have hx : 1 + esz x <= yh a := W3 (by rw [he]; simp)
  have hlen : a.length = p.length + (l.length + 1) := by rw [he]; simp
  obtain ⟨z, hz⟩ := ih (p ++ [x]) m (by rw [he]; simp) (by simp only [List.length_cons] at hm'; omega)
  refine ⟨z, ?_⟩
  rw [xJ, if_pos (by omega), zd, Option.bind_some, show a[p.length]? = some x by rw [he]; exact zR p x l, Option.bind_some, HG (by omega), Option.bind_some, if_pos (Zj (by simp only [List.length_cons, List.length_nil]; omega)), yI p x (by omega), hz]
def xg (a0 : GState) : Option GState := if ssz a0 <= 2 ^ 38 then some a0 else none
theorem JQ (a0 : GState) (r : GState) (h : xg a0 = some r) : ∃ n, ZM n a0 = some r := by
 unfold xg at h
 obtain ⟨ha, h⟩ := zK h
 unfold ssz at ha
 refine ⟨a0.Entries.length + 1, ?_⟩
 unfold ZM zS
 obtain ⟨z, hz⟩ := Gw (a := a0.Entries) (v3 := 0) (v4 := false) (v5 := 0) (v6 := a0.Serial) (v7 := a0.Open) (v8 := a0.Act) (v9 := []) (v10 := []) (v11 := a0.Pending) (by omega) a0.Entries [] (a0.Entries.length + 1) rfl (by omega)
 simp only [List.length_nil, Int.natCast_zero] at hz
 rw [if_pos (kY (by decide) (by omega)), Option.bind_some, hz, <- h]
 cases a0; rfl
theorem XB : Wr xg := fun a0 r h => (JQ a0 r h).elim fun n hn => RC n a0 r hn
def ZD (a0 : GValue) : Option Bool :=
 if a0.Kind = 0 then
  if a0.N = 0 then
   if (a0.S.length : Int) = 0 then
    if (a0.K.length : Int) = 0 then
     some (decide ((a0.L.length : Int) = 0))
    else
    some false
   else
   some false
  else
  some false
 else
 some false
theorem Po (a0 : GValue) : Oc (ZD a0) 136 [] [.val true (zI a0)] fun r => (vb r, []) := tc (
 .eI a0.Kind 0 (fun c1 =>
  .eI a0.N 0 (fun c2 =>
   .le za a0.S <|
   .eI (a0.S.length : Int) 0 (fun c3 =>
    .le (zx za) a0.K <|
    .eI (a0.K.length : Int) 0 (fun c4 =>
     .le zg a0.L <|
     .eD (a0.L.length : Int) 0 <|
     .ret (decide ((a0.L.length : Int) = 0))) fun c4 =>
    .ret false) fun c3 =>
   .ret false) fun c2 =>
  .ret false) fun c1 =>
 .ret false) (zf Tryz.func136)
def Zn (a0 : GEvent) : Option Bool :=
 if a0.Kind = 2 then
  (xl a0.Addr).bind fun r2 =>
  match r2 with
  | true =>
   if a0.Act = 0 then
    (yV a0.Val).bind fun r4 =>
    match r4 with
    | true =>
     (xF a0.Deps).bind fun r5 =>
     some r5
    | false =>
     some false
   else
   some false
  | false =>
   some false
 else
 (ZD a0.Val).bind fun r2 =>
 match r2 with
 | true =>
  if 0 < (a0.Deps.length : Int) then
   some false
  else
  if a0.Kind = 0 then
   if (a0.Addr.length : Int) = 0 then
    some (decide (a0.Act = 0))
   else
   some false
  else
  if a0.Kind = 5 then
   if (a0.Addr.length : Int) = 0 then
    some (decide (a0.Act = 0))
   else
   some false
  else
  if a0.Kind = 6 then
   if (a0.Addr.length : Int) = 0 then
    some (decide (a0.Act = 0))
   else
   some false
  else
  if a0.Kind = 1 then
   (xl a0.Addr).bind fun r8 =>
   match r8 with
   | true =>
    (yT a0.Act 1 4).bind fun r9 =>
    some r9
   | false =>
    some false
  else
  if a0.Kind = 3 then
   (xl a0.Addr).bind fun r9 =>
   match r9 with
   | true =>
    some (decide (a0.Act = 0))
   | false =>
    some false
  else
  if a0.Kind = 4 then
   (xl a0.Addr).bind fun r10 =>
   match r10 with
   | true =>
    some (decide (a0.Act = 0))
   | false =>
    some false
  else
  some false
 | false =>
  some false
theorem TX (a0 : GEvent) : Oc (Zn a0) 79 [] [.val true (qW a0)] fun r => (vb r, []) := tc (
 .eI a0.Kind 2 (fun c1 =>
  .cl (qd a0.Addr) fun r2 =>
  .vM 0 r2 (
   .az 0 0 <|
   .az 0 0 <|
   .eD a0.Act 0 <|
   .az 0 0 <|
   .cI 0 (a0.Act = 0) (fun c3 =>
    .kT 0 (dT c3) <|
    .kT 0 (dT c3) <|
    .cl (vP a0.Val) fun r4 =>
    .kT 0 (dT c3) <|
    .vM 0 r4 (
     .az 0 0 <|
     .az 0 0 <|
     .cl (ZI a0.Deps) fun r5 =>
     .az 0 1 <|
     .ret r5) <|
    .az 0 0 <|
    .az 0 0 <|
    .az 0 0 <|
    .ret false) fun c3 =>
   .kF 0 (dF c3) <|
   .kF 0 (dF c3) <|
   .kF 0 (dF c3) <|
   .ret false) <|
  .az 0 0 <|
  .az 0 0 <|
  .az 0 0 <|
  .ret false) fun c1 =>
 .cl (Po a0.Val) fun r2 =>
 .vN 0 r2 (
  .an 0 0 <|
  .an 0 0 <|
  .le (zx za) a0.Deps <|
  .an 0 0 <|
  .lI 0 (a0.Deps.length : Int) (fun c3 =>
   .an 0 0 <|
   .ret false) fun c3 =>
  .an 0 0 <|
  .eI a0.Kind 0 (fun c4 =>
   .le za a0.Addr <|
   .eI (a0.Addr.length : Int) 0 (fun c5 =>
    .eD a0.Act 0 <|
    .ret (decide (a0.Act = 0))) fun c5 =>
   .ret false) fun c4 =>
  .eI a0.Kind 5 (fun c5 =>
   .le za a0.Addr <|
   .eI (a0.Addr.length : Int) 0 (fun c6 =>
    .eD a0.Act 0 <|
    .ret (decide (a0.Act = 0))) fun c6 =>
   .ret false) fun c5 =>
  .eI a0.Kind 6 (fun c6 =>
   .le za a0.Addr <|
   .eI (a0.Addr.length : Int) 0 (fun c7 =>
    .eD a0.Act 0 <|
    .ret (decide (a0.Act = 0))) fun c7 =>
   .ret false) fun c6 =>
  .eI a0.Kind 1 (fun c7 =>
   .cl (qd a0.Addr) fun r8 =>
   .vM 0 r8 (
    .az 0 0 <|
    .az 0 0 <|
    .cl (ql a0.Act 1 4) fun r9 =>
    .az 0 1 <|
    .ret r9) <|
   .az 0 0 <|
   .az 0 0 <|
   .az 0 0 <|
   .ret false) fun c7 =>
  .eI a0.Kind 3 (fun c8 =>
   .cl (qd a0.Addr) fun r9 =>
   .vM 0 r9 (
    .az 0 0 <|
    .az 0 0 <|
    .eD a0.Act 0 <|
    .az 0 0 <|
    .ret (decide (a0.Act = 0))) <|
   .az 0 0 <|
   .az 0 0 <|
   .az 0 0 <|
   .ret false) fun c8 =>
  .eI a0.Kind 4 (fun c9 =>
   .cl (qd a0.Addr) fun r10 =>
   .vM 0 r10 (
    .az 0 0 <|
    .az 0 0 <|
    .eD a0.Act 0 <|
    .az 0 0 <|
    .ret (decide (a0.Act = 0))) <|
   .az 0 0 <|
   .az 0 0 <|
   .az 0 0 <|
   .ret false) fun c9 =>
  .ret false) <|
 .an 0 0 <|
 .an 0 0 <|
 .an 0 0 <|
 .an 0 0 <|
 .ret false) (zf Tryz.func79)
def jJ (a0 : GState) (a1 : GEvent) : Option Bool :=
 (zO a0 a1.Addr).bind fun ⟨r1_0, r1_1⟩ =>
 if a0.Serial = 1000000 then
  some false
 else
 if a1.Kind = 0 then
  some (!a0.Open)
 else
 if a1.Kind = 1 then
  match a0.Open with
  | true =>
   if (a0.Pending.length : Int) = 0 then
    if r1_1 = true then
     if a1.Act = 1 then
      some false
     else
     some true
    else
    if a1.Act = 1 then
     some (decide ((a0.Entries.length : Int) < 16))
    else
    some false
   else
   some false
  | false =>
   some false
 else
 if a1.Kind = 2 then
  (yl a0.Pending a1.Addr).bind fun r6 =>
  match r6 with
  | true =>
   some (!(decide (a0.Act = 4)))
  | false =>
   some false
 else
 if a1.Kind = 3 then
  (yl a0.Pending a1.Addr).bind fun r7 =>
  match r7 with
  | true =>
   some (decide (a0.Act = 4))
  | false =>
   some false
 else
 if a1.Kind = 4 then
  (yl a0.Pending a1.Addr).bind fun r8 =>
  some r8
 else
 if a1.Kind = 5 then
  match a0.Open with
  | true =>
   some (decide ((a0.Pending.length : Int) = 0))
  | false =>
   some false
 else
 some a0.Open
theorem KR (a0 : GState) (a1 : GEvent) : Oc (jJ a0 a1) 103 [] [.val true (yn a0), .val true (qW a1)] fun r => (vb r, []) := tc (
 .cl (q9 a0 a1.Addr) fun ⟨r1_0, r1_1⟩ =>
 .eI a0.Serial 1000000 (fun c2 =>
  .ret false) fun c2 =>
 .eI a1.Kind 0 (fun c3 =>
  .ret (!a0.Open)) fun c3 =>
 .eI a1.Kind 1 (fun c4 =>
  .vM 1 a0.Open (
   .az 0 0 <|
   .az 0 0 <|
   .le za a0.Pending <|
   .az 0 0 <|
   .eD (a0.Pending.length : Int) 0 <|
   .az 0 0 <|
   .cI 0 ((a0.Pending.length : Int) = 0) (fun c5 =>
    .kT 0 (dT c5) <|
    .kT 0 (dT c5) <|
    .kT 0 (dT c5) <|
    .eD a1.Act 1 <|
    .kT 0 (dT c5) <|
    .sp (r1_1 = true) (fun c6 =>
     .sp (a1.Act = 1) (fun c7 =>
      .eb c6 (nT (dT c7)) <|
      .kT 0 (dT c5) <|
      .ret false) fun c7 =>
     .eb c6 (nF (dF c7)) <|
     .kT 0 (dT c5) <|
     .kT 2 c6 <|
     .kT 0 c6 <|
     .kT 0 c6 <|
     .kT 0 c6 <|
     .kT 1 c6 <|
     .ret true) fun c6 =>
    .sp (a1.Act = 1) (fun c7 =>
     .eb (bF c6) (nT (dT c7)) <|
     .kT 0 (dT c5) <|
     .kF 2 (bF c6) <|
     .kF 0 (bF c6) <|
     .kF 0 (bF c6) <|
     .le zl a0.Entries <|
     .kF 0 (bF c6) <|
     .lD (a0.Entries.length : Int) 16 <|
     .kF 1 (bF c6) <|
     .ret (decide ((a0.Entries.length : Int) < 16))) fun c7 =>
    .eb (bF c6) (nF (dF c7)) <|
    .kT 0 (dT c5) <|
    .ret false) fun c5 =>
   .kF 0 (dF c5) <|
   .kF 0 (dF c5) <|
   .kF 0 (dF c5) <|
   .kF 0 (dF c5) <|
   .kF 0 (dF c5) <|
   .ret false) <|
  .az 0 0 <|
  .az 0 0 <|
  .az 0 0 <|
  .az 0 0 <|
  .ret false) fun c4 =>
 .eI a1.Kind 2 (fun c5 =>
  .cl (wZ a0.Pending a1.Addr) fun r6 =>
  .vM 0 r6 (
   .az 0 0 <|
   .az 0 0 <|
   .eD a0.Act 4 <|
   .az 0 0 <|
   .ret (!(decide (a0.Act = 4)))) <|
  .az 0 0 <|
  .az 0 0 <|
  .az 0 0 <|
  .ret false) fun c5 =>
 .eI a1.Kind 3 (fun c6 =>
  .cl (wZ a0.Pending a1.Addr) fun r7 =>
  .vM 0 r7 (
   .az 0 0 <|
   .az 0 0 <|
   .eD a0.Act 4 <|
   .az 0 0 <|
   .ret (decide (a0.Act = 4))) <|
  .az 0 0 <|
  .az 0 0 <|
  .az 0 0 <|
  .ret false) fun c6 =>
 .eI a1.Kind 4 (fun c7 =>
  .cl (wZ a0.Pending a1.Addr) fun r8 =>
  .ret r8) fun c7 =>
 .eI a1.Kind 5 (fun c8 =>
  .vM 1 a0.Open (
   .az 0 0 <|
   .az 0 0 <|
   .le za a0.Pending <|
   .az 0 0 <|
   .eD (a0.Pending.length : Int) 0 <|
   .az 0 0 <|
   .ret (decide ((a0.Pending.length : Int) = 0))) <|
  .az 0 0 <|
  .az 0 0 <|
  .az 0 0 <|
  .az 0 0 <|
  .ret false) fun c8 =>
 .ret a0.Open) (zf Tryz.func103)
def qw (a0 : Bool) (e0_0 : Int) (e0_1 : Bool) (e0_3 : Int) (e1 : (List UInt8)) (e2 : (List GEntry)) : Option GState :=
 if (e1.length : Int) = 0 then
  some (GState.mk e0_0 e0_1 e1 e0_3 e2)
 else
 (zO (GState.mk e0_0 e0_1 e1 e0_3 e2) e1).bind fun ⟨r2_0, r2_1⟩ =>
 match r2_1 with
 | true =>
  (zw r2_0).bind fun i3 =>
  (e2[i3]?).bind fun x4 =>
  ((e2.set i3 (GEntry.mk x4.Addr x4.Val x4.Deps true x4.Turned))[i3]?).bind fun x5 =>
  some (GState.mk e0_0 e0_1 e1 e0_3 ((e2.set i3 (GEntry.mk x4.Addr x4.Val x4.Deps true x4.Turned)).set i3 (GEntry.mk x5.Addr x5.Val x5.Deps x5.Taint e0_0)))
 | false =>
  match a0 with
  | true =>
   (zS e1).bind fun r3 =>
   (wv r2_0 e2 [(GEntry.mk r3 (GValue.mk 5 0 [] [] []) [] false 0)]).bind fun r4 =>
   (zw r2_0).bind fun i5 =>
   (r4[i5]?).bind fun x6 =>
   ((r4.set i5 (GEntry.mk x6.Addr x6.Val x6.Deps true x6.Turned))[i5]?).bind fun x7 =>
   some (GState.mk e0_0 e0_1 e1 e0_3 ((r4.set i5 (GEntry.mk x6.Addr x6.Val x6.Deps true x6.Turned)).set i5 (GEntry.mk x7.Addr x7.Val x7.Deps x7.Taint e0_0)))
  | false =>
   some (GState.mk e0_0 e0_1 e1 e0_3 e2)
theorem YD (a0 : Bool) (e0_0 : Int) (e0_1 : Bool) (e0_3 : Int) (e1 : (List UInt8)) (e2 : (List GEntry)) : Oc (qw a0 e0_0 e0_1 e0_3 e1 e2) 142 [.var [ci e0_0, .bool e0_1, .ref 1, ci e0_3, .ref 2], .obj 1 (eL za e1), .obj 9 (eL z8 e2)] [vp 0 0, vb a0] fun r => (.tup [], [.var (Wy r), .dead, .dead]) := tc (
 .le za e1 <|
 .eI (e1.length : Int) 0 (fun c1 =>
  .ret (GState.mk e0_0 e0_1 e1 e0_3 e2)) fun c1 =>
 .vw yd e1 <|
 .vo w8 e2 <|
 .vw yd e1 <|
 .cl (q9 (GState.mk e0_0 e0_1 e1 e0_3 e2) e1) fun ⟨r2_0, r2_1⟩ =>
 .vN 0 r2_1 (
  .na r2_0 fun i3 =>
  .ix z6 e2 i3 fun x4 =>
  .ag 0 <|
  .sl (z6 (GEntry.mk x4.Addr x4.Val x4.Deps true x4.Turned)) e2 i3 <|
  .ag 1 <|
  .ix z6 (e2.set i3 (GEntry.mk x4.Addr x4.Val x4.Deps true x4.Turned)) i3 fun x5 =>
  .ag 0 <|
  .sl (z6 (GEntry.mk x5.Addr x5.Val x5.Deps x5.Taint e0_0)) (e2.set i3 (GEntry.mk x4.Addr x4.Val x4.Deps true x4.Turned)) i3 <|
  .ret (GState.mk e0_0 e0_1 e1 e0_3 ((e2.set i3 (GEntry.mk x4.Addr x4.Val x4.Deps true x4.Turned)).set i3 (GEntry.mk x5.Addr x5.Val x5.Deps x5.Taint e0_0)))) <|
 .vN 0 a0 (
  .vw yd e1 <|
  .cl (xy e1) fun r3 =>
  .cn kZ r3 <|
  .cl (Z7 r2_0 e2 [(GEntry.mk r3 (GValue.mk 5 0 [] [] []) [] false 0)]) fun r4 =>
  .na r2_0 fun i5 =>
  .ix z6 r4 i5 fun x6 =>
  .ag 0 <|
  .sl (z6 (GEntry.mk x6.Addr x6.Val x6.Deps true x6.Turned)) r4 i5 <|
  .ag 1 <|
  .ix z6 (r4.set i5 (GEntry.mk x6.Addr x6.Val x6.Deps true x6.Turned)) i5 fun x7 =>
  .ag 0 <|
  .sl (z6 (GEntry.mk x7.Addr x7.Val x7.Deps x7.Taint e0_0)) (r4.set i5 (GEntry.mk x6.Addr x6.Val x6.Deps true x6.Turned)) i5 <|
  .ret (GState.mk e0_0 e0_1 e1 e0_3 ((r4.set i5 (GEntry.mk x6.Addr x6.Val x6.Deps true x6.Turned)).set i5 (GEntry.mk x7.Addr x7.Val x7.Deps x7.Taint e0_0)))) <|
 .ret (GState.mk e0_0 e0_1 e1 e0_3 e2)) (zf Tryz.func142)
def w6 (a0 : GState) (a1 : GEvent) : Option (GState × Bool) :=
 (xg a0).bind fun r1 =>
 (jJ a0 a1).bind fun r2 =>
 match r2 with
 | true =>
  (zO (GState.mk (w64 (r1.Serial + 1)) r1.Open r1.Pending r1.Act r1.Entries) a1.Addr).bind fun ⟨r3_0, r3_1⟩ =>
  if a1.Kind = 0 then
   some ((GState.mk (w64 (r1.Serial + 1)) true r1.Pending r1.Act r1.Entries), true)
  else
  if a1.Kind = 1 then
   (zS a1.Addr).bind fun r6 =>
   some ((GState.mk (w64 (r1.Serial + 1)) r1.Open r6 a1.Act r1.Entries), true)
  else
  if a1.Kind = 2 then
   (zS a1.Addr).bind fun r7 =>
   (xT a1.Val).bind fun r8 =>
   (yN a1.Deps).bind fun r9 =>
   match r3_1 with
   | true =>
    (zw r3_0).bind fun i10 =>
    (r1.Entries[i10]?).bind fun x11 =>
    some ((GState.mk (w64 (r1.Serial + 1)) r1.Open [] 0 (r1.Entries.set i10 (GEntry.mk r7 r8 r9 false (w64 (r1.Serial + 1))))), true)
   | false =>
    (wv r3_0 r1.Entries [(GEntry.mk r7 r8 r9 false (w64 (r1.Serial + 1)))]).bind fun r10 =>
    some ((GState.mk (w64 (r1.Serial + 1)) r1.Open [] 0 r10), true)
  else
  if a1.Kind = 3 then
   (ww r3_0 (w64 (r3_0 + 1)) r1.Entries).bind fun r8 =>
   some ((GState.mk (w64 (r1.Serial + 1)) r1.Open [] 0 r8), true)
  else
  if a1.Kind = 4 then
   (qw false (w64 (r1.Serial + 1)) r1.Open r1.Act r1.Pending r1.Entries).bind fun r9 =>
   some ((GState.mk r9.Serial true [] 0 r9.Entries), true)
  else
  if a1.Kind = 6 then
   (qw true (w64 (r1.Serial + 1)) r1.Open r1.Act r1.Pending r1.Entries).bind fun r10 =>
   some ((GState.mk r10.Serial false [] 0 r10.Entries), true)
  else
  if a1.Kind = 5 then
   some ((GState.mk (w64 (r1.Serial + 1)) false [] 0 r1.Entries), true)
  else
  some ((GState.mk (w64 (r1.Serial + 1)) r1.Open [] 0 r1.Entries), true)
 | false =>
  some (r1, false)
theorem RD (a0 : GState) (a1 : GEvent) : Oc (w6 a0 a1) 80 [] [.val true (yn a0), .val true (qW a1)] fun r => (.tup [(true, (Wy r.1)), (false, [.bool r.2])], []) := tc (
 .cl (XB a0) fun r1 =>
 .cl (KR a0 a1) fun r2 =>
 .vN 0 r2 (
  .vw yd r1.Pending <|
  .vo w8 r1.Entries <|
  .cl (q9 (GState.mk (w64 (r1.Serial + 1)) r1.Open r1.Pending r1.Act r1.Entries) a1.Addr) fun ⟨r3_0, r3_1⟩ =>
  .eI a1.Kind 0 (fun c4 =>
   .ret ((GState.mk (w64 (r1.Serial + 1)) true r1.Pending r1.Act r1.Entries), true)) fun c4 =>
  .eI a1.Kind 1 (fun c5 =>
   .cl (xy a1.Addr) fun r6 =>
   .ret ((GState.mk (w64 (r1.Serial + 1)) r1.Open r6 a1.Act r1.Entries), true)) fun c5 =>
  .eI a1.Kind 2 (fun c6 =>
   .cl (xy a1.Addr) fun r7 =>
   .cl (XA a1.Val) fun r8 =>
   .cl (Zx a1.Deps) fun r9 =>
   .vM 0 r3_1 (
    .na r3_0 fun i10 =>
    .ix z6 r1.Entries i10 fun x11 =>
    .ag 0 <|
    .sl (z6 (GEntry.mk r7 r8 r9 false (w64 (r1.Serial + 1)))) r1.Entries i10 <|
    .ret ((GState.mk (w64 (r1.Serial + 1)) r1.Open [] 0 (r1.Entries.set i10 (GEntry.mk r7 r8 r9 false (w64 (r1.Serial + 1))))), true)) <|
   .cl (Z7 r3_0 r1.Entries [(GEntry.mk r7 r8 r9 false (w64 (r1.Serial + 1)))]) fun r10 =>
   .ret ((GState.mk (w64 (r1.Serial + 1)) r1.Open [] 0 r10), true)) fun c6 =>
  .eI a1.Kind 3 (fun c7 =>
   .cl (Qq r3_0 (w64 (r3_0 + 1)) r1.Entries) fun r8 =>
   .ret ((GState.mk (w64 (r1.Serial + 1)) r1.Open [] 0 r8), true)) fun c7 =>
  .eI a1.Kind 4 (fun c8 =>
   .q (.eFo a1.Kind 6 (by omega)) <|
   .cl (YD false (w64 (r1.Serial + 1)) r1.Open r1.Act r1.Pending r1.Entries) fun r9 =>
   .q (.eT c8) <|
   .ret ((GState.mk r9.Serial true [] 0 r9.Entries), true)) fun c8 =>
  .eI a1.Kind 6 (fun c9 =>
   .q (.eT c9) <|
   .cl (YD true (w64 (r1.Serial + 1)) r1.Open r1.Act r1.Pending r1.Entries) fun r10 =>
   .q (.eF c8) <|
   .ret ((GState.mk r10.Serial false [] 0 r10.Entries), true)) fun c9 =>
  .eI a1.Kind 5 (fun c10 =>
   .ret ((GState.mk (w64 (r1.Serial + 1)) false [] 0 r1.Entries), true)) fun c10 =>
  .ret ((GState.mk (w64 (r1.Serial + 1)) r1.Open [] 0 r1.Entries), true)) <|
 .ret (r1, false)) (zf Tryz.func80)
def ZY (F : GHistory → Option ((List GState) × Bool)) : Prop := ∀ (a0 : GHistory), Oc (F a0) 91 [] [.val true (yk a0)] fun r => (.tup [(false, [cq kI r.1]), (false, [.bool r.2])], [])
def yH (v0 : (List GEvent)) (v1 : Int) : Nat → Int → (List GState) → Option ((Bool × (List GState)) ⊕ (Int × (List GState)))
  | 0, _, _ => none
  | m + 1, v2, v3 =>
  if v2 < v1 then
   (zw v2).bind fun i2 =>
   (v0[i2]?).bind fun x3 =>
   (Zn x3).bind fun r4 =>
   match r4 with
   | true =>
    (v3[i2]?).bind fun x5 =>
    (w6 x5 x3).bind fun ⟨r6_0, r6_1⟩ =>
    match r6_1 with
    | true =>
     if yC 72 (v3.length + [r6_0].length) then
     yH v0 v1 m (w64 (v2 + 1)) (v3 ++ [r6_0])
     else none
    | false =>
     some (.inl (false, []))
   | false =>
    some (.inl (false, []))
  else
  some (.inr (v2, v3))
theorem XR (v0 : (List GEvent)) (v1 : Int) (m : Nat) : ∀ (v2 : Int) (v3 : (List GState)), Ol (yH v0 v1 m v2 v3) 91 (zQ Tryz.f91 0) ⟨[(4, vr 0), (33, vq zz v0), (34, vi v1), (35, vi v2)], [.obj 5 (eL kI v3)], 0⟩ fun o => match o with | .inl ⟨o_0_0, o_0_1⟩ => (.ret, ⟨[(2, vr 0), (3, vb o_0_0)], [.obj 5 (eL kI o_0_1)], 0⟩) | .inr (⟨o_1_0, o_1_1⟩) => (.exit 0, ⟨[(4, vr 0), (33, vq zz v0), (34, vi v1), (35, vi o_1_0), (36, vb false)], [.obj 5 (eL kI o_1_1)], 0⟩) := by
  induction m with
  | zero => intro v2 v3 o h; cases h
  | succ m ih => exact fun v2 v3 => tlp (
   .lI v2 v1 (fun c1 =>
    .na v2 fun i2 =>
    .ix wu v0 i2 fun x3 =>
    .cl (TX x3) fun r4 =>
    .vN 0 r4 (
     .ag 3 <|
     .ix Ya v3 i2 fun x5 =>
     .ag 0 <|
     .cl (RD x5 x3) fun ⟨r6_0, r6_1⟩ =>
     .vN 0 r6_1 (
      .vw yd r6_0.Pending <|
      .vo w8 r6_0.Entries <|
      .pl ZR [r6_0] <|
      .ap 72 ZR v3 [r6_0] fun n7 =>
      .go (ih (w64 (v2 + 1)) (v3 ++ [r6_0]))) <|
     .ret (.inl (false, []))) <|
    .ret (.inl (false, []))) fun c1 =>
   .ret (.inr (v2, v3)))
def qA (n : Nat) (a0 : GHistory) : Option ((List GState) × Bool) :=
 (jZ a0.Base).bind fun r1 =>
 match r1 with
 | true =>
  if 300 < (a0.Events.length : Int) then
   some ([], false)
  else
  (yT a0.Safe 0 (a0.Events.length : Int)).bind fun r3 =>
  match r3 with
  | true =>
   (xg a0.Base).bind fun r4 =>
   (yH a0.Events (a0.Events.length : Int) n 0 [r4]).bind fun o5 =>
   match o5 with
   | .inl ⟨o5_0_0, o5_0_1⟩ =>
    some (o5_0_1, o5_0_0)
   | .inr (⟨o5_1_0, o5_1_1⟩) =>
    some (o5_1_1, true)
  | false =>
   some ([], false)
 | false =>
  some ([], false)
theorem Q7 (n : Nat) : ZY (qA n) := fun a0 => tc (
 .cl (TW a0.Base) fun r1 =>
 .vN 0 r1 (
  .an 0 0 <|
  .an 0 0 <|
  .le zz a0.Events <|
  .an 0 0 <|
  .lI 300 (a0.Events.length : Int) (fun c2 =>
   .an 0 0 <|
   .vw ZR [] <|
   .ret ([], false)) fun c2 =>
  .an 0 0 <|
  .le zz a0.Events <|
  .cl (ql a0.Safe 0 (a0.Events.length : Int)) fun r3 =>
  .vN 2 r3 (
   .cl (XB a0.Base) fun r4 =>
   .vw yd r4.Pending <|
   .vo w8 r4.Entries <|
   .le zz a0.Events <|
   .l2 (XR a0.Events (a0.Events.length : Int) n 0 [r4]) (fun ⟨o5_0_0, o5_0_1⟩ =>
    .vw ZR o5_0_1 <|
    .ret (o5_0_1, o5_0_0)) fun ⟨o5_1_0, o5_1_1⟩ =>
   .vw ZR o5_1_1 <|
   .ret (o5_1_1, true)) <|
  .vw ZR [] <|
  .ret ([], false)) <|
 .an 0 0 <|
 .an 0 0 <|
 .an 0 0 <|
 .an 0 0 <|
 .vw ZR [] <|
 .ret ([], false)) (zf Tryz.func91)
def wk (a0 : GHistory) : Option ((List GState) × Bool) := qA (a0.Events.length + 5) a0
theorem Ws (a0 : GHistory) (r : ((List GState) × Bool)) (h : wk a0 = some r) : ∃ n, qA n a0 = some r := ⟨_, h⟩
theorem Qp : ZY wk := fun a0 r h => (Ws a0 r h).elim fun n hn => Q7 n a0 r hn
def kG (a0 : GHistory) : Option Bool :=
 (wk a0).bind fun ⟨r1_0, r1_1⟩ =>
 some r1_1
theorem VJ (a0 : GHistory) : Oc (kG a0) 89 [] [.val true (yk a0)] fun r => (vb r, []) := tc (
 .cl (Qp a0) fun ⟨r1_0, r1_1⟩ =>
 .ret r1_1) (zf Tryz.func89)
def Q8 (F : GHistory → (List UInt8) → Option (List Int)) : Prop := ∀ (a0 : GHistory) (a1 : (List UInt8)), Oc (F a0 a1) 52 [] [.val true (yk a0), vq za a1] fun r => (.val false [.own 1 (eL y0 r)], [])
def yy (a1 : (List UInt8)) (v1 : (List GEvent)) (v2 : Int) (a0 : GHistory) : Nat → Int → (List Int) → Option (Int × (List Int))
  | 0, _, _ => none
  | m + 1, v3, v5 =>
  if v3 < v2 then
   (zw v3).bind fun i2 =>
   (v1[i2]?).bind fun x3 =>
   if 0 < (a1.length : Int) then
    (yl x3.Addr a1).bind fun r5 =>
    match r5 with
    | true =>
     if yC 8 (v5.length + [(w64 ((w64 (a0.Base.Serial + v3)) + 1))].length) then
     yy a1 v1 v2 a0 m (w64 (v3 + 1)) (v5 ++ [(w64 ((w64 (a0.Base.Serial + v3)) + 1))])
     else none
    | false =>
     yy a1 v1 v2 a0 m (w64 (v3 + 1)) v5
   else
   yy a1 v1 v2 a0 m (w64 (v3 + 1)) v5
  else
  some (v3, v5)
theorem KS (a1 : (List UInt8)) (v1 : (List GEvent)) (v2 : Int) (a0 : GHistory) (m : Nat) : ∀ (v3 : Int) (v5 : (List Int)), Ol (yy a1 v1 v2 a0 m v3 v5) 52 (zQ Tryz.f52 0) ⟨[(1, vq za a1), (2, vp 0 0), (5, vr 1), (13, vq zz v1), (14, vi v2), (15, vi v3)], [.var (yk a0), .obj 1 (eL y0 v5)], 0⟩ fun o => match o with | ⟨o_0, o_1⟩ => (.exit 0, ⟨[(1, vq za a1), (2, vp 0 0), (5, vr 1), (13, vq zz v1), (14, vi v2), (15, vi o_0), (16, vb false)], [.var (yk a0), .obj 1 (eL y0 o_1)], 0⟩) := by
  induction m with
  | zero => intro v3 v5 o h; cases h
  | succ m ih => exact fun v3 v5 => tlp (
   .lI v3 v2 (fun c1 =>
    .na v3 fun i2 =>
    .ix wu v1 i2 fun x3 =>
    .le za a1 <|
    .lI 0 (a1.length : Int) (fun c4 =>
     .cl (wZ x3.Addr a1) fun r5 =>
     .vM 1 r5 (
      .pl ZA [(w64 ((w64 (a0.Base.Serial + v3)) + 1))] <|
      .ap 8 ZA v5 [(w64 ((w64 (a0.Base.Serial + v3)) + 1))] fun n6 =>
      .go (ih (w64 (v3 + 1)) (v5 ++ [(w64 ((w64 (a0.Base.Serial + v3)) + 1))]))) <|
     .go (ih (w64 (v3 + 1)) v5)) fun c4 =>
    .go (ih (w64 (v3 + 1)) v5)) fun c1 =>
   .ret (v3, v5))
def Zo (n : Nat) (a0 : GHistory) (a1 : (List UInt8)) : Option (List Int) :=
 (kG a0).bind fun r1 =>
 match r1 with
 | true =>
  (yy a1 a0.Events (a0.Events.length : Int) a0 n 0 []).bind fun ⟨o2_0, o2_1⟩ =>
  some o2_1
 | false =>
  some []
theorem Pp (n : Nat) : Q8 (Zo n) := fun a0 a1 => tc (
 .cl (VJ a0) fun r1 =>
 .vN 0 r1 (
  .le zz a0.Events <|
  .lp (KS a1 a0.Events (a0.Events.length : Int) a0 n 0 []) fun ⟨o2_0, o2_1⟩ =>
  .ret o2_1) <|
 .ret []) (zf Tryz.func52)
def ka (a0 : GHistory) (a1 : (List UInt8)) : Option (List Int) := Zo (a0.Events.length + 5) a0 a1
theorem VK (a0 : GHistory) (a1 : (List UInt8)) (r : (List Int)) (h : ka a0 a1 = some r) : ∃ n, Zo n a0 a1 = some r := ⟨_, h⟩
theorem TY : Q8 ka := fun a0 a1 r h => (VK a0 a1 r h).elim fun n hn => Pp n a0 a1 r hn
def JA (F : (List Int) → (List Int) → Option Bool) : Prop := ∀ (a0 : (List Int)) (a1 : (List Int)), Oc (F a0 a1) 53 [] [vq y0 a0, vq y0 a1] fun r => (vb r, [])
def qf (a0 : (List Int)) (a1 : (List Int)) : Nat → Int → Option (Bool ⊕ Int)
  | 0, _ => none
  | m + 1, v2 =>
  if v2 < (a0.length : Int) then
   (zw v2).bind fun i2 =>
   (a0[i2]?).bind fun x3 =>
   (a1[i2]?).bind fun x4 =>
   if x3 = x4 then
    qf a0 a1 m (w64 (v2 + 1))
   else
   some (.inl false)
  else
  some (.inr v2)
theorem VL (a0 : (List Int)) (a1 : (List Int)) (m : Nat) : ∀ (v2 : Int), Ol (qf a0 a1 m v2) 53 (zQ Tryz.f53 0) ⟨[(0, vq y0 a0), (1, vq y0 a1), (5, vi v2)], [], 0⟩ fun o => match o with | .inl o_0 => (.ret, ⟨[(4, vb o_0)], [], 0⟩) | .inr (o_1) => (.exit 0, ⟨[(0, vq y0 a0), (1, vq y0 a1), (5, vi o_1), (14, vb false)], [], 0⟩) := by
  induction m with
  | zero => intro v2 o h; cases h
  | succ m ih => exact fun v2 => tlp (
   .le y0 a0 <|
   .lI v2 (a0.length : Int) (fun c1 =>
    .na v2 fun i2 =>
    .ix0 y0 a0 i2 fun x3 =>
    .ag 1 <|
    .ix0 y0 a1 i2 fun x4 =>
    .eI x3 x4 (fun c5 =>
     .go (ih (w64 (v2 + 1)))) fun c5 =>
    .ret (.inl false)) fun c1 =>
   .ret (.inr v2))
def X5 (n : Nat) (a0 : (List Int)) (a1 : (List Int)) : Option Bool :=
 if (a0.length : Int) = (a1.length : Int) then
  (qf a0 a1 n 0).bind fun o2 =>
  match o2 with
  | .inl o2_0 =>
   some o2_0
  | .inr (o2_1) =>
   some true
 else
 some false
theorem O7 (n : Nat) : JA (X5 n) := fun a0 a1 => tc (
 .le y0 a0 <|
 .le y0 a1 <|
 .eI (a0.length : Int) (a1.length : Int) (fun c1 =>
  .l2 (VL a0 a1 n 0) (fun o2_0 =>
   .ret o2_0) fun o2_1 =>
  .ret true) fun c1 =>
 .ret false) (zf Tryz.func53)
theorem MM {a : List Int} (ha : a.length <= 2 ^ 40) : ∀ (d i m : Nat), i + d = a.length → d < m → ∃ z, qf a a m (i : Int) = some (.inr z) := by
 intro d
 induction d with
 | zero =>
  intro i m hi hm
  obtain ⟨m, rfl, _⟩ := zh hm
  exact ⟨_, by rw [qf, if_neg (by omega)]⟩
 | succ d ih =>
  intro i m hi hm
  obtain ⟨m, rfl, hm'⟩ := zh hm
  have hil : i < a.length := by omega
  rw [qf, if_pos (by omega), zd, Option.bind_some, zk hil, Option.bind_some, Option.bind_some, if_pos rfl, zC (by omega)]
  exact ih (i + 1) m (by omega) (by omega)
def kS (a0 : (List Int)) (a1 : (List Int)) : Option Bool := if a0 = a1 ∧ a0.length <= 2 ^ 40 then some true else none
theorem RE (a0 : (List Int)) (a1 : (List Int)) (r : Bool) (h : kS a0 a1 = some r) : ∃ n, X5 n a0 a1 = some r := by
 unfold kS at h
 obtain ⟨⟨he, ha⟩, h2⟩ := zK h
 clear h
 subst he
 refine ⟨a0.length + 1, ?_⟩
 obtain ⟨z, hz⟩ := MM ha a0.length 0 (a0.length + 1) (by omega) (by omega)
 rw [show ((0 : Nat) : Int) = 0 from rfl] at hz
 unfold X5
 rw [if_pos rfl, hz]; exact h2
theorem Pq : JA kS := fun a0 a1 r h => (RE a0 a1 r h).elim fun n hn => O7 n a0 a1 r hn
def Q9 (F : (List UInt8) → (List UInt8) → Option Bool) : Prop := ∀ (a0 : (List UInt8)) (a1 : (List UInt8)), Oc (F a0 a1) 38 [] [vq za a0, vq za a1] fun r => (vb r, [])
def wD (a0 : (List UInt8)) (a1 : (List UInt8)) : Nat → Int → Option (Bool ⊕ Int)
  | 0, _ => none
  | m + 1, v2 =>
  if v2 < (a0.length : Int) then
   (zw v2).bind fun i2 =>
   (a0[i2]?).bind fun x3 =>
   (a1[i2]?).bind fun x4 =>
   if ((x3.toNat : Nat) : Int) = ((x4.toNat : Nat) : Int) then
    wD a0 a1 m (w64 (v2 + 1))
   else
   some (.inl false)
  else
  some (.inr v2)
theorem KT (a0 : (List UInt8)) (a1 : (List UInt8)) (m : Nat) : ∀ (v2 : Int), Ol (wD a0 a1 m v2) 38 (zQ Tryz.f38 0) ⟨[(0, vq za a0), (1, vq za a1), (5, vi v2)], [], 0⟩ fun o => match o with | .inl o_0 => (.ret, ⟨[(4, vb o_0)], [], 0⟩) | .inr (o_1) => (.exit 0, ⟨[(0, vq za a0), (1, vq za a1), (5, vi o_1), (14, vb false)], [], 0⟩) := by
  induction m with
  | zero => intro v2 o h; cases h
  | succ m ih => exact fun v2 => tlp (
   .le za a0 <|
   .lI v2 (a0.length : Int) (fun c1 =>
    .na v2 fun i2 =>
    .ix0 za a0 i2 fun x3 =>
    .ag 1 <|
    .ix0 za a1 i2 fun x4 =>
    .eI ((x3.toNat : Nat) : Int) ((x4.toNat : Nat) : Int) (fun c5 =>
     .go (ih (w64 (v2 + 1)))) fun c5 =>
    .ret (.inl false)) fun c1 =>
   .ret (.inr v2))
def YR (n : Nat) (a0 : (List UInt8)) (a1 : (List UInt8)) : Option Bool :=
 if (a0.length : Int) = (a1.length : Int) then
  (wD a0 a1 n 0).bind fun o2 =>
  match o2 with
  | .inl o2_0 =>
   some o2_0
  | .inr (o2_1) =>
   some true
 else
 some false
theorem Pr (n : Nat) : Q9 (YR n) := fun a0 a1 => tc (
 .le za a0 <|
 .le za a1 <|
 .eI (a0.length : Int) (a1.length : Int) (fun c1 =>
  .l2 (KT a0 a1 n 0) (fun o2_0 =>
   .ret o2_0) fun o2_1 =>
  .ret true) fun c1 =>
 .ret false) (zf Tryz.func38)
theorem Mb {a : List UInt8} (ha : a.length <= 2 ^ 40) : ∀ (d i m : Nat), i + d = a.length → d < m → ∃ z, wD a a m (i : Int) = some (.inr z) := by
 intro d
 induction d with
 | zero =>
  intro i m hi hm
  obtain ⟨m, rfl, _⟩ := zh hm
  exact ⟨_, by rw [wD, if_neg (by omega)]⟩
 | succ d ih =>
  intro i m hi hm
  obtain ⟨m, rfl, hm'⟩ := zh hm
  have hil : i < a.length := by omega
  rw [wD, if_pos (by omega), zd, Option.bind_some, zk hil, Option.bind_some, Option.bind_some, if_pos rfl, zC (by omega)]
  exact ih (i + 1) m (by omega) (by omega)
def zT (a0 : (List UInt8)) (a1 : (List UInt8)) : Option Bool := if a0 = a1 ∧ a0.length <= 2 ^ 40 then some true else none
theorem VM (a0 : (List UInt8)) (a1 : (List UInt8)) (r : Bool) (h : zT a0 a1 = some r) : ∃ n, YR n a0 a1 = some r := by
 unfold zT at h
 obtain ⟨⟨he, ha⟩, h2⟩ := zK h
 clear h
 subst he
 refine ⟨a0.length + 1, ?_⟩
 obtain ⟨z, hz⟩ := Mb ha a0.length 0 (a0.length + 1) (by omega) (by omega)
 rw [show ((0 : Nat) : Int) = 0 from rfl] at hz
 unfold YR
 rw [if_pos rfl, hz]; exact h2
theorem w7 : Q9 zT := fun a0 a1 r h => (VM a0 a1 r h).elim fun n hn => Pr n a0 a1 r hn
def Qa (F : (List (List UInt8)) → (List (List UInt8)) → Option Bool) : Prop := ∀ (a0 : (List (List UInt8))) (a1 : (List (List UInt8))), Oc (F a0 a1) 63 [] [vq (zx za) a0, vq (zx za) a1] fun r => (vb r, [])
def wl (a0 : (List (List UInt8))) (a1 : (List (List UInt8))) : Nat → Int → Option (Bool ⊕ Int)
  | 0, _ => none
  | m + 1, v2 =>
  if v2 < (a0.length : Int) then
   (zw v2).bind fun i2 =>
   (a0[i2]?).bind fun x3 =>
   (a1[i2]?).bind fun x4 =>
   (zT x3 x4).bind fun r5 =>
   match r5 with
   | true =>
    wl a0 a1 m (w64 (v2 + 1))
   | false =>
    some (.inl false)
  else
  some (.inr v2)
theorem JR (a0 : (List (List UInt8))) (a1 : (List (List UInt8))) (m : Nat) : ∀ (v2 : Int), Ol (wl a0 a1 m v2) 63 (zQ Tryz.f63 0) ⟨[(0, vq (zx za) a0), (1, vq (zx za) a1), (5, vi v2)], [], 0⟩ fun o => match o with | .inl o_0 => (.ret, ⟨[(4, vb o_0)], [], 0⟩) | .inr (o_1) => (.exit 0, ⟨[(0, vq (zx za) a0), (1, vq (zx za) a1), (5, vi o_1), (14, vb false)], [], 0⟩) := by
  induction m with
  | zero => intro v2 o h; cases h
  | succ m ih => exact fun v2 => tlp (
   .le (zx za) a0 <|
   .lI v2 (a0.length : Int) (fun c1 =>
    .na v2 fun i2 =>
    .ix0 (zx za) a0 i2 fun x3 =>
    .ag 1 <|
    .ix0 (zx za) a1 i2 fun x4 =>
    .cl (w7 x3 x4) fun r5 =>
    .vN 0 r5 (
     .go (ih (w64 (v2 + 1)))) <|
    .ret (.inl false)) fun c1 =>
   .ret (.inr v2))
def Y1 (n : Nat) (a0 : (List (List UInt8))) (a1 : (List (List UInt8))) : Option Bool :=
 if (a0.length : Int) = (a1.length : Int) then
  (wl a0 a1 n 0).bind fun o2 =>
  match o2 with
  | .inl o2_0 =>
   some o2_0
  | .inr (o2_1) =>
   some true
 else
 some false
theorem TZ (n : Nat) : Qa (Y1 n) := fun a0 a1 => tc (
 .le (zx za) a0 <|
 .le (zx za) a1 <|
 .eI (a0.length : Int) (a1.length : Int) (fun c1 =>
  .l2 (JR a0 a1 n 0) (fun o2_0 =>
   .ret o2_0) fun o2_1 =>
  .ret true) fun c1 =>
 .ret false) (zf Tryz.func63)
theorem O8 {a : List (List UInt8)} (ha : bsz a <= 2 ^ 40) : ∀ (d i m : Nat), i + d = a.length → d < m → ∃ z, wl a a m (i : Int) = some (.inr z) := by
 have hl := kh a
 intro d
 induction d with
 | zero =>
  intro i m hi hm
  obtain ⟨m, rfl, _⟩ := zh hm
  exact ⟨_, by rw [wl, if_neg (by omega)]⟩
 | succ d ih =>
  intro i m hi hm
  obtain ⟨m, rfl, hm'⟩ := zh hm
  have hil : i < a.length := by omega
  have hx := YW (List.getElem_mem hil)
  rw [wl, if_pos (by omega), zd, Option.bind_some, zk hil, Option.bind_some, Option.bind_some]
  unfold zT
  rw [if_pos ⟨rfl, by omega⟩, Option.bind_some, zC (by omega)]
  exact ih (i + 1) m (by omega) (by omega)
def xa (a0 : (List (List UInt8))) (a1 : (List (List UInt8))) : Option Bool := if a0 = a1 ∧ bsz a0 <= 2 ^ 40 then some true else none
theorem KU (a0 : (List (List UInt8))) (a1 : (List (List UInt8))) (r : Bool) (h : xa a0 a1 = some r) : ∃ n, Y1 n a0 a1 = some r := by
 unfold xa at h
 obtain ⟨⟨he, ha⟩, h2⟩ := zK h
 clear h
 subst he
 have hl := kh a0
 refine ⟨a0.length + 1, ?_⟩
 obtain ⟨z, hz⟩ := O8 ha a0.length 0 (a0.length + 1) (by omega) (by omega)
 rw [show ((0 : Nat) : Int) = 0 from rfl] at hz
 unfold Y1
 rw [if_pos rfl, hz]; exact h2
theorem ZN : Qa xa := fun a0 a1 r h => (KU a0 a1 r h).elim fun n hn => TZ n a0 a1 r hn
def vy (F : (List GValue) → (List GValue) → Option Bool) : Prop := ∀ (a0 : (List GValue)) (a1 : (List GValue)), Oc (F a0 a1) 144 [] [vq zg a0, vq zg a1] fun r => (vb r, [])
def kb (F : GValue → GValue → Option Bool) : Prop := ∀ (a0 : GValue) (a1 : GValue), Oc (F a0 a1) 82 [] [.val true (zI a0), .val true (zI a1)] fun r => (vb r, [])
def wm (G_laws_eqValue : GValue → GValue → Option Bool) (a0 : (List GValue)) (a1 : (List GValue)) : Nat → Int → Option (Bool ⊕ Int)
  | 0, _ => none
  | m + 1, v2 =>
  if v2 < (a0.length : Int) then
   (zw v2).bind fun i2 =>
   (a0[i2]?).bind fun x3 =>
   (a1[i2]?).bind fun x4 =>
   (G_laws_eqValue x3 x4).bind fun r5 =>
   match r5 with
   | true =>
    wm G_laws_eqValue a0 a1 m (w64 (v2 + 1))
   | false =>
    some (.inl false)
  else
  some (.inr v2)
theorem JS (G_laws_eqValue : GValue → GValue → Option Bool) (H_laws_eqValue : kb G_laws_eqValue) (a0 : (List GValue)) (a1 : (List GValue)) (m : Nat) : ∀ (v2 : Int), Ol (wm G_laws_eqValue a0 a1 m v2) 144 (zQ Tryz.f144 0) ⟨[(0, vq zg a0), (1, vq zg a1), (5, vi v2)], [], 0⟩ fun o => match o with | .inl o_0 => (.ret, ⟨[(4, vb o_0)], [], 0⟩) | .inr (o_1) => (.exit 0, ⟨[(0, vq zg a0), (1, vq zg a1), (5, vi o_1), (14, vb false)], [], 0⟩) := by
  induction m with
  | zero => intro v2 o h; cases h
  | succ m ih => exact fun v2 => tlp (
   .le zg a0 <|
   .lI v2 (a0.length : Int) (fun c1 =>
    .na v2 fun i2 =>
    .ix yo a0 i2 fun x3 =>
    .ag 1 <|
    .ix yo a1 i2 fun x4 =>
    .cl (H_laws_eqValue x3 x4) fun r5 =>
    .vN 0 r5 (
     .go (ih (w64 (v2 + 1)))) <|
    .ret (.inl false)) fun c1 =>
   .ret (.inr v2))
def vA (G_laws_eqValue : GValue → GValue → Option Bool) (n : Nat) (a0 : (List GValue)) (a1 : (List GValue)) : Option Bool :=
 if (a0.length : Int) = (a1.length : Int) then
  (wm G_laws_eqValue a0 a1 n 0).bind fun o2 =>
  match o2 with
  | .inl o2_0 =>
   some o2_0
  | .inr (o2_1) =>
   some true
 else
 some false
theorem Ua (G_laws_eqValue : GValue → GValue → Option Bool) (H_laws_eqValue : kb G_laws_eqValue) (n : Nat) : vy (vA G_laws_eqValue n) := fun a0 a1 => tc (
 .le zg a0 <|
 .le zg a1 <|
 .eI (a0.length : Int) (a1.length : Int) (fun c1 =>
  .l2 (JS G_laws_eqValue H_laws_eqValue a0 a1 n 0) (fun o2_0 =>
   .ret o2_0) fun o2_1 =>
  .ret true) fun c1 =>
 .ret false) (zf Tryz.func144)
def YS (G_laws_eqValueS : (List GValue) → (List GValue) → Option Bool) (a0 : GValue) (a1 : GValue) : Option Bool :=
 if a0.Kind = a1.Kind then
  if a0.N = a1.N then
   (zT a0.S a1.S).bind fun r3 =>
   match r3 with
   | true =>
    (xa a0.K a1.K).bind fun r4 =>
    match r4 with
    | true =>
     (G_laws_eqValueS a0.L a1.L).bind fun r5 =>
     match r5 with
     | true =>
      some true
     | false =>
      some false
    | false =>
     some false
   | false =>
    some false
  else
  some false
 else
 some false
theorem Ps (G_laws_eqValueS : (List GValue) → (List GValue) → Option Bool) (H_laws_eqValueS : vy G_laws_eqValueS) : kb (YS G_laws_eqValueS) := fun a0 a1 => tc (
 .eI a0.Kind a1.Kind (fun c1 =>
  .eI a0.N a1.N (fun c2 =>
   .cl (w7 a0.S a1.S) fun r3 =>
   .vN 0 r3 (
    .cl (ZN a0.K a1.K) fun r4 =>
    .vN 0 r4 (
     .cl (H_laws_eqValueS a0.L a1.L) fun r5 =>
     .vN 0 r5 (
      .ret true) <|
     .ret false) <|
    .ret false) <|
   .ret false) fun c2 =>
  .ret false) fun c1 =>
 .ret false) (zf Tryz.func82)
mutual
def xG : Nat → (List GValue) → (List GValue) → Option Bool
 | 0, _, _ => none
 | n + 1, a0, a1 => vA (wn n) n a0 a1
def wn : Nat → GValue → GValue → Option Bool
 | 0, _, _ => none
 | n + 1, a0, a1 => YS (xG n) a0 a1
end
theorem XC (n : Nat) : vy (xG n) ∧ kb (wn n) := by
 induction n with
 | zero => exact ⟨fun _ _ _ h => (by rw [xG] at h; cases h), fun _ _ _ h => (by rw [wn] at h; cases h)⟩
 | succ n ih =>
  obtain ⟨ih_laws_eqValueS, ih_laws_eqValue⟩ := ih
  exact ⟨fun a0 a1 r h => Ua (wn n) ih_laws_eqValue n a0 a1 r (by rw [xG] at h; exact h),
   fun a0 a1 r h => Ps (xG n) ih_laws_eqValueS a0 a1 r (by rw [wn] at h; exact h)⟩
theorem Ub {G : GValue → GValue → Option Bool} {a : List GValue} {f : Nat} (ha : a.length <= 2 ^ 40) (hf : a.length < f) (hG : ∀ v ∈ a, G v v = some true) : vA G f a a = some true := by
 have loop : ∀ (d i m : Nat), i + d = a.length → d < m → ∃ z, wm G a a m (i : Int) = some (.inr z) := by
  intro d
  induction d with
  | zero =>
   intro i m hi hm
   obtain ⟨m, rfl, _⟩ := zh hm
   exact ⟨_, by rw [wm, if_neg (by omega)]⟩
  | succ d ih =>
   intro i m hi hm
   obtain ⟨m, rfl, hm'⟩ := zh hm
   have hil : i < a.length := by omega
   rw [wm, if_pos (by omega), zd, Option.bind_some, zk hil, Option.bind_some, Option.bind_some, hG _ (List.getElem_mem hil), Option.bind_some, zC (by omega)]
   exact ih (i + 1) m (by omega) (by omega)
 obtain ⟨z, hz⟩ := loop a.length 0 f (by omega) (by omega)
 rw [show ((0 : Nat) : Int) = 0 from rfl] at hz
 unfold vA
 rw [if_pos rfl, hz]; rfl
theorem PR : ∀ (N : Nat) (v : GValue), vsz v < N → vsz v <= 2 ^ 40 → ∀ f : Nat, 2 * vsz v + 3 <= f → wn f v v = some true := by
 intro N
 induction N with
 | zero => intro v hv; omega
 | succ N ih =>
  intro v hv hs f hf
  obtain ⟨f, rfl, _⟩ := zh (show 0 < f by omega)
  obtain ⟨f, rfl, _⟩ := zh (show 0 < f by omega)
  have he := qz v
  have hl := xj v.L
  rw [wn]
  unfold YS zT xa
  rw [if_pos rfl, if_pos rfl, if_pos (show v.S = v.S ∧ v.S.length <= 2 ^ 40 from ⟨rfl, by omega⟩), Option.bind_some]
  dsimp only
  rw [if_pos (show v.K = v.K ∧ bsz v.K <= 2 ^ 40 from ⟨rfl, by omega⟩), Option.bind_some]
  dsimp only
  rw [xG, Ub (by omega) (by omega) fun x hx => ?_]
  ·rfl
  ·have := qh hx
   exact ih x (by omega) (by omega) f (by omega)
open Classical in
noncomputable def Y2 (a0 : (List GValue)) (a1 : (List GValue)) : Option Bool := if a0 = a1 ∧ xi a0 <= 2 ^ 40 then some true else none
theorem KV (a0 : (List GValue)) (a1 : (List GValue)) (r : Bool) (h : Y2 a0 a1 = some r) : ∃ n, xG n a0 a1 = some r := by
 unfold Y2 at h
 obtain ⟨⟨he, ha⟩, h2⟩ := zK h
 clear h
 subst he
 have hl := xj a0
 refine ⟨2 * xi a0 + 5, ?_⟩
 rw [xG, Ub (by omega) (by omega) fun x hx => ?_, h2]
 have := qh hx
 exact PR _ x (Nat.lt_succ_self _) (by omega) _ (by omega)
open Classical in
noncomputable def qg (a0 : GValue) (a1 : GValue) : Option Bool := if a0 = a1 ∧ vsz a0 <= 2 ^ 40 then some true else none
theorem VN (a0 : GValue) (a1 : GValue) (r : Bool) (h : qg a0 a1 = some r) : ∃ n, wn n a0 a1 = some r := by
 unfold qg at h
 obtain ⟨⟨he, ha⟩, h2⟩ := zK h
 clear h
 subst he
 exact ⟨2 * vsz a0 + 3, by rw [<- h2]; exact PR _ a0 (Nat.lt_succ_self _) ha _ (Nat.le_refl _)⟩
theorem Dm : vy Y2 := by
 intro a0 a1 r h
 obtain ⟨n, hn⟩ := KV a0 a1 r h
 exact (XC n).1 a0 a1 r hn
theorem Qb : kb qg := by
 intro a0 a1 r h
 obtain ⟨n, hn⟩ := VN a0 a1 r h
 exact (XC n).2 a0 a1 r hn
def kc (a0 : GEntry) (a1 : GEntry) : Option Bool :=
 (zT a0.Addr a1.Addr).bind fun r1 =>
 match r1 with
 | true =>
  (qg a0.Val a1.Val).bind fun r2 =>
  match r2 with
  | true =>
   (xa a0.Deps a1.Deps).bind fun r3 =>
   match r3 with
   | true =>
    if a0.Taint = true then
     if a1.Taint = true then
      if a0.Turned = a1.Turned then
       some true
      else
      some false
     else
     some false
    else
    if a1.Taint = true then
     some false
    else
    if a0.Turned = a1.Turned then
     some true
    else
    some false
   | false =>
    some false
  | false =>
   some false
 | false =>
  some false
theorem Uc (a0 : GEntry) (a1 : GEntry) : Oc (kc a0 a1) 143 [] [.val true (jC a0), .val true (jC a1)] fun r => (vb r, []) := tc (
 .cl (w7 a0.Addr a1.Addr) fun r1 =>
 .vN 0 r1 (
  .cl (Qb a0.Val a1.Val) fun r2 =>
  .vN 0 r2 (
   .cl (ZN a0.Deps a1.Deps) fun r3 =>
   .vN 0 r3 (
    .sp (a0.Taint = true) (fun c4 =>
     .sp (a1.Taint = true) (fun c5 =>
      .eb c4 c5 <|
      .eI a0.Turned a1.Turned (fun c6 =>
       .ret true) fun c6 =>
      .ret false) fun c5 =>
     .eb c4 (bF c5) <|
     .ret false) fun c4 =>
    .sp (a1.Taint = true) (fun c5 =>
     .eb (bF c4) c5 <|
     .ret false) fun c5 =>
    .eb (bF c4) (bF c5) <|
    .eI a0.Turned a1.Turned (fun c6 =>
     .ret true) fun c6 =>
    .ret false) <|
   .ret false) <|
  .ret false) <|
 .ret false) (zf Tryz.func143)
def Qc (F : (List GEntry) → (List GEntry) → Option Bool) : Prop := ∀ (a0 : (List GEntry)) (a1 : (List GEntry)), Oc (F a0 a1) 81 [] [vq zl a0, vq zl a1] fun r => (vb r, [])
def wo (a0 : (List GEntry)) (a1 : (List GEntry)) : Nat → Int → Option (Bool ⊕ Int)
  | 0, _ => none
  | m + 1, v2 =>
  if v2 < (a0.length : Int) then
   (zw v2).bind fun i2 =>
   (a0[i2]?).bind fun x3 =>
   (a1[i2]?).bind fun x4 =>
   (kc x3 x4).bind fun r5 =>
   match r5 with
   | true =>
    wo a0 a1 m (w64 (v2 + 1))
   | false =>
    some (.inl false)
  else
  some (.inr v2)
theorem JT (a0 : (List GEntry)) (a1 : (List GEntry)) (m : Nat) : ∀ (v2 : Int), Ol (wo a0 a1 m v2) 81 (zQ Tryz.f81 0) ⟨[(0, vq zl a0), (1, vq zl a1), (5, vi v2)], [], 0⟩ fun o => match o with | .inl o_0 => (.ret, ⟨[(4, vb o_0)], [], 0⟩) | .inr (o_1) => (.exit 0, ⟨[(0, vq zl a0), (1, vq zl a1), (5, vi o_1), (14, vb false)], [], 0⟩) := by
  induction m with
  | zero => intro v2 o h; cases h
  | succ m ih => exact fun v2 => tlp (
   .le zl a0 <|
   .lI v2 (a0.length : Int) (fun c1 =>
    .na v2 fun i2 =>
    .ix zX a0 i2 fun x3 =>
    .ag 1 <|
    .ix zX a1 i2 fun x4 =>
    .cl (Uc x3 x4) fun r5 =>
    .vN 0 r5 (
     .go (ih (w64 (v2 + 1)))) <|
    .ret (.inl false)) fun c1 =>
   .ret (.inr v2))
def Y3 (n : Nat) (a0 : (List GEntry)) (a1 : (List GEntry)) : Option Bool :=
 if (a0.length : Int) = (a1.length : Int) then
  (wo a0 a1 n 0).bind fun o2 =>
  match o2 with
  | .inl o2_0 =>
   some o2_0
  | .inr (o2_1) =>
   some true
 else
 some false
theorem Ud (n : Nat) : Qc (Y3 n) := fun a0 a1 => tc (
 .le zl a0 <|
 .le zl a1 <|
 .eI (a0.length : Int) (a1.length : Int) (fun c1 =>
  .l2 (JT a0 a1 n 0) (fun o2_0 =>
   .ret o2_0) fun o2_1 =>
  .ret true) fun c1 =>
 .ret false) (zf Tryz.func81)
theorem O9 {a : List GEntry} (ha : a.length <= 2 ^ 40) (hG : ∀ v ∈ a, kc v v = some true) : ∀ (d i m : Nat), i + d = a.length → d < m → ∃ z, wo a a m (i : Int) = some (.inr z) := by
 intro d
 induction d with
 | zero =>
  intro i m hi hm
  obtain ⟨m, rfl, _⟩ := zh hm
  exact ⟨_, by rw [wo, if_neg (by omega)]⟩
 | succ d ih =>
  intro i m hi hm
  obtain ⟨m, rfl, hm'⟩ := zh hm
  have hil : i < a.length := by omega
  rw [wo, if_pos (by omega), zd, Option.bind_some, zk hil, Option.bind_some, Option.bind_some, hG _ (List.getElem_mem hil), Option.bind_some, zC (by omega)]
  exact ih (i + 1) m (by omega) (by omega)
theorem Gx {v : GEntry} (h : esz v <= 2 ^ 39) : kc v v = some true := by
 unfold esz at h
 unfold kc zT qg xa
 rw [if_pos ⟨rfl, by omega⟩, Option.bind_some]
 dsimp only
 rw [if_pos ⟨rfl, by omega⟩, Option.bind_some]
 dsimp only
 rw [if_pos ⟨rfl, by omega⟩, Option.bind_some]
 dsimp only
 rw [if_pos rfl]
 cases v.Taint <;> rfl
open Classical in
noncomputable def qB (a0 : (List GEntry)) (a1 : (List GEntry)) : Option Bool := if a0 = a1 ∧ yh a0 <= 2 ^ 39 then some true else none
theorem VY {s : List GEntry} (h : yh s <= 2 ^ 39) : qB s s = some true := if_pos ⟨rfl, h⟩
theorem KW (a0 : (List GEntry)) (a1 : (List GEntry)) (r : Bool) (h : qB a0 a1 = some r) : ∃ n, Y3 n a0 a1 = some r := by
 unfold qB at h
 obtain ⟨⟨he, ha⟩, h2⟩ := zK h
 clear h
 subst he
 have hl := qX a0
 refine ⟨a0.length + 1, ?_⟩
 obtain ⟨z, hz⟩ := O9 (a := a0) (by omega) (fun v hv => Gx (by have := W3 hv; omega)) a0.length 0 (a0.length + 1) (by omega) (by omega)
 rw [show ((0 : Nat) : Int) = 0 from rfl] at hz
 unfold Y3
 rw [if_pos rfl, hz]; exact h2
theorem Wt : Qc qB := fun a0 a1 r h => (KW a0 a1 r h).elim fun n hn => Ud n a0 a1 r hn
def Zp (a0 : GState) (a1 : GState) : Option Bool :=
 if a0.Serial = a1.Serial then
  if a0.Open = true then
   if a1.Open = true then
    (zT a0.Pending a1.Pending).bind fun r4 =>
    match r4 with
    | true =>
     if a0.Act = a1.Act then
      (qB a0.Entries a1.Entries).bind fun r6 =>
      match r6 with
      | true =>
       some true
      | false =>
       some false
     else
     some false
    | false =>
     some false
   else
   some false
  else
  if a1.Open = true then
   some false
  else
  (zT a0.Pending a1.Pending).bind fun r4 =>
  match r4 with
  | true =>
   if a0.Act = a1.Act then
    (qB a0.Entries a1.Entries).bind fun r6 =>
    match r6 with
    | true =>
     some true
    | false =>
     some false
   else
   some false
  | false =>
   some false
 else
 some false
theorem Ue (a0 : GState) (a1 : GState) : Oc (Zp a0 a1) 21 [] [.val true (yn a0), .val true (yn a1)] fun r => (vb r, []) := tc (
 .eI a0.Serial a1.Serial (fun c1 =>
  .sp (a0.Open = true) (fun c2 =>
   .sp (a1.Open = true) (fun c3 =>
    .eb c2 c3 <|
    .cl (w7 a0.Pending a1.Pending) fun r4 =>
    .vN 0 r4 (
     .eI a0.Act a1.Act (fun c5 =>
      .cl (Wt a0.Entries a1.Entries) fun r6 =>
      .vN 0 r6 (
       .ret true) <|
      .ret false) fun c5 =>
     .ret false) <|
    .ret false) fun c3 =>
   .eb c2 (bF c3) <|
   .ret false) fun c2 =>
  .sp (a1.Open = true) (fun c3 =>
   .eb (bF c2) c3 <|
   .ret false) fun c3 =>
  .eb (bF c2) (bF c3) <|
  .cl (w7 a0.Pending a1.Pending) fun r4 =>
  .vN 0 r4 (
   .eI a0.Act a1.Act (fun c5 =>
    .cl (Wt a0.Entries a1.Entries) fun r6 =>
    .vN 0 r6 (
     .ret true) <|
    .ret false) fun c5 =>
   .ret false) <|
  .ret false) fun c1 =>
 .ret false) (zf Tryz.func21)
def kf (a0 : GEvent) (a1 : GEvent) : Option Bool :=
 if a0.Kind = a1.Kind then
  (zT a0.Addr a1.Addr).bind fun r2 =>
  match r2 with
  | true =>
   if a0.Act = a1.Act then
    (qg a0.Val a1.Val).bind fun r4 =>
    match r4 with
    | true =>
     (xa a0.Deps a1.Deps).bind fun r5 =>
     match r5 with
     | true =>
      some true
     | false =>
      some false
    | false =>
     some false
   else
   some false
  | false =>
   some false
 else
 some false
theorem Uf (a0 : GEvent) (a1 : GEvent) : Oc (kf a0 a1) 22 [] [.val true (qW a0), .val true (qW a1)] fun r => (vb r, []) := tc (
 .eI a0.Kind a1.Kind (fun c1 =>
  .cl (w7 a0.Addr a1.Addr) fun r2 =>
  .vN 0 r2 (
   .eI a0.Act a1.Act (fun c3 =>
    .cl (Qb a0.Val a1.Val) fun r4 =>
    .vN 0 r4 (
     .cl (ZN a0.Deps a1.Deps) fun r5 =>
     .vN 0 r5 (
      .ret true) <|
     .ret false) <|
    .ret false) fun c3 =>
   .ret false) <|
  .ret false) fun c1 =>
 .ret false) (zf Tryz.func22)
end
end Go.Am.Try
