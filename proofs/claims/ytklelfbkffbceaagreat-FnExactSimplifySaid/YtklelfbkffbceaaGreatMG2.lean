/- The functions of the program in plain Lean, and that the machine answers as they do; conditions at each theorem. -/
import Derived.Test.YtklelfbkffbceaaGreatMG1
set_option linter.unusedVariables false
set_option linter.unusedSimpArgs false
namespace Go.Am.Try
open Go.Am Go.Proofs
set_option linter.unusedVariables false
set_option maxRecDepth 20000
set_option maxHeartbeats 2000000
noncomputable section
def Y2 (F : GValue → Int → Int → Option Int) : Prop := ∀ (a0 : GValue) (a1 : Int) (a2 : Int), Oc (F a0 a1 a2) 88 [] [.val true (zf a0), vi a1, vi a2] fun r => (vi r, [])
def xj (G_spec_l2ok : GValue → Int → Int → Option Int) (a1 : Int) (a0 : GValue) : Nat → Int → Int → Option (Int ⊕ (Int × Int))
  | 0, _, _ => none
  | m + 1, v1, v2 =>
  if v2 < (a0.L.length : Int) then
   if a0.Kind = 5 then
    (zH v2).bind fun i3 =>
    (a0.K[i3]?).bind fun x4 =>
    (yQ x4).bind fun r5 =>
    match r5 with
    | true =>
     if 0 < v2 then
      (zH (w64 (v2 - 1))).bind fun i7 =>
      (a0.K[i7]?).bind fun x8 =>
      if Op.bytesLess x8 x4 = true then
       (a0.L[i3]?).bind fun x10 =>
       (G_spec_l2ok x10 (w64 (a1 + 1)) v1).bind fun r11 =>
       if r11 < 0 then
        some (.inl (-1))
       else
       xj G_spec_l2ok a1 a0 m r11 (w64 (v2 + 1))
      else
      some (.inl (-1))
     else
     (a0.L[i3]?).bind fun x7 =>
     (G_spec_l2ok x7 (w64 (a1 + 1)) v1).bind fun r8 =>
     if r8 < 0 then
      some (.inl (-1))
     else
     xj G_spec_l2ok a1 a0 m r8 (w64 (v2 + 1))
    | false =>
     some (.inl (-1))
   else
   (zH v2).bind fun i3 =>
   (a0.L[i3]?).bind fun x4 =>
   (G_spec_l2ok x4 (w64 (a1 + 1)) v1).bind fun r5 =>
   if r5 < 0 then
    some (.inl (-1))
   else
   xj G_spec_l2ok a1 a0 m r5 (w64 (v2 + 1))
  else
  some (.inr (v1, v2))
theorem Jg (G_spec_l2ok : GValue → Int → Int → Option Int) (H_spec_l2ok : Y2 G_spec_l2ok) (a1 : Int) (a0 : GValue) (m : Nat) : ∀ (v1 : Int) (v2 : Int), Ol (xj G_spec_l2ok a1 a0 m v1 v2) 88 (zQ Tryz.f88 0) ⟨[(1, vi a1), (2, vi v1), (3, vp 0 0), (7, vi v2)], [.var (zf a0)], 0⟩ fun o => match o with | .inl o_0 => (.ret, ⟨[(6, vi o_0)], [], 0⟩) | .inr (⟨o_1_0, o_1_1⟩) => (.exit 1, ⟨[(1, vi a1), (2, vi o_1_0), (3, vp 0 0), (7, vi o_1_1), (117, vb false)], [.var (zf a0)], 0⟩) := by
  induction m with
  | zero => intro v1 v2 o h; cases h
  | succ m ih => exact fun v1 v2 => tlp (
   .le zb a0.L <|
   .lI v2 (a0.L.length : Int) (fun c1 =>
    .eI a0.Kind 5 (fun c2 =>
     .na v2 fun i3 =>
     .ix0 (zi za) a0.K i3 fun x4 =>
     .cl (xZ x4) fun r5 =>
     .vN 2 r5 (
      .an 0 0 <|
      .lI 0 v2 (fun c6 =>
       .an 0 0 <|
       .na (w64 (v2 - 1)) fun i7 =>
       .ix0 (zi za) a0.K i7 fun x8 =>
       .bt x8 <|
       .ag 5 <|
       .ag 4 <|
       .bt x4 <|
       .bI x8 x4 (fun c9 =>
        .an 0 2 <|
        .an 2 2 <|
        .ag 5 <|
        .ix zh a0.L i3 fun x10 =>
        .cl (H_spec_l2ok x10 (w64 (a1 + 1)) v1) fun r11 =>
        .lI r11 0 (fun c12 =>
         .ret (.inl (-1))) fun c12 =>
        .go (ih r11 (w64 (v2 + 1)))) fun c9 =>
       .an 0 2 <|
       .an 2 2 <|
       .ret (.inl (-1))) fun c6 =>
      .an 0 0 <|
      .an 14 0 <|
      .an 2 0 <|
      .ag 3 <|
      .ix zh a0.L i3 fun x7 =>
      .cl (H_spec_l2ok x7 (w64 (a1 + 1)) v1) fun r8 =>
      .lI r8 0 (fun c9 =>
       .ret (.inl (-1))) fun c9 =>
      .go (ih r8 (w64 (v2 + 1)))) <|
     .an 0 0 <|
     .an 0 0 <|
     .an 0 0 <|
     .an 1 0 <|
     .ret (.inl (-1))) fun c2 =>
    .na v2 fun i3 =>
    .ix zh a0.L i3 fun x4 =>
    .cl (H_spec_l2ok x4 (w64 (a1 + 1)) v1) fun r5 =>
    .lI r5 0 (fun c6 =>
     .ret (.inl (-1))) fun c6 =>
    .go (ih r5 (w64 (v2 + 1)))) fun c1 =>
   .ret (.inr (v1, v2)))
def Wg (G_spec_l2ok : GValue → Int → Int → Option Int) (n : Nat) (a0 : GValue) (a1 : Int) (a2 : Int) : Option Int :=
 if (w64 (a2 - 1)) < 0 then
  some (-1)
 else
 if 5 < a1 then
  some (-1)
 else
 if a0.Kind = 3 then
  if 0 < (a0.K.length : Int) then
   some (-1)
  else
  if a0.N = 0 then
   if 0 < (a0.L.length : Int) then
    some (-1)
   else
   (jk a0.S).bind fun r7 =>
   match r7 with
   | true =>
    some (w64 (a2 - 1))
   | false =>
    some (-1)
  else
  some (-1)
 else
 if 0 < (a0.S.length : Int) then
  some (-1)
 else
 if a0.Kind = 5 then
  if a0.N = 0 then
   if (a0.K.length : Int) = (a0.L.length : Int) then
    (xj G_spec_l2ok a1 a0 n (w64 (a2 - 1)) 0).bind fun o8 =>
    match o8 with
    | .inl o8_0 =>
     some o8_0
    | .inr (⟨o8_1_0, o8_1_1⟩) =>
     some o8_1_0
   else
   some (-1)
  else
  some (-1)
 else
 if 0 < (a0.K.length : Int) then
  some (-1)
 else
 if a0.Kind = 1 then
  if 0 < (a0.L.length : Int) then
   some (-1)
  else
  if a0.N < 0 then
   some (-1)
  else
  if 1 < a0.N then
   some (-1)
  else
  some (w64 (a2 - 1))
 else
 if a0.Kind = 2 then
  if 0 < (a0.L.length : Int) then
   some (-1)
  else
  (Xz a0.N).bind fun r10 =>
  match r10 with
  | true =>
   some (w64 (a2 - 1))
  | false =>
   some (-1)
 else
 if a0.N = 0 then
  if a0.Kind = 4 then
   (xj G_spec_l2ok a1 a0 n (w64 (a2 - 1)) 0).bind fun o11 =>
   match o11 with
   | .inl o11_0 =>
    some o11_0
   | .inr (⟨o11_1_0, o11_1_1⟩) =>
    some o11_1_0
  else
  if 0 < (a0.L.length : Int) then
   some (-1)
  else
  if a0.Kind = 0 then
   some (w64 (a2 - 1))
  else
  if a0.Kind = 6 then
   some (w64 (a2 - 1))
  else
  some (-1)
 else
 some (-1)
theorem GB (G_spec_l2ok : GValue → Int → Int → Option Int) (H_spec_l2ok : Y2 G_spec_l2ok) (n : Nat) : Y2 (Wg G_spec_l2ok n) := fun a0 a1 a2 => tc (
 .lI (w64 (a2 - 1)) 0 (fun c1 =>
  .ret (-1)) fun c1 =>
 .lI 5 a1 (fun c2 =>
  .ret (-1)) fun c2 =>
 .eI a0.Kind 3 (fun c3 =>
  .q (.eFo a0.Kind 5 (by omega)) <|
  .le (zi za) a0.K <|
  .lI 0 (a0.K.length : Int) (fun c4 =>
   .ret (-1)) fun c4 =>
  .q (.eFo a0.Kind 1 (by omega)) <|
  .q (.eFo a0.Kind 2 (by omega)) <|
  .eI a0.N 0 (fun c5 =>
   .q (.eFo a0.Kind 4 (by omega)) <|
   .q (.eFo a0.Kind 5 (by omega)) <|
   .le zb a0.L <|
   .lI 0 (a0.L.length : Int) (fun c6 =>
    .ret (-1)) fun c6 =>
   .q (.eFo a0.Kind 0 (by omega)) <|
   .q (.eFo a0.Kind 6 (by omega)) <|
   .q (.eFo a0.Kind 1 (by omega)) <|
   .q (.eFo a0.Kind 2 (by omega)) <|
   .q (.eT c3) <|
   .cl (XO a0.S) fun r7 =>
   .vN 0 r7 (
    .ret (w64 (a2 - 1))) <|
   .ret (-1)) fun c5 =>
  .ret (-1)) fun c3 =>
 .le za a0.S <|
 .lI 0 (a0.S.length : Int) (fun c4 =>
  .ret (-1)) fun c4 =>
 .eI a0.Kind 5 (fun c5 =>
  .q (.eFo a0.Kind 1 (by omega)) <|
  .q (.eFo a0.Kind 2 (by omega)) <|
  .eI a0.N 0 (fun c6 =>
   .q (.eFo a0.Kind 4 (by omega)) <|
   .q (.eT c5) <|
   .q (.eFo a0.Kind 0 (by omega)) <|
   .q (.eFo a0.Kind 6 (by omega)) <|
   .q (.eFo a0.Kind 1 (by omega)) <|
   .q (.eFo a0.Kind 2 (by omega)) <|
   .q (.eF c3) <|
   .q (.eFo a0.Kind 4 (by omega)) <|
   .q (.eT c5) <|
   .q (.eT c5) <|
   .le (zi za) a0.K <|
   .le zb a0.L <|
   .eI (a0.K.length : Int) (a0.L.length : Int) (fun c7 =>
    .l2 (Jg G_spec_l2ok H_spec_l2ok a1 a0 n (w64 (a2 - 1)) 0) (fun o8_0 =>
     .ret o8_0) fun ⟨o8_1_0, o8_1_1⟩ =>
    .ret o8_1_0) fun c7 =>
   .ret (-1)) fun c6 =>
  .ret (-1)) fun c5 =>
 .le (zi za) a0.K <|
 .lI 0 (a0.K.length : Int) (fun c6 =>
  .ret (-1)) fun c6 =>
 .eI a0.Kind 1 (fun c7 =>
  .q (.eFo a0.Kind 4 (by omega)) <|
  .q (.eF c5) <|
  .le zb a0.L <|
  .lI 0 (a0.L.length : Int) (fun c8 =>
   .ret (-1)) fun c8 =>
  .q (.eFo a0.Kind 0 (by omega)) <|
  .q (.eFo a0.Kind 6 (by omega)) <|
  .q (.eT c7) <|
  .lI a0.N 0 (fun c9 =>
   .ret (-1)) fun c9 =>
  .lI 1 a0.N (fun c10 =>
   .ret (-1)) fun c10 =>
  .ret (w64 (a2 - 1))) fun c7 =>
 .eI a0.Kind 2 (fun c8 =>
  .q (.eFo a0.Kind 4 (by omega)) <|
  .q (.eF c5) <|
  .le zb a0.L <|
  .lI 0 (a0.L.length : Int) (fun c9 =>
   .ret (-1)) fun c9 =>
  .q (.eFo a0.Kind 0 (by omega)) <|
  .q (.eFo a0.Kind 6 (by omega)) <|
  .q (.eF c7) <|
  .q (.eT c8) <|
  .cl (Mc a0.N) fun r10 =>
  .vN 0 r10 (
   .ret (w64 (a2 - 1))) <|
  .ret (-1)) fun c8 =>
 .eI a0.N 0 (fun c9 =>
  .eI a0.Kind 4 (fun c10 =>
   .q (.eFo a0.Kind 0 (by omega)) <|
   .q (.eFo a0.Kind 6 (by omega)) <|
   .q (.eF c7) <|
   .q (.eF c8) <|
   .q (.eF c3) <|
   .q (.eT c10) <|
   .q (.eF c5) <|
   .l2 (Jg G_spec_l2ok H_spec_l2ok a1 a0 n (w64 (a2 - 1)) 0) (fun o11_0 =>
    .ret o11_0) fun ⟨o11_1_0, o11_1_1⟩ =>
   .ret o11_1_0) fun c10 =>
  .q (.eF c5) <|
  .le zb a0.L <|
  .lI 0 (a0.L.length : Int) (fun c11 =>
   .ret (-1)) fun c11 =>
  .eI a0.Kind 0 (fun c12 =>
   .ret (w64 (a2 - 1))) fun c12 =>
  .eI a0.Kind 6 (fun c13 =>
   .ret (w64 (a2 - 1))) fun c13 =>
  .q (.eF c7) <|
  .q (.eF c8) <|
  .q (.eF c3) <|
  .q (.eF c10) <|
  .q (.eF c5) <|
  .ret (-1)) fun c9 =>
 .ret (-1)) (zj Tryz.func88)
def qN : Nat → GValue → Int → Int → Option Int
 | 0, _, _, _ => none
 | n + 1, a0, a1, a2 => Wg (qN n) n a0 a1 a2
theorem Md (n : Nat) : Y2 (qN n) := by
 induction n with
 | zero => exact fun _ _ _ _ h => (by rw [qN] at h; cases h)
 | succ n ih =>
  have ih_spec_l2ok := ih
  exact fun a0 a1 a2 r h => GB (qN n) ih_spec_l2ok n a0 a1 a2 r (by rw [qN] at h; exact h)
def okV (d : Nat) (left : Int) (v : GValue) : Int := if shV d v = true ∧ (ptV v : Int) <= left then left - ptV v else -1
theorem BU (n : Int) : Xz n = some (decide (-1000000000000 <= n ∧ n <= 1000000000000)) := by
 unfold Xz
 by_cases h : (-1000000000000 : Int) <= n
 ·rw [if_pos h]; simp [h]
 ·rw [if_neg h]; simp [h]
theorem Dt {G : GValue → Int → Int → Option Int} {v : GValue} {dd : Nat} {deep : Int} (hdd : deep + dd = 5) (h1d : 1 <= deep) (hs : vsz v <= 2 ^ 20) (hk : v.Kind = 4 ∨ (v.Kind = 5 ∧ v.K.length = v.L.length))
  (hG : ∀ x ∈ v.L, ∀ r : Int, 0 <= r → r <= 40 → G x (deep + 1) r = some (okV dd r x)) : ∀ (d i m : Nat) (r : Int), i + d = v.L.length → d < m → 0 <= r → r <= 40 →
  ∃ z, xj G deep v m r (i : Int) = some (if ((v.Kind = 5 → xq v.K i d = true) ∧ (v.L.drop i).all (shV dd) = true) ∧ (yW (v.L.drop i) : Int) <= r then .inr (r - yW (v.L.drop i), z) else .inl (-1)) := by
 have he := jz v
 have hl := qK v.L
 intro d
 induction d with
 | zero =>
  intro i m r hi hm h0 h1
  obtain ⟨m, rfl, _⟩ := zg hm
  refine ⟨(i : Int), ?_⟩
  rw [xj, if_neg (by omega), List.drop_eq_nil_of_le (by omega), if_pos ⟨⟨fun _ => rfl, rfl⟩, by simpa [yW] using h0⟩]
  simp [yW]
 | succ d ih =>
  intro i m r hi hm h0 h1
  obtain ⟨m, rfl, hm'⟩ := zg hm
  have hil : i < v.L.length := by omega
  have hp : yW (v.L.drop i) = ptV v.L[i] + yW (v.L.drop (i + 1)) := by rw [xr hil]; simp only [yW]
  have ha : (v.L.drop i).all (shV dd) = (shV dd v.L[i] && (v.L.drop (i + 1)).all (shV dd)) := by rw [xr hil, List.all_cons]
  have hd1 : w64 (deep + 1) = deep + 1 := yu (by omega) (by omega)
  have tail : (v.Kind = 5 → kOk v.K i = true) → ∃ z, ((G v.L[i] (w64 (deep + 1)) r).bind fun r12 => if r12 < 0 then some (.inl (-1)) else xj G deep v m r12 (w64 ((i : Int) + 1))) =
    some (if ((v.Kind = 5 → xq v.K i (d + 1) = true) ∧ (v.L.drop i).all (shV dd) = true) ∧ (yW (v.L.drop i) : Int) <= r then .inr (r - yW (v.L.drop i), z) else .inl (-1)) := by
   intro hki
   rw [hd1, hG _ (List.getElem_mem hil) r h0 h1, Option.bind_some, yt (by omega), hp, ha]
   unfold okV
   by_cases hc : shV dd v.L[i] = true ∧ (ptV v.L[i] : Int) <= r
   ·rw [if_pos hc, if_neg (by omega)]
    obtain ⟨z, hz⟩ := ih (i + 1) m (r - ptV v.L[i]) (by omega) (by omega) (by omega) (by omega)
    refine ⟨z, ?_⟩
    rw [hz, hc.1, Bool.true_and]
    have hcond : (((v.Kind = 5 → xq v.K (i + 1) d = true) ∧ (v.L.drop (i + 1)).all (shV dd) = true) ∧ (yW (v.L.drop (i + 1)) : Int) <= r - ptV v.L[i]) ↔
      (((v.Kind = 5 → xq v.K i (d + 1) = true) ∧ (v.L.drop (i + 1)).all (shV dd) = true) ∧ ((ptV v.L[i] + yW (v.L.drop (i + 1)) : Nat) : Int) <= r) := by
     have hka : (v.Kind = 5 → xq v.K (i + 1) d = true) ↔ (v.Kind = 5 → xq v.K i (d + 1) = true) := by
      constructor
      ·intro h hk; rw [vm, hki hk, h hk]; rfl
      ·intro h hk; have := h hk; rw [vm, hki hk, Bool.true_and] at this; exact this
     rw [hka]
     constructor
     ·rintro ⟨h1, h2⟩; exact ⟨h1, by omega⟩
     ·rintro ⟨h1, h2⟩; exact ⟨h1, by omega⟩
    by_cases hd : ((v.Kind = 5 → xq v.K (i + 1) d = true) ∧ (v.L.drop (i + 1)).all (shV dd) = true) ∧ (yW (v.L.drop (i + 1)) : Int) <= r - ptV v.L[i]
    ·rw [if_pos hd, if_pos (hcond.1 hd)]; congr 3; omega
    ·rw [if_neg hd, if_neg (fun h => hd (hcond.2 h))]
   ·refine ⟨0, ?_⟩
    rw [if_neg hc, if_pos (by omega), if_neg]
    rintro ⟨⟨_, h2⟩, h3⟩
    rw [Bool.and_eq_true] at h2
    exact hc ⟨h2.1, by omega⟩
  have bad : v.Kind = 5 → kOk v.K i = false → ∃ z, (some (.inl (-1)) : Option (Int ⊕ (Int × Int))) = some (if ((v.Kind = 5 → xq v.K i (d + 1) = true) ∧ (v.L.drop i).all (shV dd) = true) ∧ (yW (v.L.drop i) : Int) <= r then .inr (r - yW (v.L.drop i), z) else .inl (-1)) := by
   intro hk hki
   refine ⟨0, ?_⟩
   rw [if_neg]
   rintro ⟨⟨h1, _⟩, _⟩
   have := h1 hk
   rw [vm, hki] at this
   cases this
  rw [xj, if_pos (by omega)]
  rcases hk with hk | ⟨hk, hkl⟩
  ·rw [if_neg (by omega), zl, Option.bind_some, zr hil, Option.bind_some]
   exact tail fun h => by omega
  ·have hik : i < v.K.length := by omega
   have hx := Xl (List.getElem_mem hik)
   rw [if_pos hk, zl, Option.bind_some, zr hik, Option.bind_some, Je (by omega), Option.bind_some]
   cases hnm : xR v.K[i] with
   | false =>
    dsimp only
    refine bad hk ?_
    by_cases h0 : i = 0
    ·subst h0; rw [ZK hik, hnm]
    ·rw [vd hik (by omega), hnm]; rfl
   | true =>
    dsimp only
    by_cases h0 : 0 < i
    ·rw [if_pos (by omega), XK (by omega) h0, zl, Option.bind_some, zr (show i - 1 < v.K.length by omega), Option.bind_some]
     by_cases hb : Op.bytesLess (v.K[i - 1]'(by omega)) v.K[i] = true
     ·rw [if_pos hb, zr hil, Option.bind_some]
      exact tail fun _ => by rw [vd hik h0, hnm, hb]; rfl
     ·rw [if_neg hb]
      refine bad hk ?_
      rw [vd hik h0, hnm]; simpa using hb
    ·have : i = 0 := by omega
     subst this
     rw [if_neg (by omega), zr hil, Option.bind_some]
     exact tail fun _ => by rw [ZK hik, hnm]
theorem zfu {G : GValue → Int → Int → Option Int} {v : GValue} {f dd : Nat} {deep left : Int} (hdd : deep + dd = 5 ∨ (deep = 6 ∧ dd = 0)) (h1d : 1 <= deep) (hs : vsz v <= 2 ^ 20) (hf : v.L.length < f) (h0 : 0 <= left) (h1 : left <= 40)
  (hG : deep <= 5 → ∀ x ∈ v.L, ∀ r : Int, 0 <= r → r <= 40 → G x (deep + 1) r = some (okV dd r x)) : Wg G f v deep left = some (okV (if deep <= 5 then dd + 1 else 0) left v) := by
 have he := jz v
 have hl := qK v.L
 have hpt := Wy v
 have hpl := KP v.L
 unfold Wg
 rw [yu (by omega) (by omega)]
 by_cases hleft : left - 1 < 0
 ·rw [if_pos hleft]
  unfold okV; rw [if_neg (by rintro ⟨_, h⟩; omega)]
 rw [if_neg hleft]
 by_cases hdeep : 5 < deep
 ·rw [if_pos hdeep, if_neg (show ¬ deep <= 5 by omega)]
  unfold okV; rw [if_neg (by rintro ⟨h, _⟩; simp [shV] at h)]
 rw [if_neg hdeep, if_pos (show deep <= 5 by omega)]
 have hdd : deep + dd = 5 := by omega
 have hG := hG (by omega)
 unfold okV
 simp only [shV]
 have fin0 : v.L.length = 0 → (v.L.all (shV dd) = true ∧ ptV v = 1) := fun h => by
  have : v.L = [] := List.eq_nil_of_length_eq_zero h
  rw [hpt, this]; exact ⟨rfl, rfl⟩
 have yes : zO v = true → v.L.length = 0 → some (left - 1) = some (if (zO v && v.L.all (shV dd)) = true ∧ (ptV v : Int) <= left then left - ptV v else -1) := fun h1 h2 => by
  obtain ⟨a1, a2⟩ := fin0 h2
  rw [h1, a1, a2, if_pos ⟨rfl, by omega⟩]; rfl
 have no : zO v = false → some (-1) = some (if (zO v && v.L.all (shV dd)) = true ∧ (ptV v : Int) <= left then left - ptV v else -1) := fun h1 => by
  rw [h1, if_neg (by rintro ⟨h, _⟩; cases h)]
 have lp : v.Kind = 4 ∨ (v.Kind = 5 ∧ v.K.length = v.L.length) → (∀ b : Bool, v.L.length <= 40 → ((v.Kind = 5 → xq v.K 0 v.L.length = true) ↔ b = true) → zO v = b) → ((xj G deep v f (left - 1) 0).bind fun o8 => match o8 with | .inl o8_0 => some o8_0 | .inr (⟨o8_1_0, o8_1_1⟩) => some o8_1_0) =
   some (if (zO v && v.L.all (shV dd)) = true ∧ (ptV v : Int) <= left then left - ptV v else -1) := fun hk hloc => by
  obtain ⟨z, hz⟩ := Dt (G := G) hdd h1d hs hk hG v.L.length 0 f (left - 1) (by omega) (by omega) (by omega) (by omega)
  rw [show ((0 : Nat) : Int) = 0 from rfl, List.drop_zero] at hz
  rw [hz, Option.bind_some]
  by_cases hc : ((v.Kind = 5 → xq v.K 0 v.L.length = true) ∧ v.L.all (shV dd) = true) ∧ (yW v.L : Int) <= left - 1
  ·rw [if_pos hc]
   have h40 : v.L.length <= 40 := by omega
   have := hloc true h40 ⟨fun _ => rfl, fun _ => hc.1.1⟩
   rw [this, hc.1.2, if_pos ⟨rfl, by omega⟩, hpt]
   dsimp only
   congr 1; omega
  ·rw [if_neg hc, if_neg]
   rintro ⟨h2, h3⟩
   rw [Bool.and_eq_true] at h2
   refine hc ⟨⟨?_, h2.2⟩, by omega⟩
   by_cases h40 : v.L.length <= 40
   ·by_cases hb : (v.Kind = 5 → xq v.K 0 v.L.length = true)
    ·exact hb
    ·have := hloc false h40 ⟨fun h => (hb h).elim, fun h => by cases h⟩
     rw [this] at h2; cases h2.1
   ·omega
 have hloc : ∀ k, v.Kind = k → zO v = (if k = 0 ∨ k = 6 then decide (v.N = 0 ∧ v.S.length = 0 ∧ v.K.length = 0 ∧ v.L.length = 0)
   else if k = 1 then decide ((0 <= v.N ∧ v.N <= 1) ∧ v.S.length = 0 ∧ v.K.length = 0 ∧ v.L.length = 0)
   else if k = 2 then decide ((-1000000000000 <= v.N ∧ v.N <= 1000000000000) ∧ v.S.length = 0 ∧ v.K.length = 0 ∧ v.L.length = 0)
   else if k = 3 then xo v.S && decide (v.N = 0 ∧ v.K.length = 0 ∧ v.L.length = 0)
   else if k = 4 then decide (v.N = 0 ∧ v.S.length = 0 ∧ v.K.length = 0 ∧ v.L.length <= 40)
   else if k = 5 then decide (v.K.length = v.L.length ∧ v.N = 0 ∧ v.S.length = 0 ∧ v.L.length <= 40) && xq v.K 0 v.K.length
   else false) := fun k hk => by unfold zO; rw [hk]
 by_cases k3 : v.Kind = 3
 ·have hv := hloc 3 k3
  simp only [show ¬ ((3 : Int) = 0 ∨ (3 : Int) = 6) by omega, if_false, show ¬ ((3 : Int) = 1) by omega, show ¬ ((3 : Int) = 2) by omega, if_true] at hv
  rw [if_pos k3]
  by_cases a1 : 0 < (v.K.length : Int)
  ·rw [if_pos a1]; exact no (by rw [hv, decide_eq_false (by omega)]; simp)
  ·rw [if_neg a1]
   by_cases a2 : v.N = 0
   ·rw [if_pos a2]
    by_cases a3 : 0 < (v.L.length : Int)
    ·rw [if_pos a3]; exact no (by rw [hv, decide_eq_false (by omega)]; simp)
    ·rw [if_neg a3, L6 (by omega), Option.bind_some]
     rw [decide_eq_true (by omega), Bool.and_true] at hv
     cases ht : xo v.S with
     | true => exact yes (by rw [hv, ht]) (by omega)
     | false => exact no (by rw [hv, ht])
   ·rw [if_neg a2]; exact no (by rw [hv, decide_eq_false (by omega)]; simp)
 rw [if_neg k3]
 by_cases hS : 0 < (v.S.length : Int)
 ·rw [if_pos hS]
  refine no ?_
  unfold zO
  simp only [k3, if_false]
  repeat' split
  all_goals first | rfl | (rw [decide_eq_false (by omega)]; try rfl)
 rw [if_neg hS]
 by_cases k5 : v.Kind = 5
 ·have hv := hloc 5 k5
  simp only [show ¬ ((5 : Int) = 0 ∨ (5 : Int) = 6) by omega, if_false, show ¬ ((5 : Int) = 1) by omega, show ¬ ((5 : Int) = 2) by omega, show ¬ ((5 : Int) = 3) by omega, show ¬ ((5 : Int) = 4) by omega, if_true] at hv
  rw [if_pos k5]
  by_cases a2 : v.N = 0
  ·rw [if_pos a2]
   by_cases a3 : (v.K.length : Int) = (v.L.length : Int)
   ·rw [if_pos a3]
    refine lp (.inr ⟨k5, by omega⟩) fun b h40 hb => ?_
    rw [hv, decide_eq_true (by omega), Bool.true_and, show v.K.length = v.L.length by omega, Bool.eq_iff_iff, <- hb]
    exact ⟨fun h _ => h, fun h => h k5⟩
   ·rw [if_neg a3]; exact no (by rw [hv, decide_eq_false (by omega)]; rfl)
  ·rw [if_neg a2]; exact no (by rw [hv, decide_eq_false (by omega)]; rfl)
 rw [if_neg k5]
 by_cases hK : 0 < (v.K.length : Int)
 ·rw [if_pos hK]
  refine no ?_
  unfold zO
  simp only [k3, k5, if_false]
  repeat' split
  all_goals first | rfl | (rw [decide_eq_false (by omega)]; try rfl)
 rw [if_neg hK]
 by_cases k1 : v.Kind = 1
 ·have hv := hloc 1 k1
  simp only [show ¬ ((1 : Int) = 0 ∨ (1 : Int) = 6) by omega, if_false, if_true] at hv
  rw [if_pos k1]
  by_cases a3 : 0 < (v.L.length : Int)
  ·rw [if_pos a3]; exact no (by rw [hv, decide_eq_false (by omega)])
  ·rw [if_neg a3]
   by_cases a4 : v.N < 0
   ·rw [if_pos a4]; exact no (by rw [hv, decide_eq_false (by omega)])
   ·rw [if_neg a4]
    by_cases a5 : 1 < v.N
    ·rw [if_pos a5]; exact no (by rw [hv, decide_eq_false (by omega)])
    ·rw [if_neg a5]; exact yes (by rw [hv, decide_eq_true (by omega)]) (by omega)
 rw [if_neg k1]
 by_cases k2 : v.Kind = 2
 ·have hv := hloc 2 k2
  simp only [show ¬ ((2 : Int) = 0 ∨ (2 : Int) = 6) by omega, if_false, show ¬ ((2 : Int) = 1) by omega, if_true] at hv
  rw [if_pos k2]
  by_cases a3 : 0 < (v.L.length : Int)
  ·rw [if_pos a3]; exact no (by rw [hv, decide_eq_false (by omega)])
  ·rw [if_neg a3, BU, Option.bind_some]
   by_cases a4 : -1000000000000 <= v.N ∧ v.N <= 1000000000000
   ·rw [decide_eq_true a4]; exact yes (by rw [hv, decide_eq_true (by omega)]) (by omega)
   ·rw [decide_eq_false a4]; exact no (by rw [hv, decide_eq_false (by omega)])
 rw [if_neg k2]
 by_cases a2 : v.N = 0
 ·rw [if_pos a2]
  by_cases k4 : v.Kind = 4
  ·have hv := hloc 4 k4
   simp only [show ¬ ((4 : Int) = 0 ∨ (4 : Int) = 6) by omega, if_false, show ¬ ((4 : Int) = 1) by omega, show ¬ ((4 : Int) = 2) by omega, show ¬ ((4 : Int) = 3) by omega, if_true] at hv
   rw [if_pos k4]
   refine lp (.inl k4) fun b h40 hb => ?_
   rw [hv, decide_eq_true (by omega)]
   exact (hb.1 fun h => by omega).symm
  ·rw [if_neg k4]
   by_cases a3 : 0 < (v.L.length : Int)
   ·rw [if_pos a3]
    refine no ?_
    unfold zO
    simp only [k1, k2, k3, k4, k5, if_false]
    repeat' split
    all_goals first | rfl | (rw [decide_eq_false (by omega)])
   ·rw [if_neg a3]
    by_cases k0 : v.Kind = 0
    ·rw [if_pos k0]; exact yes (by unfold zO; rw [if_pos (.inl k0), decide_eq_true (by omega)]) (by omega)
    ·rw [if_neg k0]
     by_cases k6 : v.Kind = 6
     ·rw [if_pos k6]; exact yes (by unfold zO; rw [if_pos (.inr k6), decide_eq_true (by omega)]) (by omega)
     ·rw [if_neg k6]
      exact no (by unfold zO; simp only [k0, k1, k2, k3, k4, k5, k6, or_self, if_false])
 ·rw [if_neg a2]
  refine no ?_
  unfold zO
  simp only [k1, k2, k3, k5, if_false]
  repeat' split
  all_goals first | rfl | (rw [decide_eq_false (by omega)])
theorem zfv : ∀ (N : Nat) (v : GValue), vsz v < N → vsz v <= 2 ^ 20 → ∀ (f : Nat) (deep left : Int), vsz v + 2 <= f → 1 <= deep → deep <= 6 → 0 <= left → left <= 40 → qN f v deep left = some (okV (6 - deep).toNat left v) := by
 intro N
 induction N with
 | zero => intro v hv; omega
 | succ N ih =>
  intro v hv hs f deep left hf h1 h2 h3 h4
  obtain ⟨f, rfl, _⟩ := zg (show 0 < f by omega)
  have he := jz v
  have hl := qK v.L
  rw [qN]
  have := zfu (G := qN f) (f := f) (dd := (5 - deep).toNat) (deep := deep) (left := left) (by omega) h1 hs (by omega) h3 h4 fun hd x hx r g0 g1 => by
   have hm := ZJ hx
   have := ih x (by omega) (by omega) f (deep + 1) r (by omega) (by omega) (by omega) g0 g1
   rw [show (6 - (deep + 1)).toNat = (5 - deep).toNat by omega] at this
   exact this
  rw [this]
  congr 2
  by_cases hd : deep <= 5
  ·rw [if_pos hd]; omega
  ·rw [if_neg hd]; omega
def Zd (a0 : GValue) (a1 : Int) (a2 : Int) : Option Int := if vsz a0 <= 2 ^ 20 ∧ (1 <= a1 ∧ a1 <= 6) ∧ 0 <= a2 ∧ a2 <= 40 then some (okV (6 - a1).toNat a2 a0) else none
theorem OB (a0 : GValue) (a1 : Int) (a2 : Int) (r : Int) (h : Zd a0 a1 a2 = some r) : ∃ n, qN n a0 a1 a2 = some r := by
 unfold Zd at h
 obtain ⟨⟨hs, ⟨h1, h2⟩, h3, h4⟩, h⟩ := yc h
 exact ⟨vsz a0 + 2, by rw [<- h]; exact zfv _ a0 (Nat.lt_succ_self _) hs _ a1 a2 (Nat.le_refl _) h1 h2 h3 h4⟩
theorem N6 : Y2 Zd := by
 intro a0 a1 a2 r h
 obtain ⟨n, hn⟩ := OB a0 a1 a2 r h
 exact (Md n) a0 a1 a2 r hn
def kQ (a0 : GValue) : Option Bool :=
 (Zd a0 1 40).bind fun r1 =>
 some (decide (0 <= r1))
theorem Me (a0 : GValue) : Oc (kQ a0) 52 [] [.val true (zf a0)] fun r => (vb r, []) := tc (
 .cl (N6 a0 1 40) fun r1 =>
 .gD 0 r1 <|
 .ret (decide (0 <= r1))) (zj Tryz.func52)
def xg (a0 : GValue) : Option (GValue × Int) :=
 (kQ a0).bind fun r1 =>
 match r1 with
 | true =>
  some (a0, 0)
 | false =>
  some ((GValue.mk 0 0 [] [] []), 4)
theorem qC (a0 : GValue) : Oc (xg a0) 135 [] [.val true (zf a0)] fun r => (.tup [(true, (zf r.1)), (false, [ci r.2])], []) := tc (
 .cl (Me a0) fun r1 =>
 .vN 0 r1 (
  .ret (a0, 0)) <|
 .vw ze [] <|
 .vw (zn za) [] <|
 .vw zc [] <|
 .ret ((GValue.mk 0 0 [] [] []), 4)) (zj Tryz.func135)
def YE (a0 : GValue) (a1 : GValue) : Option (GValue × Int) :=
 if a0.Kind = 4 then
  if a1.Kind = 2 then
   if a1.N < 0 then
    some ((GValue.mk 0 0 [] [] []), 3)
   else
   if (a0.L.length : Int) <= a1.N then
    some ((GValue.mk 0 0 [] [] []), 3)
   else
   (zH a1.N).bind fun i5 =>
   (a0.L[i5]?).bind fun x6 =>
   some (x6, 0)
  else
  if a1.Kind = 3 then
   some ((GValue.mk 0 0 [] [] []), 2)
  else
  if a1.Kind = 6 then
   (z6).bind fun r5 =>
   some (r5, 0)
  else
  some ((GValue.mk 0 0 [] [] []), 2)
 else
 if a0.Kind = 5 then
  if a1.Kind = 2 then
   some ((GValue.mk 0 0 [] [] []), 2)
  else
  if a1.Kind = 3 then
   (j9 a0 a1.S).bind fun ⟨r5_0, r5_1⟩ =>
   some (r5_0, r5_1)
  else
  if a1.Kind = 6 then
   (z6).bind fun r6 =>
   some (r6, 0)
  else
  some ((GValue.mk 0 0 [] [] []), 2)
 else
 if a0.Kind = 6 then
  if a1.Kind = 2 then
   (z6).bind fun r5 =>
   some (r5, 0)
  else
  if a1.Kind = 3 then
   (z6).bind fun r6 =>
   some (r6, 0)
  else
  if a1.Kind = 6 then
   (z6).bind fun r7 =>
   some (r7, 0)
  else
  some ((GValue.mk 0 0 [] [] []), 2)
 else
 some ((GValue.mk 0 0 [] [] []), 2)
theorem OC (a0 : GValue) (a1 : GValue) : Oc (YE a0 a1) 136 [] [.val true (zf a0), .val true (zf a1)] fun r => (.tup [(true, (zf r.1)), (false, [ci r.2])], []) := tc (
 .eI a0.Kind 4 (fun c1 =>
  .eI a1.Kind 2 (fun c2 =>
   .q (.eFo a0.Kind 6 (by omega)) <|
   .q (.eFo a1.Kind 6 (by omega)) <|
   .q (.eFo a0.Kind 5 (by omega)) <|
   .q (.eT c1) <|
   .q (.eT c2) <|
   .lI a1.N 0 (fun c3 =>
    .vw ze [] <|
    .vw (zn za) [] <|
    .vw zc [] <|
    .ret ((GValue.mk 0 0 [] [] []), 3)) fun c3 =>
   .le zb a0.L <|
   .gI (a0.L.length : Int) a1.N (fun c4 =>
    .vw ze [] <|
    .vw (zn za) [] <|
    .vw zc [] <|
    .ret ((GValue.mk 0 0 [] [] []), 3)) fun c4 =>
   .na a1.N fun i5 =>
   .ix zh a0.L i5 fun x6 =>
   .ret (x6, 0)) fun c2 =>
  .eI a1.Kind 3 (fun c3 =>
   .q (.eFo a0.Kind 6 (by omega)) <|
   .q (.eFo a1.Kind 6 (by omega)) <|
   .q (.eFo a0.Kind 5 (by omega)) <|
   .q (.eT c1) <|
   .q (.eF c2) <|
   .vw ze [] <|
   .vw (zn za) [] <|
   .vw zc [] <|
   .ret ((GValue.mk 0 0 [] [] []), 2)) fun c3 =>
  .eI a1.Kind 6 (fun c4 =>
   .q (.eFo a0.Kind 6 (by omega)) <|
   .q (.eT c4) <|
   .cl (zA) fun r5 =>
   .vw ze r5.S <|
   .vo (zC 1 z9) r5.K <|
   .vo zz r5.L <|
   .ret (r5, 0)) fun c4 =>
  .vw ze [] <|
  .vw (zn za) [] <|
  .vw zc [] <|
  .ret ((GValue.mk 0 0 [] [] []), 2)) fun c1 =>
 .eI a0.Kind 5 (fun c2 =>
  .eI a1.Kind 2 (fun c3 =>
   .q (.eFo a0.Kind 6 (by omega)) <|
   .q (.eFo a1.Kind 6 (by omega)) <|
   .q (.eT c2) <|
   .q (.eFo a1.Kind 3 (by omega)) <|
   .q (.eF c1) <|
   .vw ze [] <|
   .vw (zn za) [] <|
   .vw zc [] <|
   .ret ((GValue.mk 0 0 [] [] []), 2)) fun c3 =>
  .eI a1.Kind 3 (fun c4 =>
   .q (.eFo a0.Kind 6 (by omega)) <|
   .q (.eFo a1.Kind 6 (by omega)) <|
   .q (.eT c2) <|
   .q (.eT c4) <|
   .cl (YD a0 a1.S) fun ⟨r5_0, r5_1⟩ =>
   .ret (r5_0, r5_1)) fun c4 =>
  .eI a1.Kind 6 (fun c5 =>
   .q (.eFo a0.Kind 6 (by omega)) <|
   .q (.eT c5) <|
   .cl (zA) fun r6 =>
   .vw ze r6.S <|
   .vo (zC 1 z9) r6.K <|
   .vo zz r6.L <|
   .ret (r6, 0)) fun c5 =>
  .vw ze [] <|
  .vw (zn za) [] <|
  .vw zc [] <|
  .ret ((GValue.mk 0 0 [] [] []), 2)) fun c2 =>
 .eI a0.Kind 6 (fun c3 =>
  .eI a1.Kind 2 (fun c4 =>
   .q (.eT c3) <|
   .cl (zA) fun r5 =>
   .vw ze r5.S <|
   .vo (zC 1 z9) r5.K <|
   .vo zz r5.L <|
   .ret (r5, 0)) fun c4 =>
  .eI a1.Kind 3 (fun c5 =>
   .q (.eT c3) <|
   .cl (zA) fun r6 =>
   .vw ze r6.S <|
   .vo (zC 1 z9) r6.K <|
   .vo zz r6.L <|
   .ret (r6, 0)) fun c5 =>
  .eI a1.Kind 6 (fun c6 =>
   .q (.eT c3) <|
   .cl (zA) fun r7 =>
   .vw ze r7.S <|
   .vo (zC 1 z9) r7.K <|
   .vo zz r7.L <|
   .ret (r7, 0)) fun c6 =>
  .vw ze [] <|
  .vw (zn za) [] <|
  .vw zc [] <|
  .ret ((GValue.mk 0 0 [] [] []), 2)) fun c3 =>
 .vw ze [] <|
 .vw (zn za) [] <|
 .vw zc [] <|
 .ret ((GValue.mk 0 0 [] [] []), 2)) (zj Tryz.func136)
def jo (a0 : Bool) : Option GValue :=
 match a0 with
 | true =>
  some (GValue.mk 1 1 [] [] [])
 | false =>
  some (GValue.mk 1 0 [] [] [])
theorem Ye (a0 : Bool) : Oc (jo a0) 137 [] [vb a0] fun r => (.val true (YZ r), []) := tc (
 .vM 0 a0 (
  .ret (GValue.mk 1 1 [] [] [])) <|
 .ret (GValue.mk 1 0 [] [] [])) (zj Tryz.func137)
def Yf (a0 : (List UInt8)) : Option (List UInt8) :=
 if a0 = [108, 101, 110] then
  some [99]
 else
 if a0 = [99, 97, 116] then
  some [116, 116]
 else
 if a0 = [107, 101, 121, 115] then
  some [109]
 else
 if a0 = [118, 97, 108, 115] then
  some [109]
 else
 if a0 = [104, 97, 115] then
  some [109, 116]
 else
 if a0 = [109, 105, 110] then
  some [105, 105]
 else
 if a0 = [109, 97, 120] then
  some [105, 105]
 else
 some []
theorem Pm (a0 : (List UInt8)) : Oc (Yf a0) 185 [] [vq za a0] fun r => (vs r, []) := tc (
 .bt a0 <|
 .sI a0 [108, 101, 110] (fun c1 =>
  .ret [99]) fun c1 =>
 .sI a0 [99, 97, 116] (fun c2 =>
  .ret [116, 116]) fun c2 =>
 .sI a0 [107, 101, 121, 115] (fun c3 =>
  .ret [109]) fun c3 =>
 .sI a0 [118, 97, 108, 115] (fun c4 =>
  .ret [109]) fun c4 =>
 .sI a0 [104, 97, 115] (fun c5 =>
  .ret [109, 116]) fun c5 =>
 .sI a0 [109, 105, 110] (fun c6 =>
  .ret [105, 105]) fun c6 =>
 .sI a0 [109, 97, 120] (fun c7 =>
  .ret [105, 105]) fun c7 =>
 .ret []) (zj Tryz.func185)
def YF (a0 : GValue) (a1 : UInt8) : Option Bool :=
 if ((a1.toNat : Nat) : Int) = 116 then
  some (decide (a0.Kind = 3))
 else
 if ((a1.toNat : Nat) : Int) = 105 then
  some (decide (a0.Kind = 2))
 else
 if ((a1.toNat : Nat) : Int) = 109 then
  some (decide (a0.Kind = 5))
 else
 if a0.Kind = 3 then
  some true
 else
 if a0.Kind = 4 then
  some true
 else
 some (decide (a0.Kind = 5))
theorem OD (a0 : GValue) (a1 : UInt8) : Oc (YF a0 a1) 186 [] [.val true (zf a0), .val false [.int .u8 ((a1.toNat : Nat) : Int)]] fun r => (vb r, []) := tc (
 .eI ((a1.toNat : Nat) : Int) 116 (fun c1 =>
  .eD a0.Kind 3 <|
  .ret (decide (a0.Kind = 3))) fun c1 =>
 .eI ((a1.toNat : Nat) : Int) 105 (fun c2 =>
  .eD a0.Kind 2 <|
  .ret (decide (a0.Kind = 2))) fun c2 =>
 .eI ((a1.toNat : Nat) : Int) 109 (fun c3 =>
  .eD a0.Kind 5 <|
  .ret (decide (a0.Kind = 5))) fun c3 =>
 .eD a0.Kind 3 <|
 .cI 0 (a0.Kind = 3) (fun c4 =>
  .kT 0 (dT c4) <|
  .kT 0 (dT c4) <|
  .kT 0 (dT c4) <|
  .ret true) fun c4 =>
 .kF 0 (dF c4) <|
 .kF 0 (dF c4) <|
 .eI a0.Kind 4 (fun c5 =>
  .kF 0 (dF c4) <|
  .ret true) fun c5 =>
 .kF 0 (dF c4) <|
 .eD a0.Kind 5 <|
 .ret (decide (a0.Kind = 5))) (zj Tryz.func186)
def KY (F : (List UInt8) → (List GValue) → Option (GValue × Int)) : Prop := ∀ (a0 : (List UInt8)) (a1 : (List GValue)), Oc (F a0 a1) 138 [] [vq za a0, vq zb a1] fun r => (.tup [(true, (zf r.1)), (false, [ci r.2])], [])
def wC (a0 : (List UInt8)) (a1 : (List GValue)) (v2 : (List UInt8)) (v5 : Int) (v6 : Int) (v7 : (List UInt8)) (v8 : (List (List UInt8))) (v9 : (List GValue)) : Nat → Bool → Int → Option ((Int × Int × (List UInt8) × (List (List UInt8)) × (List GValue)) ⊕ (Bool × Int))
  | 0, _, _ => none
  | m + 1, v3, v4 =>
  if v4 < (a1.length : Int) then
   (zH v4).bind fun i2 =>
   (a1[i2]?).bind fun x3 =>
   if x3.Kind = 6 then
    wC a0 a1 v2 v5 v6 v7 v8 v9 m false (w64 (v4 + 1))
   else
   (v2[i2]?).bind fun x5 =>
   (YF x3 x5).bind fun r6 =>
   match r6 with
   | true =>
    wC a0 a1 v2 v5 v6 v7 v8 v9 m v3 (w64 (v4 + 1))
   | false =>
    some (.inl (2, 0, [], [], []))
  else
  some (.inr (v3, v4))
theorem RW (a0 : (List UInt8)) (a1 : (List GValue)) (v2 : (List UInt8)) (v5 : Int) (v6 : Int) (v7 : (List UInt8)) (v8 : (List (List UInt8))) (v9 : (List GValue)) (m : Nat) : ∀ (v3 : Bool) (v4 : Int), Ol (wC a0 a1 v2 v5 v6 v7 v8 v9 m v3 v4) 138 (zQ Tryz.f138 0) ⟨[(0, vq za a0), (1, vq zb a1), (4, vp 0 0), (6, vs v2), (7, vb v3), (8, vi v4)], [.var [ci v5, ci v6, .ref 1, .ref 2, .ref 3], .obj 1 (eL za v7), .obj 1 (eL (zi za) v8), .obj 5 (eL zb v9)], 0⟩ fun o => match o with | .inl ⟨o_0_0, o_0_1, o_0_2, o_0_3, o_0_4⟩ => (.ret, ⟨[(4, vp 0 0), (5, vi o_0_0)], [.var [ci o_0_1, ci o_0_1, .ref 1, .ref 2, .ref 3], .obj 1 (eL za o_0_2), .obj 1 (eL (zi za) o_0_3), .obj 5 (eL zb o_0_4)], 0⟩) | .inr (⟨o_1_0, o_1_1⟩) => (.exit 0, ⟨[(0, vq za a0), (1, vq zb a1), (4, vp 0 0), (6, vs v2), (7, vb o_1_0), (8, vi o_1_1), (27, vb false)], [.var [ci v5, ci v6, .ref 1, .ref 2, .ref 3], .obj 1 (eL za v7), .obj 1 (eL (zi za) v8), .obj 5 (eL zb v9)], 0⟩) := by
  induction m with
  | zero => intro v3 v4 o h; cases h
  | succ m ih => exact fun v3 v4 => tlp (
   .le zb a1 <|
   .lI v4 (a1.length : Int) (fun c1 =>
    .na v4 fun i2 =>
    .ix zh a1 i2 fun x3 =>
    .eI x3.Kind 6 (fun c4 =>
     .go (ih false (w64 (v4 + 1)))) fun c4 =>
    .ag 1 <|
    .ag 0 <|
    .ag 1 <|
    .is v2 i2 fun x5 =>
    .cl (OD x3 x5) fun r6 =>
    .vN 0 r6 (
     .go (ih v3 (w64 (v4 + 1)))) <|
    .ret (.inl (2, 0, [], [], []))) fun c1 =>
   .ret (.inr (v3, v4)))
def qD (a1 : (List GValue)) (v2 : Int) (v3 : Int) (v4 : Int) (v5 : Int) (v6 : (List UInt8)) (v7 : (List (List UInt8))) (v8 : (List GValue)) (v9 : (List UInt8)) (v10 : (List (List UInt8))) : Nat → Int → (List GValue) → Option (Int × (List GValue))
  | 0, _, _ => none
  | m + 1, v1, v11 =>
  (a1[0]?).bind fun x1 =>
  if v1 < (x1.K.length : Int) then
   (zH v1).bind fun i3 =>
   (x1.K[i3]?).bind fun x4 =>
   if y4 88 (v11.length + [(GValue.mk 3 0 x4 [] [])].length) then
   qD a1 v2 v3 v4 v5 v6 v7 v8 v9 v10 m (w64 (v1 + 1)) (v11 ++ [(GValue.mk 3 0 x4 [] [])])
   else none
  else
  some (v1, v11)
theorem RX (a1 : (List GValue)) (v2 : Int) (v3 : Int) (v4 : Int) (v5 : Int) (v6 : (List UInt8)) (v7 : (List (List UInt8))) (v8 : (List GValue)) (v9 : (List UInt8)) (v10 : (List (List UInt8))) (m : Nat) : ∀ (v1 : Int) (v11 : (List GValue)), Ol (qD a1 v2 v3 v4 v5 v6 v7 v8 v9 v10 m v1 v11) 138 (zQ Tryz.f138 1) ⟨[(1, vq zb a1), (4, vp 0 0), (9, vp 1 0), (10, vi v1)], [.var [ci v2, ci v3, .ref 2, .ref 3, .ref 4], .var [ci v4, ci v5, .ref 5, .ref 6, .ref 7], .obj 1 (eL za v6), .obj 1 (eL (zi za) v7), .obj 5 (eL zb v8), .obj 1 (eL za v9), .obj 1 (eL (zi za) v10), .obj 5 (eL zb v11)], 0⟩ fun o => match o with | ⟨o_0, o_1⟩ => (.exit 3, ⟨[(1, vq zb a1), (4, vp 0 0), (9, vp 1 0), (10, vi o_0), (96, vb false)], [.var [ci v2, ci v3, .ref 2, .ref 3, .ref 4], .var [ci v4, ci v5, .ref 5, .ref 6, .ref 7], .obj 1 (eL za v6), .obj 1 (eL (zi za) v7), .obj 5 (eL zb v8), .obj 1 (eL za v9), .obj 1 (eL (zi za) v10), .obj 5 (eL zb o_1)], 0⟩) := by
  induction m with
  | zero => intro v1 v11 o h; cases h
  | succ m ih => exact fun v1 v11 => tlp (
   .nl 0 <|
   .ix zh a1 0 fun x1 =>
   .le (zi za) x1.K <|
   .lI v1 (x1.K.length : Int) (fun c2 =>
    .nl 0 <|
    .ag 0 <|
    .na v1 fun i3 =>
    .ix0 (zi za) x1.K i3 fun x4 =>
    .vw (zn za) [] <|
    .vw zc [] <|
    .pl zc [(GValue.mk 3 0 x4 [] [])] <|
    .ap 88 zc v11 [(GValue.mk 3 0 x4 [] [])] fun n5 =>
    .go (ih (w64 (v1 + 1)) (v11 ++ [(GValue.mk 3 0 x4 [] [])]))) fun c2 =>
   .ret (v1, v11))
def YG (n : Nat) (a0 : (List UInt8)) (a1 : (List GValue)) : Option (GValue × Int) :=
 (Yf a0).bind fun r1 =>
 if (r1.length : Int) = 0 then
  some ((GValue.mk 0 0 [] [] []), 5)
 else
 if (r1.length : Int) = (a1.length : Int) then
  (wC a0 a1 r1 0 0 [] [] [] n true 0).bind fun o4 =>
  match o4 with
  | .inl ⟨o4_0_0, o4_0_1, o4_0_2, o4_0_3, o4_0_4⟩ =>
   some ((GValue.mk o4_0_1 o4_0_1 o4_0_2 o4_0_3 o4_0_4), o4_0_0)
  | .inr (⟨o4_1_0, o4_1_1⟩) =>
   match o4_1_0 with
   | true =>
    if a0 = [108, 101, 110] then
     (a1[0]?).bind fun x6 =>
     if x6.Kind = 3 then
      some ((GValue.mk 2 (x6.S.length : Int) [] [] []), 0)
     else
     some ((GValue.mk 2 (x6.L.length : Int) [] [] []), 0)
    else
    if a0 = [99, 97, 116] then
     (a1[0]?).bind fun x7 =>
     if y4 1 (0 + x7.S.length) then
     (a1[1]?).bind fun x9 =>
     if y4 1 (x7.S.length + x9.S.length) then
     (xg (GValue.mk 3 0 (x7.S ++ x9.S) [] [])).bind fun ⟨r11_0, r11_1⟩ =>
     some (r11_0, r11_1)
     else none
     else none
    else
    if a0 = [107, 101, 121, 115] then
     (qD a1 0 0 4 0 [] [] [] [] [] n 0 []).bind fun ⟨o8_0, o8_1⟩ =>
     some ((GValue.mk 4 0 [] [] o8_1), 0)
    else
    if a0 = [118, 97, 108, 115] then
     (a1[0]?).bind fun x9 =>
     some ((GValue.mk 4 0 [] [] x9.L), 0)
    else
    if a0 = [104, 97, 115] then
     (a1[0]?).bind fun x10 =>
     (a1[1]?).bind fun x11 =>
     (jn x10 x11.S).bind fun r12 =>
     (jo (decide (0 <= r12))).bind fun r13 =>
     some (r13, 0)
    else
    if a0 = [109, 105, 110] then
     (a1[1]?).bind fun x11 =>
     (a1[0]?).bind fun x12 =>
     if x11.N < x12.N then
      some (x11, 0)
     else
     some (x12, 0)
    else
    (a1[1]?).bind fun x11 =>
    (a1[0]?).bind fun x12 =>
    if x12.N < x11.N then
     some (x11, 0)
    else
    some (x12, 0)
   | false =>
    (z6).bind fun r5 =>
    some (r5, 0)
 else
 some ((GValue.mk 0 0 [] [] []), 5)
theorem Mf (n : Nat) : KY (YG n) := fun a0 a1 => tc (
 .cl (Pm a0) fun r1 =>
 .eI (r1.length : Int) 0 (fun c2 =>
  .vw ze [] <|
  .vw (zn za) [] <|
  .vw zc [] <|
  .ret ((GValue.mk 0 0 [] [] []), 5)) fun c2 =>
 .le zb a1 <|
 .eI (r1.length : Int) (a1.length : Int) (fun c3 =>
  .l2 (RW a0 a1 r1 0 0 [] [] [] n true 0) (fun ⟨o4_0_0, o4_0_1, o4_0_2, o4_0_3, o4_0_4⟩ =>
   .vw ze o4_0_2 <|
   .vw (zn za) o4_0_3 <|
   .vw zc o4_0_4 <|
   .ret ((GValue.mk o4_0_1 o4_0_1 o4_0_2 o4_0_3 o4_0_4), o4_0_0)) fun ⟨o4_1_0, o4_1_1⟩ =>
  .vN 0 o4_1_0 (
   .bt a0 <|
   .sI a0 [108, 101, 110] (fun c5 =>
    .nl 0 <|
    .ix zh a1 0 fun x6 =>
    .eI x6.Kind 3 (fun c7 =>
     .nl 0 <|
     .ag 0 <|
     .le za x6.S <|
     .vw ze [] <|
     .vw (zn za) [] <|
     .vw zc [] <|
     .ret ((GValue.mk 2 (x6.S.length : Int) [] [] []), 0)) fun c7 =>
    .nl 0 <|
    .ag 0 <|
    .le zb x6.L <|
    .vw ze [] <|
    .vw (zn za) [] <|
    .vw zc [] <|
    .ret ((GValue.mk 2 (x6.L.length : Int) [] [] []), 0)) fun c5 =>
   .sI a0 [99, 97, 116] (fun c6 =>
    .nl 0 <|
    .ix zh a1 0 fun x7 =>
    .ap 1 ze [] x7.S fun n8 =>
    .nl 1 <|
    .ix zh a1 1 fun x9 =>
    .ap 1 ze x7.S x9.S fun n10 =>
    .vw ze (x7.S ++ x9.S) <|
    .vw (zn za) [] <|
    .vw zc [] <|
    .cl (qC (GValue.mk 3 0 (x7.S ++ x9.S) [] [])) fun ⟨r11_0, r11_1⟩ =>
    .ret (r11_0, r11_1)) fun c6 =>
   .sI a0 [107, 101, 121, 115] (fun c7 =>
    .lp (RX a1 0 0 4 0 [] [] [] [] [] n 0 []) fun ⟨o8_0, o8_1⟩ =>
    .vw ze [] <|
    .vw (zn za) [] <|
    .vw zc o8_1 <|
    .ret ((GValue.mk 4 0 [] [] o8_1), 0)) fun c7 =>
   .sI a0 [118, 97, 108, 115] (fun c8 =>
    .nl 0 <|
    .ix zh a1 0 fun x9 =>
    .vw ze [] <|
    .vw (zn za) [] <|
    .ret ((GValue.mk 4 0 [] [] x9.L), 0)) fun c8 =>
   .sI a0 [104, 97, 115] (fun c9 =>
    .nl 0 <|
    .ix zh a1 0 fun x10 =>
    .nl 1 <|
    .ix zh a1 1 fun x11 =>
    .cl (JE x10 x11.S) fun r12 =>
    .gD 0 r12 <|
    .cl (Ye (decide (0 <= r12))) fun r13 =>
    .vw ze r13.S <|
    .vo (zC 1 z9) r13.K <|
    .vo zz r13.L <|
    .ret (r13, 0)) fun c9 =>
   .sI a0 [109, 105, 110] (fun c10 =>
    .nl 1 <|
    .ix zh a1 1 fun x11 =>
    .nl 0 <|
    .ix zh a1 0 fun x12 =>
    .lI x11.N x12.N (fun c13 =>
     .nl 1 <|
     .ag 1 <|
     .ret (x11, 0)) fun c13 =>
    .nl 0 <|
    .ag 0 <|
    .ret (x12, 0)) fun c10 =>
   .nl 1 <|
   .ix zh a1 1 fun x11 =>
   .nl 0 <|
   .ix zh a1 0 fun x12 =>
   .lI x12.N x11.N (fun c13 =>
    .nl 1 <|
    .ag 1 <|
    .ret (x11, 0)) fun c13 =>
   .nl 0 <|
   .ag 0 <|
   .ret (x12, 0)) <|
  .cl (zA) fun r5 =>
  .vw ze r5.S <|
  .vo (zC 1 z9) r5.K <|
  .vo zz r5.L <|
  .ret (r5, 0)) fun c3 =>
 .vw ze [] <|
 .vw (zn za) [] <|
 .vw zc [] <|
 .ret ((GValue.mk 0 0 [] [] []), 5)) (zj Tryz.func138)
theorem Du (a : List UInt8) : Yf a = some (zK a) := by
 unfold Yf zK
 by_cases h : a = [108, 101, 110]
 ·rw [if_pos h, if_pos h]
 rw [if_neg h, if_neg h]
 clear h
 by_cases h : a = [99, 97, 116]
 ·rw [if_pos h, if_pos h]
 rw [if_neg h, if_neg h]
 clear h
 by_cases h : a = [107, 101, 121, 115]
 ·rw [if_pos h, if_pos h]
 rw [if_neg h, if_neg h]
 clear h
 by_cases h : a = [118, 97, 108, 115]
 ·rw [if_pos h, if_pos h]
 rw [if_neg h, if_neg h]
 clear h
 by_cases h : a = [104, 97, 115]
 ·rw [if_pos h, if_pos h]
 rw [if_neg h, if_neg h]
 clear h
 by_cases h : a = [109, 105, 110]
 ·rw [if_pos h, if_pos h]
 rw [if_neg h, if_neg h]
 clear h
 by_cases h : a = [109, 97, 120]
 ·rw [if_pos h, if_pos h]
 rw [if_neg h, if_neg h]
theorem zcs (x : GValue) (c : UInt8) : YF x c = some (Wb x c) := by
 unfold YF Wb
 by_cases h1 : ((c.toNat : Nat) : Int) = 116
 ·rw [if_pos h1, if_pos h1]
 rw [if_neg h1, if_neg h1]
 by_cases h2 : ((c.toNat : Nat) : Int) = 105
 ·rw [if_pos h2, if_pos h2]
 rw [if_neg h2, if_neg h2]
 by_cases h3 : ((c.toNat : Nat) : Int) = 109
 ·rw [if_pos h3, if_pos h3]
 rw [if_neg h3, if_neg h3]
 by_cases h4 : x.Kind = 3
 ·rw [if_pos h4]; simp [h4]
 by_cases h5 : x.Kind = 4
 ·rw [if_neg h4, if_pos h5]; simp [h5]
 ·rw [if_neg h4, if_neg h5]; simp [h4, h5]
theorem N7 {a0 : List UInt8} {a1 : List GValue} {v2 : List UInt8} {v5 v6 : Int} {v7 : List UInt8} {v8 : List (List UInt8)} {v9 : List GValue} (ha : a1.length <= 2 ^ 40) : ∀ (l p : List GValue) (cs q : List UInt8) (m : Nat) (b : Bool), a1 = p ++ l → v2 = q ++ cs → q.length = p.length → cs.length = l.length → l.length < m →
  ∃ z, wC a0 a1 v2 v5 v6 v7 v8 v9 m b (p.length : Int) = some (if xB cs l = true then .inr (b && xn l, z) else .inl (2, 0, [], [], [])) := by
 intro l
 induction l with
 | nil =>
  intro p cs q m b he h2 hq hc hm
  subst he
  obtain ⟨m, rfl, _⟩ := zg hm
  obtain rfl := List.length_eq_zero_iff.1 hc
  exact ⟨_, by rw [wC, if_neg (yD p)]; simp [xB, xn]; rfl⟩
 | cons x l ih =>
  intro p cs q m b he h2 hq hc hm
  obtain ⟨m, rfl, hm'⟩ := zg hm
  have hlen : a1.length = p.length + (l.length + 1) := by rw [he]; simp
  cases cs with
  | nil => simp at hc
  | cons c cs =>
  simp only [List.length_cons] at hc hm'
  rw [wC, if_pos (by omega), zl, Option.bind_some, show a1[p.length]? = some x by rw [he]; exact yg p x l, Option.bind_some, y8 p x (by omega)]
  have ihb := fun b => ih (p ++ [x]) cs (q ++ [c]) m b (by rw [he]; simp) (by rw [h2]; simp) (by simp [hq]) (by omega) (by omega)
  rw [xB]
  unfold xn
  rw [List.all_cons]
  by_cases h6 : x.Kind = 6
  ·obtain ⟨z, hz⟩ := ihb false
   refine ⟨z, ?_⟩
   rw [if_pos h6, hz]
   simp [h6]
  ·rw [if_neg h6, show v2[p.length]? = some c by rw [h2, <- hq]; exact yg q c cs, Option.bind_some, zcs, Option.bind_some]
   cases hf : Wb x c with
   | true =>
    obtain ⟨z, hz⟩ := ihb b
    refine ⟨z, ?_⟩
    dsimp only
    rw [hz]
    simp [h6, xn]
   | false =>
    exact ⟨0, by simp [h6]⟩
theorem N8 {a1 : List GValue} {x : GValue} {v2 v3 v4 v5 : Int} {v6 : List UInt8} {v7 : List (List UInt8)} {v8 : List GValue} {v9 : List UInt8} {v10 : List (List UInt8)} (h0 : a1[0]? = some x) (hx : x.K.length <= 2 ^ 39) : ∀ (l p : List (List UInt8)) (m : Nat), x.K = p ++ l → l.length < m → ∃ z, qD a1 v2 v3 v4 v5 v6 v7 v8 v9 v10 m (p.length : Int) (p.map fun k => GValue.mk 3 0 k [] []) = some (z, x.K.map fun k => GValue.mk 3 0 k [] []) := by
 intro l
 induction l with
 | nil =>
  intro p m he hm
  obtain ⟨m, rfl, _⟩ := zg hm
  exact ⟨_, by rw [qD, h0, Option.bind_some, he, if_neg (yD p), List.append_nil]⟩
 | cons y l ih =>
  intro p m he hm
  obtain ⟨m, rfl, hm'⟩ := zg hm
  have hlen : x.K.length = p.length + (l.length + 1) := by rw [he]; simp
  obtain ⟨z, hz⟩ := ih (p ++ [y]) m (by rw [he]; simp) (by simp only [List.length_cons] at hm'; omega)
  refine ⟨z, ?_⟩
  rw [qD, h0, Option.bind_some, if_pos (by omega), zl, Option.bind_some, show x.K[p.length]? = some y by rw [he]; exact yg p y l, Option.bind_some, if_pos (xb (by decide) (by simp only [List.length_map, List.length_cons, List.length_nil]; omega)), y8 p y (by omega)]
  rw [List.map_append] at hz
  exact hz
theorem Dv {v : GValue} (h : vsz v <= 2 ^ 20) : kQ v = some (zp v) := by
 unfold kQ Zd
 rw [if_pos ⟨h, by decide, by decide, by decide⟩, Option.bind_some]
 congr 1
 unfold okV zp
 rw [show (6 - (1 : Int)).toNat = 5 from rfl]
 by_cases hc : shV 5 v = true ∧ (ptV v : Int) <= 40
 ·rw [if_pos hc, decide_eq_true hc]; exact decide_eq_true (by omega)
 ·rw [if_neg hc, decide_eq_false hc]; rfl
theorem L7 (s : List UInt8) : zp (.mk 3 0 s [] []) = xo s := by
 unfold zp
 have h1 : shV 5 (.mk 3 0 s [] []) = xo s := by
  simp [shV, zO, GValue.Kind, GValue.N, GValue.S, GValue.K, GValue.L]
 have h2 : ptV (.mk 3 0 s [] []) = 1 := by simp [ptV, yW]
 rw [h1, h2]
 cases xo s <;> simp
theorem N9 {s t : List UInt8} (hs : xo s = true) (ht : xo t = true) : xo (s ++ t) = decide ((s ++ t).length <= 20) := by
 unfold xo at hs ht ⊢
 rw [Bool.and_eq_true] at hs ht
 rw [List.all_append, hs.2, ht.2]; simp
theorem TX {v : GValue} (h : zp v = true) (hk : v.Kind = 3) : xo v.S = true := by
 have := (kG h).1
 unfold zO at this
 rw [if_neg (by omega), if_neg (by omega), if_neg (by omega), if_pos hk, Bool.and_eq_true] at this
 exact this.1
theorem HX {v : GValue} (h : zp v = true) (hk : v.Kind = 2) : v = .mk 2 v.N [] [] [] := by
 have := (kG h).1
 unfold zO at this
 rw [if_neg (by omega), if_neg (by omega), if_pos hk] at this
 have := of_decide_eq_true this
 obtain ⟨k, n, s, kk, l⟩ := v
 simp only [GValue.Kind, GValue.S, GValue.K, GValue.L, GValue.N] at *
 obtain ⟨_, h1, h2, h3⟩ := this
 subst hk
 rw [List.length_eq_zero_iff.1 h1, List.length_eq_zero_iff.1 h2, List.length_eq_zero_iff.1 h3]
theorem NA {v : GValue} (h : zp v = true) (hk : v.Kind = 5) : Asc v.K ∧ v.K.length <= 40 := by
 have := (kG h).1
 unfold zO at this
 rw [if_neg (by omega), if_neg (by omega), if_neg (by omega), if_neg (by omega), if_neg (by omega), if_pos hk, Bool.and_eq_true] at this
 have h1 := of_decide_eq_true this.1
 exact ⟨Gf this.2, by omega⟩
theorem Y3 {α : Type} {l : List α} (h : 1 = l.length) : ∃ x, l = [x] := List.length_eq_one_iff.1 h.symm
theorem kb {α : Type} {l : List α} (h : 2 = l.length) : ∃ x y, l = [x, y] := by
 match l, h with
 | [x, y], _ => exact ⟨x, y, rfl⟩
theorem Dw (a : List UInt8) : (zK a).length <= 2 := by
 unfold zK
 repeat' split
 all_goals simp
theorem BV {a0 : List UInt8} {a1 : List GValue} (hv : ∀ v ∈ a1, vsz v <= 2 ^ 20 ∧ zp v = true) (hl : a1.length <= 2 ^ 39) : YG 64 a0 a1 = some (Yq a0 a1) := by
 unfold YG Yq
 rw [Du, Option.bind_some]
 by_cases h0 : (zK a0).length = 0
 ·rw [if_pos (by omega), if_pos h0]; rfl
 rw [if_neg (by omega), if_neg h0]
 by_cases he : (zK a0).length = a1.length
 case neg =>
  rw [if_neg (by omega), if_neg he]; rfl
 rw [if_pos (by omega), if_pos he]
 have hw2 := Dw a0
 obtain ⟨z, hz⟩ := N7 (a0 := a0) (a1 := a1) (v2 := zK a0) (v5 := 0) (v6 := 0) (v7 := []) (v8 := []) (v9 := []) (by omega) a1 [] (zK a0) [] 64 true rfl rfl rfl he (by omega)
 simp only [List.length_nil, Int.natCast_zero] at hz
 rw [hz, Option.bind_some]
 by_cases hA : xB (zK a0) a1 = true
 case neg =>
  rw [if_neg hA, if_neg hA]; rfl
 rw [if_pos hA, if_pos hA]
 dsimp only
 by_cases hK : xn a1 = true
 case neg =>
  rw [if_neg hK, Bool.eq_false_iff.2 hK]; rfl
 rw [if_pos hK, hK]
 simp only [Bool.and_self]
 clear hz
 by_cases n1 : a0 = [108, 101, 110]
 ·subst n1
  rw [show zK [108, 101, 110] = [99] from rfl] at he hA
  obtain ⟨x, rfl⟩ := Y3 he
  have hx := hv x (by simp)
  simp only [xB, xn, List.all_cons, List.all_nil, kw, kz, jN, vI, Bool.and_true, Bool.or_eq_true, decide_eq_true_eq] at hA hK
  rw [if_pos rfl]
  show (if x.Kind = 3 then _ else _ : Option (GValue × Int)) = some (wH _ x _)
  rw [Gg]
  by_cases h3 : x.Kind = 3
  ·rw [if_pos h3, if_pos h3]
  ·rw [if_neg h3, if_neg h3]
 rw [if_neg n1]
 by_cases n1 : a0 = [99, 97, 116]
 ·subst n1
  rw [show zK [99, 97, 116] = [116, 116] from rfl] at he hA
  obtain ⟨x, y, rfl⟩ := kb he
  have hx := hv x (by simp)
  have hy := hv y (by simp)
  simp only [xB, xn, List.all_cons, List.all_nil, kw, kz, jN, vI, Bool.and_true, Bool.and_eq_true, Bool.or_eq_true, decide_eq_true_eq] at hA hK
  have k1 : x.Kind = 3 := hA.1.resolve_left hK.1
  have k2 : y.Kind = 3 := hA.2.resolve_left hK.2
  have t1 := TX hx.2 k1
  have t2 := TX hy.2 k2
  have l1 : x.S.length <= 20 := by unfold xo at t1; rw [Bool.and_eq_true] at t1; exact of_decide_eq_true t1.1
  have l2 : y.S.length <= 20 := by unfold xo at t2; rw [Bool.and_eq_true] at t2; exact of_decide_eq_true t2.1
  rw [if_pos rfl, show ([x, y] : List GValue)[0]? = some x from rfl, Option.bind_some, if_pos (xb (by decide) (by omega)), show ([x, y] : List GValue)[1]? = some y from rfl, Option.bind_some, if_pos (xb (by decide) (by omega))]
  unfold xg
  rw [Dv (by simp [vsz, qe, bsz]; omega), L7, N9 t1 t2]
  show _ = some (wH _ x y)
  rw [Gh]
  by_cases h20 : (x.S ++ y.S).length <= 20
  ·rw [decide_eq_true h20, if_neg (by omega)]; rfl
  ·rw [decide_eq_false h20, if_pos (by omega)]; rfl
 rw [if_neg n1]
 by_cases n1 : a0 = [107, 101, 121, 115]
 ·subst n1
  rw [show zK [107, 101, 121, 115] = [109] from rfl] at he hA
  obtain ⟨x, rfl⟩ := Y3 he
  have hx := hv x (by simp)
  simp only [xB, xn, List.all_cons, List.all_nil, kw, kz, jN, vI, Bool.and_true, Bool.or_eq_true, decide_eq_true_eq] at hA hK
  have k1 : x.Kind = 5 := hA.resolve_left hK
  rw [if_pos rfl]
  have h5 := (NA hx.2 k1).2
  obtain ⟨z, hz⟩ := N8 (a1 := [x]) (x := x) (v2 := 0) (v3 := 0) (v4 := 4) (v5 := 0) (v6 := []) (v7 := []) (v8 := []) (v9 := []) (v10 := []) rfl (by omega) x.K [] 64 rfl (by omega)
  simp only [List.length_nil, Int.natCast_zero, List.map_nil] at hz
  rw [hz]
  show _ = some (wH _ x _)
  rw [LK]; rfl
 rw [if_neg n1]
 by_cases n1 : a0 = [118, 97, 108, 115]
 ·subst n1
  rw [show zK [118, 97, 108, 115] = [109] from rfl] at he hA
  obtain ⟨x, rfl⟩ := Y3 he
  have hx := hv x (by simp)
  simp only [xB, xn, List.all_cons, List.all_nil, kw, kz, jN, vI, Bool.and_true, Bool.or_eq_true, decide_eq_true_eq] at hA hK
  rw [if_pos rfl]
  show _ = some (wH _ x _)
  rw [LL]; rfl
 rw [if_neg n1]
 by_cases n1 : a0 = [104, 97, 115]
 ·subst n1
  rw [show zK [104, 97, 115] = [109, 116] from rfl] at he hA
  obtain ⟨x, y, rfl⟩ := kb he
  have hx := hv x (by simp)
  have hy := hv y (by simp)
  simp only [xB, xn, List.all_cons, List.all_nil, kw, kz, jN, vI, Bool.and_true, Bool.and_eq_true, Bool.or_eq_true, decide_eq_true_eq] at hA hK
  have k1 : x.Kind = 5 := hA.1.resolve_left hK.1
  have h5 := (NA hx.2 k1).2
  rw [if_pos rfl, show ([x, y] : List GValue)[0]? = some x from rfl, Option.bind_some, show ([x, y] : List GValue)[1]? = some y from rfl, Option.bind_some]
  unfold jn jo
  rw [if_pos (by omega), Option.bind_some]
  show _ = some (wH _ x y)
  rw [Gi]
  by_cases hm : y.S ∈ x.K
  ·rw [decide_eq_true (by rw [O9]; exact hm), if_pos hm]; rfl
  ·rw [decide_eq_false (by rw [O9]; exact hm), if_neg hm]; rfl
 rw [if_neg n1]
 by_cases n1 : a0 = [109, 105, 110]
 ·subst n1
  rw [show zK [109, 105, 110] = [105, 105] from rfl] at he hA
  obtain ⟨x, y, rfl⟩ := kb he
  have hx := hv x (by simp)
  have hy := hv y (by simp)
  simp only [xB, xn, List.all_cons, List.all_nil, kw, kz, jN, vI, Bool.and_true, Bool.and_eq_true, Bool.or_eq_true, decide_eq_true_eq] at hA hK
  have k1 : x.Kind = 2 := hA.1.resolve_left hK.1
  have k2 : y.Kind = 2 := hA.2.resolve_left hK.2
  rw [if_pos rfl, show ([x, y] : List GValue)[1]? = some y from rfl, Option.bind_some, show ([x, y] : List GValue)[0]? = some x from rfl, Option.bind_some]
  show _ = some (wH _ x y)
  rw [Gj]
  by_cases hm : y.N < x.N
  ·rw [if_pos hm, if_pos hm, <- HX hy.2 k2]
  ·rw [if_neg hm, if_neg hm, <- HX hx.2 k1]
 rw [if_neg n1]
 by_cases n1 : a0 = [109, 97, 120]
 ·subst n1
  rw [show zK [109, 97, 120] = [105, 105] from rfl] at he hA
  obtain ⟨x, y, rfl⟩ := kb he
  have hx := hv x (by simp)
  have hy := hv y (by simp)
  simp only [xB, xn, List.all_cons, List.all_nil, kw, kz, jN, vI, Bool.and_true, Bool.and_eq_true, Bool.or_eq_true, decide_eq_true_eq] at hA hK
  have k1 : x.Kind = 2 := hA.1.resolve_left hK.1
  have k2 : y.Kind = 2 := hA.2.resolve_left hK.2
  rw [show ([x, y] : List GValue)[1]? = some y from rfl, Option.bind_some, show ([x, y] : List GValue)[0]? = some x from rfl, Option.bind_some]
  show _ = some (wH _ x y)
  rw [Gk]
  by_cases hm : x.N < y.N
  ·rw [if_pos hm, if_pos hm, <- HX hy.2 k2]
  ·rw [if_neg hm, if_neg hm, <- HX hx.2 k1]
 exfalso
 have : zK a0 = [] := by
  unfold zK
  simp [*]
 simp [this] at h0
open Classical in
noncomputable def vU (a0 : (List UInt8)) (a1 : (List GValue)) : Option (GValue × Int) := if (∀ v ∈ a1, vsz v <= 2 ^ 20 ∧ zp v = true) ∧ a1.length <= 2 ^ 39 then some (Yq a0 a1) else none
theorem TY (a0 : (List UInt8)) (a1 : (List GValue)) (r : (GValue × Int)) (h : vU a0 a1 = some r) : ∃ n, YG n a0 a1 = some r := by
 unfold vU at h
 obtain ⟨⟨hv, hl⟩, h⟩ := yc h
 exact ⟨64, by rw [BV hv hl, h]⟩
theorem OE : KY vU := fun a0 a1 r h => (TY a0 a1 r h).elim fun n hn => Mf n a0 a1 r hn
def jp (a0 : GValue) (a1 : GValue) (a2 : Int) : Option (Bool × Int) :=
 if a0.Kind = a2 then
  if a1.Kind = a2 then
   some (true, 0)
  else
  if a1.Kind = 6 then
   some (false, 0)
  else
  some (false, 2)
 else
 if a0.Kind = 6 then
  if a1.Kind = a2 then
   some (false, 0)
  else
  if a1.Kind = 6 then
   some (false, 0)
  else
  some (false, 2)
 else
 some (false, 2)
theorem Yg (a0 : GValue) (a1 : GValue) (a2 : Int) : Oc (jp a0 a1 a2) 187 [] [.val true (zf a0), .val true (zf a1), vi a2] fun r => (.tup [(false, [.bool r.1]), (false, [ci r.2])], []) := tc (
 .eI a0.Kind a2 (fun c1 =>
  .eI a1.Kind a2 (fun c2 =>
   .q (.eT c1) <|
   .q (.eT c2) <|
   .ret (true, 0)) fun c2 =>
  .eI a1.Kind 6 (fun c3 =>
   .q (.eT c1) <|
   .q (.eF c2) <|
   .ret (false, 0)) fun c3 =>
  .ret (false, 2)) fun c1 =>
 .eI a0.Kind 6 (fun c2 =>
  .eI a1.Kind a2 (fun c3 =>
   .q (.eF c1) <|
   .ret (false, 0)) fun c3 =>
  .eI a1.Kind 6 (fun c4 =>
   .q (.eF c1) <|
   .ret (false, 0)) fun c4 =>
  .ret (false, 2)) fun c2 =>
 .ret (false, 2)) (zj Tryz.func187)
def X0 (a0 : Int) (a1 : Int) : Option Bool :=
 if a0 < 0 then
  if a1 < 0 then
   if (w64 (0 - a0)) ≠ 0 then
   some (decide ((w64 ((1000000000000 : Int).tdiv (w64 (0 - a0)))) < (w64 (0 - a1))))
   else none
  else
  if (w64 (0 - a0)) ≠ 0 then
  some (decide ((w64 ((1000000000000 : Int).tdiv (w64 (0 - a0)))) < a1))
  else none
 else
 if a1 < 0 then
  if a0 ≠ 0 then
  some (decide ((w64 ((1000000000000 : Int).tdiv a0)) < (w64 (0 - a1))))
  else none
 else
 if a0 ≠ 0 then
 some (decide ((w64 ((1000000000000 : Int).tdiv a0)) < a1))
 else none
theorem Mg (a0 : Int) (a1 : Int) : Oc (X0 a0 a1) 209 [] [vi a0, vi a1] fun r => (vb r, []) := tc (
 .lI a0 0 (fun c1 =>
  .lI a1 0 (fun c2 =>
   .nd ((w64 (0 - a0)) ≠ 0) fun n3 =>
   .q ⟨.nz (w64 (0 - a0)), .b true, A.nz n3⟩ <|
   .lD (w64 ((1000000000000 : Int).tdiv (w64 (0 - a0)))) (w64 (0 - a1)) <|
   .ret (decide ((w64 ((1000000000000 : Int).tdiv (w64 (0 - a0)))) < (w64 (0 - a1))))) fun c2 =>
  .nd ((w64 (0 - a0)) ≠ 0) fun n3 =>
  .q ⟨.nz (w64 (0 - a0)), .b true, A.nz n3⟩ <|
  .lD (w64 ((1000000000000 : Int).tdiv (w64 (0 - a0)))) a1 <|
  .ret (decide ((w64 ((1000000000000 : Int).tdiv (w64 (0 - a0)))) < a1))) fun c1 =>
 .lI a1 0 (fun c2 =>
  .nd (a0 ≠ 0) fun n3 =>
  .q ⟨.nz a0, .b true, A.nz n3⟩ <|
  .lD (w64 ((1000000000000 : Int).tdiv a0)) (w64 (0 - a1)) <|
  .ret (decide ((w64 ((1000000000000 : Int).tdiv a0)) < (w64 (0 - a1))))) fun c2 =>
 .nd (a0 ≠ 0) fun n3 =>
 .q ⟨.nz a0, .b true, A.nz n3⟩ <|
 .lD (w64 ((1000000000000 : Int).tdiv a0)) a1 <|
 .ret (decide ((w64 ((1000000000000 : Int).tdiv a0)) < a1))) (zj Tryz.func209)
def jR (a0 : Int) (a1 : Int) (a2 : Int) : Option (GValue × Int) :=
 if a0 = 15 then
  if a1 = 0 then
   (xg (GValue.mk 2 (w64 (a1 * a2)) [] [] [])).bind fun ⟨r3_0, r3_1⟩ =>
   some (r3_0, r3_1)
  else
  if 1000000000000 < a2 then
   some ((GValue.mk 0 0 [] [] []), 4)
  else
  if a2 < (-1000000000000) then
   some ((GValue.mk 0 0 [] [] []), 4)
  else
  if 1000000000000 < a1 then
   some ((GValue.mk 0 0 [] [] []), 4)
  else
  (X0 a1 a2).bind fun r6 =>
  match r6 with
  | true =>
   some ((GValue.mk 0 0 [] [] []), 4)
  | false =>
   (xg (GValue.mk 2 (w64 (a1 * a2)) [] [] [])).bind fun ⟨r7_0, r7_1⟩ =>
   some (r7_0, r7_1)
 else
 if a0 = 16 then
  (xg (GValue.mk 2 (w64 (a1 + a2)) [] [] [])).bind fun ⟨r3_0, r3_1⟩ =>
  some (r3_0, r3_1)
 else
 (xg (GValue.mk 2 (w64 (a1 - a2)) [] [] [])).bind fun ⟨r3_0, r3_1⟩ =>
 some (r3_0, r3_1)
theorem XQ (a0 : Int) (a1 : Int) (a2 : Int) : Oc (jR a0 a1 a2) 188 [] [vi a0, vi a1, vi a2] fun r => (.tup [(true, (zf r.1)), (false, [ci r.2])], []) := tc (
 .eI a0 15 (fun c1 =>
  .eI a1 0 (fun c2 =>
   .vw ze [] <|
   .vw (zn za) [] <|
   .vw zc [] <|
   .cl (qC (GValue.mk 2 (w64 (a1 * a2)) [] [] [])) fun ⟨r3_0, r3_1⟩ =>
   .ret (r3_0, r3_1)) fun c2 =>
  .lI 1000000000000 a2 (fun c3 =>
   .vw ze [] <|
   .vw (zn za) [] <|
   .vw zc [] <|
   .ret ((GValue.mk 0 0 [] [] []), 4)) fun c3 =>
  .lI a2 (-1000000000000) (fun c4 =>
   .vw ze [] <|
   .vw (zn za) [] <|
   .vw zc [] <|
   .ret ((GValue.mk 0 0 [] [] []), 4)) fun c4 =>
  .lI 1000000000000 a1 (fun c5 =>
   .vw ze [] <|
   .vw (zn za) [] <|
   .vw zc [] <|
   .ret ((GValue.mk 0 0 [] [] []), 4)) fun c5 =>
  .cl (Mg a1 a2) fun r6 =>
  .vM 3 r6 (
   .vw ze [] <|
   .vw (zn za) [] <|
   .vw zc [] <|
   .ret ((GValue.mk 0 0 [] [] []), 4)) <|
  .vw ze [] <|
  .vw (zn za) [] <|
  .vw zc [] <|
  .cl (qC (GValue.mk 2 (w64 (a1 * a2)) [] [] [])) fun ⟨r7_0, r7_1⟩ =>
  .ret (r7_0, r7_1)) fun c1 =>
 .eI a0 16 (fun c2 =>
  .vw ze [] <|
  .vw (zn za) [] <|
  .vw zc [] <|
  .cl (qC (GValue.mk 2 (w64 (a1 + a2)) [] [] [])) fun ⟨r3_0, r3_1⟩ =>
  .ret (r3_0, r3_1)) fun c2 =>
 .vw ze [] <|
 .vw (zn za) [] <|
 .vw zc [] <|
 .cl (qC (GValue.mk 2 (w64 (a1 - a2)) [] [] [])) fun ⟨r3_0, r3_1⟩ =>
 .ret (r3_0, r3_1)) (zj Tryz.func188)
def kR (F : GValue → Option Bool) : Prop := ∀ (a0 : GValue), Oc (F a0) 189 [] [.val true (zf a0)] fun r => (vb r, [])
def qk (G_spec_l2known : GValue → Option Bool) (a0 : GValue) : Nat → Int → Option (Bool ⊕ Int)
  | 0, _ => none
  | m + 1, v0 =>
  if v0 < (a0.L.length : Int) then
   (zH v0).bind fun i2 =>
   (a0.L[i2]?).bind fun x3 =>
   (G_spec_l2known x3).bind fun r4 =>
   match r4 with
   | true =>
    qk G_spec_l2known a0 m (w64 (v0 + 1))
   | false =>
    some (.inl false)
  else
  some (.inr v0)
theorem VQ (G_spec_l2known : GValue → Option Bool) (H_spec_l2known : kR G_spec_l2known) (a0 : GValue) (m : Nat) : ∀ (v0 : Int), Ol (qk G_spec_l2known a0 m v0) 189 (zQ Tryz.f189 0) ⟨[(1, vp 0 0), (3, vi v0)], [.var (zf a0)], 0⟩ fun o => match o with | .inl o_0 => (.ret, ⟨[(2, vb o_0)], [], 0⟩) | .inr (o_1) => (.exit 0, ⟨[(1, vp 0 0), (3, vi o_1), (11, vb false)], [.var (zf a0)], 0⟩) := by
  induction m with
  | zero => intro v0 o h; cases h
  | succ m ih => exact fun v0 => tlp (
   .le zb a0.L <|
   .lI v0 (a0.L.length : Int) (fun c1 =>
    .na v0 fun i2 =>
    .ix zh a0.L i2 fun x3 =>
    .cl (H_spec_l2known x3) fun r4 =>
    .vN 0 r4 (
     .go (ih (w64 (v0 + 1)))) <|
    .ret (.inl false)) fun c1 =>
   .ret (.inr v0))
def XR (G_spec_l2known : GValue → Option Bool) (n : Nat) (a0 : GValue) : Option Bool :=
 if a0.Kind = 6 then
  some false
 else
 (qk G_spec_l2known a0 n 0).bind fun o2 =>
 match o2 with
 | .inl o2_0 =>
  some o2_0
 | .inr (o2_1) =>
  some true
theorem OF (G_spec_l2known : GValue → Option Bool) (H_spec_l2known : kR G_spec_l2known) (n : Nat) : kR (XR G_spec_l2known n) := fun a0 => tc (
 .eI a0.Kind 6 (fun c1 =>
  .ret false) fun c1 =>
 .l2 (VQ G_spec_l2known H_spec_l2known a0 n 0) (fun o2_0 =>
  .ret o2_0) fun o2_1 =>
 .ret true) (zj Tryz.func189)
def wa : Nat → GValue → Option Bool
 | 0, _ => none
 | n + 1, a0 => XR (wa n) n a0
theorem TZ (n : Nat) : kR (wa n) := by
 induction n with
 | zero => exact fun _ _ h => (by rw [wa] at h; cases h)
 | succ n ih =>
  have ih_spec_l2known := ih
  exact fun a0 r h => OF (wa n) ih_spec_l2known n a0 r (by rw [wa] at h; exact h)
theorem NB {G : GValue → Option Bool} {v : GValue} (ha : v.L.length <= 2 ^ 40) (hG : ∀ x ∈ v.L, G x = some (knV x)) : ∀ (l p : List GValue) (m : Nat), v.L = p ++ l → l.length < m → ∃ z, qk G v m (p.length : Int) = some (if qx l = true then .inr z else .inl false) := by
 intro l
 induction l with
 | nil =>
  intro p m he hm
  obtain ⟨m, rfl, _⟩ := zg hm
  exact ⟨_, by rw [qk, if_neg (by rw [he]; exact yD p)]; rfl⟩
 | cons x l ih =>
  intro p m he hm
  obtain ⟨m, rfl, hm'⟩ := zg hm
  have hlen : v.L.length = p.length + (l.length + 1) := by rw [he]; simp
  rw [qk, if_pos (by omega), zl, Option.bind_some, show v.L[p.length]? = some x by rw [he]; exact yg p x l, Option.bind_some, hG x (by rw [he]; simp), Option.bind_some, qx]
  cases hx : knV x with
  | true =>
   dsimp only
   rw [y8 p x (by omega), Bool.true_and]
   exact ih (p ++ [x]) m (by rw [he]; simp) (by simp only [List.length_cons] at hm'; omega)
  | false => exact ⟨0, rfl⟩
theorem Dx : ∀ (N : Nat) (v : GValue), vsz v < N → vsz v <= 2 ^ 39 → ∀ f, vsz v + 2 <= f → wa f v = some (knV v) := by
 intro N
 induction N with
 | zero => intro v hv; omega
 | succ N ih =>
  intro v hv hs f hf
  have he := jz v
  have hl := qK v.L
  obtain ⟨f, rfl, _⟩ := zg (show 0 < f by omega)
  rw [wa]
  unfold XR
  rw [PJ]
  by_cases h6 : v.Kind = 6
  ·rw [if_pos h6, h6]; rfl
  ·rw [if_neg h6]
   obtain ⟨z, hz⟩ := NB (G := wa f) (v := v) (by omega) (fun x hx => by
    have := ZJ hx
    exact ih x (by omega) (by omega) f (by omega)) v.L [] f rfl (by omega)
   simp only [List.length_nil, Int.natCast_zero] at hz
   rw [hz, Option.bind_some, decide_eq_true h6, Bool.true_and]
   cases qx v.L <;> rfl
def j3 (a0 : GValue) : Option Bool := if vsz a0 <= 2 ^ 39 then some (knV a0) else none
theorem RY (a0 : GValue) (r : Bool) (h : j3 a0 = some r) : ∃ n, wa n a0 = some r := by
 unfold j3 at h
 obtain ⟨ha, h⟩ := yc h
 exact ⟨vsz a0 + 2, by rw [<- h]; exact Dx _ a0 (Nat.lt_succ_self _) ha _ (Nat.le_refl _)⟩
theorem Jh : kR j3 := by
 intro a0 r h
 obtain ⟨n, hn⟩ := RY a0 r h
 exact (TZ n) a0 r hn
def kS (a0 : Int) (a1 : Int) : Option Int :=
 if a0 < a1 then
  some (-1)
 else
 if a1 < a0 then
  some 1
 else
 some 0
theorem WI (a0 : Int) (a1 : Int) : Oc (kS a0 a1) 161 [] [vi a0, vi a1] fun r => (vi r, []) := tc (
 .lI a0 a1 (fun c1 =>
  .ret (-1)) fun c1 =>
 .lI a1 a0 (fun c2 =>
  .ret 1) fun c2 =>
 .ret 0) (zj Tryz.func161)
def ZB (F : GValue → GValue → Option Int) : Prop := ∀ (a0 : GValue) (a1 : GValue), Oc (F a0 a1) 93 [] [.val true (zf a0), .val true (zf a1)] fun r => (vi r, [])
def wo (G_spec_l2cmp : GValue → GValue → Option Int) (a0 : GValue) (a1 : GValue) : Nat → Int → Option (Int ⊕ Int)
  | 0, _ => none
  | m + 1, v0 =>
  if v0 < (a0.L.length : Int) then
   if v0 < (a1.L.length : Int) then
    if a0.Kind = 5 then
     (zH v0).bind fun i4 =>
     (a0.K[i4]?).bind fun x5 =>
     (a1.K[i4]?).bind fun x6 =>
     (yR x5 x6).bind fun r7 =>
     if r7 = 0 then
      (a0.L[i4]?).bind fun x9 =>
      (a1.L[i4]?).bind fun x10 =>
      (G_spec_l2cmp x9 x10).bind fun r11 =>
      if r11 = 0 then
       wo G_spec_l2cmp a0 a1 m (w64 (v0 + 1))
      else
      some (.inl r11)
     else
     some (.inl r7)
    else
    (zH v0).bind fun i4 =>
    (a0.L[i4]?).bind fun x5 =>
    (a1.L[i4]?).bind fun x6 =>
    (G_spec_l2cmp x5 x6).bind fun r7 =>
    if r7 = 0 then
     wo G_spec_l2cmp a0 a1 m (w64 (v0 + 1))
    else
    some (.inl r7)
   else
   some (.inr v0)
  else
  some (.inr v0)
theorem Ua (G_spec_l2cmp : GValue → GValue → Option Int) (H_spec_l2cmp : ZB G_spec_l2cmp) (a0 : GValue) (a1 : GValue) (m : Nat) : ∀ (v0 : Int), Ol (wo G_spec_l2cmp a0 a1 m v0) 93 (zQ Tryz.f93 0) ⟨[(2, vp 0 0), (3, vp 1 0), (5, vi v0)], [.var (zf a0), .var (zf a1)], 0⟩ fun o => match o with | .inl o_0 => (.ret, ⟨[(4, vi o_0)], [], 0⟩) | .inr (o_1) => (.exit 0, ⟨[(2, vp 0 0), (3, vp 1 0), (5, vi o_1), (47, vb false)], [.var (zf a0), .var (zf a1)], 0⟩) := by
  induction m with
  | zero => intro v0 o h; cases h
  | succ m ih => exact fun v0 => tlp (
   .le zb a0.L <|
   .lI v0 (a0.L.length : Int) (fun c1 =>
    .le zb a1.L <|
    .lI v0 (a1.L.length : Int) (fun c2 =>
     .eI a0.Kind 5 (fun c3 =>
      .na v0 fun i4 =>
      .ix0 (zi za) a0.K i4 fun x5 =>
      .ag 1 <|
      .ix0 (zi za) a1.K i4 fun x6 =>
      .cl (Xx x5 x6) fun r7 =>
      .eI r7 0 (fun c8 =>
       .ag 3 <|
       .ix zh a0.L i4 fun x9 =>
       .ag 4 <|
       .ix zh a1.L i4 fun x10 =>
       .cl (H_spec_l2cmp x9 x10) fun r11 =>
       .eI r11 0 (fun c12 =>
        .go (ih (w64 (v0 + 1)))) fun c12 =>
       .ret (.inl r11)) fun c8 =>
      .ret (.inl r7)) fun c3 =>
     .na v0 fun i4 =>
     .ix zh a0.L i4 fun x5 =>
     .ag 1 <|
     .ix zh a1.L i4 fun x6 =>
     .cl (H_spec_l2cmp x5 x6) fun r7 =>
     .eI r7 0 (fun c8 =>
      .go (ih (w64 (v0 + 1)))) fun c8 =>
     .ret (.inl r7)) fun c2 =>
    .ret (.inr v0)) fun c1 =>
   .ret (.inr v0))
def X1 (G_spec_l2cmp : GValue → GValue → Option Int) (n : Nat) (a0 : GValue) (a1 : GValue) : Option Int :=
 if a0.Kind = a1.Kind then
  if a0.Kind = 3 then
   (yR a0.S a1.S).bind fun r3 =>
   some r3
  else
  if a0.N = a1.N then
   (wo G_spec_l2cmp a0 a1 n 0).bind fun o4 =>
   match o4 with
   | .inl o4_0 =>
    some o4_0
   | .inr (o4_1) =>
    (kS (a0.L.length : Int) (a1.L.length : Int)).bind fun r5 =>
    some r5
  else
  (kS a0.N a1.N).bind fun r4 =>
  some r4
 else
 (kS a0.Kind a1.Kind).bind fun r2 =>
 some r2
theorem NC (G_spec_l2cmp : GValue → GValue → Option Int) (H_spec_l2cmp : ZB G_spec_l2cmp) (n : Nat) : ZB (X1 G_spec_l2cmp n) := fun a0 a1 => tc (
 .eI a0.Kind a1.Kind (fun c1 =>
  .eI a0.Kind 3 (fun c2 =>
   .cl (Xx a0.S a1.S) fun r3 =>
   .ret r3) fun c2 =>
  .eI a0.N a1.N (fun c3 =>
   .l2 (Ua G_spec_l2cmp H_spec_l2cmp a0 a1 n 0) (fun o4_0 =>
    .ret o4_0) fun o4_1 =>
   .le zb a0.L <|
   .le zb a1.L <|
   .cl (WI (a0.L.length : Int) (a1.L.length : Int)) fun r5 =>
   .ret r5) fun c3 =>
  .cl (WI a0.N a1.N) fun r4 =>
  .ret r4) fun c1 =>
 .cl (WI a0.Kind a1.Kind) fun r2 =>
 .ret r2) (zj Tryz.func93)
def xE : Nat → GValue → GValue → Option Int
 | 0, _, _ => none
 | n + 1, a0, a1 => X1 (xE n) n a0 a1
theorem OG (n : Nat) : ZB (xE n) := by
 induction n with
 | zero => exact fun _ _ _ h => (by rw [xE] at h; cases h)
 | succ n ih =>
  have ih_spec_l2cmp := ih
  exact fun a0 a1 r h => NC (xE n) ih_spec_l2cmp n a0 a1 r (by rw [xE] at h; exact h)
def kU (a0 : GValue) (a1 : GValue) : Option Int := xE (vsz a0 + 3) a0 a1
theorem Pn (a0 : GValue) (a1 : GValue) (r : Int) (h : kU a0 a1 = some r) : ∃ n, xE n a0 a1 = some r := ⟨_, h⟩
theorem Mh : ZB kU := by
 intro a0 a1 r h
 obtain ⟨n, hn⟩ := Pn a0 a1 r h
 exact (OG n) a0 a1 r hn
def X2 (a0 : Int) (a1 : GValue) (a2 : GValue) : Option (GValue × Int) :=
 if a0 = 15 then
  (jp a1 a2 2).bind fun ⟨r2_0, r2_1⟩ =>
  if r2_1 = 0 then
   match r2_0 with
   | true =>
    (jR a0 a1.N a2.N).bind fun ⟨r4_0, r4_1⟩ =>
    some (r4_0, r4_1)
   | false =>
    (z6).bind fun r4 =>
    some (r4, 0)
  else
  some ((GValue.mk 0 0 [] [] []), r2_1)
 else
 if a0 = 16 then
  (jp a1 a2 2).bind fun ⟨r3_0, r3_1⟩ =>
  if r3_1 = 0 then
   match r3_0 with
   | true =>
    (jR a0 a1.N a2.N).bind fun ⟨r5_0, r5_1⟩ =>
    some (r5_0, r5_1)
   | false =>
    (z6).bind fun r5 =>
    some (r5, 0)
  else
  some ((GValue.mk 0 0 [] [] []), r3_1)
 else
 if a0 = 17 then
  (jp a1 a2 2).bind fun ⟨r4_0, r4_1⟩ =>
  if r4_1 = 0 then
   match r4_0 with
   | true =>
    (jR a0 a1.N a2.N).bind fun ⟨r6_0, r6_1⟩ =>
    some (r6_0, r6_1)
   | false =>
    (z6).bind fun r6 =>
    some (r6, 0)
  else
  some ((GValue.mk 0 0 [] [] []), r4_1)
 else
 if a0 = 19 then
  (jp a1 a2 2).bind fun ⟨r5_0, r5_1⟩ =>
  if r5_1 = 0 then
   match r5_0 with
   | true =>
    (jo (decide (a1.N < a2.N))).bind fun r7 =>
    some (r7, 0)
   | false =>
    (z6).bind fun r7 =>
    some (r7, 0)
  else
  some ((GValue.mk 0 0 [] [] []), r5_1)
 else
 (j3 a1).bind fun r5 =>
 match r5 with
 | true =>
  (j3 a2).bind fun r6 =>
  match r6 with
  | true =>
   (kU a1 a2).bind fun r7 =>
   (jo (decide (r7 = 0))).bind fun r8 =>
   some (r8, 0)
  | false =>
   (z6).bind fun r7 =>
   some (r7, 0)
 | false =>
  (z6).bind fun r6 =>
  some (r6, 0)
theorem Mi (a0 : Int) (a1 : GValue) (a2 : GValue) : Oc (X2 a0 a1 a2) 139 [] [vi a0, .val true (zf a1), .val true (zf a2)] fun r => (.tup [(true, (zf r.1)), (false, [ci r.2])], []) := tc (
 .eI a0 15 (fun c1 =>
  .cl (Yg a1 a2 2) fun ⟨r2_0, r2_1⟩ =>
  .eI r2_1 0 (fun c3 =>
   .vN 1 r2_0 (
    .cl (XQ a0 a1.N a2.N) fun ⟨r4_0, r4_1⟩ =>
    .ret (r4_0, r4_1)) <|
   .cl (zA) fun r4 =>
   .vw ze r4.S <|
   .vo (zC 1 z9) r4.K <|
   .vo zz r4.L <|
   .ret (r4, 0)) fun c3 =>
  .vw ze [] <|
  .vw (zn za) [] <|
  .vw zc [] <|
  .ret ((GValue.mk 0 0 [] [] []), r2_1)) fun c1 =>
 .eI a0 16 (fun c2 =>
  .cl (Yg a1 a2 2) fun ⟨r3_0, r3_1⟩ =>
  .eI r3_1 0 (fun c4 =>
   .vN 1 r3_0 (
    .cl (XQ a0 a1.N a2.N) fun ⟨r5_0, r5_1⟩ =>
    .ret (r5_0, r5_1)) <|
   .cl (zA) fun r5 =>
   .vw ze r5.S <|
   .vo (zC 1 z9) r5.K <|
   .vo zz r5.L <|
   .ret (r5, 0)) fun c4 =>
  .vw ze [] <|
  .vw (zn za) [] <|
  .vw zc [] <|
  .ret ((GValue.mk 0 0 [] [] []), r3_1)) fun c2 =>
 .eI a0 17 (fun c3 =>
  .cl (Yg a1 a2 2) fun ⟨r4_0, r4_1⟩ =>
  .eI r4_1 0 (fun c5 =>
   .vN 1 r4_0 (
    .cl (XQ a0 a1.N a2.N) fun ⟨r6_0, r6_1⟩ =>
    .ret (r6_0, r6_1)) <|
   .cl (zA) fun r6 =>
   .vw ze r6.S <|
   .vo (zC 1 z9) r6.K <|
   .vo zz r6.L <|
   .ret (r6, 0)) fun c5 =>
  .vw ze [] <|
  .vw (zn za) [] <|
  .vw zc [] <|
  .ret ((GValue.mk 0 0 [] [] []), r4_1)) fun c3 =>
 .eI a0 19 (fun c4 =>
  .cl (Yg a1 a2 2) fun ⟨r5_0, r5_1⟩ =>
  .eI r5_1 0 (fun c6 =>
   .vN 1 r5_0 (
    .lD a1.N a2.N <|
    .cl (Ye (decide (a1.N < a2.N))) fun r7 =>
    .vw ze r7.S <|
    .vo (zC 1 z9) r7.K <|
    .vo zz r7.L <|
    .ret (r7, 0)) <|
   .cl (zA) fun r7 =>
   .vw ze r7.S <|
   .vo (zC 1 z9) r7.K <|
   .vo zz r7.L <|
   .ret (r7, 0)) fun c6 =>
  .vw ze [] <|
  .vw (zn za) [] <|
  .vw zc [] <|
  .ret ((GValue.mk 0 0 [] [] []), r5_1)) fun c4 =>
 .cl (Jh a1) fun r5 =>
 .vN 0 r5 (
  .an 0 0 <|
  .cl (Jh a2) fun r6 =>
  .an 0 1 <|
  .an 0 1 <|
  .vN 0 r6 (
   .cl (Mh a1 a2) fun r7 =>
   .eD r7 0 <|
   .cl (Ye (decide (r7 = 0))) fun r8 =>
   .vw ze r8.S <|
   .vo (zC 1 z9) r8.K <|
   .vo zz r8.L <|
   .ret (r8, 0)) <|
  .cl (zA) fun r7 =>
  .vw ze r7.S <|
  .vo (zC 1 z9) r7.K <|
  .vo zz r7.L <|
  .ret (r7, 0)) <|
 .an 0 0 <|
 .an 0 0 <|
 .an 0 0 <|
 .cl (zA) fun r6 =>
 .vw ze r6.S <|
 .vo (zC 1 z9) r6.K <|
 .vo zz r6.L <|
 .ret (r6, 0)) (zj Tryz.func139)
def X3 (F : (List GExpr) → GEnv → Option ((List GValue) × Int)) : Prop := ∀ (a0 : (List GExpr)) (a1 : GEnv), Oc (F a0 a1) 134 [] [vq zd a0, .val true (Y8 a1)] fun r => (.tup [(false, [cq zb r.1]), (false, [ci r.2])], [])
def Yh (F : GExpr → GEnv → Option (GValue × Int)) : Prop := ∀ (a0 : GExpr) (a1 : GEnv), Oc (F a0 a1) 132 [] [.val true (zs a0), .val true (Y8 a1)] fun r => (.tup [(true, (zf r.1)), (false, [ci r.2])], [])
def jq (F : GExpr → GEnv → Option (GValue × Int)) : Prop := ∀ (a0 : GExpr) (a1 : GEnv), Oc (F a0 a1) 78 [] [.val true (zs a0), .val true (Y8 a1)] fun r => (.tup [(true, (zf r.1)), (false, [ci r.2])], [])
def je (G_spec_l7eval : GExpr → GEnv → Option (GValue × Int)) (a0 : (List GExpr)) (a1 : GEnv) : Nat → Int → (List GValue) → Option ((Int × (List GValue)) ⊕ (Int × (List GValue)))
  | 0, _, _ => none
  | m + 1, v1, v3 =>
  if v1 < (a0.length : Int) then
   (zH v1).bind fun i2 =>
   (a0[i2]?).bind fun x3 =>
   (G_spec_l7eval x3 a1).bind fun ⟨r4_0, r4_1⟩ =>
   if r4_1 = 0 then
    if y4 88 (v3.length + [r4_0].length) then
    je G_spec_l7eval a0 a1 m (w64 (v1 + 1)) (v3 ++ [r4_0])
    else none
   else
   some (.inl (r4_1, []))
  else
  some (.inr (v1, v3))
theorem Ub (G_spec_l7eval : GExpr → GEnv → Option (GValue × Int)) (H_spec_l7eval : jq G_spec_l7eval) (a0 : (List GExpr)) (a1 : GEnv) (m : Nat) : ∀ (v1 : Int) (v3 : (List GValue)), Ol (je G_spec_l7eval a0 a1 m v1 v3) 134 (zQ Tryz.f134 0) ⟨[(0, vq zd a0), (3, vp 0 0), (6, vr 1), (7, vi v1)], [.var (Y8 a1), .obj 5 (eL zb v3)], 0⟩ fun o => match o with | .inl ⟨o_0_0, o_0_1⟩ => (.ret, ⟨[(4, vr 0), (5, vi o_0_0)], [.obj 5 (eL zb o_0_1)], 0⟩) | .inr (⟨o_1_0, o_1_1⟩) => (.exit 0, ⟨[(0, vq zd a0), (3, vp 0 0), (6, vr 1), (7, vi o_1_0), (13, vb false)], [.var (Y8 a1), .obj 5 (eL zb o_1_1)], 0⟩) := by
  induction m with
  | zero => intro v1 v3 o h; cases h
  | succ m ih => exact fun v1 v3 => tlp (
   .le zd a0 <|
   .lI v1 (a0.length : Int) (fun c1 =>
    .na v1 fun i2 =>
    .ix eq_GExpr a0 i2 fun x3 =>
    .cl (H_spec_l7eval x3 a1) fun ⟨r4_0, r4_1⟩ =>
    .eI r4_1 0 (fun c5 =>
     .q ⟨.pl ([(zf r4_0)] : List (List C)), .b true, by rw [(show ([(zf r4_0)] : List (List C)) = eL zb [r4_0] from (yk (zh r4_0) y7))]; exact (A.pl zc)⟩ <|
     .nd (y4 88 (v3.length + [r4_0].length)) fun n6 =>
     .q ⟨.room 88 (eL zb v3) ([(zf r4_0)] : List (List C)), .b true, by rw [(show ([(zf r4_0)] : List (List C)) = eL zb [r4_0] from (yk (zh r4_0) y7))]; exact (A.room n6)⟩ <|
     .q ⟨.uni 5 ([(zf r4_0)] : List (List C)), .b true, by rw [(show ([(zf r4_0)] : List (List C)) = eL zb [r4_0] from (yk (zh r4_0) y7))]; exact (A.uni zc)⟩ <|
     .q ⟨.app (eL zb v3) ([(zf r4_0)] : List (List C)), .l (eL zb (v3 ++ [r4_0])), by rw [(show ([(zf r4_0)] : List (List C)) = eL zb [r4_0] from (yk (zh r4_0) y7))]; exact A.app⟩ <|
     .go (ih (w64 (v1 + 1)) (v3 ++ [r4_0]))) fun c5 =>
    .ret (.inl (r4_1, []))) fun c1 =>
   .ret (.inr (v1, v3)))
def X4 (G_spec_l7eval : GExpr → GEnv → Option (GValue × Int)) (n : Nat) (a0 : (List GExpr)) (a1 : GEnv) : Option ((List GValue) × Int) :=
 (je G_spec_l7eval a0 a1 n 0 []).bind fun o1 =>
 match o1 with
 | .inl ⟨o1_0_0, o1_0_1⟩ =>
  some (o1_0_1, o1_0_0)
 | .inr (⟨o1_1_0, o1_1_1⟩) =>
  some (o1_1_1, 0)
theorem ND (G_spec_l7eval : GExpr → GEnv → Option (GValue × Int)) (H_spec_l7eval : jq G_spec_l7eval) (n : Nat) : X3 (X4 G_spec_l7eval n) := fun a0 a1 => tc (
 .l2 (Ub G_spec_l7eval H_spec_l7eval a0 a1 n 0 []) (fun ⟨o1_0_0, o1_0_1⟩ =>
  .vw zc o1_0_1 <|
  .ret (o1_0_1, o1_0_0)) fun ⟨o1_1_0, o1_1_1⟩ =>
 .vw zc o1_1_1 <|
 .ret (o1_1_1, 0)) (zj Tryz.func134)
def Yi (G_spec_l7eval : GExpr → GEnv → Option (GValue × Int)) (a0 : GExpr) (a1 : GEnv) : Option (GValue × Int) :=
 if a0.Kind = 21 then
  (a0.Kids[0]?).bind fun x2 =>
  (G_spec_l7eval x2 a1).bind fun ⟨r3_0, r3_1⟩ =>
  if r3_1 = 0 then
   if r3_0.Kind = 1 then
    if r3_0.N = 1 then
     some (r3_0, 0)
    else
    (a0.Kids[1]?).bind fun x7 =>
    (G_spec_l7eval x7 a1).bind fun ⟨r8_0, r8_1⟩ =>
    if r8_1 = 0 then
     if r8_0.Kind = 1 then
      some (r8_0, 0)
     else
     if r8_0.Kind = 6 then
      some (r8_0, 0)
     else
     some ((GValue.mk 0 0 [] [] []), 2)
    else
    some ((GValue.mk 0 0 [] [] []), r8_1)
   else
   if r3_0.Kind = 6 then
    (a0.Kids[1]?).bind fun x7 =>
    (G_spec_l7eval x7 a1).bind fun ⟨r8_0, r8_1⟩ =>
    if r8_1 = 0 then
     if r8_0.Kind = 1 then
      if r8_0.N = 1 then
       some (r8_0, 0)
      else
      (z6).bind fun r12 =>
      some (r12, 0)
     else
     if r8_0.Kind = 6 then
      (z6).bind fun r12 =>
      some (r12, 0)
     else
     some ((GValue.mk 0 0 [] [] []), 2)
    else
    some ((GValue.mk 0 0 [] [] []), r8_1)
   else
   some ((GValue.mk 0 0 [] [] []), 2)
  else
  some ((GValue.mk 0 0 [] [] []), r3_1)
 else
 (a0.Kids[0]?).bind fun x2 =>
 (G_spec_l7eval x2 a1).bind fun ⟨r3_0, r3_1⟩ =>
 if r3_1 = 0 then
  if r3_0.Kind = 1 then
   if r3_0.N = 0 then
    some (r3_0, 0)
   else
   (a0.Kids[1]?).bind fun x7 =>
   (G_spec_l7eval x7 a1).bind fun ⟨r8_0, r8_1⟩ =>
   if r8_1 = 0 then
    if r8_0.Kind = 1 then
     some (r8_0, 0)
    else
    if r8_0.Kind = 6 then
     some (r8_0, 0)
    else
    some ((GValue.mk 0 0 [] [] []), 2)
   else
   some ((GValue.mk 0 0 [] [] []), r8_1)
  else
  if r3_0.Kind = 6 then
   (a0.Kids[1]?).bind fun x7 =>
   (G_spec_l7eval x7 a1).bind fun ⟨r8_0, r8_1⟩ =>
   if r8_1 = 0 then
    if r8_0.Kind = 1 then
     if r8_0.N = 0 then
      some (r8_0, 0)
     else
     (z6).bind fun r12 =>
     some (r12, 0)
    else
    if r8_0.Kind = 6 then
     (z6).bind fun r12 =>
     some (r12, 0)
    else
    some ((GValue.mk 0 0 [] [] []), 2)
   else
   some ((GValue.mk 0 0 [] [] []), r8_1)
  else
  some ((GValue.mk 0 0 [] [] []), 2)
 else
 some ((GValue.mk 0 0 [] [] []), r3_1)
theorem OH (G_spec_l7eval : GExpr → GEnv → Option (GValue × Int)) (H_spec_l7eval : jq G_spec_l7eval) : Yh (Yi G_spec_l7eval) := fun a0 a1 => tc (
 .eI a0.Kind 21 (fun c1 =>
  .nl 0 <|
  .ix eq_GExpr a0.Kids 0 fun x2 =>
  .cl (H_spec_l7eval x2 a1) fun ⟨r3_0, r3_1⟩ =>
  .eI r3_1 0 (fun c4 =>
   .eI r3_0.Kind 1 (fun c5 =>
    .q (.eT c5) <|
    .eI r3_0.N 1 (fun c6 =>
     .ret (r3_0, 0)) fun c6 =>
    .nl 1 <|
    .ix eq_GExpr a0.Kids 1 fun x7 =>
    .cl (H_spec_l7eval x7 a1) fun ⟨r8_0, r8_1⟩ =>
    .eI r8_1 0 (fun c9 =>
     .eI r8_0.Kind 1 (fun c10 =>
      .q (.eFo r3_0.Kind 6 (by omega)) <|
      .ret (r8_0, 0)) fun c10 =>
     .eI r8_0.Kind 6 (fun c11 =>
      .q (.eFo r3_0.Kind 6 (by omega)) <|
      .ret (r8_0, 0)) fun c11 =>
     .vw ze [] <|
     .vw (zn za) [] <|
     .vw zc [] <|
     .ret ((GValue.mk 0 0 [] [] []), 2)) fun c9 =>
    .vw ze [] <|
    .vw (zn za) [] <|
    .vw zc [] <|
    .ret ((GValue.mk 0 0 [] [] []), r8_1)) fun c5 =>
   .eI r3_0.Kind 6 (fun c6 =>
    .q (.eF c5) <|
    .nl 1 <|
    .ix eq_GExpr a0.Kids 1 fun x7 =>
    .cl (H_spec_l7eval x7 a1) fun ⟨r8_0, r8_1⟩ =>
    .eI r8_1 0 (fun c9 =>
     .eI r8_0.Kind 1 (fun c10 =>
      .q (.eT c6) <|
      .q (.eFo r8_0.Kind 6 (by omega)) <|
      .eI r8_0.N 1 (fun c11 =>
       .ret (r8_0, 0)) fun c11 =>
      .cl (zA) fun r12 =>
      .vw ze r12.S <|
      .vo (zC 1 z9) r12.K <|
      .vo zz r12.L <|
      .ret (r12, 0)) fun c10 =>
     .eI r8_0.Kind 6 (fun c11 =>
      .q (.eT c6) <|
      .q (.eT c11) <|
      .cl (zA) fun r12 =>
      .vw ze r12.S <|
      .vo (zC 1 z9) r12.K <|
      .vo zz r12.L <|
      .ret (r12, 0)) fun c11 =>
     .vw ze [] <|
     .vw (zn za) [] <|
     .vw zc [] <|
     .ret ((GValue.mk 0 0 [] [] []), 2)) fun c9 =>
    .vw ze [] <|
    .vw (zn za) [] <|
    .vw zc [] <|
    .ret ((GValue.mk 0 0 [] [] []), r8_1)) fun c6 =>
   .vw ze [] <|
   .vw (zn za) [] <|
   .vw zc [] <|
   .ret ((GValue.mk 0 0 [] [] []), 2)) fun c4 =>
  .vw ze [] <|
  .vw (zn za) [] <|
  .vw zc [] <|
  .ret ((GValue.mk 0 0 [] [] []), r3_1)) fun c1 =>
 .nl 0 <|
 .ix eq_GExpr a0.Kids 0 fun x2 =>
 .cl (H_spec_l7eval x2 a1) fun ⟨r3_0, r3_1⟩ =>
 .eI r3_1 0 (fun c4 =>
  .eI r3_0.Kind 1 (fun c5 =>
   .q (.eT c5) <|
   .eI r3_0.N 0 (fun c6 =>
    .ret (r3_0, 0)) fun c6 =>
   .nl 1 <|
   .ix eq_GExpr a0.Kids 1 fun x7 =>
   .cl (H_spec_l7eval x7 a1) fun ⟨r8_0, r8_1⟩ =>
   .eI r8_1 0 (fun c9 =>
    .eI r8_0.Kind 1 (fun c10 =>
     .q (.eFo r3_0.Kind 6 (by omega)) <|
     .ret (r8_0, 0)) fun c10 =>
    .eI r8_0.Kind 6 (fun c11 =>
     .q (.eFo r3_0.Kind 6 (by omega)) <|
     .ret (r8_0, 0)) fun c11 =>
    .vw ze [] <|
    .vw (zn za) [] <|
    .vw zc [] <|
    .ret ((GValue.mk 0 0 [] [] []), 2)) fun c9 =>
   .vw ze [] <|
   .vw (zn za) [] <|
   .vw zc [] <|
   .ret ((GValue.mk 0 0 [] [] []), r8_1)) fun c5 =>
  .eI r3_0.Kind 6 (fun c6 =>
   .q (.eF c5) <|
   .nl 1 <|
   .ix eq_GExpr a0.Kids 1 fun x7 =>
   .cl (H_spec_l7eval x7 a1) fun ⟨r8_0, r8_1⟩ =>
   .eI r8_1 0 (fun c9 =>
    .eI r8_0.Kind 1 (fun c10 =>
     .q (.eT c6) <|
     .q (.eFo r8_0.Kind 6 (by omega)) <|
     .eI r8_0.N 0 (fun c11 =>
      .ret (r8_0, 0)) fun c11 =>
     .cl (zA) fun r12 =>
     .vw ze r12.S <|
     .vo (zC 1 z9) r12.K <|
     .vo zz r12.L <|
     .ret (r12, 0)) fun c10 =>
    .eI r8_0.Kind 6 (fun c11 =>
     .q (.eT c6) <|
     .q (.eT c11) <|
     .cl (zA) fun r12 =>
     .vw ze r12.S <|
     .vo (zC 1 z9) r12.K <|
     .vo zz r12.L <|
     .ret (r12, 0)) fun c11 =>
    .vw ze [] <|
    .vw (zn za) [] <|
    .vw zc [] <|
    .ret ((GValue.mk 0 0 [] [] []), 2)) fun c9 =>
   .vw ze [] <|
   .vw (zn za) [] <|
   .vw zc [] <|
   .ret ((GValue.mk 0 0 [] [] []), r8_1)) fun c6 =>
  .vw ze [] <|
  .vw (zn za) [] <|
  .vw zc [] <|
  .ret ((GValue.mk 0 0 [] [] []), 2)) fun c4 =>
 .vw ze [] <|
 .vw (zn za) [] <|
 .vw zc [] <|
 .ret ((GValue.mk 0 0 [] [] []), r3_1)) (zj Tryz.func132)
def YH (G_spec_l7logic : GExpr → GEnv → Option (GValue × Int)) (G_spec_l7eval : GExpr → GEnv → Option (GValue × Int)) (G_spec_l7all : (List GExpr) → GEnv → Option ((List GValue) × Int)) (a0 : GExpr) (a1 : GEnv) : Option (GValue × Int) :=
 if a0.Kind = 0 then
  some ((GValue.mk 0 0 [] [] []), 0)
 else
 if a0.Kind = 1 then
  some ((GValue.mk 1 a0.N [] [] []), 0)
 else
 if a0.Kind = 2 then
  some ((GValue.mk 2 a0.N [] [] []), 0)
 else
 if a0.Kind = 3 then
  some ((GValue.mk 3 0 a0.S [] []), 0)
 else
 if a0.Kind = 6 then
  (j9 a1.Locals a0.S).bind fun ⟨r6_0, r6_1⟩ =>
  some (r6_0, r6_1)
 else
 if a0.Kind = 7 then
  (j9 a1.Res a0.S).bind fun ⟨r7_0, r7_1⟩ =>
  some (r7_0, r7_1)
 else
 if a0.Kind = 10 then
  some (a1.Index, 0)
 else
 if a0.Kind = 11 then
  some (a1.Key, 0)
 else
 if a0.Kind = 12 then
  some (a1.Val, 0)
 else
 if a0.Kind = 20 then
  (G_spec_l7logic a0 a1).bind fun ⟨r11_0, r11_1⟩ =>
  some (r11_0, r11_1)
 else
 if a0.Kind = 21 then
  (G_spec_l7logic a0 a1).bind fun ⟨r12_0, r12_1⟩ =>
  some (r12_0, r12_1)
 else
 if a0.Kind = 22 then
  (a0.Kids[0]?).bind fun x13 =>
  (G_spec_l7eval x13 a1).bind fun ⟨r14_0, r14_1⟩ =>
  if r14_1 = 0 then
   if r14_0.Kind = 6 then
    (z6).bind fun r17 =>
    some (r17, 0)
   else
   if r14_0.Kind = 1 then
    if r14_0.N = 1 then
     (a0.Kids[1]?).bind fun x19 =>
     (G_spec_l7eval x19 a1).bind fun ⟨r20_0, r20_1⟩ =>
     some (r20_0, r20_1)
    else
    (a0.Kids[2]?).bind fun x19 =>
    (G_spec_l7eval x19 a1).bind fun ⟨r20_0, r20_1⟩ =>
    some (r20_0, r20_1)
   else
   some ((GValue.mk 0 0 [] [] []), 2)
  else
  some ((GValue.mk 0 0 [] [] []), r14_1)
 else
 (G_spec_l7all a0.Kids a1).bind fun ⟨r13_0, r13_1⟩ =>
 if r13_1 = 0 then
  if a0.Kind = 4 then
   (xg (GValue.mk 4 0 [] [] r13_0)).bind fun ⟨r16_0, r16_1⟩ =>
   some (r16_0, r16_1)
  else
  if a0.Kind = 5 then
   (xg (GValue.mk 5 0 [] a0.K r13_0)).bind fun ⟨r17_0, r17_1⟩ =>
   some (r17_0, r17_1)
  else
  if a0.Kind = 8 then
   (r13_0[0]?).bind fun x18 =>
   (j9 x18 a0.S).bind fun ⟨r19_0, r19_1⟩ =>
   some (r19_0, r19_1)
  else
  if a0.Kind = 9 then
   (r13_0[0]?).bind fun x19 =>
   (r13_0[1]?).bind fun x20 =>
   (YE x19 x20).bind fun ⟨r21_0, r21_1⟩ =>
   some (r21_0, r21_1)
  else
  if a0.Kind = 13 then
   (r13_0[0]?).bind fun x20 =>
   if x20.Kind = 6 then
    (z6).bind fun r22 =>
    some (r22, 0)
   else
   if x20.Kind = 1 then
    (jo (decide (x20.N = 0))).bind fun r23 =>
    some (r23, 0)
   else
   some ((GValue.mk 0 0 [] [] []), 2)
  else
  if a0.Kind = 14 then
   (r13_0[0]?).bind fun x21 =>
   if x21.Kind = 6 then
    (z6).bind fun r23 =>
    some (r23, 0)
   else
   if x21.Kind = 2 then
    some ((GValue.mk 2 (w64 (0 - x21.N)) [] [] []), 0)
   else
   some ((GValue.mk 0 0 [] [] []), 2)
  else
  if a0.Kind = 23 then
   (vU a0.S r13_0).bind fun ⟨r22_0, r22_1⟩ =>
   some (r22_0, r22_1)
  else
  (r13_0[0]?).bind fun x22 =>
  (r13_0[1]?).bind fun x23 =>
  (X2 a0.Kind x22 x23).bind fun ⟨r24_0, r24_1⟩ =>
  some (r24_0, r24_1)
 else
 some ((GValue.mk 0 0 [] [] []), r13_1)
theorem Mj (G_spec_l7logic : GExpr → GEnv → Option (GValue × Int)) (G_spec_l7eval : GExpr → GEnv → Option (GValue × Int)) (G_spec_l7all : (List GExpr) → GEnv → Option ((List GValue) × Int)) (H_spec_l7logic : Yh G_spec_l7logic) (H_spec_l7eval : jq G_spec_l7eval) (H_spec_l7all : X3 G_spec_l7all) : jq (YH G_spec_l7logic G_spec_l7eval G_spec_l7all) := fun a0 a1 => tc (
 .eI a0.Kind 0 (fun c1 =>
  .vw ze [] <|
  .vw (zn za) [] <|
  .vw zc [] <|
  .ret ((GValue.mk 0 0 [] [] []), 0)) fun c1 =>
 .eI a0.Kind 1 (fun c2 =>
  .vw ze [] <|
  .vw (zn za) [] <|
  .vw zc [] <|
  .ret ((GValue.mk 1 a0.N [] [] []), 0)) fun c2 =>
 .eI a0.Kind 2 (fun c3 =>
  .vw ze [] <|
  .vw (zn za) [] <|
  .vw zc [] <|
  .ret ((GValue.mk 2 a0.N [] [] []), 0)) fun c3 =>
 .eI a0.Kind 3 (fun c4 =>
  .vw (zn za) [] <|
  .vw zc [] <|
  .ret ((GValue.mk 3 0 a0.S [] []), 0)) fun c4 =>
 .eI a0.Kind 6 (fun c5 =>
  .cl (YD a1.Locals a0.S) fun ⟨r6_0, r6_1⟩ =>
  .ret (r6_0, r6_1)) fun c5 =>
 .eI a0.Kind 7 (fun c6 =>
  .cl (YD a1.Res a0.S) fun ⟨r7_0, r7_1⟩ =>
  .ret (r7_0, r7_1)) fun c6 =>
 .eI a0.Kind 10 (fun c7 =>
  .ret (a1.Index, 0)) fun c7 =>
 .eI a0.Kind 11 (fun c8 =>
  .ret (a1.Key, 0)) fun c8 =>
 .eI a0.Kind 12 (fun c9 =>
  .ret (a1.Val, 0)) fun c9 =>
 .eI a0.Kind 20 (fun c10 =>
  .cl (H_spec_l7logic a0 a1) fun ⟨r11_0, r11_1⟩ =>
  .ret (r11_0, r11_1)) fun c10 =>
 .eI a0.Kind 21 (fun c11 =>
  .cl (H_spec_l7logic a0 a1) fun ⟨r12_0, r12_1⟩ =>
  .ret (r12_0, r12_1)) fun c11 =>
 .eI a0.Kind 22 (fun c12 =>
  .nl 0 <|
  .ix eq_GExpr a0.Kids 0 fun x13 =>
  .cl (H_spec_l7eval x13 a1) fun ⟨r14_0, r14_1⟩ =>
  .eI r14_1 0 (fun c15 =>
   .eI r14_0.Kind 6 (fun c16 =>
    .cl (zA) fun r17 =>
    .vw ze r17.S <|
    .vo (zC 1 z9) r17.K <|
    .vo zz r17.L <|
    .ret (r17, 0)) fun c16 =>
   .eI r14_0.Kind 1 (fun c17 =>
    .eI r14_0.N 1 (fun c18 =>
     .nl 1 <|
     .ix eq_GExpr a0.Kids 1 fun x19 =>
     .cl (H_spec_l7eval x19 a1) fun ⟨r20_0, r20_1⟩ =>
     .ret (r20_0, r20_1)) fun c18 =>
    .nl 2 <|
    .ix eq_GExpr a0.Kids 2 fun x19 =>
    .cl (H_spec_l7eval x19 a1) fun ⟨r20_0, r20_1⟩ =>
    .ret (r20_0, r20_1)) fun c17 =>
   .vw ze [] <|
   .vw (zn za) [] <|
   .vw zc [] <|
   .ret ((GValue.mk 0 0 [] [] []), 2)) fun c15 =>
  .vw ze [] <|
  .vw (zn za) [] <|
  .vw zc [] <|
  .ret ((GValue.mk 0 0 [] [] []), r14_1)) fun c12 =>
 .cl (H_spec_l7all a0.Kids a1) fun ⟨r13_0, r13_1⟩ =>
 .eI r13_1 0 (fun c14 =>
  .eI a0.Kind 4 (fun c15 =>
   .vw ze [] <|
   .vw (zn za) [] <|
   .cl (qC (GValue.mk 4 0 [] [] r13_0)) fun ⟨r16_0, r16_1⟩ =>
   .ret (r16_0, r16_1)) fun c15 =>
  .eI a0.Kind 5 (fun c16 =>
   .vw ze [] <|
   .cl (qC (GValue.mk 5 0 [] a0.K r13_0)) fun ⟨r17_0, r17_1⟩ =>
   .ret (r17_0, r17_1)) fun c16 =>
  .eI a0.Kind 8 (fun c17 =>
   .nl 0 <|
   .ix zh r13_0 0 fun x18 =>
   .cl (YD x18 a0.S) fun ⟨r19_0, r19_1⟩ =>
   .ret (r19_0, r19_1)) fun c17 =>
  .eI a0.Kind 9 (fun c18 =>
   .nl 0 <|
   .ix zh r13_0 0 fun x19 =>
   .nl 1 <|
   .ix zh r13_0 1 fun x20 =>
   .cl (OC x19 x20) fun ⟨r21_0, r21_1⟩ =>
   .ret (r21_0, r21_1)) fun c18 =>
  .eI a0.Kind 13 (fun c19 =>
   .nl 0 <|
   .ix zh r13_0 0 fun x20 =>
   .eI x20.Kind 6 (fun c21 =>
    .cl (zA) fun r22 =>
    .vw ze r22.S <|
    .vo (zC 1 z9) r22.K <|
    .vo zz r22.L <|
    .ret (r22, 0)) fun c21 =>
   .eI x20.Kind 1 (fun c22 =>
    .nl 0 <|
    .ag 0 <|
    .eD x20.N 0 <|
    .cl (Ye (decide (x20.N = 0))) fun r23 =>
    .vw ze r23.S <|
    .vo (zC 1 z9) r23.K <|
    .vo zz r23.L <|
    .ret (r23, 0)) fun c22 =>
   .vw ze [] <|
   .vw (zn za) [] <|
   .vw zc [] <|
   .ret ((GValue.mk 0 0 [] [] []), 2)) fun c19 =>
  .eI a0.Kind 14 (fun c20 =>
   .nl 0 <|
   .ix zh r13_0 0 fun x21 =>
   .eI x21.Kind 6 (fun c22 =>
    .cl (zA) fun r23 =>
    .vw ze r23.S <|
    .vo (zC 1 z9) r23.K <|
    .vo zz r23.L <|
    .ret (r23, 0)) fun c22 =>
   .eI x21.Kind 2 (fun c23 =>
    .nl 0 <|
    .ag 0 <|
    .vw ze [] <|
    .vw (zn za) [] <|
    .vw zc [] <|
    .ret ((GValue.mk 2 (w64 (0 - x21.N)) [] [] []), 0)) fun c23 =>
   .vw ze [] <|
   .vw (zn za) [] <|
   .vw zc [] <|
   .ret ((GValue.mk 0 0 [] [] []), 2)) fun c20 =>
  .eI a0.Kind 23 (fun c21 =>
   .cl (OE a0.S r13_0) fun ⟨r22_0, r22_1⟩ =>
   .ret (r22_0, r22_1)) fun c21 =>
  .nl 0 <|
  .ix zh r13_0 0 fun x22 =>
  .nl 1 <|
  .ix zh r13_0 1 fun x23 =>
  .cl (Mi a0.Kind x22 x23) fun ⟨r24_0, r24_1⟩ =>
  .ret (r24_0, r24_1)) fun c14 =>
 .vw ze [] <|
 .vw (zn za) [] <|
 .vw zc [] <|
 .ret ((GValue.mk 0 0 [] [] []), r13_1)) (zj Tryz.func78)
mutual
def wX : Nat → (List GExpr) → GEnv → Option ((List GValue) × Int)
 | 0, _, _ => none
 | n + 1, a0, a1 => X4 (yh n) n a0 a1
def wM : Nat → GExpr → GEnv → Option (GValue × Int)
 | 0, _, _ => none
 | n + 1, a0, a1 => Yi (yh n) a0 a1
def yh : Nat → GExpr → GEnv → Option (GValue × Int)
 | 0, _, _ => none
 | n + 1, a0, a1 => YH (wM n) (yh n) (wX n) a0 a1
end
theorem XS (n : Nat) : X3 (wX n) ∧ Yh (wM n) ∧ jq (yh n) := by
 induction n with
 | zero => exact ⟨fun _ _ _ h => (by rw [wX] at h; cases h), fun _ _ _ h => (by rw [wM] at h; cases h), fun _ _ _ h => (by rw [yh] at h; cases h)⟩
 | succ n ih =>
  obtain ⟨ih_spec_l7all, ih_spec_l7logic, ih_spec_l7eval⟩ := ih
  exact ⟨fun a0 a1 r h => ND (yh n) ih_spec_l7eval n a0 a1 r (by rw [wX] at h; exact h),
   fun a0 a1 r h => OH (yh n) ih_spec_l7eval a0 a1 r (by rw [wM] at h; exact h),
   fun a0 a1 r h => Mj (wM n) (yh n) (wX n) ih_spec_l7logic ih_spec_l7eval ih_spec_l7all a0 a1 r (by rw [yh] at h; exact h)⟩
def VR (a0 : (List GExpr)) (a1 : GEnv) : Option ((List GValue) × Int) := none
theorem Po (a0 : (List GExpr)) (a1 : GEnv) (r : ((List GValue) × Int)) (h : VR a0 a1 = some r) : ∃ n, wX n a0 a1 = some r := by cases h
def JF (a0 : GExpr) (a1 : GEnv) : Option (GValue × Int) := none
theorem RZ (a0 : GExpr) (a1 : GEnv) (r : (GValue × Int)) (h : JF a0 a1 = some r) : ∃ n, wM n a0 a1 = some r := by cases h
def YI (a0 : GExpr) (a1 : GEnv) : Option (GValue × Int) := yh (3 * xsz a0 + 9) a0 a1
theorem Uc (a0 : GExpr) (a1 : GEnv) (r : (GValue × Int)) (h : YI a0 a1 = some r) : ∃ n, yh n a0 a1 = some r := ⟨_, h⟩
theorem ze0 : X3 VR := by
 intro a0 a1 r h
 obtain ⟨n, hn⟩ := Po a0 a1 r h
 exact (XS n).1 a0 a1 r hn
theorem zbf : Yh JF := by
 intro a0 a1 r h
 obtain ⟨n, hn⟩ := RZ a0 a1 r h
 exact (XS n).2.1 a0 a1 r hn
theorem OI : jq YI := by
 intro a0 a1 r h
 obtain ⟨n, hn⟩ := Uc a0 a1 r h
 exact (XS n).2.2 a0 a1 r hn
def Ze (F : GValue → Option (GExpr × Bool)) : Prop := ∀ (a0 : GValue), Oc (F a0) 79 [] [.val true (zf a0)] fun r => (.tup [(true, (zs r.1)), (false, [.bool r.2])], [])
def j4 (G_spec_l7of : GValue → Option (GExpr × Bool)) (a0 : GValue) (v2 : Int) (v3 : Int) (v4 : Int) (v5 : Int) (v6 : (List (List UInt8))) (v7 : (List UInt8)) (v8 : (List (List UInt8))) (v9 : (List GExpr)) (v10 : (List UInt8)) : Nat → Int → (List GExpr) → Option ((Bool × Int × (List UInt8) × (List (List UInt8)) × (List GExpr)) ⊕ (Int × (List GExpr)))
  | 0, _, _ => none
  | m + 1, v0, v11 =>
  if v0 < (a0.L.length : Int) then
   (zH v0).bind fun i2 =>
   (a0.L[i2]?).bind fun x3 =>
   (G_spec_l7of x3).bind fun ⟨r4_0, r4_1⟩ =>
   match r4_1 with
   | true =>
    if y4 88 (v11.length + [r4_0].length) then
    j4 G_spec_l7of a0 v2 v3 v4 v5 v6 v7 v8 v9 v10 m (w64 (v0 + 1)) (v11 ++ [r4_0])
    else none
   | false =>
    some (.inl (false, 0, [], [], []))
  else
  some (.inr (v0, v11))
theorem Pp (G_spec_l7of : GValue → Option (GExpr × Bool)) (H_spec_l7of : Ze G_spec_l7of) (a0 : GValue) (v2 : Int) (v3 : Int) (v4 : Int) (v5 : Int) (v6 : (List (List UInt8))) (v7 : (List UInt8)) (v8 : (List (List UInt8))) (v9 : (List GExpr)) (v10 : (List UInt8)) (m : Nat) : ∀ (v0 : Int) (v11 : (List GExpr)), Ol (j4 G_spec_l7of a0 v2 v3 v4 v5 v6 v7 v8 v9 v10 m v0 v11) 79 (zQ Tryz.f79 0) ⟨[(1, vp 0 0), (2, vp 1 0), (4, vp 2 0), (5, vi v0)], [.var (zf a0), .var [ci v2, ci v3, .ref 3, .ref 4, .ref 5], .var [ci v4, ci v5, .ref 6, cq (zi za) v6, .ref 7], .obj 1 (eL za v7), .obj 1 (eL (zi za) v8), .obj 5 (eL zd v9), .obj 1 (eL za v10), .obj 5 (eL zd v11)], 0⟩ fun o => match o with | .inl ⟨o_0_0, o_0_1, o_0_2, o_0_3, o_0_4⟩ => (.ret, ⟨[(2, vp 0 0), (3, vb o_0_0)], [.var [ci o_0_1, ci o_0_1, .ref 1, .ref 2, .ref 3], .obj 1 (eL za o_0_2), .obj 1 (eL (zi za) o_0_3), .obj 5 (eL zd o_0_4)], 0⟩) | .inr (⟨o_1_0, o_1_1⟩) => (.exit 1, ⟨[(1, vp 0 0), (2, vp 1 0), (4, vp 2 0), (5, vi o_1_0), (51, vb false)], [.var (zf a0), .var [ci v2, ci v3, .ref 3, .ref 4, .ref 5], .var [ci v4, ci v5, .ref 6, cq (zi za) v6, .ref 7], .obj 1 (eL za v7), .obj 1 (eL (zi za) v8), .obj 5 (eL zd v9), .obj 1 (eL za v10), .obj 5 (eL zd o_1_1)], 0⟩) := by
  induction m with
  | zero => intro v0 v11 o h; cases h
  | succ m ih => exact fun v0 v11 => tlp (
   .le zb a0.L <|
   .lI v0 (a0.L.length : Int) (fun c1 =>
    .na v0 fun i2 =>
    .ix zh a0.L i2 fun x3 =>
    .cl (H_spec_l7of x3) fun ⟨r4_0, r4_1⟩ =>
    .vN 0 r4_1 (
     .q ⟨.pl ([(zs r4_0)] : List (List C)), .b true, by rw [(show ([(zs r4_0)] : List (List C)) = eL zd [r4_0] from (yk (eq_GExpr r4_0) y7))]; exact (A.pl xG)⟩ <|
     .nd (y4 88 (v11.length + [r4_0].length)) fun n5 =>
     .q ⟨.room 88 (eL zd v11) ([(zs r4_0)] : List (List C)), .b true, by rw [(show ([(zs r4_0)] : List (List C)) = eL zd [r4_0] from (yk (eq_GExpr r4_0) y7))]; exact (A.room n5)⟩ <|
     .q ⟨.uni 5 ([(zs r4_0)] : List (List C)), .b true, by rw [(show ([(zs r4_0)] : List (List C)) = eL zd [r4_0] from (yk (eq_GExpr r4_0) y7))]; exact (A.uni xG)⟩ <|
     .q ⟨.app (eL zd v11) ([(zs r4_0)] : List (List C)), .l (eL zd (v11 ++ [r4_0])), by rw [(show ([(zs r4_0)] : List (List C)) = eL zd [r4_0] from (yk (eq_GExpr r4_0) y7))]; exact A.app⟩ <|
     .go (ih (w64 (v0 + 1)) (v11 ++ [r4_0]))) <|
    .ret (.inl (false, 0, [], [], []))) fun c1 =>
   .ret (.inr (v0, v11)))
def jf (G_spec_l7of : GValue → Option (GExpr × Bool)) (a0 : GValue) (v2 : Int) (v3 : Int) (v4 : Int) (v5 : Int) (v6 : (List UInt8)) (v7 : (List (List UInt8))) (v8 : (List GExpr)) (v9 : (List UInt8)) (v10 : (List (List UInt8))) : Nat → Int → (List GExpr) → Option ((Bool × Int × (List UInt8) × (List (List UInt8)) × (List GExpr)) ⊕ (Int × (List GExpr)))
  | 0, _, _ => none
  | m + 1, v0, v11 =>
  if v0 < (a0.L.length : Int) then
   (zH v0).bind fun i2 =>
   (a0.L[i2]?).bind fun x3 =>
   (G_spec_l7of x3).bind fun ⟨r4_0, r4_1⟩ =>
   match r4_1 with
   | true =>
    if y4 88 (v11.length + [r4_0].length) then
    jf G_spec_l7of a0 v2 v3 v4 v5 v6 v7 v8 v9 v10 m (w64 (v0 + 1)) (v11 ++ [r4_0])
    else none
   | false =>
    some (.inl (false, 0, [], [], []))
  else
  some (.inr (v0, v11))
theorem Ud (G_spec_l7of : GValue → Option (GExpr × Bool)) (H_spec_l7of : Ze G_spec_l7of) (a0 : GValue) (v2 : Int) (v3 : Int) (v4 : Int) (v5 : Int) (v6 : (List UInt8)) (v7 : (List (List UInt8))) (v8 : (List GExpr)) (v9 : (List UInt8)) (v10 : (List (List UInt8))) (m : Nat) : ∀ (v0 : Int) (v11 : (List GExpr)), Ol (jf G_spec_l7of a0 v2 v3 v4 v5 v6 v7 v8 v9 v10 m v0 v11) 79 (zQ Tryz.f79 0) ⟨[(1, vp 0 0), (2, vp 1 0), (4, vp 2 0), (5, vi v0)], [.var (zf a0), .var [ci v2, ci v3, .ref 3, .ref 4, .ref 5], .var [ci v4, ci v5, .ref 6, .ref 7, .ref 8], .obj 1 (eL za v6), .obj 1 (eL (zi za) v7), .obj 5 (eL zd v8), .obj 1 (eL za v9), .obj 1 (eL (zi za) v10), .obj 5 (eL zd v11)], 0⟩ fun o => match o with | .inl ⟨o_0_0, o_0_1, o_0_2, o_0_3, o_0_4⟩ => (.ret, ⟨[(2, vp 0 0), (3, vb o_0_0)], [.var [ci o_0_1, ci o_0_1, .ref 1, .ref 2, .ref 3], .obj 1 (eL za o_0_2), .obj 1 (eL (zi za) o_0_3), .obj 5 (eL zd o_0_4)], 0⟩) | .inr (⟨o_1_0, o_1_1⟩) => (.exit 1, ⟨[(1, vp 0 0), (2, vp 1 0), (4, vp 2 0), (5, vi o_1_0), (51, vb false)], [.var (zf a0), .var [ci v2, ci v3, .ref 3, .ref 4, .ref 5], .var [ci v4, ci v5, .ref 6, .ref 7, .ref 8], .obj 1 (eL za v6), .obj 1 (eL (zi za) v7), .obj 5 (eL zd v8), .obj 1 (eL za v9), .obj 1 (eL (zi za) v10), .obj 5 (eL zd o_1_1)], 0⟩) := by
  induction m with
  | zero => intro v0 v11 o h; cases h
  | succ m ih => exact fun v0 v11 => tlp (
   .le zb a0.L <|
   .lI v0 (a0.L.length : Int) (fun c1 =>
    .na v0 fun i2 =>
    .ix zh a0.L i2 fun x3 =>
    .cl (H_spec_l7of x3) fun ⟨r4_0, r4_1⟩ =>
    .vN 0 r4_1 (
     .q ⟨.pl ([(zs r4_0)] : List (List C)), .b true, by rw [(show ([(zs r4_0)] : List (List C)) = eL zd [r4_0] from (yk (eq_GExpr r4_0) y7))]; exact (A.pl xG)⟩ <|
     .nd (y4 88 (v11.length + [r4_0].length)) fun n5 =>
     .q ⟨.room 88 (eL zd v11) ([(zs r4_0)] : List (List C)), .b true, by rw [(show ([(zs r4_0)] : List (List C)) = eL zd [r4_0] from (yk (eq_GExpr r4_0) y7))]; exact (A.room n5)⟩ <|
     .q ⟨.uni 5 ([(zs r4_0)] : List (List C)), .b true, by rw [(show ([(zs r4_0)] : List (List C)) = eL zd [r4_0] from (yk (eq_GExpr r4_0) y7))]; exact (A.uni xG)⟩ <|
     .q ⟨.app (eL zd v11) ([(zs r4_0)] : List (List C)), .l (eL zd (v11 ++ [r4_0])), by rw [(show ([(zs r4_0)] : List (List C)) = eL zd [r4_0] from (yk (eq_GExpr r4_0) y7))]; exact A.app⟩ <|
     .go (ih (w64 (v0 + 1)) (v11 ++ [r4_0]))) <|
    .ret (.inl (false, 0, [], [], []))) fun c1 =>
   .ret (.inr (v0, v11)))
def Jx (G_spec_l7of : GValue → Option (GExpr × Bool)) (n : Nat) (a0 : GValue) : Option (GExpr × Bool) :=
 if a0.Kind = 0 then
  some ((GExpr.mk 0 0 [] [] []), true)
 else
 if a0.Kind = 1 then
  some ((GExpr.mk 1 a0.N [] [] []), true)
 else
 if a0.Kind = 2 then
  if a0.N < 0 then
   some ((GExpr.mk 14 0 [] [] [(GExpr.mk 2 (w64 (0 - a0.N)) [] [] [])]), true)
  else
  some ((GExpr.mk 2 a0.N [] [] []), true)
 else
 if a0.Kind = 3 then
  some ((GExpr.mk 3 0 a0.S [] []), true)
 else
 if a0.Kind = 6 then
  some ((GExpr.mk 0 0 [] [] []), false)
 else
 if a0.Kind = 5 then
  (j4 G_spec_l7of a0 0 0 5 0 a0.K [] [] [] [] n 0 []).bind fun o7 =>
  match o7 with
  | .inl ⟨o7_0_0, o7_0_1, o7_0_2, o7_0_3, o7_0_4⟩ =>
   some ((GExpr.mk o7_0_1 o7_0_1 o7_0_2 o7_0_3 o7_0_4), o7_0_0)
  | .inr (⟨o7_1_0, o7_1_1⟩) =>
   some ((GExpr.mk 5 0 [] a0.K o7_1_1), true)
 else
 (jf G_spec_l7of a0 0 0 4 0 [] [] [] [] [] n 0 []).bind fun o7 =>
 match o7 with
 | .inl ⟨o7_0_0, o7_0_1, o7_0_2, o7_0_3, o7_0_4⟩ =>
  some ((GExpr.mk o7_0_1 o7_0_1 o7_0_2 o7_0_3 o7_0_4), o7_0_0)
 | .inr (⟨o7_1_0, o7_1_1⟩) =>
  some ((GExpr.mk 4 0 [] [] o7_1_1), true)
theorem GC (G_spec_l7of : GValue → Option (GExpr × Bool)) (H_spec_l7of : Ze G_spec_l7of) (n : Nat) : Ze (Jx G_spec_l7of n) := fun a0 => tc (
 .eI a0.Kind 0 (fun c1 =>
  .vw ze [] <|
  .vw (zn za) [] <|
  .vw xG [] <|
  .ret ((GExpr.mk 0 0 [] [] []), true)) fun c1 =>
 .eI a0.Kind 1 (fun c2 =>
  .vw ze [] <|
  .vw (zn za) [] <|
  .vw xG [] <|
  .ret ((GExpr.mk 1 a0.N [] [] []), true)) fun c2 =>
 .eI a0.Kind 2 (fun c3 =>
  .lI a0.N 0 (fun c4 =>
   .vw ze [] <|
   .vw (zn za) [] <|
   .vo yw [(GExpr.mk 2 (w64 (0 - a0.N)) [] [] [])] <|
   .ret ((GExpr.mk 14 0 [] [] [(GExpr.mk 2 (w64 (0 - a0.N)) [] [] [])]), true)) fun c4 =>
  .vw ze [] <|
  .vw (zn za) [] <|
  .vw xG [] <|
  .ret ((GExpr.mk 2 a0.N [] [] []), true)) fun c3 =>
 .eI a0.Kind 3 (fun c4 =>
  .vw (zn za) [] <|
  .vw xG [] <|
  .ret ((GExpr.mk 3 0 a0.S [] []), true)) fun c4 =>
 .eI a0.Kind 6 (fun c5 =>
  .vw ze [] <|
  .vw (zn za) [] <|
  .vw xG [] <|
  .ret ((GExpr.mk 0 0 [] [] []), false)) fun c5 =>
 .eI a0.Kind 5 (fun c6 =>
  .l2 (Pp G_spec_l7of H_spec_l7of a0 0 0 5 0 a0.K [] [] [] [] n 0 []) (fun ⟨o7_0_0, o7_0_1, o7_0_2, o7_0_3, o7_0_4⟩ =>
   .vw ze o7_0_2 <|
   .vw (zn za) o7_0_3 <|
   .vw xG o7_0_4 <|
   .ret ((GExpr.mk o7_0_1 o7_0_1 o7_0_2 o7_0_3 o7_0_4), o7_0_0)) fun ⟨o7_1_0, o7_1_1⟩ =>
  .vw ze [] <|
  .vw xG o7_1_1 <|
  .ret ((GExpr.mk 5 0 [] a0.K o7_1_1), true)) fun c6 =>
 .l2 (Ud G_spec_l7of H_spec_l7of a0 0 0 4 0 [] [] [] [] [] n 0 []) (fun ⟨o7_0_0, o7_0_1, o7_0_2, o7_0_3, o7_0_4⟩ =>
  .vw ze o7_0_2 <|
  .vw (zn za) o7_0_3 <|
  .vw xG o7_0_4 <|
  .ret ((GExpr.mk o7_0_1 o7_0_1 o7_0_2 o7_0_3 o7_0_4), o7_0_0)) fun ⟨o7_1_0, o7_1_1⟩ =>
 .vw ze [] <|
 .vw (zn za) [] <|
 .vw xG o7_1_1 <|
 .ret ((GExpr.mk 4 0 [] [] o7_1_1), true)) (zj Tryz.func79)
def w5 : Nat → GValue → Option (GExpr × Bool)
 | 0, _ => none
 | n + 1, a0 => Jx (w5 n) n a0
theorem Mk (n : Nat) : Ze (w5 n) := by
 induction n with
 | zero => exact fun _ _ h => (by rw [w5] at h; cases h)
 | succ n ih =>
  have ih_spec_l7of := ih
  exact fun a0 r h => GC (w5 n) ih_spec_l7of n a0 r (by rw [w5] at h; exact h)
theorem Dy {G : GValue → Option (GExpr × Bool)} {a : GValue} {v2 v3 v4 v5 : Int} {v6 : List (List UInt8)} {v7 : List UInt8} {v8 : List (List UInt8)} {v9 : List GExpr} {v10 : List UInt8} (ha : a.L.length <= 2 ^ 39) : ∀ (l p : List GValue) (m : Nat), a.L = p ++ l → (∀ x ∈ l, G x = some (ofR x)) → l.length < m → ∃ z, j4 G a v2 v3 v4 v5 v6 v7 v8 v9 v10 m (p.length : Int) (jJ p) = some (if qx l = true then .inr (z, jJ a.L) else .inl (false, 0, [], [], [])) := by
 intro l
 induction l with
 | nil =>
  intro p m he _ hm
  obtain ⟨m, rfl, _⟩ := zg hm
  exact ⟨_, by rw [j4, he, if_neg (yD p)]; simp [qx]; rfl⟩
 | cons x l ih =>
  intro p m he hG hm
  obtain ⟨m, rfl, hm'⟩ := zg hm
  have hlen : a.L.length = p.length + (l.length + 1) := by rw [he]; simp
  obtain ⟨z, hz⟩ := ih (p ++ [x]) m (by rw [he]; simp) (fun y hy => hG y (List.mem_cons_of_mem _ hy)) (by simp only [List.length_cons] at hm'; omega)
  refine ⟨z, ?_⟩
  rw [j4, if_pos (by omega), zl, Option.bind_some, show a.L[p.length]? = some x by rw [he]; exact yg p x l, Option.bind_some, hG x List.mem_cons_self, Option.bind_some, y8 p x (by omega)]
  rw [show qx (x :: l) = (knV x && qx l) by simp only [qx]]
  unfold ofR
  by_cases hk : knV x = true
  ·rw [if_pos hk, hk]
   dsimp only
   rw [if_pos (xb (by decide) (by rw [U3]; simp only [List.length_cons, List.length_nil]; omega)), <- Rw, hz, Bool.true_and]
  ·rw [if_neg hk, Bool.eq_false_iff.2 hk]; rfl
theorem HY {G : GValue → Option (GExpr × Bool)} {a : GValue} {v2 v3 v4 v5 : Int} {v6 : List UInt8} {v7 : List (List UInt8)} {v8 : List GExpr} {v9 : List UInt8} {v10 : List (List UInt8)} (ha : a.L.length <= 2 ^ 39) : ∀ (l p : List GValue) (m : Nat), a.L = p ++ l → (∀ x ∈ l, G x = some (ofR x)) → l.length < m → ∃ z, jf G a v2 v3 v4 v5 v6 v7 v8 v9 v10 m (p.length : Int) (jJ p) = some (if qx l = true then .inr (z, jJ a.L) else .inl (false, 0, [], [], [])) := by
 intro l
 induction l with
 | nil =>
  intro p m he _ hm
  obtain ⟨m, rfl, _⟩ := zg hm
  exact ⟨_, by rw [jf, he, if_neg (yD p)]; simp [qx]; rfl⟩
 | cons x l ih =>
  intro p m he hG hm
  obtain ⟨m, rfl, hm'⟩ := zg hm
  have hlen : a.L.length = p.length + (l.length + 1) := by rw [he]; simp
  obtain ⟨z, hz⟩ := ih (p ++ [x]) m (by rw [he]; simp) (fun y hy => hG y (List.mem_cons_of_mem _ hy)) (by simp only [List.length_cons] at hm'; omega)
  refine ⟨z, ?_⟩
  rw [jf, if_pos (by omega), zl, Option.bind_some, show a.L[p.length]? = some x by rw [he]; exact yg p x l, Option.bind_some, hG x List.mem_cons_self, Option.bind_some, y8 p x (by omega)]
  rw [show qx (x :: l) = (knV x && qx l) by simp only [qx]]
  unfold ofR
  by_cases hk : knV x = true
  ·rw [if_pos hk, hk]
   dsimp only
   rw [if_pos (xb (by decide) (by rw [U3]; simp only [List.length_cons, List.length_nil]; omega)), <- Rw, hz, Bool.true_and]
  ·rw [if_neg hk, Bool.eq_false_iff.2 hk]; rfl
theorem zje {α : Type} {l : List α} (h : l.length = 0) : l = [] := List.length_eq_zero_iff.1 h
theorem zfw : ∀ (N : Nat) (v : GValue), vsz v < N → vsz v <= 2 ^ 39 → ∀ d : Nat, shV d v = true → ∀ f : Nat, vsz v + 2 <= f → w5 f v = some (ofR v) := by
 intro N
 induction N with
 | zero => intro v hv; omega
 | succ N ih =>
  intro v hv hs d hd f hf
  obtain ⟨f, rfl, _⟩ := zg (show 0 < f by omega)
  have he := jz v
  have hl := qK v.L
  cases d with
  | zero => simp [shV] at hd
  | succ d =>
  rw [shV, Bool.and_eq_true, List.all_eq_true] at hd
  obtain ⟨hloc, hkids⟩ := hd
  rw [w5]
  have hG : ∀ x ∈ v.L, w5 f x = some (ofR x) := fun x hx => by
   have := ZJ hx
   exact ih x (by omega) (by omega) d (hkids x hx) f (by omega)
  unfold Jx
  obtain ⟨z1, h1⟩ := Dy (G := w5 f) (a := v) (v2 := 0) (v3 := 0) (v4 := 5) (v5 := 0) (v6 := v.K) (v7 := []) (v8 := []) (v9 := []) (v10 := []) (by omega) v.L [] f rfl hG (by omega)
  obtain ⟨z2, h2⟩ := HY (G := w5 f) (a := v) (v2 := 0) (v3 := 0) (v4 := 4) (v5 := 0) (v6 := []) (v7 := []) (v8 := []) (v9 := []) (v10 := []) (by omega) v.L [] f rfl hG (by omega)
  simp only [List.length_nil, Int.natCast_zero, jJ] at h1 h2
  rw [h1, h2]
  clear h1 h2 hG ih hkids hf he hl hv hs
  obtain ⟨k, n, s, kk, l⟩ := v
  unfold zO at hloc
  unfold ofR
  rw [PJ, DQ]
  simp only [show ∀ (a b : Int) (c : List UInt8) (d : List (List UInt8)) (e : List GValue), (GValue.mk a b c d e).Kind = a from fun _ _ _ _ _ => rfl, show ∀ (a b : Int) (c : List UInt8) (d : List (List UInt8)) (e : List GValue), (GValue.mk a b c d e).N = b from fun _ _ _ _ _ => rfl,
   show ∀ (a b : Int) (c : List UInt8) (d : List (List UInt8)) (e : List GValue), (GValue.mk a b c d e).S = c from fun _ _ _ _ _ => rfl, show ∀ (a b : Int) (c : List UInt8) (d : List (List UInt8)) (e : List GValue), (GValue.mk a b c d e).K = d from fun _ _ _ _ _ => rfl, show ∀ (a b : Int) (c : List UInt8) (d : List (List UInt8)) (e : List GValue), (GValue.mk a b c d e).L = e from fun _ _ _ _ _ => rfl] at hloc ⊢
  by_cases k0 : k = 0
  ·subst k0
   simp at hloc
   obtain ⟨rfl, rfl, rfl, rfl⟩ := hloc
   rfl
  by_cases k1 : k = 1
  ·subst k1
   simp at hloc
   obtain ⟨_, rfl, rfl, rfl⟩ := hloc
   simp [qx, jJ]
  by_cases k2 : k = 2
  ·subst k2
   simp at hloc
   obtain ⟨_, rfl, rfl, rfl⟩ := hloc
   by_cases hn : n < 0 <;> simp [qx, jJ, hn]
  by_cases k3 : k = 3
  ·subst k3
   simp at hloc
   obtain ⟨_, rfl, rfl, rfl⟩ := hloc
   simp [qx, jJ]
  by_cases k6 : k = 6
  ·subst k6
   simp
  by_cases k5 : k = 5
  ·subst k5
   simp at hloc
   obtain ⟨⟨_, rfl, rfl, _⟩, _⟩ := hloc
   cases qx l <;> simp
  by_cases k4 : k = 4
  ·subst k4
   simp at hloc
   obtain ⟨rfl, rfl, rfl, _⟩ := hloc
   cases qx l <;> simp
  ·simp [k0, k1, k2, k3, k4, k5, k6] at hloc
def Y4 (a0 : GValue) : Option (GExpr × Bool) := if vsz a0 <= 2 ^ 39 ∧ shV 5 a0 = true then some (ofR a0) else none
theorem OJ (a0 : GValue) (r : (GExpr × Bool)) (h : Y4 a0 = some r) : ∃ n, w5 n a0 = some r := by
 unfold Y4 at h
 obtain ⟨⟨ha, hd⟩, h⟩ := yc h
 exact ⟨vsz a0 + 2, by rw [<- h]; exact zfw _ a0 (Nat.lt_succ_self _) ha 5 hd _ (Nat.le_refl _)⟩
theorem NE : Ze Y4 := by
 intro a0 r h
 obtain ⟨n, hn⟩ := OJ a0 r h
 exact (Mk n) a0 r hn
end
end Go.Am.Try
