/- The functions of the program in plain Lean, and that the machine answers as they do; conditions at each theorem. -/
import Derived.Test.YtjmhaigcaidloaaGreatDoorBG1
set_option linter.unusedVariables false
set_option linter.unusedSimpArgs false
namespace Go.Am.Try
open Go.Am Go.Proofs
set_option linter.unusedVariables false
set_option maxRecDepth 20000
set_option maxHeartbeats 2000000
noncomputable section
def Ye (F : GValue → Int → Int → Option Int) : Prop := ∀ (a0 : GValue) (a1 : Int) (a2 : Int), Oc (F a0 a1 a2) 169 [] [.val true (zq a0), vi a1, vi a2] fun r => (vi r, [])
def yG (G_spec_l2ok : GValue → Int → Int → Option Int) (a1 : Int) (a0 : GValue) : Nat → Int → Int → Option (Int ⊕ (Int × Int))
  | 0, _, _ => none
  | m + 1, v1, v2 =>
  if v2 < (a0.L.length : Int) then
   if a0.Kind = 5 then
    (zv v2).bind fun i3 =>
    (a0.K[i3]?).bind fun x4 =>
    (xn x4).bind fun r5 =>
    match r5 with
    | true =>
     if 0 < v2 then
      (zv (w64 (v2 - 1))).bind fun i7 =>
      (a0.K[i7]?).bind fun x8 =>
      if Op.bytesLess x8 x4 = true then
       (a0.L[i3]?).bind fun x10 =>
       (G_spec_l2ok x10 (w64 (a1 + 1)) v1).bind fun r11 =>
       if r11 < 0 then
        some (.inl (-1))
       else
       yG G_spec_l2ok a1 a0 m r11 (w64 (v2 + 1))
      else
      some (.inl (-1))
     else
     (a0.L[i3]?).bind fun x7 =>
     (G_spec_l2ok x7 (w64 (a1 + 1)) v1).bind fun r8 =>
     if r8 < 0 then
      some (.inl (-1))
     else
     yG G_spec_l2ok a1 a0 m r8 (w64 (v2 + 1))
    | false =>
     some (.inl (-1))
   else
   (zv v2).bind fun i3 =>
   (a0.L[i3]?).bind fun x4 =>
   (G_spec_l2ok x4 (w64 (a1 + 1)) v1).bind fun r5 =>
   if r5 < 0 then
    some (.inl (-1))
   else
   yG G_spec_l2ok a1 a0 m r5 (w64 (v2 + 1))
  else
  some (.inr (v1, v2))
theorem Q8 (G_spec_l2ok : GValue → Int → Int → Option Int) (H_spec_l2ok : Ye G_spec_l2ok) (a1 : Int) (a0 : GValue) (m : Nat) : ∀ (v1 : Int) (v2 : Int), Ol (yG G_spec_l2ok a1 a0 m v1 v2) 169 (zN Tryz.f169 0) ⟨[(1, vi a1), (2, vi v1), (3, vp 0 0), (7, vi v2)], [.var (zq a0)], 0⟩ fun o => match o with | .inl o_0 => (.ret, ⟨[(6, vi o_0)], [], 0⟩) | .inr (⟨o_1_0, o_1_1⟩) => (.exit 1, ⟨[(1, vi a1), (2, vi o_1_0), (3, vp 0 0), (7, vi o_1_1), (117, vb false)], [.var (zq a0)], 0⟩) := by
  induction m with
  | zero => intro v1 v2 o h; cases h
  | succ m ih => exact fun v1 v2 => tlp (
   .le zf a0.L <|
   .lI v2 (a0.L.length : Int) (fun c1 =>
    .eI a0.Kind 5 (fun c2 =>
     .na v2 fun i3 =>
     .ix0 (zt za) a0.K i3 fun x4 =>
     .cl (ZD x4) fun r5 =>
     .vN 2 r5 (
      .an 0 0 <|
      .lI 0 v2 (fun c6 =>
       .an 0 0 <|
       .na (w64 (v2 - 1)) fun i7 =>
       .ix0 (zt za) a0.K i7 fun x8 =>
       .bt x8 <|
       .ag 5 <|
       .ag 4 <|
       .bt x4 <|
       .bI x8 x4 (fun c9 =>
        .an 0 2 <|
        .an 2 2 <|
        .ag 5 <|
        .ix zO a0.L i3 fun x10 =>
        .cl (H_spec_l2ok x10 (w64 (a1 + 1)) v1) fun r11 =>
        .lI r11 0 (fun c12 =>
         .ret (.inl (-1))) fun c12 =>
        .go (ih r11 (w64 (v2 + 1)))) fun c9 =>
       .an 0 2 <|
       .an 2 2 <|
       .ret (.inl (-1))) fun c6 =>
      .an 0 0 <|
      .an 14 0 <|
      .an 2 0 <|
      .ag 3 <|
      .ix zO a0.L i3 fun x7 =>
      .cl (H_spec_l2ok x7 (w64 (a1 + 1)) v1) fun r8 =>
      .lI r8 0 (fun c9 =>
       .ret (.inl (-1))) fun c9 =>
      .go (ih r8 (w64 (v2 + 1)))) <|
     .an 0 0 <|
     .an 0 0 <|
     .an 0 0 <|
     .an 1 0 <|
     .ret (.inl (-1))) fun c2 =>
    .na v2 fun i3 =>
    .ix zO a0.L i3 fun x4 =>
    .cl (H_spec_l2ok x4 (w64 (a1 + 1)) v1) fun r5 =>
    .lI r5 0 (fun c6 =>
     .ret (.inl (-1))) fun c6 =>
    .go (ih r5 (w64 (v2 + 1)))) fun c1 =>
   .ret (.inr (v1, v2)))
def XG (G_spec_l2ok : GValue → Int → Int → Option Int) (n : Nat) (a0 : GValue) (a1 : Int) (a2 : Int) : Option Int :=
 if (w64 (a2 - 1)) < 0 then
  some (-1)
 else
 if 5 < a1 then
  some (-1)
 else
 if a0.Kind = 3 then
  if 0 < (a0.K.length : Int) then
   some (-1)
  else
  if a0.N = 0 then
   if 0 < (a0.L.length : Int) then
    some (-1)
   else
   (vh a0.S).bind fun r7 =>
   match r7 with
   | true =>
    some (w64 (a2 - 1))
   | false =>
    some (-1)
  else
  some (-1)
 else
 if 0 < (a0.S.length : Int) then
  some (-1)
 else
 if a0.Kind = 5 then
  if a0.N = 0 then
   if (a0.K.length : Int) = (a0.L.length : Int) then
    (yG G_spec_l2ok a1 a0 n (w64 (a2 - 1)) 0).bind fun o8 =>
    match o8 with
    | .inl o8_0 =>
     some o8_0
    | .inr (⟨o8_1_0, o8_1_1⟩) =>
     some o8_1_0
   else
   some (-1)
  else
  some (-1)
 else
 if 0 < (a0.K.length : Int) then
  some (-1)
 else
 if a0.Kind = 1 then
  if 0 < (a0.L.length : Int) then
   some (-1)
  else
  if a0.N < 0 then
   some (-1)
  else
  if 1 < a0.N then
   some (-1)
  else
  some (w64 (a2 - 1))
 else
 if a0.Kind = 2 then
  if 0 < (a0.L.length : Int) then
   some (-1)
  else
  (YR a0.N).bind fun r10 =>
  match r10 with
  | true =>
   some (w64 (a2 - 1))
  | false =>
   some (-1)
 else
 if a0.N = 0 then
  if a0.Kind = 4 then
   (yG G_spec_l2ok a1 a0 n (w64 (a2 - 1)) 0).bind fun o11 =>
   match o11 with
   | .inl o11_0 =>
    some o11_0
   | .inr (⟨o11_1_0, o11_1_1⟩) =>
    some o11_1_0
  else
  if 0 < (a0.L.length : Int) then
   some (-1)
  else
  if a0.Kind = 0 then
   some (w64 (a2 - 1))
  else
  if a0.Kind = 6 then
   some (w64 (a2 - 1))
  else
  some (-1)
 else
 some (-1)
theorem NQ (G_spec_l2ok : GValue → Int → Int → Option Int) (H_spec_l2ok : Ye G_spec_l2ok) (n : Nat) : Ye (XG G_spec_l2ok n) := fun a0 a1 a2 => tc (
 .lI (w64 (a2 - 1)) 0 (fun c1 =>
  .ret (-1)) fun c1 =>
 .lI 5 a1 (fun c2 =>
  .ret (-1)) fun c2 =>
 .eI a0.Kind 3 (fun c3 =>
  .q (.eFo a0.Kind 5 (by omega)) <|
  .le (zt za) a0.K <|
  .lI 0 (a0.K.length : Int) (fun c4 =>
   .ret (-1)) fun c4 =>
  .q (.eFo a0.Kind 1 (by omega)) <|
  .q (.eFo a0.Kind 2 (by omega)) <|
  .eI a0.N 0 (fun c5 =>
   .q (.eFo a0.Kind 4 (by omega)) <|
   .q (.eFo a0.Kind 5 (by omega)) <|
   .le zf a0.L <|
   .lI 0 (a0.L.length : Int) (fun c6 =>
    .ret (-1)) fun c6 =>
   .q (.eFo a0.Kind 0 (by omega)) <|
   .q (.eFo a0.Kind 6 (by omega)) <|
   .q (.eFo a0.Kind 1 (by omega)) <|
   .q (.eFo a0.Kind 2 (by omega)) <|
   .q (.eT c3) <|
   .cl (PY a0.S) fun r7 =>
   .vN 0 r7 (
    .ret (w64 (a2 - 1))) <|
   .ret (-1)) fun c5 =>
  .ret (-1)) fun c3 =>
 .le za a0.S <|
 .lI 0 (a0.S.length : Int) (fun c4 =>
  .ret (-1)) fun c4 =>
 .eI a0.Kind 5 (fun c5 =>
  .q (.eFo a0.Kind 1 (by omega)) <|
  .q (.eFo a0.Kind 2 (by omega)) <|
  .eI a0.N 0 (fun c6 =>
   .q (.eFo a0.Kind 4 (by omega)) <|
   .q (.eT c5) <|
   .q (.eFo a0.Kind 0 (by omega)) <|
   .q (.eFo a0.Kind 6 (by omega)) <|
   .q (.eFo a0.Kind 1 (by omega)) <|
   .q (.eFo a0.Kind 2 (by omega)) <|
   .q (.eF c3) <|
   .q (.eFo a0.Kind 4 (by omega)) <|
   .q (.eT c5) <|
   .q (.eT c5) <|
   .le (zt za) a0.K <|
   .le zf a0.L <|
   .eI (a0.K.length : Int) (a0.L.length : Int) (fun c7 =>
    .l2 (Q8 G_spec_l2ok H_spec_l2ok a1 a0 n (w64 (a2 - 1)) 0) (fun o8_0 =>
     .ret o8_0) fun ⟨o8_1_0, o8_1_1⟩ =>
    .ret o8_1_0) fun c7 =>
   .ret (-1)) fun c6 =>
  .ret (-1)) fun c5 =>
 .le (zt za) a0.K <|
 .lI 0 (a0.K.length : Int) (fun c6 =>
  .ret (-1)) fun c6 =>
 .eI a0.Kind 1 (fun c7 =>
  .q (.eFo a0.Kind 4 (by omega)) <|
  .q (.eF c5) <|
  .le zf a0.L <|
  .lI 0 (a0.L.length : Int) (fun c8 =>
   .ret (-1)) fun c8 =>
  .q (.eFo a0.Kind 0 (by omega)) <|
  .q (.eFo a0.Kind 6 (by omega)) <|
  .q (.eT c7) <|
  .lI a0.N 0 (fun c9 =>
   .ret (-1)) fun c9 =>
  .lI 1 a0.N (fun c10 =>
   .ret (-1)) fun c10 =>
  .ret (w64 (a2 - 1))) fun c7 =>
 .eI a0.Kind 2 (fun c8 =>
  .q (.eFo a0.Kind 4 (by omega)) <|
  .q (.eF c5) <|
  .le zf a0.L <|
  .lI 0 (a0.L.length : Int) (fun c9 =>
   .ret (-1)) fun c9 =>
  .q (.eFo a0.Kind 0 (by omega)) <|
  .q (.eFo a0.Kind 6 (by omega)) <|
  .q (.eF c7) <|
  .q (.eT c8) <|
  .cl (Lt a0.N) fun r10 =>
  .vN 0 r10 (
   .ret (w64 (a2 - 1))) <|
  .ret (-1)) fun c8 =>
 .eI a0.N 0 (fun c9 =>
  .eI a0.Kind 4 (fun c10 =>
   .q (.eFo a0.Kind 0 (by omega)) <|
   .q (.eFo a0.Kind 6 (by omega)) <|
   .q (.eF c7) <|
   .q (.eF c8) <|
   .q (.eF c3) <|
   .q (.eT c10) <|
   .q (.eF c5) <|
   .l2 (Q8 G_spec_l2ok H_spec_l2ok a1 a0 n (w64 (a2 - 1)) 0) (fun o11_0 =>
    .ret o11_0) fun ⟨o11_1_0, o11_1_1⟩ =>
   .ret o11_1_0) fun c10 =>
  .q (.eF c5) <|
  .le zf a0.L <|
  .lI 0 (a0.L.length : Int) (fun c11 =>
   .ret (-1)) fun c11 =>
  .eI a0.Kind 0 (fun c12 =>
   .ret (w64 (a2 - 1))) fun c12 =>
  .eI a0.Kind 6 (fun c13 =>
   .ret (w64 (a2 - 1))) fun c13 =>
  .q (.eF c7) <|
  .q (.eF c8) <|
  .q (.eF c3) <|
  .q (.eF c10) <|
  .q (.eF c5) <|
  .ret (-1)) fun c9 =>
 .ret (-1)) (zh Tryz.func169)
def qy : Nat → GValue → Int → Int → Option Int
 | 0, _, _, _ => none
 | n + 1, a0, a1, a2 => XG (qy n) n a0 a1 a2
theorem Lu (n : Nat) : Ye (qy n) := by
 induction n with
 | zero => exact fun _ _ _ _ h => (by rw [qy] at h; cases h)
 | succ n ih =>
  have ih_spec_l2ok := ih
  exact fun a0 a1 a2 r h => NQ (qy n) ih_spec_l2ok n a0 a1 a2 r (by rw [qy] at h; exact h)
def okV (d : Nat) (left : Int) (v : GValue) : Int := if shV d v = true ∧ (ptV v : Int) <= left then left - ptV v else -1
theorem EK {a : List UInt8} (h : a.length <= 2 ^ 20) : xn a = some (wD a) := if_pos h
theorem EL {a : List UInt8} (h : a.length <= 2 ^ 20) : vh a = some (Xl a) := if_pos h
theorem B2 (n : Int) : YR n = some (decide (-1000000000000 <= n ∧ n <= 1000000000000)) := by
 unfold YR
 by_cases h : (-1000000000000 : Int) <= n
 ·rw [if_pos h]; simp [h]
 ·rw [if_neg h]; simp [h]
theorem EM {G : GValue → Int → Int → Option Int} {v : GValue} {dd : Nat} {deep : Int} (hdd : deep + dd = 5) (h1d : 1 <= deep) (hs : vsz v <= 2 ^ 20) (hk : v.Kind = 4 ∨ (v.Kind = 5 ∧ v.K.length = v.L.length))
  (hG : ∀ x ∈ v.L, ∀ r : Int, 0 <= r → r <= 40 → G x (deep + 1) r = some (okV dd r x)) : ∀ (d i m : Nat) (r : Int), i + d = v.L.length → d < m → 0 <= r → r <= 40 →
  ∃ z, yG G deep v m r (i : Int) = some (if ((v.Kind = 5 → j0 v.K i d = true) ∧ (v.L.drop i).all (shV dd) = true) ∧ (wz (v.L.drop i) : Int) <= r then .inr (r - wz (v.L.drop i), z) else .inl (-1)) := by
 have he := jq v
 have hl := xm v.L
 intro d
 induction d with
 | zero =>
  intro i m r hi hm h0 h1
  obtain ⟨m, rfl, _⟩ := zi hm
  refine ⟨(i : Int), ?_⟩
  rw [yG, if_neg (by omega), List.drop_eq_nil_of_le (by omega), if_pos ⟨⟨fun _ => rfl, rfl⟩, by simpa [wz] using h0⟩]
  simp [wz]
 | succ d ih =>
  intro i m r hi hm h0 h1
  obtain ⟨m, rfl, hm'⟩ := zi hm
  have hil : i < v.L.length := by omega
  have hp : wz (v.L.drop i) = ptV v.L[i] + wz (v.L.drop (i + 1)) := by rw [yU hil]; simp only [wz]
  have ha : (v.L.drop i).all (shV dd) = (shV dd v.L[i] && (v.L.drop (i + 1)).all (shV dd)) := by rw [yU hil, List.all_cons]
  have hd1 : w64 (deep + 1) = deep + 1 := xz (by omega) (by omega)
  have tail : (v.Kind = 5 → kOk v.K i = true) → ∃ z, ((G v.L[i] (w64 (deep + 1)) r).bind fun r12 => if r12 < 0 then some (.inl (-1)) else yG G deep v m r12 (w64 ((i : Int) + 1))) =
    some (if ((v.Kind = 5 → j0 v.K i (d + 1) = true) ∧ (v.L.drop i).all (shV dd) = true) ∧ (wz (v.L.drop i) : Int) <= r then .inr (r - wz (v.L.drop i), z) else .inl (-1)) := by
   intro hki
   rw [hd1, hG _ (List.getElem_mem hil) r h0 h1, Option.bind_some, z7 (by omega), hp, ha]
   unfold okV
   by_cases hc : shV dd v.L[i] = true ∧ (ptV v.L[i] : Int) <= r
   ·rw [if_pos hc, if_neg (by omega)]
    obtain ⟨z, hz⟩ := ih (i + 1) m (r - ptV v.L[i]) (by omega) (by omega) (by omega) (by omega)
    refine ⟨z, ?_⟩
    rw [hz, hc.1, Bool.true_and]
    have hcond : (((v.Kind = 5 → j0 v.K (i + 1) d = true) ∧ (v.L.drop (i + 1)).all (shV dd) = true) ∧ (wz (v.L.drop (i + 1)) : Int) <= r - ptV v.L[i]) ↔
      (((v.Kind = 5 → j0 v.K i (d + 1) = true) ∧ (v.L.drop (i + 1)).all (shV dd) = true) ∧ ((ptV v.L[i] + wz (v.L.drop (i + 1)) : Nat) : Int) <= r) := by
     have hka : (v.Kind = 5 → j0 v.K (i + 1) d = true) ↔ (v.Kind = 5 → j0 v.K i (d + 1) = true) := by
      constructor
      ·intro h hk; rw [QK, hki hk, h hk]; rfl
      ·intro h hk; have := h hk; rw [QK, hki hk, Bool.true_and] at this; exact this
     rw [hka]
     constructor
     ·rintro ⟨h1, h2⟩; exact ⟨h1, by omega⟩
     ·rintro ⟨h1, h2⟩; exact ⟨h1, by omega⟩
    by_cases hd : ((v.Kind = 5 → j0 v.K (i + 1) d = true) ∧ (v.L.drop (i + 1)).all (shV dd) = true) ∧ (wz (v.L.drop (i + 1)) : Int) <= r - ptV v.L[i]
    ·rw [if_pos hd, if_pos (hcond.1 hd)]; congr 3; omega
    ·rw [if_neg hd, if_neg (fun h => hd (hcond.2 h))]
   ·refine ⟨0, ?_⟩
    rw [if_neg hc, if_pos (by omega), if_neg]
    rintro ⟨⟨_, h2⟩, h3⟩
    rw [Bool.and_eq_true] at h2
    exact hc ⟨h2.1, by omega⟩
  have bad : v.Kind = 5 → kOk v.K i = false → ∃ z, (some (.inl (-1)) : Option (Int ⊕ (Int × Int))) = some (if ((v.Kind = 5 → j0 v.K i (d + 1) = true) ∧ (v.L.drop i).all (shV dd) = true) ∧ (wz (v.L.drop i) : Int) <= r then .inr (r - wz (v.L.drop i), z) else .inl (-1)) := by
   intro hk hki
   refine ⟨0, ?_⟩
   rw [if_neg]
   rintro ⟨⟨h1, _⟩, _⟩
   have := h1 hk
   rw [QK, hki] at this
   cases this
  rw [yG, if_pos (by omega)]
  rcases hk with hk | ⟨hk, hkl⟩
  ·rw [if_neg (by omega), zb, Option.bind_some, zd hil, Option.bind_some]
   exact tail fun h => by omega
  ·have hik : i < v.K.length := by omega
   have hx := X8 (List.getElem_mem hik)
   rw [if_pos hk, zb, Option.bind_some, zd hik, Option.bind_some, EK (by omega), Option.bind_some]
   cases hnm : wD v.K[i] with
   | false =>
    dsimp only
    refine bad hk ?_
    by_cases h0 : i = 0
    ·subst h0; rw [JX hik, hnm]
    ·rw [Qg hik (by omega), hnm]; rfl
   | true =>
    dsimp only
    by_cases h0 : 0 < i
    ·rw [if_pos (by omega), jR (by omega) h0, zb, Option.bind_some, zd (show i - 1 < v.K.length by omega), Option.bind_some]
     by_cases hb : Op.bytesLess (v.K[i - 1]'(by omega)) v.K[i] = true
     ·rw [if_pos hb, zd hil, Option.bind_some]
      exact tail fun _ => by rw [Qg hik h0, hnm, hb]; rfl
     ·rw [if_neg hb]
      refine bad hk ?_
      rw [Qg hik h0, hnm]; simpa using hb
    ·have : i = 0 := by omega
     subst this
     rw [if_neg (by omega), zd hil, Option.bind_some]
     exact tail fun _ => by rw [JX hik, hnm]
theorem ze0 {G : GValue → Int → Int → Option Int} {v : GValue} {f dd : Nat} {deep left : Int} (hdd : deep + dd = 5 ∨ (deep = 6 ∧ dd = 0)) (h1d : 1 <= deep) (hs : vsz v <= 2 ^ 20) (hf : v.L.length < f) (h0 : 0 <= left) (h1 : left <= 40)
  (hG : deep <= 5 → ∀ x ∈ v.L, ∀ r : Int, 0 <= r → r <= 40 → G x (deep + 1) r = some (okV dd r x)) : XG G f v deep left = some (okV (if deep <= 5 then dd + 1 else 0) left v) := by
 have he := jq v
 have hl := xm v.L
 have hpt := Ny v
 have hpl := BO v.L
 unfold XG
 rw [xz (by omega) (by omega)]
 by_cases hleft : left - 1 < 0
 ·rw [if_pos hleft]
  unfold okV; rw [if_neg (by rintro ⟨_, h⟩; omega)]
 rw [if_neg hleft]
 by_cases hdeep : 5 < deep
 ·rw [if_pos hdeep, if_neg (show ¬ deep <= 5 by omega)]
  unfold okV; rw [if_neg (by rintro ⟨h, _⟩; simp [shV] at h)]
 rw [if_neg hdeep, if_pos (show deep <= 5 by omega)]
 have hdd : deep + dd = 5 := by omega
 have hG := hG (by omega)
 unfold okV
 simp only [shV]
 have fin0 : v.L.length = 0 → (v.L.all (shV dd) = true ∧ ptV v = 1) := fun h => by
  have : v.L = [] := List.eq_nil_of_length_eq_zero h
  rw [hpt, this]; exact ⟨rfl, rfl⟩
 have yes : y3 v = true → v.L.length = 0 → some (left - 1) = some (if (y3 v && v.L.all (shV dd)) = true ∧ (ptV v : Int) <= left then left - ptV v else -1) := fun h1 h2 => by
  obtain ⟨a1, a2⟩ := fin0 h2
  rw [h1, a1, a2, if_pos ⟨rfl, by omega⟩]; rfl
 have no : y3 v = false → some (-1) = some (if (y3 v && v.L.all (shV dd)) = true ∧ (ptV v : Int) <= left then left - ptV v else -1) := fun h1 => by
  rw [h1, if_neg (by rintro ⟨h, _⟩; cases h)]
 have lp : v.Kind = 4 ∨ (v.Kind = 5 ∧ v.K.length = v.L.length) → (∀ b : Bool, v.L.length <= 40 → ((v.Kind = 5 → j0 v.K 0 v.L.length = true) ↔ b = true) → y3 v = b) → ((yG G deep v f (left - 1) 0).bind fun o8 => match o8 with | .inl o8_0 => some o8_0 | .inr (⟨o8_1_0, o8_1_1⟩) => some o8_1_0) =
   some (if (y3 v && v.L.all (shV dd)) = true ∧ (ptV v : Int) <= left then left - ptV v else -1) := fun hk hloc => by
  obtain ⟨z, hz⟩ := EM (G := G) hdd h1d hs hk hG v.L.length 0 f (left - 1) (by omega) (by omega) (by omega) (by omega)
  rw [show ((0 : Nat) : Int) = 0 from rfl, List.drop_zero] at hz
  rw [hz, Option.bind_some]
  by_cases hc : ((v.Kind = 5 → j0 v.K 0 v.L.length = true) ∧ v.L.all (shV dd) = true) ∧ (wz v.L : Int) <= left - 1
  ·rw [if_pos hc]
   have h40 : v.L.length <= 40 := by omega
   have := hloc true h40 ⟨fun _ => rfl, fun _ => hc.1.1⟩
   rw [this, hc.1.2, if_pos ⟨rfl, by omega⟩, hpt]
   dsimp only
   congr 1; omega
  ·rw [if_neg hc, if_neg]
   rintro ⟨h2, h3⟩
   rw [Bool.and_eq_true] at h2
   refine hc ⟨⟨?_, h2.2⟩, by omega⟩
   by_cases h40 : v.L.length <= 40
   ·by_cases hb : (v.Kind = 5 → j0 v.K 0 v.L.length = true)
    ·exact hb
    ·have := hloc false h40 ⟨fun h => (hb h).elim, fun h => by cases h⟩
     rw [this] at h2; cases h2.1
   ·omega
 have hloc : ∀ k, v.Kind = k → y3 v = (if k = 0 ∨ k = 6 then decide (v.N = 0 ∧ v.S.length = 0 ∧ v.K.length = 0 ∧ v.L.length = 0)
   else if k = 1 then decide ((0 <= v.N ∧ v.N <= 1) ∧ v.S.length = 0 ∧ v.K.length = 0 ∧ v.L.length = 0)
   else if k = 2 then decide ((-1000000000000 <= v.N ∧ v.N <= 1000000000000) ∧ v.S.length = 0 ∧ v.K.length = 0 ∧ v.L.length = 0)
   else if k = 3 then Xl v.S && decide (v.N = 0 ∧ v.K.length = 0 ∧ v.L.length = 0)
   else if k = 4 then decide (v.N = 0 ∧ v.S.length = 0 ∧ v.K.length = 0 ∧ v.L.length <= 40)
   else if k = 5 then decide (v.K.length = v.L.length ∧ v.N = 0 ∧ v.S.length = 0 ∧ v.L.length <= 40) && j0 v.K 0 v.K.length
   else false) := fun k hk => by unfold y3; rw [hk]
 by_cases k3 : v.Kind = 3
 ·have hv := hloc 3 k3
  simp only [show ¬ ((3 : Int) = 0 ∨ (3 : Int) = 6) by omega, if_false, show ¬ ((3 : Int) = 1) by omega, show ¬ ((3 : Int) = 2) by omega, if_true] at hv
  rw [if_pos k3]
  by_cases a1 : 0 < (v.K.length : Int)
  ·rw [if_pos a1]; exact no (by rw [hv, decide_eq_false (by omega)]; simp)
  ·rw [if_neg a1]
   by_cases a2 : v.N = 0
   ·rw [if_pos a2]
    by_cases a3 : 0 < (v.L.length : Int)
    ·rw [if_pos a3]; exact no (by rw [hv, decide_eq_false (by omega)]; simp)
    ·rw [if_neg a3, EL (by omega), Option.bind_some]
     rw [decide_eq_true (by omega), Bool.and_true] at hv
     cases ht : Xl v.S with
     | true => exact yes (by rw [hv, ht]) (by omega)
     | false => exact no (by rw [hv, ht])
   ·rw [if_neg a2]; exact no (by rw [hv, decide_eq_false (by omega)]; simp)
 rw [if_neg k3]
 by_cases hS : 0 < (v.S.length : Int)
 ·rw [if_pos hS]
  refine no ?_
  unfold y3
  simp only [k3, if_false]
  repeat' split
  all_goals first | rfl | (rw [decide_eq_false (by omega)]; try rfl)
 rw [if_neg hS]
 by_cases k5 : v.Kind = 5
 ·have hv := hloc 5 k5
  simp only [show ¬ ((5 : Int) = 0 ∨ (5 : Int) = 6) by omega, if_false, show ¬ ((5 : Int) = 1) by omega, show ¬ ((5 : Int) = 2) by omega, show ¬ ((5 : Int) = 3) by omega, show ¬ ((5 : Int) = 4) by omega, if_true] at hv
  rw [if_pos k5]
  by_cases a2 : v.N = 0
  ·rw [if_pos a2]
   by_cases a3 : (v.K.length : Int) = (v.L.length : Int)
   ·rw [if_pos a3]
    refine lp (.inr ⟨k5, by omega⟩) fun b h40 hb => ?_
    rw [hv, decide_eq_true (by omega), Bool.true_and, show v.K.length = v.L.length by omega, Bool.eq_iff_iff, <- hb]
    exact ⟨fun h _ => h, fun h => h k5⟩
   ·rw [if_neg a3]; exact no (by rw [hv, decide_eq_false (by omega)]; rfl)
  ·rw [if_neg a2]; exact no (by rw [hv, decide_eq_false (by omega)]; rfl)
 rw [if_neg k5]
 by_cases hK : 0 < (v.K.length : Int)
 ·rw [if_pos hK]
  refine no ?_
  unfold y3
  simp only [k3, k5, if_false]
  repeat' split
  all_goals first | rfl | (rw [decide_eq_false (by omega)]; try rfl)
 rw [if_neg hK]
 by_cases k1 : v.Kind = 1
 ·have hv := hloc 1 k1
  simp only [show ¬ ((1 : Int) = 0 ∨ (1 : Int) = 6) by omega, if_false, if_true] at hv
  rw [if_pos k1]
  by_cases a3 : 0 < (v.L.length : Int)
  ·rw [if_pos a3]; exact no (by rw [hv, decide_eq_false (by omega)])
  ·rw [if_neg a3]
   by_cases a4 : v.N < 0
   ·rw [if_pos a4]; exact no (by rw [hv, decide_eq_false (by omega)])
   ·rw [if_neg a4]
    by_cases a5 : 1 < v.N
    ·rw [if_pos a5]; exact no (by rw [hv, decide_eq_false (by omega)])
    ·rw [if_neg a5]; exact yes (by rw [hv, decide_eq_true (by omega)]) (by omega)
 rw [if_neg k1]
 by_cases k2 : v.Kind = 2
 ·have hv := hloc 2 k2
  simp only [show ¬ ((2 : Int) = 0 ∨ (2 : Int) = 6) by omega, if_false, show ¬ ((2 : Int) = 1) by omega, if_true] at hv
  rw [if_pos k2]
  by_cases a3 : 0 < (v.L.length : Int)
  ·rw [if_pos a3]; exact no (by rw [hv, decide_eq_false (by omega)])
  ·rw [if_neg a3, B2, Option.bind_some]
   by_cases a4 : -1000000000000 <= v.N ∧ v.N <= 1000000000000
   ·rw [decide_eq_true a4]; exact yes (by rw [hv, decide_eq_true (by omega)]) (by omega)
   ·rw [decide_eq_false a4]; exact no (by rw [hv, decide_eq_false (by omega)])
 rw [if_neg k2]
 by_cases a2 : v.N = 0
 ·rw [if_pos a2]
  by_cases k4 : v.Kind = 4
  ·have hv := hloc 4 k4
   simp only [show ¬ ((4 : Int) = 0 ∨ (4 : Int) = 6) by omega, if_false, show ¬ ((4 : Int) = 1) by omega, show ¬ ((4 : Int) = 2) by omega, show ¬ ((4 : Int) = 3) by omega, if_true] at hv
   rw [if_pos k4]
   refine lp (.inl k4) fun b h40 hb => ?_
   rw [hv, decide_eq_true (by omega)]
   exact (hb.1 fun h => by omega).symm
  ·rw [if_neg k4]
   by_cases a3 : 0 < (v.L.length : Int)
   ·rw [if_pos a3]
    refine no ?_
    unfold y3
    simp only [k1, k2, k3, k4, k5, if_false]
    repeat' split
    all_goals first | rfl | (rw [decide_eq_false (by omega)])
   ·rw [if_neg a3]
    by_cases k0 : v.Kind = 0
    ·rw [if_pos k0]; exact yes (by unfold y3; rw [if_pos (.inl k0), decide_eq_true (by omega)]) (by omega)
    ·rw [if_neg k0]
     by_cases k6 : v.Kind = 6
     ·rw [if_pos k6]; exact yes (by unfold y3; rw [if_pos (.inr k6), decide_eq_true (by omega)]) (by omega)
     ·rw [if_neg k6]
      exact no (by unfold y3; simp only [k0, k1, k2, k3, k4, k5, k6, or_self, if_false])
 ·rw [if_neg a2]
  refine no ?_
  unfold y3
  simp only [k1, k2, k3, k5, if_false]
  repeat' split
  all_goals first | rfl | (rw [decide_eq_false (by omega)])
theorem ze1 : ∀ (N : Nat) (v : GValue), vsz v < N → vsz v <= 2 ^ 20 → ∀ (f : Nat) (deep left : Int), vsz v + 2 <= f → 1 <= deep → deep <= 6 → 0 <= left → left <= 40 → qy f v deep left = some (okV (6 - deep).toNat left v) := by
 intro N
 induction N with
 | zero => intro v hv; omega
 | succ N ih =>
  intro v hv hs f deep left hf h1 h2 h3 h4
  obtain ⟨f, rfl, _⟩ := zi (show 0 < f by omega)
  have he := jq v
  have hl := xm v.L
  rw [qy]
  have := ze0 (G := qy f) (f := f) (dd := (5 - deep).toNat) (deep := deep) (left := left) (by omega) h1 hs (by omega) h3 h4 fun hd x hx r g0 g1 => by
   have hm := qu hx
   have := ih x (by omega) (by omega) f (deep + 1) r (by omega) (by omega) (by omega) g0 g1
   rw [show (6 - (deep + 1)).toNat = (5 - deep).toNat by omega] at this
   exact this
  rw [this]
  congr 2
  by_cases hd : deep <= 5
  ·rw [if_pos hd]; omega
  ·rw [if_neg hd]; omega
def vA (a0 : GValue) (a1 : Int) (a2 : Int) : Option Int := if vsz a0 <= 2 ^ 20 ∧ (1 <= a1 ∧ a1 <= 6) ∧ 0 <= a2 ∧ a2 <= 40 then some (okV (6 - a1).toNat a2 a0) else none
theorem PZ (a0 : GValue) (a1 : Int) (a2 : Int) (r : Int) (h : vA a0 a1 a2 = some r) : ∃ n, qy n a0 a1 a2 = some r := by
 unfold vA at h
 obtain ⟨⟨hs, ⟨h1, h2⟩, h3, h4⟩, h⟩ := zF h
 exact ⟨vsz a0 + 2, by rw [<- h]; exact ze1 _ a0 (Nat.lt_succ_self _) hs _ a1 a2 (Nat.le_refl _) h1 h2 h3 h4⟩
theorem MP : Ye vA := by
 intro a0 a1 a2 r h
 obtain ⟨n, hn⟩ := PZ a0 a1 a2 r h
 exact (Lu n) a0 a1 a2 r hn
def xg (a0 : GValue) : Option Bool :=
 (vA a0 1 40).bind fun r1 =>
 some (decide (0 <= r1))
theorem vj (a0 : GValue) : Oc (xg a0) 127 [] [.val true (zq a0)] fun r => (vb r, []) := tc (
 .cl (MP a0 1 40) fun r1 =>
 .gD 0 r1 <|
 .ret (decide (0 <= r1))) (zh Tryz.func127)
def ku (F : GValue → Option Bool) : Prop := ∀ (a0 : GValue), Oc (F a0) 168 [] [.val true (zq a0)] fun r => (vb r, [])
def wJ (G_spec_l2known : GValue → Option Bool) (a0 : GValue) : Nat → Int → Option (Bool ⊕ Int)
  | 0, _ => none
  | m + 1, v0 =>
  if v0 < (a0.L.length : Int) then
   (zv v0).bind fun i2 =>
   (a0.L[i2]?).bind fun x3 =>
   (G_spec_l2known x3).bind fun r4 =>
   match r4 with
   | true =>
    wJ G_spec_l2known a0 m (w64 (v0 + 1))
   | false =>
    some (.inl false)
  else
  some (.inr v0)
theorem Vp (G_spec_l2known : GValue → Option Bool) (H_spec_l2known : ku G_spec_l2known) (a0 : GValue) (m : Nat) : ∀ (v0 : Int), Ol (wJ G_spec_l2known a0 m v0) 168 (zN Tryz.f168 0) ⟨[(1, vp 0 0), (3, vi v0)], [.var (zq a0)], 0⟩ fun o => match o with | .inl o_0 => (.ret, ⟨[(2, vb o_0)], [], 0⟩) | .inr (o_1) => (.exit 0, ⟨[(1, vp 0 0), (3, vi o_1), (11, vb false)], [.var (zq a0)], 0⟩) := by
  induction m with
  | zero => intro v0 o h; cases h
  | succ m ih => exact fun v0 => tlp (
   .le zf a0.L <|
   .lI v0 (a0.L.length : Int) (fun c1 =>
    .na v0 fun i2 =>
    .ix zO a0.L i2 fun x3 =>
    .cl (H_spec_l2known x3) fun r4 =>
    .vN 0 r4 (
     .go (ih (w64 (v0 + 1)))) <|
    .ret (.inl false)) fun c1 =>
   .ret (.inr v0))
def Xy (G_spec_l2known : GValue → Option Bool) (n : Nat) (a0 : GValue) : Option Bool :=
 if a0.Kind = 6 then
  some false
 else
 (wJ G_spec_l2known a0 n 0).bind fun o2 =>
 match o2 with
 | .inl o2_0 =>
  some o2_0
 | .inr (o2_1) =>
  some true
theorem Oa (G_spec_l2known : GValue → Option Bool) (H_spec_l2known : ku G_spec_l2known) (n : Nat) : ku (Xy G_spec_l2known n) := fun a0 => tc (
 .eI a0.Kind 6 (fun c1 =>
  .ret false) fun c1 =>
 .l2 (Vp G_spec_l2known H_spec_l2known a0 n 0) (fun o2_0 =>
  .ret o2_0) fun o2_1 =>
 .ret true) (zh Tryz.func168)
def xv : Nat → GValue → Option Bool
 | 0, _ => none
 | n + 1, a0 => Xy (xv n) n a0
theorem Tp (n : Nat) : ku (xv n) := by
 induction n with
 | zero => exact fun _ _ h => (by rw [xv] at h; cases h)
 | succ n ih =>
  have ih_spec_l2known := ih
  exact fun a0 r h => Oa (xv n) ih_spec_l2known n a0 r (by rw [xv] at h; exact h)
theorem MQ {G : GValue → Option Bool} {v : GValue} (ha : v.L.length <= 2 ^ 40) (hG : ∀ x ∈ v.L, G x = some (knV x)) : ∀ (l p : List GValue) (m : Nat), v.L = p ++ l → l.length < m → ∃ z, wJ G v m (p.length : Int) = some (if Wj l = true then .inr z else .inl false) := by
 intro l
 induction l with
 | nil =>
  intro p m he hm
  obtain ⟨m, rfl, _⟩ := zi hm
  exact ⟨_, by rw [wJ, if_neg (by rw [he]; exact XA p)]; rfl⟩
 | cons x l ih =>
  intro p m he hm
  obtain ⟨m, rfl, hm'⟩ := zi hm
  have hlen : v.L.length = p.length + (l.length + 1) := by rw [he]; simp
  rw [wJ, if_pos (by omega), zb, Option.bind_some, show v.L[p.length]? = some x by rw [he]; exact wP p x l, Option.bind_some, hG x (by rw [he]; simp), Option.bind_some, Wj]
  cases hx : knV x with
  | true =>
   dsimp only
   rw [qw p x (by omega), Bool.true_and]
   exact ih (p ++ [x]) m (by rw [he]; simp) (by simp only [List.length_cons] at hm'; omega)
  | false => exact ⟨0, rfl⟩
theorem EN : ∀ (N : Nat) (v : GValue), vsz v < N → vsz v <= 2 ^ 39 → ∀ f, vsz v + 2 <= f → xv f v = some (knV v) := by
 intro N
 induction N with
 | zero => intro v hv; omega
 | succ N ih =>
  intro v hv hs f hf
  have he := jq v
  have hl := xm v.L
  obtain ⟨f, rfl, _⟩ := zi (show 0 < f by omega)
  rw [xv]
  unfold Xy
  rw [Du]
  by_cases h6 : v.Kind = 6
  ·rw [if_pos h6, h6]; rfl
  ·rw [if_neg h6]
   obtain ⟨z, hz⟩ := MQ (G := xv f) (v := v) (by omega) (fun x hx => by
    have := qu hx
    exact ih x (by omega) (by omega) f (by omega)) v.L [] f rfl (by omega)
   simp only [List.length_nil, Int.natCast_zero] at hz
   rw [hz, Option.bind_some, decide_eq_true h6, Bool.true_and]
   cases Wj v.L <;> rfl
def qY (a0 : GValue) : Option Bool := if vsz a0 <= 2 ^ 39 then some (knV a0) else none
theorem R2 (a0 : GValue) (r : Bool) (h : qY a0 = some r) : ∃ n, xv n a0 = some r := by
 unfold qY at h
 obtain ⟨ha, h⟩ := zF h
 exact ⟨vsz a0 + 2, by rw [<- h]; exact EN _ a0 (Nat.lt_succ_self _) ha _ (Nat.le_refl _)⟩
theorem UF : ku qY := by
 intro a0 r h
 obtain ⟨n, hn⟩ := R2 a0 r h
 exact (Tp n) a0 r hn
def ji (a0 : GValue) : Option Bool :=
 if a0.Kind = 5 then
  (xg a0).bind fun r2 =>
  match r2 with
  | true =>
   (qY a0).bind fun r3 =>
   some r3
  | false =>
   some false
 else
 some false
theorem Kj (a0 : GValue) : Oc (ji a0) 125 [] [.val true (zq a0)] fun r => (vb r, []) := tc (
 .eI a0.Kind 5 (fun c1 =>
  .cl (vj a0) fun r2 =>
  .vM 1 r2 (
   .az 0 0 <|
   .cl (UF a0) fun r3 =>
   .az 0 1 <|
   .ret r3) <|
  .az 0 0 <|
  .az 0 0 <|
  .ret false) fun c1 =>
 .ret false) (zh Tryz.func125)
def Jj (F : (List (List UInt8)) → Option Bool) : Prop := ∀ (a0 : (List (List UInt8))), Oc (F a0) 126 [] [vq (zt za) a0] fun r => (vb r, [])
def xE (a0 : (List (List UInt8))) : Nat → Int → Option (Bool ⊕ Int)
  | 0, _ => none
  | m + 1, v1 =>
  if v1 < (a0.length : Int) then
   (zv v1).bind fun i2 =>
   (a0[i2]?).bind fun x3 =>
   (xS x3).bind fun r4 =>
   match r4 with
   | true =>
    if 0 < v1 then
     (zv (w64 (v1 - 1))).bind fun i6 =>
     (a0[i6]?).bind fun x7 =>
     if Op.bytesLess x7 x3 = true then
      xE a0 m (w64 (v1 + 1))
     else
     some (.inl false)
    else
    xE a0 m (w64 (v1 + 1))
   | false =>
    some (.inl false)
  else
  some (.inr v1)
theorem Vq (a0 : (List (List UInt8))) (m : Nat) : ∀ (v1 : Int), Ol (xE a0 m v1) 126 (zN Tryz.f126 0) ⟨[(0, vq (zt za) a0), (3, vi v1)], [], 0⟩ fun o => match o with | .inl o_0 => (.ret, ⟨[(2, vb o_0)], [], 0⟩) | .inr (o_1) => (.exit 0, ⟨[(0, vq (zt za) a0), (3, vi o_1), (10, vb false)], [], 0⟩) := by
  induction m with
  | zero => intro v1 o h; cases h
  | succ m ih => exact fun v1 => tlp (
   .le (zt za) a0 <|
   .lI v1 (a0.length : Int) (fun c1 =>
    .na v1 fun i2 =>
    .ix0 (zt za) a0 i2 fun x3 =>
    .cl (qe x3) fun r4 =>
    .vN 0 r4 (
     .an 0 0 <|
     .lI 0 v1 (fun c5 =>
      .an 0 0 <|
      .na (w64 (v1 - 1)) fun i6 =>
      .ix0 (zt za) a0 i6 fun x7 =>
      .bt x7 <|
      .ag 5 <|
      .ag 4 <|
      .bt x3 <|
      .bI x7 x3 (fun c8 =>
       .an 0 2 <|
       .an 1 2 <|
       .go (ih (w64 (v1 + 1)))) fun c8 =>
      .an 0 2 <|
      .an 1 2 <|
      .ret (.inl false)) fun c5 =>
     .an 0 0 <|
     .an 12 0 <|
     .an 1 0 <|
     .go (ih (w64 (v1 + 1)))) <|
    .an 0 0 <|
    .an 0 0 <|
    .an 0 0 <|
    .an 0 0 <|
    .ret (.inl false)) fun c1 =>
   .ret (.inr v1))
def Xz (n : Nat) (a0 : (List (List UInt8))) : Option Bool :=
 if 8 < (a0.length : Int) then
  some false
 else
 (xE a0 n 0).bind fun o2 =>
 match o2 with
 | .inl o2_0 =>
  some o2_0
 | .inr (o2_1) =>
  some true
theorem Ob (n : Nat) : Jj (Xz n) := fun a0 => tc (
 .le (zt za) a0 <|
 .lI 8 (a0.length : Int) (fun c1 =>
  .ret false) fun c1 =>
 .l2 (Vq a0 n 0) (fun o2_0 =>
  .ret o2_0) fun o2_1 =>
 .ret true) (zh Tryz.func126)
theorem Q9 {a : List UInt8} (h : a.length <= 2 ^ 20) : xS a = some (yj a) := B1 h
theorem MR {a : List (List UInt8)} (hs : ∀ x ∈ a, x.length <= 2 ^ 20) (ha : a.length <= 2 ^ 40) : ∀ (d i m : Nat), i + d = a.length → d < m → ∃ z, xE a m (i : Int) = some (if j3 yj id a i d = true then .inr z else .inl false) := by
 intro d
 induction d with
 | zero =>
  intro i m hi hm
  obtain ⟨m, rfl, _⟩ := zi hm
  exact ⟨_, by rw [xE, if_neg (by omega)]; rfl⟩
 | succ d ih =>
  intro i m hi hm
  obtain ⟨m, rfl, hm'⟩ := zi hm
  have hil : i < a.length := by omega
  rw [xE, if_pos (by omega), zb, Option.bind_some, zd hil, Option.bind_some, Q9 (hs _ (List.getElem_mem hil)), Option.bind_some, QM]
  obtain ⟨z, hz⟩ := ih (i + 1) m (by omega) (by omega)
  cases hx : yj a[i] with
  | false =>
   refine ⟨0, ?_⟩
   have : gOk yj id a i = false := by
    unfold gOk; rw [zd hil]; simp [hx]
   rw [this]; rfl
  | true =>
   dsimp only
   by_cases h0 : 0 < i
   ·rw [if_pos (by omega), jR (by omega) h0, zb, Option.bind_some, zd (show i - 1 < a.length by omega), Option.bind_some, VT hil h0, hx, Bool.true_and, z7 (by omega), hz]
    by_cases hl : Op.bytesLess a[i - 1] a[i] = true
    ·rw [if_pos hl, show Op.bytesLess (id a[i - 1]) (id a[i]) = true from hl, Bool.true_and]; exact ⟨z, rfl⟩
    ·rw [if_neg hl, show Op.bytesLess (id a[i - 1]) (id a[i]) = false from Bool.eq_false_iff.2 hl]; exact ⟨z, rfl⟩
   ·obtain rfl : i = 0 := by omega
    rw [if_neg (by omega), Kb hil, hx, Bool.true_and, z7 (by omega), hz]
    exact ⟨z, rfl⟩
def qh (a0 : (List (List UInt8))) : Option Bool := if bsz a0 <= 2 ^ 20 then some (jN a0) else none
theorem R3 (a0 : (List (List UInt8))) (r : Bool) (h : qh a0 = some r) : ∃ n, Xz n a0 = some r := by
 unfold qh at h
 obtain ⟨ha, h⟩ := zF h
 have hl := vB a0
 obtain ⟨z, hz⟩ := MR (a := a0) (fun x hx => by have := X8 hx; omega) (by omega) a0.length 0 (a0.length + 1) (by omega) (by omega)
 refine ⟨a0.length + 1, ?_⟩
 unfold Xz
 rw [show ((0 : Nat) : Int) = 0 from rfl] at hz
 rw [<- h]
 unfold jN
 by_cases h8 : (8 : Int) < (a0.length : Int)
 ·rw [if_pos h8, decide_eq_false (by omega)]; rfl
 ·rw [if_neg h8, hz, Option.bind_some, decide_eq_true (by omega), Bool.true_and]
  cases j3 yj id a0 0 a0.length <;> rfl
theorem QA : Jj qh := fun a0 r h => (R3 a0 r h).elim fun n hn => Ob n a0 r hn
def Jk (F : GState → Option Bool) : Prop := ∀ (a0 : GState), Oc (F a0) 70 [] [.val true (yn a0)] fun r => (vb r, [])
def y0 (a0 : GState) : Nat → Int → Option (Bool ⊕ Int)
  | 0, _ => none
  | m + 1, v0 =>
  if v0 < (a0.Entries.length : Int) then
   (zv v0).bind fun i2 =>
   (a0.Entries[i2]?).bind fun x3 =>
   (xS x3.Addr).bind fun r4 =>
   match r4 with
   | true =>
    (ji x3.Val).bind fun r5 =>
    match r5 with
    | true =>
     (qh x3.Deps).bind fun r6 =>
     match r6 with
     | true =>
      if x3.Turned < 1 then
       some (.inl false)
      else
      if a0.Serial < x3.Turned then
       some (.inl false)
      else
      if 0 < v0 then
       (zv (w64 (v0 - 1))).bind fun i10 =>
       (a0.Entries[i10]?).bind fun x11 =>
       if Op.bytesLess x11.Addr x3.Addr = true then
        y0 a0 m (w64 (v0 + 1))
       else
       some (.inl false)
      else
      y0 a0 m (w64 (v0 + 1))
     | false =>
      some (.inl false)
    | false =>
     some (.inl false)
   | false =>
    some (.inl false)
  else
  some (.inr v0)
theorem Zn (a0 : GState) (m : Nat) : ∀ (v0 : Int), Ol (y0 a0 m v0) 70 (zN Tryz.f70 0) ⟨[(1, vp 0 0), (4, vi v0)], [.var (yn a0)], 0⟩ fun o => match o with | .inl o_0 => (.ret, ⟨[(2, vb o_0)], [], 0⟩) | .inr (o_1) => (.exit 0, ⟨[(1, vp 0 0), (4, vi o_1), (71, vb false)], [.var (yn a0)], 0⟩) := by
  induction m with
  | zero => intro v0 o h; cases h
  | succ m ih => exact fun v0 => tlp (
   .le zl a0.Entries <|
   .lI v0 (a0.Entries.length : Int) (fun c1 =>
    .na v0 fun i2 =>
    .ix zX a0.Entries i2 fun x3 =>
    .cl (qe x3.Addr) fun r4 =>
    .vN 0 r4 (
     .an 0 0 <|
     .an 0 0 <|
     .cl (Kj x3.Val) fun r5 =>
     .an 0 1 <|
     .an 0 1 <|
     .vN 0 r5 (
      .an 0 0 <|
      .an 0 0 <|
      .cl (QA x3.Deps) fun r6 =>
      .an 0 1 <|
      .an 0 1 <|
      .vN 0 r6 (
       .an 0 0 <|
       .an 0 0 <|
       .lI x3.Turned 1 (fun c7 =>
        .an 0 0 <|
        .ret (.inl false)) fun c7 =>
       .an 0 0 <|
       .lI a0.Serial x3.Turned (fun c8 =>
        .ret (.inl false)) fun c8 =>
       .lI 0 v0 (fun c9 =>
        .na (w64 (v0 - 1)) fun i10 =>
        .ix zX a0.Entries i10 fun x11 =>
        .bt x11.Addr <|
        .bt x3.Addr <|
        .bI x11.Addr x3.Addr (fun c12 =>
         .go (ih (w64 (v0 + 1)))) fun c12 =>
        .ret (.inl false)) fun c9 =>
       .go (ih (w64 (v0 + 1)))) <|
      .an 0 0 <|
      .an 0 0 <|
      .an 0 0 <|
      .ret (.inl false)) <|
     .an 0 0 <|
     .an 0 0 <|
     .an 0 0 <|
     .an 0 0 <|
     .ret (.inl false)) <|
    .an 0 0 <|
    .an 0 0 <|
    .an 0 0 <|
    .an 0 0 <|
    .ret (.inl false)) fun c1 =>
   .ret (.inr v0))
def ZH (n : Nat) (a0 : GState) : Option Bool :=
 if a0.Serial < 0 then
  some false
 else
 if 1000000 < a0.Serial then
  some false
 else
 if 16 < (a0.Entries.length : Int) then
  some false
 else
 if 0 < (a0.Pending.length : Int) then
  match a0.Open with
  | true =>
   (xS a0.Pending).bind fun r5 =>
   match r5 with
   | true =>
    if a0.Act < 1 then
     some false
    else
    if 4 < a0.Act then
     some false
    else
    (yS a0 a0.Pending).bind fun r8 =>
    if a0.Act = 1 then
     if 0 <= r8 then
      some false
     else
     (y0 a0 n 0).bind fun o11 =>
     match o11 with
     | .inl o11_0 =>
      some o11_0
     | .inr (o11_1) =>
      some true
    else
    if 0 <= r8 then
     (y0 a0 n 0).bind fun o11 =>
     match o11 with
     | .inl o11_0 =>
      some o11_0
     | .inr (o11_1) =>
      some true
    else
    some false
   | false =>
    some false
  | false =>
   some false
 else
 if a0.Act = 0 then
  (y0 a0 n 0).bind fun o6 =>
  match o6 with
  | .inl o6_0 =>
   some o6_0
  | .inr (o6_1) =>
   some true
 else
 some false
theorem Od (n : Nat) : Jk (ZH n) := fun a0 => tc (
 .lI a0.Serial 0 (fun c1 =>
  .ret false) fun c1 =>
 .lI 1000000 a0.Serial (fun c2 =>
  .ret false) fun c2 =>
 .le zl a0.Entries <|
 .lI 16 (a0.Entries.length : Int) (fun c3 =>
  .ret false) fun c3 =>
 .le za a0.Pending <|
 .lI 0 (a0.Pending.length : Int) (fun c4 =>
  .vN 4 a0.Open (
   .an 0 0 <|
   .an 0 0 <|
   .cl (qe a0.Pending) fun r5 =>
   .an 0 1 <|
   .an 1 1 <|
   .vN 1 r5 (
    .an 0 0 <|
    .an 0 0 <|
    .lI a0.Act 1 (fun c6 =>
     .an 1 0 <|
     .ret false) fun c6 =>
    .an 1 0 <|
    .lI 4 a0.Act (fun c7 =>
     .ret false) fun c7 =>
    .eD a0.Act 1 <|
    .cl (ZG a0 a0.Pending) fun r8 =>
    .gD 0 r8 <|
    .sp (a0.Act = 1) (fun c9 =>
     .sp (0 <= r8) (fun c10 =>
      .eb (dT c9) (dT c10) <|
      .ret false) fun c10 =>
     .eb (dT c9) (dF c10) <|
     .l2 (Zn a0 n 0) (fun o11_0 =>
      .ret o11_0) fun o11_1 =>
     .ret true) fun c9 =>
    .sp (0 <= r8) (fun c10 =>
     .eb (dF c9) (dT c10) <|
     .l2 (Zn a0 n 0) (fun o11_0 =>
      .ret o11_0) fun o11_1 =>
     .ret true) fun c10 =>
    .eb (dF c9) (dF c10) <|
    .ret false) <|
   .an 0 0 <|
   .an 0 0 <|
   .an 1 0 <|
   .ret false) <|
  .an 0 0 <|
  .an 0 0 <|
  .an 0 0 <|
  .an 1 0 <|
  .ret false) fun c4 =>
 .eI a0.Act 0 (fun c5 =>
  .l2 (Zn a0 n 0) (fun o6_0 =>
   .ret o6_0) fun o6_1 =>
  .ret true) fun c5 =>
 .ret false) (zh Tryz.func70)
theorem zfw {v : GValue} (h : vsz v <= 2 ^ 20) : xg v = some (kK v) := by
 unfold xg vA
 rw [if_pos ⟨h, by decide, by decide, by decide⟩, Option.bind_some]
 congr 1
 unfold okV kK
 rw [show (6 - (1 : Int)).toNat = 5 from rfl]
 by_cases hc : shV 5 v = true ∧ (ptV v : Int) <= 40
 ·rw [if_pos hc, decide_eq_true hc]; exact decide_eq_true (by omega)
 ·rw [if_neg hc, decide_eq_false hc]; rfl
theorem EO {v : GValue} (h : vsz v <= 2 ^ 20) : ji v = some (ju v) := by
 unfold ji ju
 by_cases h5 : v.Kind = 5
 ·rw [if_pos h5, zfw h, Option.bind_some, decide_eq_true h5, Bool.true_and]
  cases hv : kK v with
  | false => rfl
  | true =>
   simp only [Bool.true_and]
   unfold qY
   rw [if_pos (by omega)]; rfl
 ·rw [if_neg h5, decide_eq_false h5]; rfl
theorem Hy {l : List (List UInt8)} (h : bsz l <= 2 ^ 20) : qh l = some (jN l) := if_pos h
theorem MS {s : GState} (hs : yr s.Entries <= 2 ^ 20) : ∀ (d i m : Nat), i + d = s.Entries.length → d < m → ∃ z, y0 s m (i : Int) = some (if j3 (Wk s.Serial) GEntry.Addr s.Entries i d = true then .inr z else .inl false) := by
 have hlen := qP s.Entries
 intro d
 induction d with
 | zero =>
  intro i m hi hm
  obtain ⟨m, rfl, _⟩ := zi hm
  exact ⟨_, by rw [y0, if_neg (by omega)]; rfl⟩
 | succ d ih =>
  intro i m hi hm
  obtain ⟨m, rfl, hm'⟩ := zi hm
  have hil : i < s.Entries.length := by omega
  have hz0 := Qh (List.getElem_mem hil)
  obtain ⟨z, hz⟩ := ih (i + 1) m (by omega) (by omega)
  rw [y0, if_pos (by omega), zb, Option.bind_some, zd hil, Option.bind_some, QM]
  unfold esz at hz0
  rw [Q9 (by omega), Option.bind_some, EO (by omega), Option.bind_some, Hy (by omega), Option.bind_some, z7 (by omega), hz]
  generalize j3 _ GEntry.Addr s.Entries (i + 1) d = g
  have hT : decide (1 <= s.Entries[i].Turned ∧ s.Entries[i].Turned <= s.Serial) = (!(decide (s.Entries[i].Turned < 1)) && !(decide (s.Serial < s.Entries[i].Turned))) := by
   by_cases a : s.Entries[i].Turned < 1 <;> by_cases b : s.Serial < s.Entries[i].Turned <;> simp [a, b] <;> omega
  refine ⟨z, ?_⟩
  by_cases h0 : 0 < i
  ·rw [VT hil h0]
   unfold Wk
   rw [hT]
   rw [if_pos (show (0 : Int) < ((i : Nat) : Int) by omega), jR (by omega) h0, zb, Option.bind_some, zd (show i - 1 < s.Entries.length by omega), Option.bind_some]
   generalize Op.bytesLess s.Entries[i - 1].Addr s.Entries[i].Addr = b
   by_cases a1 : s.Entries[i].Turned < 1 <;> by_cases a2 : s.Serial < s.Entries[i].Turned <;> cases b <;> cases yj s.Entries[i].Addr <;> cases ju s.Entries[i].Val <;> cases jN s.Entries[i].Deps <;> simp [a1, a2]
  ·obtain rfl : i = 0 := by omega
   rw [Kb hil]
   unfold Wk
   rw [hT]
   rw [if_neg (show ¬ (0 : Int) < ((0 : Nat) : Int) by omega)]
   by_cases a1 : s.Entries[0].Turned < 1 <;> by_cases a2 : s.Serial < s.Entries[0].Turned <;> cases yj s.Entries[0].Addr <;> cases ju s.Entries[0].Val <;> cases jN s.Entries[0].Deps <;> simp [a1, a2]
def kw (a0 : GState) : Option Bool := if ssz a0 <= 2 ^ 20 then some (stB a0) else none
theorem EP {s : GState} (h : ssz s <= 2 ^ 20) : kw s = some (stB s) := if_pos h
theorem NR {s : GState} (h : ssz s <= 2 ^ 20) : ZH (s.Entries.length + 1) s = some (stB s) := by
 have hlen := qP s.Entries
 unfold ssz at h
 obtain ⟨z, hz⟩ := MS (s := s) (by omega) s.Entries.length 0 (s.Entries.length + 1) (by omega) (by omega)
 rw [show ((0 : Nat) : Int) = 0 from rfl] at hz
 have hf : ((y0 s (s.Entries.length + 1) 0).bind fun o4 => match o4 with | .inl o => some o | .inr _ => some true) = some (Po s) := by
  rw [hz, show Po s = j3 (Wk s.Serial) GEntry.Addr s.Entries 0 s.Entries.length from rfl]
  cases j3 (Wk s.Serial) GEntry.Addr s.Entries 0 s.Entries.length <;> rfl
 unfold ZH
 unfold stB
 by_cases h1 : s.Serial < 0
 ·rw [if_pos h1, decide_eq_false (p := 0 <= s.Serial ∧ s.Serial <= 1000000 ∧ s.Entries.length <= 16) (by omega)]; rfl
 rw [if_neg h1]
 by_cases h2 : 1000000 < s.Serial
 ·rw [if_pos h2, decide_eq_false (p := 0 <= s.Serial ∧ s.Serial <= 1000000 ∧ s.Entries.length <= 16) (by omega)]; rfl
 rw [if_neg h2]
 by_cases h3 : (16 : Int) < (s.Entries.length : Int)
 ·rw [if_pos h3, decide_eq_false (p := 0 <= s.Serial ∧ s.Serial <= 1000000 ∧ s.Entries.length <= 16) (by omega)]; rfl
 rw [if_neg h3, decide_eq_true (p := 0 <= s.Serial ∧ s.Serial <= 1000000 ∧ s.Entries.length <= 16) (by omega), Bool.true_and]
 unfold LO
 by_cases hp : s.Pending = []
 ·rw [if_neg (by rw [hp]; simp), if_pos hp]
  by_cases ha : s.Act = 0
  ·rw [if_pos ha, decide_eq_true ha, Bool.and_true]
   exact hf
  ·rw [if_neg ha, decide_eq_false ha, Bool.and_false]
 ·have hp0 : (0 : Int) < (s.Pending.length : Int) := by
   have : s.Pending.length ≠ 0 := fun e => hp (List.eq_nil_of_length_eq_zero e)
   omega
  rw [if_pos hp0, if_neg hp]
  cases ho : s.Open with
  | false => simp
  | true =>
   dsimp only
   rw [Q9 (by omega), Option.bind_some]
   cases yj s.Pending with
   | false => simp
   | true =>
    dsimp only
    by_cases a1 : s.Act < 1
    ·rw [if_pos a1, decide_eq_false (p := 1 <= s.Act ∧ s.Act <= 4) (by omega)]; simp
    rw [if_neg a1]
    by_cases a2 : 4 < s.Act
    ·rw [if_pos a2, decide_eq_false (p := 1 <= s.Act ∧ s.Act <= 4) (by omega)]; simp
    rw [if_neg a2, decide_eq_true (p := 1 <= s.Act ∧ s.Act <= 4) (by omega)]
    unfold yS
    rw [if_pos (by omega), Option.bind_some]
    have hh := Vo s.Entries s.Pending 0
    by_cases hA : s.Act = 1
    ·rw [if_pos hA, decide_eq_false (p := s.Act ≠ 1) (by omega)]
     cases hb : yB s.Entries s.Pending with
     | true => rw [if_pos (hh.2 hb)]; simp
     | false => rw [if_neg (fun h => by rw [hh.1 h] at hb; cases hb)]; refine Eq.trans hf ?_; simp
    ·rw [if_neg hA, decide_eq_true (p := s.Act ≠ 1) hA]
     cases hb : yB s.Entries s.Pending with
     | true => rw [if_pos (hh.2 hb)]; refine Eq.trans hf ?_; simp
     | false => rw [if_neg (fun h => by rw [hh.1 h] at hb; cases hb)]; simp
theorem R4 (a0 : GState) (r : Bool) (h : kw a0 = some r) : ∃ n, ZH n a0 = some r := by
 unfold kw at h
 obtain ⟨ha, h⟩ := zF h
 exact ⟨_, by rw [<- h]; exact NR ha⟩
theorem UG : Jk kw := fun a0 r h => (R4 a0 r h).elim fun n hn => Od n a0 r hn
def xw (a0 : (List UInt8)) (a1 : (List UInt8)) : Option Int :=
 if Op.bytesLess a0 a1 = true then
  some (-1)
 else
 if Op.bytesLess a1 a0 = true then
  some 1
 else
 some 0
theorem YS (a0 : (List UInt8)) (a1 : (List UInt8)) : Oc (xw a0 a1) 155 [] [vq za a0, vq za a1] fun r => (vi r, []) := tc (
 .bt a0 <|
 .bt a1 <|
 .bI a0 a1 (fun c1 =>
  .ret (-1)) fun c1 =>
 .bt a0 <|
 .bt a1 <|
 .bI a1 a0 (fun c2 =>
  .ret 1) fun c2 =>
 .ret 0) (zh Tryz.func155)
def qA (a0 : Int) (a1 : Int) : Option Int :=
 if a0 < a1 then
  some (-1)
 else
 if a1 < a0 then
  some 1
 else
 some 0
theorem Wb (a0 : Int) (a1 : Int) : Oc (qA a0 a1) 154 [] [vi a0, vi a1] fun r => (vi r, []) := tc (
 .lI a0 a1 (fun c1 =>
  .ret (-1)) fun c1 =>
 .lI a1 a0 (fun c2 =>
  .ret 1) fun c2 =>
 .ret 0) (zh Tryz.func154)
def Zo (F : GValue → GValue → Option Int) : Prop := ∀ (a0 : GValue) (a1 : GValue), Oc (F a0 a1) 109 [] [.val true (zq a0), .val true (zq a1)] fun r => (vi r, [])
def xb (G_spec_l2cmp : GValue → GValue → Option Int) (a0 : GValue) (a1 : GValue) : Nat → Int → Option (Int ⊕ Int)
  | 0, _ => none
  | m + 1, v0 =>
  if v0 < (a0.L.length : Int) then
   if v0 < (a1.L.length : Int) then
    if a0.Kind = 5 then
     (zv v0).bind fun i4 =>
     (a0.K[i4]?).bind fun x5 =>
     (a1.K[i4]?).bind fun x6 =>
     (xw x5 x6).bind fun r7 =>
     if r7 = 0 then
      (a0.L[i4]?).bind fun x9 =>
      (a1.L[i4]?).bind fun x10 =>
      (G_spec_l2cmp x9 x10).bind fun r11 =>
      if r11 = 0 then
       xb G_spec_l2cmp a0 a1 m (w64 (v0 + 1))
      else
      some (.inl r11)
     else
     some (.inl r7)
    else
    (zv v0).bind fun i4 =>
    (a0.L[i4]?).bind fun x5 =>
    (a1.L[i4]?).bind fun x6 =>
    (G_spec_l2cmp x5 x6).bind fun r7 =>
    if r7 = 0 then
     xb G_spec_l2cmp a0 a1 m (w64 (v0 + 1))
    else
    some (.inl r7)
   else
   some (.inr v0)
  else
  some (.inr v0)
theorem Tq (G_spec_l2cmp : GValue → GValue → Option Int) (H_spec_l2cmp : Zo G_spec_l2cmp) (a0 : GValue) (a1 : GValue) (m : Nat) : ∀ (v0 : Int), Ol (xb G_spec_l2cmp a0 a1 m v0) 109 (zN Tryz.f109 0) ⟨[(2, vp 0 0), (3, vp 1 0), (5, vi v0)], [.var (zq a0), .var (zq a1)], 0⟩ fun o => match o with | .inl o_0 => (.ret, ⟨[(4, vi o_0)], [], 0⟩) | .inr (o_1) => (.exit 0, ⟨[(2, vp 0 0), (3, vp 1 0), (5, vi o_1), (47, vb false)], [.var (zq a0), .var (zq a1)], 0⟩) := by
  induction m with
  | zero => intro v0 o h; cases h
  | succ m ih => exact fun v0 => tlp (
   .le zf a0.L <|
   .lI v0 (a0.L.length : Int) (fun c1 =>
    .le zf a1.L <|
    .lI v0 (a1.L.length : Int) (fun c2 =>
     .eI a0.Kind 5 (fun c3 =>
      .na v0 fun i4 =>
      .ix0 (zt za) a0.K i4 fun x5 =>
      .ag 1 <|
      .ix0 (zt za) a1.K i4 fun x6 =>
      .cl (YS x5 x6) fun r7 =>
      .eI r7 0 (fun c8 =>
       .ag 3 <|
       .ix zO a0.L i4 fun x9 =>
       .ag 4 <|
       .ix zO a1.L i4 fun x10 =>
       .cl (H_spec_l2cmp x9 x10) fun r11 =>
       .eI r11 0 (fun c12 =>
        .go (ih (w64 (v0 + 1)))) fun c12 =>
       .ret (.inl r11)) fun c8 =>
      .ret (.inl r7)) fun c3 =>
     .na v0 fun i4 =>
     .ix zO a0.L i4 fun x5 =>
     .ag 1 <|
     .ix zO a1.L i4 fun x6 =>
     .cl (H_spec_l2cmp x5 x6) fun r7 =>
     .eI r7 0 (fun c8 =>
      .go (ih (w64 (v0 + 1)))) fun c8 =>
     .ret (.inl r7)) fun c2 =>
    .ret (.inr v0)) fun c1 =>
   .ret (.inr v0))
def kz (G_spec_l2cmp : GValue → GValue → Option Int) (n : Nat) (a0 : GValue) (a1 : GValue) : Option Int :=
 if a0.Kind = a1.Kind then
  if a0.Kind = 3 then
   (xw a0.S a1.S).bind fun r3 =>
   some r3
  else
  if a0.N = a1.N then
   (xb G_spec_l2cmp a0 a1 n 0).bind fun o4 =>
   match o4 with
   | .inl o4_0 =>
    some o4_0
   | .inr (o4_1) =>
    (qA (a0.L.length : Int) (a1.L.length : Int)).bind fun r5 =>
    some r5
  else
  (qA a0.N a1.N).bind fun r4 =>
  some r4
 else
 (qA a0.Kind a1.Kind).bind fun r2 =>
 some r2
theorem MT (G_spec_l2cmp : GValue → GValue → Option Int) (H_spec_l2cmp : Zo G_spec_l2cmp) (n : Nat) : Zo (kz G_spec_l2cmp n) := fun a0 a1 => tc (
 .eI a0.Kind a1.Kind (fun c1 =>
  .eI a0.Kind 3 (fun c2 =>
   .cl (YS a0.S a1.S) fun r3 =>
   .ret r3) fun c2 =>
  .eI a0.N a1.N (fun c3 =>
   .l2 (Tq G_spec_l2cmp H_spec_l2cmp a0 a1 n 0) (fun o4_0 =>
    .ret o4_0) fun o4_1 =>
   .le zf a0.L <|
   .le zf a1.L <|
   .cl (Wb (a0.L.length : Int) (a1.L.length : Int)) fun r5 =>
   .ret r5) fun c3 =>
  .cl (Wb a0.N a1.N) fun r4 =>
  .ret r4) fun c1 =>
 .cl (Wb a0.Kind a1.Kind) fun r2 =>
 .ret r2) (zh Tryz.func109)
def y7 : Nat → GValue → GValue → Option Int
 | 0, _, _ => none
 | n + 1, a0, a1 => kz (y7 n) n a0 a1
theorem Oe (n : Nat) : Zo (y7 n) := by
 induction n with
 | zero => exact fun _ _ _ h => (by rw [y7] at h; cases h)
 | succ n ih =>
  have ih_spec_l2cmp := ih
  exact fun a0 a1 r h => MT (y7 n) ih_spec_l2cmp n a0 a1 r (by rw [y7] at h; exact h)
def k7 (a0 : GValue) (a1 : GValue) : Option Int := y7 (vsz a0 + 3) a0 a1
theorem UH (a0 : GValue) (a1 : GValue) (r : Int) (h : k7 a0 a1 = some r) : ∃ n, y7 n a0 a1 = some r := ⟨_, h⟩
theorem Kk : Zo k7 := by
 intro a0 a1 r h
 obtain ⟨n, hn⟩ := UH a0 a1 r h
 exact (Oe n) a0 a1 r hn
def wR (a0 : GValue) : Option Bool :=
 (k7 a0 (GValue.mk 0 0 [] [] [])).bind fun r1 =>
 if r1 = 0 then
  some (decide (a0.N = 0))
 else
 some false
theorem ZI (a0 : GValue) : Oc (wR a0) 128 [] [.val true (zq a0)] fun r => (vb r, []) := tc (
 .cl (Kk a0 (GValue.mk 0 0 [] [] [])) fun r1 =>
 .eI r1 0 (fun c2 =>
  .eD a0.N 0 <|
  .ret (decide (a0.N = 0))) fun c2 =>
 .ret false) (zh Tryz.func128)
def ZJ (a0 : GEvent) : Option Bool :=
 if a0.Kind < 0 then
  some false
 else
 if 6 < a0.Kind then
  some false
 else
 if a0.Kind = 1 then
  if 0 < (a0.Addr.length : Int) then
   (xS a0.Addr).bind fun r5 =>
   match r5 with
   | true =>
    if a0.Act < 1 then
     some false
    else
    if 4 < a0.Act then
     some false
    else
    (xg a0.Val).bind fun r8 =>
    match r8 with
    | true =>
     (wR a0.Val).bind fun r9 =>
     match r9 with
     | true =>
      some (decide ((a0.Deps.length : Int) = 0))
     | false =>
      some false
    | false =>
     some false
   | false =>
    some false
  else
  some false
 else
 if a0.Kind = 2 then
  if 0 < (a0.Addr.length : Int) then
   (xS a0.Addr).bind fun r6 =>
   match r6 with
   | true =>
    if a0.Act = 0 then
     (ji a0.Val).bind fun r8 =>
     match r8 with
     | true =>
      (qh a0.Deps).bind fun r9 =>
      some r9
     | false =>
      some false
    else
    some false
   | false =>
    some false
  else
  some false
 else
 if a0.Kind = 3 then
  if 0 < (a0.Addr.length : Int) then
   (xS a0.Addr).bind fun r7 =>
   match r7 with
   | true =>
    if a0.Act = 0 then
     (xg a0.Val).bind fun r9 =>
     match r9 with
     | true =>
      (wR a0.Val).bind fun r10 =>
      match r10 with
      | true =>
       some (decide ((a0.Deps.length : Int) = 0))
      | false =>
       some false
     | false =>
      some false
    else
    some false
   | false =>
    some false
  else
  some false
 else
 if a0.Kind = 4 then
  if 0 < (a0.Addr.length : Int) then
   (xS a0.Addr).bind fun r8 =>
   match r8 with
   | true =>
    if a0.Act = 0 then
     (xg a0.Val).bind fun r10 =>
     match r10 with
     | true =>
      (wR a0.Val).bind fun r11 =>
      match r11 with
      | true =>
       some (decide ((a0.Deps.length : Int) = 0))
      | false =>
       some false
     | false =>
      some false
    else
    some false
   | false =>
    some false
  else
  some false
 else
 if 0 < (a0.Addr.length : Int) then
  some false
 else
 if a0.Act = 0 then
  (xg a0.Val).bind fun r9 =>
  match r9 with
  | true =>
   (wR a0.Val).bind fun r10 =>
   match r10 with
   | true =>
    some (decide ((a0.Deps.length : Int) = 0))
   | false =>
    some false
  | false =>
   some false
 else
 some false
theorem UI (a0 : GEvent) : Oc (ZJ a0) 71 [] [.val true (jp a0)] fun r => (vb r, []) := tc (
 .lI a0.Kind 0 (fun c1 =>
  .ret false) fun c1 =>
 .lI 6 a0.Kind (fun c2 =>
  .ret false) fun c2 =>
 .eI a0.Kind 1 (fun c3 =>
  .le za a0.Addr <|
  .lD 0 (a0.Addr.length : Int) <|
  .sp (0 < (a0.Addr.length : Int)) (fun c4 =>
   .eb (a := true) (b := (decide (0 < (a0.Addr.length : Int)))) rfl (dT c4) <|
   .cl (qe a0.Addr) fun r5 =>
   .vN 4 r5 (
    .q (.eT c3) <|
    .lI a0.Act 1 (fun c6 =>
     .ret false) fun c6 =>
    .lI 4 a0.Act (fun c7 =>
     .ret false) fun c7 =>
    .q (.eFo a0.Kind 2 (by omega)) <|
    .cl (vj a0.Val) fun r8 =>
    .vM 0 r8 (
     .az 0 0 <|
     .az 0 0 <|
     .cl (ZI a0.Val) fun r9 =>
     .az 0 1 <|
     .vM 0 r9 (
      .az 0 0 <|
      .az 0 0 <|
      .le (zt za) a0.Deps <|
      .az 0 0 <|
      .eD (a0.Deps.length : Int) 0 <|
      .az 0 0 <|
      .ret (decide ((a0.Deps.length : Int) = 0))) <|
     .az 0 0 <|
     .az 0 0 <|
     .az 0 0 <|
     .az 0 0 <|
     .ret false) <|
    .az 0 0 <|
    .az 0 0 <|
    .az 0 0 <|
    .ret false) <|
   .ret false) fun c4 =>
  .eb (a := true) (b := (decide (0 < (a0.Addr.length : Int)))) rfl (dF c4) <|
  .ret false) fun c3 =>
 .eI a0.Kind 2 (fun c4 =>
  .le za a0.Addr <|
  .lD 0 (a0.Addr.length : Int) <|
  .sp (0 < (a0.Addr.length : Int)) (fun c5 =>
   .eb (a := true) (b := (decide (0 < (a0.Addr.length : Int)))) rfl (dT c5) <|
   .cl (qe a0.Addr) fun r6 =>
   .vN 4 r6 (
    .q (.eF c3) <|
    .eI a0.Act 0 (fun c7 =>
     .q (.eT c4) <|
     .cl (Kj a0.Val) fun r8 =>
     .vM 0 r8 (
      .az 0 0 <|
      .az 0 0 <|
      .cl (QA a0.Deps) fun r9 =>
      .az 0 1 <|
      .ret r9) <|
     .az 0 0 <|
     .az 0 0 <|
     .az 0 0 <|
     .ret false) fun c7 =>
    .ret false) <|
   .ret false) fun c5 =>
  .eb (a := true) (b := (decide (0 < (a0.Addr.length : Int)))) rfl (dF c5) <|
  .ret false) fun c4 =>
 .eI a0.Kind 3 (fun c5 =>
  .le za a0.Addr <|
  .lD 0 (a0.Addr.length : Int) <|
  .sp (0 < (a0.Addr.length : Int)) (fun c6 =>
   .eb (a := true) (b := (decide (0 < (a0.Addr.length : Int)))) rfl (dT c6) <|
   .cl (qe a0.Addr) fun r7 =>
   .vN 4 r7 (
    .q (.eF c3) <|
    .eI a0.Act 0 (fun c8 =>
     .q (.eF c4) <|
     .cl (vj a0.Val) fun r9 =>
     .vM 0 r9 (
      .az 0 0 <|
      .az 0 0 <|
      .cl (ZI a0.Val) fun r10 =>
      .az 0 1 <|
      .vM 0 r10 (
       .az 0 0 <|
       .az 0 0 <|
       .le (zt za) a0.Deps <|
       .az 0 0 <|
       .eD (a0.Deps.length : Int) 0 <|
       .az 0 0 <|
       .ret (decide ((a0.Deps.length : Int) = 0))) <|
      .az 0 0 <|
      .az 0 0 <|
      .az 0 0 <|
      .az 0 0 <|
      .ret false) <|
     .az 0 0 <|
     .az 0 0 <|
     .az 0 0 <|
     .ret false) fun c8 =>
    .ret false) <|
   .ret false) fun c6 =>
  .eb (a := true) (b := (decide (0 < (a0.Addr.length : Int)))) rfl (dF c6) <|
  .ret false) fun c5 =>
 .eI a0.Kind 4 (fun c6 =>
  .le za a0.Addr <|
  .lD 0 (a0.Addr.length : Int) <|
  .sp (0 < (a0.Addr.length : Int)) (fun c7 =>
   .eb (a := true) (b := (decide (0 < (a0.Addr.length : Int)))) rfl (dT c7) <|
   .cl (qe a0.Addr) fun r8 =>
   .vN 4 r8 (
    .q (.eF c3) <|
    .eI a0.Act 0 (fun c9 =>
     .q (.eF c4) <|
     .cl (vj a0.Val) fun r10 =>
     .vM 0 r10 (
      .az 0 0 <|
      .az 0 0 <|
      .cl (ZI a0.Val) fun r11 =>
      .az 0 1 <|
      .vM 0 r11 (
       .az 0 0 <|
       .az 0 0 <|
       .le (zt za) a0.Deps <|
       .az 0 0 <|
       .eD (a0.Deps.length : Int) 0 <|
       .az 0 0 <|
       .ret (decide ((a0.Deps.length : Int) = 0))) <|
      .az 0 0 <|
      .az 0 0 <|
      .az 0 0 <|
      .az 0 0 <|
      .ret false) <|
     .az 0 0 <|
     .az 0 0 <|
     .az 0 0 <|
     .ret false) fun c9 =>
    .ret false) <|
   .ret false) fun c7 =>
  .eb (a := true) (b := (decide (0 < (a0.Addr.length : Int)))) rfl (dF c7) <|
  .ret false) fun c6 =>
 .le za a0.Addr <|
 .lD 0 (a0.Addr.length : Int) <|
 .sp (0 < (a0.Addr.length : Int)) (fun c7 =>
  .eb (a := false) (b := (decide (0 < (a0.Addr.length : Int)))) rfl (dT c7) <|
  .ret false) fun c7 =>
 .eb (a := false) (b := (decide (0 < (a0.Addr.length : Int)))) rfl (dF c7) <|
 .q (.eF c3) <|
 .eI a0.Act 0 (fun c8 =>
  .q (.eF c4) <|
  .cl (vj a0.Val) fun r9 =>
  .vM 0 r9 (
   .az 0 0 <|
   .az 0 0 <|
   .cl (ZI a0.Val) fun r10 =>
   .az 0 1 <|
   .vM 0 r10 (
    .az 0 0 <|
    .az 0 0 <|
    .le (zt za) a0.Deps <|
    .az 0 0 <|
    .eD (a0.Deps.length : Int) 0 <|
    .az 0 0 <|
    .ret (decide ((a0.Deps.length : Int) = 0))) <|
   .az 0 0 <|
   .az 0 0 <|
   .az 0 0 <|
   .az 0 0 <|
   .ret false) <|
  .az 0 0 <|
  .az 0 0 <|
  .az 0 0 <|
  .ret false) fun c8 =>
 .ret false) (zh Tryz.func71)
def YT (a0 : GState) (a1 : GEvent) : Option Bool :=
 if 1000000 <= a0.Serial then
  some false
 else
 if a1.Kind = 0 then
  some (!a0.Open)
 else
 if a1.Kind = 1 then
  (yS a0 a1.Addr).bind fun r4 =>
  match a0.Open with
  | true =>
   if 0 < (a0.Pending.length : Int) then
    some false
   else
   if a1.Act = 1 then
    if 0 <= r4 then
     some false
    else
    some (decide ((a0.Entries.length : Int) < 16))
   else
   if 0 <= r4 then
    some true
   else
   some false
  | false =>
   some false
 else
 if a1.Kind = 2 then
  if 0 < (a0.Pending.length : Int) then
   if a0.Pending = a1.Addr then
    some (!(decide (a0.Act = 4)))
   else
   some false
  else
  some false
 else
 if a1.Kind = 3 then
  if 0 < (a0.Pending.length : Int) then
   if a0.Pending = a1.Addr then
    some (decide (a0.Act = 4))
   else
   some false
  else
  some false
 else
 if a1.Kind = 4 then
  if 0 < (a0.Pending.length : Int) then
   some (decide (a0.Pending = a1.Addr))
  else
  some false
 else
 if a1.Kind = 5 then
  match a0.Open with
  | true =>
   some (!(decide (0 < (a0.Pending.length : Int))))
  | false =>
   some false
 else
 some a0.Open
theorem Lv (a0 : GState) (a1 : GEvent) : Oc (YT a0 a1) 72 [] [.val true (yn a0), .val true (jp a1)] fun r => (vb r, []) := tc (
 .le za a0.Pending <|
 .lD 0 (a0.Pending.length : Int) <|
 .gI 1000000 a0.Serial (fun c1 =>
  .ret false) fun c1 =>
 .eI a1.Kind 0 (fun c2 =>
  .ret (!a0.Open)) fun c2 =>
 .eI a1.Kind 1 (fun c3 =>
  .cl (ZG a0 a1.Addr) fun r4 =>
  .gD 0 r4 <|
  .vM 0 a0.Open (
   .az 0 0 <|
   .az 0 0 <|
   .cN 0 (0 < (a0.Pending.length : Int)) (fun c5 =>
    .kF 0 (nT (dT c5)) <|
    .kF 0 (nT (dT c5)) <|
    .kF 0 (nT (dT c5)) <|
    .kF 0 (nT (dT c5)) <|
    .kF 0 (nT (dT c5)) <|
    .ret false) fun c5 =>
   .kT 0 (nF (dF c5)) <|
   .kT 0 (nF (dF c5)) <|
   .eI a1.Act 1 (fun c6 =>
    .kT 0 (nF (dF c5)) <|
    .kT 0 (nF (dF c5)) <|
    .sp (0 <= r4) (fun c7 =>
     .eb (a := true) (b := (decide (0 <= r4))) rfl (dT c7) <|
     .kT 0 (nF (dF c5)) <|
     .ret false) fun c7 =>
    .eb (a := true) (b := (decide (0 <= r4))) rfl (dF c7) <|
    .kT 0 (nF (dF c5)) <|
    .kF 2 (dF c7) <|
    .kF 0 (dF c7) <|
    .kF 0 (dF c7) <|
    .le zl a0.Entries <|
    .kF 0 (dF c7) <|
    .lD (a0.Entries.length : Int) 16 <|
    .kF 1 (dF c7) <|
    .ret (decide ((a0.Entries.length : Int) < 16))) fun c6 =>
   .kT 0 (nF (dF c5)) <|
   .kT 0 (nF (dF c5)) <|
   .sp (0 <= r4) (fun c7 =>
    .eb (a := false) (b := (decide (0 <= r4))) rfl (dT c7) <|
    .kT 0 (nF (dF c5)) <|
    .kT 2 (dT c7) <|
    .kT 0 (dT c7) <|
    .kT 0 (dT c7) <|
    .kT 0 (dT c7) <|
    .kT 1 (dT c7) <|
    .ret true) fun c7 =>
   .eb (a := false) (b := (decide (0 <= r4))) rfl (dF c7) <|
   .kT 0 (nF (dF c5)) <|
   .ret false) <|
  .az 0 0 <|
  .az 0 0 <|
  .ret false) fun c3 =>
 .eI a1.Kind 2 (fun c4 =>
  .cI 1 (0 < (a0.Pending.length : Int)) (fun c5 =>
   .kT 0 (dT c5) <|
   .kT 0 (dT c5) <|
   .bt a0.Pending <|
   .kT 0 (dT c5) <|
   .kT 0 (dT c5) <|
   .kT 0 (dT c5) <|
   .bt a1.Addr <|
   .kT 0 (dT c5) <|
   .sD a0.Pending a1.Addr <|
   .kT 0 (dT c5) <|
   .cI 0 (a0.Pending = a1.Addr) (fun c6 =>
    .kT 0 (dT c6) <|
    .kT 0 (dT c6) <|
    .eD a0.Act 4 <|
    .kT 0 (dT c6) <|
    .ret (!(decide (a0.Act = 4)))) fun c6 =>
   .kF 0 (dF c6) <|
   .kF 0 (dF c6) <|
   .kF 0 (dF c6) <|
   .ret false) fun c5 =>
  .kF 0 (dF c5) <|
  .kF 0 (dF c5) <|
  .kF 0 (dF c5) <|
  .kF 0 (dF c5) <|
  .kF 0 (dF c5) <|
  .kF 0 (dF c5) <|
  .kF 0 (dF c5) <|
  .ret false) fun c4 =>
 .eI a1.Kind 3 (fun c5 =>
  .cI 1 (0 < (a0.Pending.length : Int)) (fun c6 =>
   .kT 0 (dT c6) <|
   .kT 0 (dT c6) <|
   .bt a0.Pending <|
   .kT 0 (dT c6) <|
   .kT 0 (dT c6) <|
   .kT 0 (dT c6) <|
   .bt a1.Addr <|
   .kT 0 (dT c6) <|
   .sD a0.Pending a1.Addr <|
   .kT 0 (dT c6) <|
   .cI 0 (a0.Pending = a1.Addr) (fun c7 =>
    .kT 0 (dT c7) <|
    .kT 0 (dT c7) <|
    .eD a0.Act 4 <|
    .kT 0 (dT c7) <|
    .ret (decide (a0.Act = 4))) fun c7 =>
   .kF 0 (dF c7) <|
   .kF 0 (dF c7) <|
   .kF 0 (dF c7) <|
   .ret false) fun c6 =>
  .kF 0 (dF c6) <|
  .kF 0 (dF c6) <|
  .kF 0 (dF c6) <|
  .kF 0 (dF c6) <|
  .kF 0 (dF c6) <|
  .kF 0 (dF c6) <|
  .kF 0 (dF c6) <|
  .ret false) fun c5 =>
 .eI a1.Kind 4 (fun c6 =>
  .cI 1 (0 < (a0.Pending.length : Int)) (fun c7 =>
   .kT 0 (dT c7) <|
   .kT 0 (dT c7) <|
   .bt a0.Pending <|
   .kT 0 (dT c7) <|
   .kT 0 (dT c7) <|
   .kT 0 (dT c7) <|
   .bt a1.Addr <|
   .kT 0 (dT c7) <|
   .sD a0.Pending a1.Addr <|
   .kT 0 (dT c7) <|
   .ret (decide (a0.Pending = a1.Addr))) fun c7 =>
  .kF 0 (dF c7) <|
  .kF 0 (dF c7) <|
  .kF 0 (dF c7) <|
  .kF 0 (dF c7) <|
  .kF 0 (dF c7) <|
  .kF 0 (dF c7) <|
  .kF 0 (dF c7) <|
  .ret false) fun c6 =>
 .eI a1.Kind 5 (fun c7 =>
  .vM 1 a0.Open (
   .az 0 0 <|
   .az 0 0 <|
   .ret (!(decide (0 < (a0.Pending.length : Int))))) <|
  .az 0 0 <|
  .az 0 0 <|
  .ret false) fun c7 =>
 .ret a0.Open) (zh Tryz.func72)
def Vr (F : (List GEntry) → GEntry → Option (List GEntry)) : Prop := ∀ (a0 : (List GEntry)) (a1 : GEntry), Oc (F a0 a1) 130 [] [vq zl a0, .val true (jU a1)] fun r => (vq zl r, [])
def yw (a0 : (List GEntry)) (a1 : GEntry) : Nat → Bool → Int → (List GEntry) → Option (Bool × Int × (List GEntry))
  | 0, _, _, _ => none
  | m + 1, v1, v2, v4 =>
  if v2 < (a0.length : Int) then
   (zv v2).bind fun i2 =>
   (a0[i2]?).bind fun x3 =>
   (xw a1.Addr x3.Addr).bind fun r4 =>
   match v1 with
   | true =>
    if r4 = 0 then
     yw a0 a1 m v1 (w64 (v2 + 1)) v4
    else
    if yM 152 (v4.length + [x3].length) then
    yw a0 a1 m v1 (w64 (v2 + 1)) (v4 ++ [x3])
    else none
   | false =>
    if r4 <= 0 then
     if yM 152 (v4.length + [a1].length) then
     if r4 = 0 then
      yw a0 a1 m true (w64 (v2 + 1)) (v4 ++ [a1])
     else
     if yM 152 ((v4 ++ [a1]).length + [x3].length) then
     yw a0 a1 m true (w64 (v2 + 1)) ((v4 ++ [a1]) ++ [x3])
     else none
     else none
    else
    if r4 = 0 then
     yw a0 a1 m v1 (w64 (v2 + 1)) v4
    else
    if yM 152 (v4.length + [x3].length) then
    yw a0 a1 m v1 (w64 (v2 + 1)) (v4 ++ [x3])
    else none
  else
  some (v1, v2, v4)
theorem Ts (a0 : (List GEntry)) (a1 : GEntry) (m : Nat) : ∀ (v1 : Bool) (v2 : Int) (v4 : (List GEntry)), Ol (yw a0 a1 m v1 v2 v4) 130 (zN Tryz.f130 0) ⟨[(0, vq zl a0), (3, vp 0 0), (5, vr 1), (6, vb v1), (7, vi v2)], [.var (jU a1), .obj 9 (eL zl v4)], 0⟩ fun o => match o with | ⟨o_0, o_1, o_2⟩ => (.exit 0, ⟨[(0, vq zl a0), (3, vp 0 0), (5, vr 1), (6, vb o_0), (7, vi o_1), (12, vb false)], [.var (jU a1), .obj 9 (eL zl o_2)], 0⟩) := by
  induction m with
  | zero => intro v1 v2 v4 o h; cases h
  | succ m ih => exact fun v1 v2 v4 => tlp (
   .le zl a0 <|
   .lI v2 (a0.length : Int) (fun c1 =>
    .na v2 fun i2 =>
    .ix zX a0 i2 fun x3 =>
    .cl (YS a1.Addr x3.Addr) fun r4 =>
    .vN 0 v1 (
     .an 0 0 <|
     .an 0 0 <|
     .eI r4 0 (fun c5 =>
      .go (ih v1 (w64 (v2 + 1)) v4)) fun c5 =>
     .ag 3 <|
     .ag 2 <|
     .pl yA [x3] <|
     .ap 152 yA v4 [x3] fun n6 =>
     .go (ih v1 (w64 (v2 + 1)) (v4 ++ [x3]))) <|
    .an 0 0 <|
    .gI r4 0 (fun c5 =>
     .an 0 0 <|
     .pl yA [a1] <|
     .ap 152 yA v4 [a1] fun n6 =>
     .eI r4 0 (fun c7 =>
      .go (ih true (w64 (v2 + 1)) (v4 ++ [a1]))) fun c7 =>
     .ag 3 <|
     .ag 2 <|
     .pl yA [x3] <|
     .ap 152 yA (v4 ++ [a1]) [x3] fun n8 =>
     .go (ih true (w64 (v2 + 1)) ((v4 ++ [a1]) ++ [x3]))) fun c5 =>
    .an 0 0 <|
    .eI r4 0 (fun c6 =>
     .go (ih v1 (w64 (v2 + 1)) v4)) fun c6 =>
    .ag 3 <|
    .ag 2 <|
    .pl yA [x3] <|
    .ap 152 yA v4 [x3] fun n7 =>
    .go (ih v1 (w64 (v2 + 1)) (v4 ++ [x3]))) fun c1 =>
   .ret (v1, v2, v4))
def WR (n : Nat) (a0 : (List GEntry)) (a1 : GEntry) : Option (List GEntry) :=
 (yw a0 a1 n false 0 []).bind fun ⟨o1_0, o1_1, o1_2⟩ =>
 match o1_0 with
 | true =>
  some o1_2
 | false =>
  if yM 152 (o1_2.length + [a1].length) then
  some (o1_2 ++ [a1])
  else none
theorem MU (n : Nat) : Vr (WR n) := fun a0 a1 => tc (
 .lp (Ts a0 a1 n false 0 []) fun ⟨o1_0, o1_1, o1_2⟩ =>
 .vN 0 o1_0 (
  .vw yA o1_2 <|
  .ret o1_2) <|
 .pl yA [a1] <|
 .ap 152 yA o1_2 [a1] fun n2 =>
 .vw yA (o1_2 ++ [a1]) <|
 .ret (o1_2 ++ [a1])) (zh Tryz.func130)
theorem ZK {m : Nat} (hm : m <= 2 ^ 39) : yM 152 m := by
 unfold yM
 constructor <;> simp [Am.maxBytes] <;> omega
def jj (e : GEntry) : Bool → List GEntry → List GEntry
 | put, [] => bif put then [] else [e]
 | put, x :: l =>
  bif Op.bytesLess e.Addr x.Addr then (bif put then x :: jj e put l else e :: x :: jj e true l)
  else bif Op.bytesLess x.Addr e.Addr then x :: jj e put l
  else bif put then jj e put l else e :: jj e true l
theorem Hz {a : List GEntry} {e : GEntry} (ha : a.length <= 2 ^ 37) : ∀ (l p q : List GEntry) (b : Bool) (m : Nat), a = p ++ l → q.length <= 2 * p.length + 1 → l.length < m →
  ∃ (b' : Bool) (z : Int) (o : List GEntry), yw a e m b (p.length : Int) q = some (b', z, o) ∧ o.length <= 2 * a.length + 1 ∧ (bif b' then o else o ++ [e]) = q ++ jj e b l := by
 intro l
 induction l with
 | nil =>
  intro p q b m he hq hm
  obtain ⟨m, rfl, _⟩ := zi hm
  refine ⟨b, _, q, by rw [yw, he, List.append_nil, if_neg (by omega)], by rw [he]; simp; omega, ?_⟩
  cases b <;> simp [jj]
 | cons x l ih =>
  intro p q b m he hq hm
  obtain ⟨m, rfl, hm'⟩ := zi hm
  have hlen : a.length = p.length + (l.length + 1) := by rw [he]; simp
  have hlm : l.length < m := by simp only [List.length_cons] at hm'; omega
  have hnext : ∀ (b1 : Bool) (q1 : List GEntry), q1.length <= 2 * p.length + 3 → ∃ (b' : Bool) (z : Int) (o : List GEntry), yw a e m b1 ((p ++ [x]).length : Int) q1 = some (b', z, o) ∧ o.length <= 2 * a.length + 1 ∧ (bif b' then o else o ++ [e]) = q1 ++ jj e b1 l := fun b1 q1 h1 =>
   ih (p ++ [x]) q1 b1 m (by rw [he]; simp) (by simp; omega) hlm
  rw [yw, if_pos (by omega), zb, Option.bind_some, show a[p.length]? = some x by rw [he]; exact wP p x l, Option.bind_some, qw p x (by omega)]
  unfold xw
  unfold jj
  by_cases c1 : Op.bytesLess e.Addr x.Addr = true
  ·rw [if_pos c1, Option.bind_some, c1]
   simp only [cond_true]
   cases b with
   | true =>
    simp only [cond_true]
    rw [if_neg (by decide), if_pos (ZK (by simp; omega))]
    obtain ⟨b', z, o, h1, h2, h3⟩ := hnext true (q ++ [x]) (by simp; omega)
    exact ⟨b', z, o, h1, h2, by rw [h3]; simp⟩
   | false =>
    simp only [cond_false]
    rw [if_pos (by decide), if_pos (ZK (by simp; omega)), if_neg (by decide), if_pos (ZK (by simp; omega))]
    obtain ⟨b', z, o, h1, h2, h3⟩ := hnext true (q ++ [e] ++ [x]) (by simp; omega)
    exact ⟨b', z, o, h1, h2, by rw [h3]; simp⟩
  ·rw [if_neg c1]
   rw [show Op.bytesLess e.Addr x.Addr = false by simpa using c1]
   simp only [cond_false]
   by_cases c2 : Op.bytesLess x.Addr e.Addr = true
   ·rw [if_pos c2, Option.bind_some, c2]
    simp only [cond_true]
    obtain ⟨b', z, o, h1, h2, h3⟩ := hnext b (q ++ [x]) (by simp; omega)
    cases b with
    | true =>
     simp only
     rw [if_neg (by decide), if_pos (ZK (by simp; omega))]
     exact ⟨b', z, o, h1, h2, by rw [h3]; simp⟩
    | false =>
     simp only
     rw [if_neg (by decide), if_neg (by decide), if_pos (ZK (by simp; omega))]
     exact ⟨b', z, o, h1, h2, by rw [h3]; simp⟩
   ·rw [if_neg c2, Option.bind_some, show Op.bytesLess x.Addr e.Addr = false by simpa using c2]
    simp only [cond_false]
    cases b with
    | true =>
     simp only [cond_true]
     rw [if_pos trivial]
     obtain ⟨b', z, o, h1, h2, h3⟩ := hnext true q (by omega)
     exact ⟨b', z, o, h1, h2, by rw [h3]⟩
    | false =>
     simp only [cond_false]
     rw [if_pos (by decide), if_pos (ZK (by simp; omega)), if_pos trivial]
     obtain ⟨b', z, o, h1, h2, h3⟩ := hnext true (q ++ [e]) (by simp; omega)
     exact ⟨b', z, o, h1, h2, by rw [h3]; simp⟩
def w8 (a0 : (List GEntry)) (a1 : GEntry) : Option (List GEntry) := if a0.length <= 2 ^ 37 then some (jj a1 false a0) else none
theorem UJ (a0 : (List GEntry)) (a1 : GEntry) (r : (List GEntry)) (h : w8 a0 a1 = some r) : ∃ n, WR n a0 a1 = some r := by
 unfold w8 at h
 obtain ⟨ha, h⟩ := zF h
 obtain ⟨b', z, o, h1, h2, h3⟩ := Hz (a := a0) (e := a1) (by omega) a0 [] [] false (a0.length + 1) rfl (by simp) (by omega)
 refine ⟨a0.length + 1, ?_⟩
 unfold WR
 simp only [List.length_nil, Int.natCast_zero] at h1
 rw [h1, <- h]
 rw [List.nil_append] at h3
 rw [<- h3]
 cases b' with
 | true => rfl
 | false =>
  simp only [Option.bind_some, cond_false]
  rw [if_pos (ZK (by simp; omega))]
theorem Kl : Vr w8 := fun a0 a1 r h => (UJ a0 a1 r h).elim fun n hn => MU n a0 a1 r hn
def qW (a0 : GEvent) (e0 : GState) : Option GState :=
 (yS (GState.mk (w64 (e0.Serial + 1)) e0.Open e0.Pending e0.Act e0.Entries) e0.Pending).bind fun r1 =>
 if a0.Kind = 0 then
  some (GState.mk (w64 (e0.Serial + 1)) true e0.Pending e0.Act e0.Entries)
 else
 if a0.Kind = 1 then
  some (GState.mk (w64 (e0.Serial + 1)) e0.Open a0.Addr a0.Act e0.Entries)
 else
 if a0.Kind = 2 then
  (w8 e0.Entries (GEntry.mk a0.Addr a0.Val a0.Deps false (w64 (e0.Serial + 1)))).bind fun r5 =>
  some (GState.mk (w64 (e0.Serial + 1)) e0.Open [] 0 r5)
 else
 if a0.Kind = 3 then
  (zv r1).bind fun i6 =>
  (w6 e0.Entries none (some i6)).bind fun s7 =>
  if yM 152 (0 + s7.length) then
  (zv (w64 (r1 + 1))).bind fun i9 =>
  (w6 e0.Entries (some i9) none).bind fun s10 =>
  if yM 152 (s7.length + s10.length) then
  some (GState.mk (w64 (e0.Serial + 1)) e0.Open [] 0 (s7 ++ s10))
  else none
  else none
 else
 if a0.Kind = 4 then
  if (e0.Pending.length : Int) = 0 then
   some (GState.mk (w64 (e0.Serial + 1)) e0.Open [] 0 e0.Entries)
  else
  if 0 <= r1 then
   if yM 152 (0 + e0.Entries.length) then
   (zv r1).bind fun i10 =>
   (e0.Entries[i10]?).bind fun x11 =>
   ((e0.Entries.set i10 (GEntry.mk x11.Addr x11.Val x11.Deps true x11.Turned))[i10]?).bind fun x12 =>
   some (GState.mk (w64 (e0.Serial + 1)) e0.Open [] 0 ((e0.Entries.set i10 (GEntry.mk x11.Addr x11.Val x11.Deps true x11.Turned)).set i10 (GEntry.mk x12.Addr x12.Val x12.Deps x12.Taint (w64 (e0.Serial + 1)))))
   else none
  else
  some (GState.mk (w64 (e0.Serial + 1)) e0.Open [] 0 e0.Entries)
 else
 if a0.Kind = 6 then
  if (e0.Pending.length : Int) = 0 then
   some (GState.mk (w64 (e0.Serial + 1)) false [] 0 e0.Entries)
  else
  if 0 <= r1 then
   if yM 152 (0 + e0.Entries.length) then
   (zv r1).bind fun i11 =>
   (e0.Entries[i11]?).bind fun x12 =>
   ((e0.Entries.set i11 (GEntry.mk x12.Addr x12.Val x12.Deps true x12.Turned))[i11]?).bind fun x13 =>
   some (GState.mk (w64 (e0.Serial + 1)) false [] 0 ((e0.Entries.set i11 (GEntry.mk x12.Addr x12.Val x12.Deps true x12.Turned)).set i11 (GEntry.mk x13.Addr x13.Val x13.Deps x13.Taint (w64 (e0.Serial + 1)))))
   else none
  else
  (w8 e0.Entries (GEntry.mk e0.Pending (GValue.mk 5 0 [] [] []) [] true (w64 (e0.Serial + 1)))).bind fun r10 =>
  some (GState.mk (w64 (e0.Serial + 1)) false [] 0 r10)
 else
 if a0.Kind = 5 then
  some (GState.mk (w64 (e0.Serial + 1)) false [] 0 e0.Entries)
 else
 some (GState.mk (w64 (e0.Serial + 1)) e0.Open [] 0 e0.Entries)
theorem MV (a0 : GEvent) (e0 : GState) : Oc (qW a0 e0) 74 [.var (yn e0)] [vp 0 0, .val true (jp a0)] fun r => (.tup [], [.var (yn r)]) := tc (
 .cl (ZG (GState.mk (w64 (e0.Serial + 1)) e0.Open e0.Pending e0.Act e0.Entries) e0.Pending) fun r1 =>
 .eI a0.Kind 0 (fun c2 =>
  .ret (GState.mk (w64 (e0.Serial + 1)) true e0.Pending e0.Act e0.Entries)) fun c2 =>
 .eI a0.Kind 1 (fun c3 =>
  .ret (GState.mk (w64 (e0.Serial + 1)) e0.Open a0.Addr a0.Act e0.Entries)) fun c3 =>
 .eI a0.Kind 2 (fun c4 =>
  .cl (Kl e0.Entries (GEntry.mk a0.Addr a0.Val a0.Deps false (w64 (e0.Serial + 1)))) fun r5 =>
  .ret (GState.mk (w64 (e0.Serial + 1)) e0.Open [] 0 r5)) fun c4 =>
 .eI a0.Kind 3 (fun c5 =>
  .na r1 fun i6 =>
  .ct zl e0.Entries none (some i6) fun s7 =>
  .un yA e0.Entries <|
  .ap 152 yA [] s7 fun n8 =>
  .na (w64 (r1 + 1)) fun i9 =>
  .ct zl e0.Entries (some i9) none fun s10 =>
  .un yA e0.Entries <|
  .ap 152 yA s7 s10 fun n11 =>
  .vw yA (s7 ++ s10) <|
  .ret (GState.mk (w64 (e0.Serial + 1)) e0.Open [] 0 (s7 ++ s10))) fun c5 =>
 .eI a0.Kind 4 (fun c6 =>
  .le za e0.Pending <|
  .eI (e0.Pending.length : Int) 0 (fun c7 =>
   .q (.eFo a0.Kind 6 (by omega)) <|
   .ret (GState.mk (w64 (e0.Serial + 1)) e0.Open [] 0 e0.Entries)) fun c7 =>
  .gI 0 r1 (fun c8 =>
   .ap 152 yA [] e0.Entries fun n9 =>
   .na r1 fun i10 =>
   .ix zX e0.Entries i10 fun x11 =>
   .ag 0 <|
   .sl (zX (GEntry.mk x11.Addr x11.Val x11.Deps true x11.Turned)) e0.Entries i10 <|
   .ag 1 <|
   .ix zX (e0.Entries.set i10 (GEntry.mk x11.Addr x11.Val x11.Deps true x11.Turned)) i10 fun x12 =>
   .ag 0 <|
   .sl (zX (GEntry.mk x12.Addr x12.Val x12.Deps x12.Taint (w64 (e0.Serial + 1)))) (e0.Entries.set i10 (GEntry.mk x11.Addr x11.Val x11.Deps true x11.Turned)) i10 <|
   .q (.eFo a0.Kind 6 (by omega)) <|
   .vw yA ((e0.Entries.set i10 (GEntry.mk x11.Addr x11.Val x11.Deps true x11.Turned)).set i10 (GEntry.mk x12.Addr x12.Val x12.Deps x12.Taint (w64 (e0.Serial + 1)))) <|
   .ret (GState.mk (w64 (e0.Serial + 1)) e0.Open [] 0 ((e0.Entries.set i10 (GEntry.mk x11.Addr x11.Val x11.Deps true x11.Turned)).set i10 (GEntry.mk x12.Addr x12.Val x12.Deps x12.Taint (w64 (e0.Serial + 1)))))) fun c8 =>
  .q (.eFo a0.Kind 6 (by omega)) <|
  .q (.eFo a0.Kind 6 (by omega)) <|
  .ret (GState.mk (w64 (e0.Serial + 1)) e0.Open [] 0 e0.Entries)) fun c6 =>
 .eI a0.Kind 6 (fun c7 =>
  .le za e0.Pending <|
  .eI (e0.Pending.length : Int) 0 (fun c8 =>
   .q (.eT c7) <|
   .ret (GState.mk (w64 (e0.Serial + 1)) false [] 0 e0.Entries)) fun c8 =>
  .gI 0 r1 (fun c9 =>
   .ap 152 yA [] e0.Entries fun n10 =>
   .na r1 fun i11 =>
   .ix zX e0.Entries i11 fun x12 =>
   .ag 0 <|
   .sl (zX (GEntry.mk x12.Addr x12.Val x12.Deps true x12.Turned)) e0.Entries i11 <|
   .ag 1 <|
   .ix zX (e0.Entries.set i11 (GEntry.mk x12.Addr x12.Val x12.Deps true x12.Turned)) i11 fun x13 =>
   .ag 0 <|
   .sl (zX (GEntry.mk x13.Addr x13.Val x13.Deps x13.Taint (w64 (e0.Serial + 1)))) (e0.Entries.set i11 (GEntry.mk x12.Addr x12.Val x12.Deps true x12.Turned)) i11 <|
   .q (.eT c7) <|
   .vw yA ((e0.Entries.set i11 (GEntry.mk x12.Addr x12.Val x12.Deps true x12.Turned)).set i11 (GEntry.mk x13.Addr x13.Val x13.Deps x13.Taint (w64 (e0.Serial + 1)))) <|
   .ret (GState.mk (w64 (e0.Serial + 1)) false [] 0 ((e0.Entries.set i11 (GEntry.mk x12.Addr x12.Val x12.Deps true x12.Turned)).set i11 (GEntry.mk x13.Addr x13.Val x13.Deps x13.Taint (w64 (e0.Serial + 1)))))) fun c9 =>
  .q (.eT c7) <|
  .cl (Kl e0.Entries (GEntry.mk e0.Pending (GValue.mk 5 0 [] [] []) [] true (w64 (e0.Serial + 1)))) fun r10 =>
  .q (.eT c7) <|
  .ret (GState.mk (w64 (e0.Serial + 1)) false [] 0 r10)) fun c7 =>
 .eI a0.Kind 5 (fun c8 =>
  .ret (GState.mk (w64 (e0.Serial + 1)) false [] 0 e0.Entries)) fun c8 =>
 .ret (GState.mk (w64 (e0.Serial + 1)) e0.Open [] 0 e0.Entries)) (zh Tryz.func74)
def Km (F : GHistory → Int → Option (GState × Bool)) : Prop := ∀ (a0 : GHistory) (a1 : Int), Oc (F a0 a1) 87 [] [.val true (yh a0), vi a1] fun r => (.tup [(true, (yn r.1)), (false, [.bool r.2])], [])
def qi (a1 : Int) (a0 : GHistory) (v3 : Int) (v4 : Bool) (v5 : Int) (v7 : (List UInt8)) (v8 : (List GEntry)) : Nat → Int → GState → Option ((Bool × GState) ⊕ (Int × GState))
  | 0, _, _ => none
  | m + 1, v1, v6 =>
  if v1 < a1 then
   (zv v1).bind fun i2 =>
   (a0.Events[i2]?).bind fun x3 =>
   (YT v6 x3).bind fun r4 =>
   match r4 with
   | true =>
    (qW x3 v6).bind fun r5 =>
    qi a1 a0 v3 v4 v5 v7 v8 m (w64 (v1 + 1)) r5
   | false =>
    some (.inl (false, v6))
  else
  some (.inr (v1, v6))
theorem R5 (a1 : Int) (a0 : GHistory) (v3 : Int) (v4 : Bool) (v5 : Int) (v7 : (List UInt8)) (v8 : (List GEntry)) (m : Nat) : ∀ (v1 : Int) (v6 : GState), Ol (qi a1 a0 v3 v4 v5 v7 v8 m v1 v6) 87 (zN Tryz.f87 0) ⟨[(1, vi a1), (2, vp 0 0), (4, vp 1 0), (6, vp 2 0), (7, vi v1)], [.var (yh a0), .var [ci v3, .bool v4, .ref 3, ci v5, .ref 4], .var (yn v6), .obj 1 (eL za v7), .obj 9 (eL zl v8)], 0⟩ fun o => match o with | .inl ⟨o_0_0, o_0_1⟩ => (.ret, ⟨[(4, vp 0 0), (5, vb o_0_0)], [.var (yn o_0_1)], 0⟩) | .inr (⟨o_1_0, o_1_1⟩) => (.exit 0, ⟨[(1, vi a1), (2, vp 0 0), (4, vp 1 0), (6, vp 2 0), (7, vi o_1_0), (12, vb false)], [.var (yh a0), .var [ci v3, .bool v4, .ref 3, ci v5, .ref 4], .var (yn o_1_1), .obj 1 (eL za v7), .obj 9 (eL zl v8)], 0⟩) := by
  induction m with
  | zero => intro v1 v6 o h; cases h
  | succ m ih => exact fun v1 v6 => tlp (
   .lI v1 a1 (fun c1 =>
    .na v1 fun i2 =>
    .ix qD a0.Events i2 fun x3 =>
    .cl (Lv v6 x3) fun r4 =>
    .vN 0 r4 (
     .ag 3 <|
     .ag 2 <|
     .cl (MV x3 v6) fun r5 =>
     .go (ih (w64 (v1 + 1)) r5)) <|
    .ret (.inl (false, v6))) fun c1 =>
   .ret (.inr (v1, v6)))
def j5 (n : Nat) (a0 : GHistory) (a1 : Int) : Option (GState × Bool) :=
 (qi a1 a0 0 false 0 [] [] n 0 a0.Base).bind fun o1 =>
 match o1 with
 | .inl ⟨o1_0_0, o1_0_1⟩ =>
  some (o1_0_1, o1_0_0)
 | .inr (⟨o1_1_0, o1_1_1⟩) =>
  some (o1_1_1, true)
theorem Lw (n : Nat) : Km (j5 n) := fun a0 a1 => tc (
 .l2 (R5 a1 a0 0 false 0 [] [] n 0 a0.Base) (fun ⟨o1_0_0, o1_0_1⟩ =>
  .ret (o1_0_1, o1_0_0)) fun ⟨o1_1_0, o1_1_1⟩ =>
 .ret (o1_1_1, true)) (zh Tryz.func87)
def xo (a0 : GHistory) (a1 : Int) : Option (GState × Bool) := j5 (a0.Events.length + 5) a0 a1
theorem Tt (a0 : GHistory) (a1 : Int) (r : (GState × Bool)) (h : xo a0 a1 = some r) : ∃ n, j5 n a0 a1 = some r := ⟨_, h⟩
theorem X0 : Km xo := fun a0 a1 r h => (Tt a0 a1 r h).elim fun n hn => Lw n a0 a1 r hn
def Kn (F : GHistory → Option Bool) : Prop := ∀ (a0 : GHistory), Oc (F a0) 27 [] [.val true (yh a0)] fun r => (vb r, [])
def qj (a0 : GHistory) : Nat → Int → Option (Bool ⊕ Int)
  | 0, _ => none
  | m + 1, v0 =>
  if v0 < (a0.Events.length : Int) then
   (zv v0).bind fun i2 =>
   (a0.Events[i2]?).bind fun x3 =>
   (ZJ x3).bind fun r4 =>
   match r4 with
   | true =>
    qj a0 m (w64 (v0 + 1))
   | false =>
    some (.inl false)
  else
  some (.inr v0)
theorem R6 (a0 : GHistory) (m : Nat) : ∀ (v0 : Int), Ol (qj a0 m v0) 27 (zN Tryz.f27 0) ⟨[(1, vp 0 0), (3, vi v0)], [.var (yh a0)], 0⟩ fun o => match o with | .inl o_0 => (.ret, ⟨[(2, vb o_0)], [], 0⟩) | .inr (o_1) => (.exit 0, ⟨[(1, vp 0 0), (3, vi o_1), (33, vb false)], [.var (yh a0)], 0⟩) := by
  induction m with
  | zero => intro v0 o h; cases h
  | succ m ih => exact fun v0 => tlp (
   .le zB a0.Events <|
   .lI v0 (a0.Events.length : Int) (fun c1 =>
    .na v0 fun i2 =>
    .ix qD a0.Events i2 fun x3 =>
    .cl (UI x3) fun r4 =>
    .vN 0 r4 (
     .go (ih (w64 (v0 + 1)))) <|
    .ret (.inl false)) fun c1 =>
   .ret (.inr v0))
def Yj (n : Nat) (a0 : GHistory) : Option Bool :=
 (kw a0.Base).bind fun r1 =>
 match r1 with
 | true =>
  if 300 < (a0.Events.length : Int) then
   some false
  else
  if a0.Safe < 0 then
   some false
  else
  if (a0.Events.length : Int) < a0.Safe then
   some false
  else
  (qj a0 n 0).bind fun o5 =>
  match o5 with
  | .inl o5_0 =>
   some o5_0
  | .inr (o5_1) =>
   (xo a0 (a0.Events.length : Int)).bind fun ⟨r6_0, r6_1⟩ =>
   some r6_1
 | false =>
  some false
theorem Lx (n : Nat) : Kn (Yj n) := fun a0 => tc (
 .cl (UG a0.Base) fun r1 =>
 .vN 0 r1 (
  .an 0 0 <|
  .an 0 0 <|
  .le zB a0.Events <|
  .an 0 0 <|
  .lI 300 (a0.Events.length : Int) (fun c2 =>
   .an 0 0 <|
   .ret false) fun c2 =>
  .an 0 0 <|
  .lI a0.Safe 0 (fun c3 =>
   .ret false) fun c3 =>
  .le zB a0.Events <|
  .lI (a0.Events.length : Int) a0.Safe (fun c4 =>
   .ret false) fun c4 =>
  .l2 (R6 a0 n 0) (fun o5_0 =>
   .ret o5_0) fun o5_1 =>
  .le zB a0.Events <|
  .cl (X0 a0 (a0.Events.length : Int)) fun ⟨r6_0, r6_1⟩ =>
  .ret r6_1) <|
 .an 0 0 <|
 .an 0 0 <|
 .an 0 0 <|
 .an 0 0 <|
 .ret false) (zh Tryz.func27)
def vk (a0 : GHistory) : Option Bool := Yj (a0.Events.length + 5) a0
theorem Tu (a0 : GHistory) (r : Bool) (h : vk a0 = some r) : ∃ n, Yj n a0 = some r := ⟨_, h⟩
theorem Of : Kn vk := fun a0 r h => (Tu a0 r h).elim fun n hn => Lx n a0 r hn
def QU (a0 : GHistory) (a1 : Int) : Option Bool :=
 (vk a0).bind fun r1 =>
 match r1 with
 | true =>
  if a0.Base.Serial <= a1 then
   some (decide (a1 <= (w64 (a0.Base.Serial + (a0.Events.length : Int)))))
  else
  some false
 | false =>
  some false
theorem MW (a0 : GHistory) (a1 : Int) : Oc (QU a0 a1) 93 [] [.val true (yh a0), vi a1] fun r => (vb r, []) := tc (
 .cl (Of a0) fun r1 =>
 .vM 0 r1 (
  .az 0 0 <|
  .az 0 0 <|
  .az 0 0 <|
  .az 0 0 <|
  .gI a0.Base.Serial a1 (fun c2 =>
   .az 0 0 <|
   .le zB a0.Events <|
   .gD a1 (w64 (a0.Base.Serial + (a0.Events.length : Int))) <|
   .ret (decide (a1 <= (w64 (a0.Base.Serial + (a0.Events.length : Int)))))) fun c2 =>
  .az 0 0 <|
  .ret false) <|
 .az 0 0 <|
 .az 0 0 <|
 .az 0 0 <|
 .az 0 0 <|
 .az 0 0 <|
 .ret false) (zh Tryz.func93)
def Ko (F : (List GStep) → Option Bool) : Prop := ∀ (a0 : (List GStep)), Oc (F a0) 107 [] [vq zw a0] fun r => (vb r, [])
def xU (a0 : (List GStep)) : Nat → Int → Option (Bool ⊕ Int)
  | 0, _ => none
  | m + 1, v1 =>
  if v1 < (a0.length : Int) then
   (zv v1).bind fun i2 =>
   (a0[i2]?).bind fun x3 =>
   if x3.Kind = 0 then
    (xn x3.Key).bind fun r5 =>
    match r5 with
    | true =>
     if x3.I = 0 then
      xU a0 m (w64 (v1 + 1))
     else
     some (.inl false)
    | false =>
     some (.inl false)
   else
   if x3.Kind = 1 then
    if 0 < (x3.Key.length : Int) then
     some (.inl false)
    else
    if x3.I < 0 then
     some (.inl false)
    else
    if 40 <= x3.I then
     some (.inl false)
    else
    xU a0 m (w64 (v1 + 1))
   else
   some (.inl false)
  else
  some (.inr v1)
theorem R7 (a0 : (List GStep)) (m : Nat) : ∀ (v1 : Int), Ol (xU a0 m v1) 107 (zN Tryz.f107 0) ⟨[(0, vq zw a0), (3, vi v1)], [], 0⟩ fun o => match o with | .inl o_0 => (.ret, ⟨[(2, vb o_0)], [], 0⟩) | .inr (o_1) => (.exit 0, ⟨[(0, vq zw a0), (3, vi o_1), (11, vb false)], [], 0⟩) := by
  induction m with
  | zero => intro v1 o h; cases h
  | succ m ih => exact fun v1 => tlp (
   .le zw a0 <|
   .lI v1 (a0.length : Int) (fun c1 =>
    .na v1 fun i2 =>
    .ix qO a0 i2 fun x3 =>
    .eI x3.Kind 0 (fun c4 =>
     .cl (ZD x3.Key) fun r5 =>
     .vN 0 r5 (
      .an 0 0 <|
      .an 0 0 <|
      .eI x3.I 0 (fun c6 =>
       .an 0 0 <|
       .go (ih (w64 (v1 + 1)))) fun c6 =>
      .an 0 0 <|
      .ret (.inl false)) <|
     .an 0 0 <|
     .an 0 0 <|
     .an 0 0 <|
     .ret (.inl false)) fun c4 =>
    .eI x3.Kind 1 (fun c5 =>
     .le za x3.Key <|
     .lI 0 (x3.Key.length : Int) (fun c6 =>
      .ret (.inl false)) fun c6 =>
     .lI x3.I 0 (fun c7 =>
      .ret (.inl false)) fun c7 =>
     .gI 40 x3.I (fun c8 =>
      .ret (.inl false)) fun c8 =>
     .go (ih (w64 (v1 + 1)))) fun c5 =>
    .ret (.inl false)) fun c1 =>
   .ret (.inr v1))
def Wc (n : Nat) (a0 : (List GStep)) : Option Bool :=
 if 6 < (a0.length : Int) then
  some false
 else
 (xU a0 n 0).bind fun o2 =>
 match o2 with
 | .inl o2_0 =>
  some o2_0
 | .inr (o2_1) =>
  some true
theorem Ly (n : Nat) : Ko (Wc n) := fun a0 => tc (
 .le zw a0 <|
 .lI 6 (a0.length : Int) (fun c1 =>
  .ret false) fun c1 =>
 .l2 (R7 a0 n 0) (fun o2_0 =>
  .ret o2_0) fun o2_1 =>
 .ret true) (zh Tryz.func107)
theorem B3 {s : GStep} (hs : s.Key.length <= 2 ^ 20) : xn s.Key = some (wD s.Key) := if_pos hs
theorem NS {a : List GStep} (ha : wT a <= 2 ^ 20) : ∀ (l p : List GStep) (m : Nat), a = p ++ l → l.length < m → ∃ z, xU a m (p.length : Int) = some (if l.all qV = true then .inr z else .inl false) := by
 have hlen := QO a
 intro l
 induction l with
 | nil =>
  intro p m he hm
  obtain ⟨m, rfl, _⟩ := zi hm
  exact ⟨_, by rw [xU, he, if_neg (XA p), List.all_nil, if_pos rfl]⟩
 | cons s l ih =>
  intro p m he hm
  obtain ⟨m, rfl, hm'⟩ := zi hm
  have hl : a.length = p.length + (l.length + 1) := by rw [he]; simp
  have hx : 1 + vK s <= wT a := QN (by rw [he]; simp)
  unfold vK at hx
  obtain ⟨z, hz⟩ := ih (p ++ [s]) m (by rw [he]; simp) (by simp only [List.length_cons] at hm'; omega)
  rw [xU, if_pos (by omega), zb, Option.bind_some, show a[p.length]? = some s by rw [he]; exact wP p s l, Option.bind_some, qw p s (by omega), List.all_cons]
  unfold qV
  by_cases k0 : s.Kind = 0
  ·rw [if_pos k0, if_pos k0, B3 (by omega), Option.bind_some]
   cases wD s.Key with
   | false => exact ⟨0, rfl⟩
   | true =>
    dsimp only
    by_cases hi : s.I = 0
    ·rw [if_pos hi, hz, decide_eq_true hi]; exact ⟨z, rfl⟩
    ·rw [if_neg hi, decide_eq_false hi]; exact ⟨0, rfl⟩
  ·rw [if_neg k0, if_neg k0]
   by_cases k1 : s.Kind = 1
   ·rw [if_pos k1]
    by_cases hk : s.Key = []
    ·rw [if_neg (by rw [hk]; simp)]
     by_cases h1 : s.I < 0
     ·rw [if_pos h1, decide_eq_false (fun h => by omega)]; exact ⟨0, rfl⟩
     rw [if_neg h1]
     by_cases h2 : 40 <= s.I
     ·rw [if_pos h2, decide_eq_false (fun h => by omega)]; exact ⟨0, rfl⟩
     ·rw [if_neg h2, hz, decide_eq_true ⟨k1, hk, by omega, by omega⟩]; exact ⟨z, rfl⟩
    ·rw [if_pos (by
      have : s.Key.length ≠ 0 := fun e => hk (List.eq_nil_of_length_eq_zero e)
      omega), decide_eq_false (fun h => hk h.2.1)]
     exact ⟨0, rfl⟩
   ·rw [if_neg k1, decide_eq_false (fun h => k1 h.1)]; exact ⟨0, rfl⟩
def vl (a0 : (List GStep)) : Option Bool := if wT a0 <= 2 ^ 20 then some (Kc a0) else none
theorem Tv (a0 : (List GStep)) (r : Bool) (h : vl a0 = some r) : ∃ n, Wc n a0 = some r := by
 unfold vl at h
 obtain ⟨ha, h⟩ := zF h
 obtain ⟨z, hz⟩ := NS ha a0 [] (a0.length + 1) rfl (by omega)
 refine ⟨a0.length + 1, ?_⟩
 unfold Wc
 simp only [List.length_nil, Int.natCast_zero] at hz
 rw [<- h]
 unfold Kc
 by_cases c : a0.length <= 6
 ·rw [if_neg (by omega), hz, decide_eq_true c, Option.bind_some]
  cases a0.all qV <;> rfl
 ·rw [if_pos (by omega), decide_eq_false c]; rfl
theorem Og : Ko vl := fun a0 r h => (Tv a0 r h).elim fun n hn => Ly n a0 r hn
def Kp (F : GValue → (List UInt8) → Option Int) : Prop := ∀ (a0 : GValue) (a1 : (List UInt8)), Oc (F a0 a1) 180 [] [.val true (zq a0), vq za a1] fun r => (vi r, [])
def qk (a1 : (List UInt8)) (a0 : GValue) : Nat → Int → Option (Int ⊕ Int)
  | 0, _ => none
  | m + 1, v1 =>
  if v1 < (a0.K.length : Int) then
   (zv v1).bind fun i2 =>
   (a0.K[i2]?).bind fun x3 =>
   if x3 = a1 then
    some (.inl v1)
   else
   qk a1 a0 m (w64 (v1 + 1))
  else
  some (.inr v1)
theorem R8 (a1 : (List UInt8)) (a0 : GValue) (m : Nat) : ∀ (v1 : Int), Ol (qk a1 a0 m v1) 180 (zN Tryz.f180 0) ⟨[(1, vq za a1), (2, vp 0 0), (5, vi v1)], [.var (zq a0)], 0⟩ fun o => match o with | .inl o_0 => (.ret, ⟨[(4, vi o_0)], [], 0⟩) | .inr (o_1) => (.exit 0, ⟨[(1, vq za a1), (2, vp 0 0), (5, vi o_1), (10, vb false)], [.var (zq a0)], 0⟩) := by
  induction m with
  | zero => intro v1 o h; cases h
  | succ m ih => exact fun v1 => tlp (
   .le (zt za) a0.K <|
   .lI v1 (a0.K.length : Int) (fun c1 =>
    .na v1 fun i2 =>
    .ix0 (zt za) a0.K i2 fun x3 =>
    .bt x3 <|
    .bt a1 <|
    .sI x3 a1 (fun c4 =>
     .ret (.inl v1)) fun c4 =>
    .go (ih (w64 (v1 + 1)))) fun c1 =>
   .ret (.inr v1))
def Wd (n : Nat) (a0 : GValue) (a1 : (List UInt8)) : Option Int :=
 (qk a1 a0 n 0).bind fun o1 =>
 match o1 with
 | .inl o1_0 =>
  some o1_0
 | .inr (o1_1) =>
  some (-1)
theorem Lz (n : Nat) : Kp (Wd n) := fun a0 a1 => tc (
 .l2 (R8 a1 a0 n 0) (fun o1_0 =>
  .ret o1_0) fun o1_1 =>
 .ret (-1)) (zh Tryz.func180)
def ixB : List (List UInt8) → List UInt8 → Nat → Int
 | [], _, _ => -1
 | y :: l, x, i => if y = x then (i : Int) else ixB l x (i + 1)
theorem zb8 : ∀ (l : List (List UInt8)) (x : List UInt8) (i : Nat), (0 <= ixB l x i) = (x ∈ l)
 | [], x, i => by simp [ixB]
 | y :: l, x, i => by
  simp only [ixB]
  by_cases h : y = x
  ·rw [if_pos h]; simp [h]
  ·have hn : ¬ x = y := fun e => h e.symm
   rw [if_neg h, zb8 l]; simp [hn]
theorem Oh : ∀ (l : List (List UInt8)) (x : List UInt8) (i : Nat), x ∉ l → ixB l x i = -1
 | [], x, i, _ => rfl
 | y :: l, x, i, h => by
  simp only [List.mem_cons, not_or] at h
  rw [ixB, if_neg (fun e => h.1 e.symm), Oh l x _ h.2]
theorem NT {a : GValue} {x : List UInt8} (ha : a.K.length <= 2 ^ 40) : ∀ (l p : List (List UInt8)) (m : Nat), a.K = p ++ l → l.length < m → ∃ z, qk x a m (p.length : Int) = some (if x ∈ l then .inl (ixB l x p.length) else .inr z) := by
 intro l
 induction l with
 | nil =>
  intro p m he hm
  obtain ⟨m, rfl, _⟩ := zi hm
  exact ⟨_, by rw [qk, he, if_neg (XA p), if_neg (by simp)]⟩
 | cons y l ih =>
  intro p m he hm
  obtain ⟨m, rfl, hm'⟩ := zi hm
  have hlen : a.K.length = p.length + (l.length + 1) := by rw [he]; simp
  rw [qk, if_pos (by omega), zb, Option.bind_some, show a.K[p.length]? = some y by rw [he]; exact wP p y l, Option.bind_some, qw p y (by omega)]
  by_cases hxy : y = x
  ·exact ⟨0, by rw [if_pos hxy, if_pos (by simp [hxy]), ixB, if_pos hxy]⟩
  ·obtain ⟨z, hz⟩ := ih (p ++ [y]) m (by rw [he]; simp) (by simp only [List.length_cons] at hm'; omega)
   refine ⟨z, ?_⟩
   rw [if_neg hxy, hz, ixB, if_neg hxy]
   by_cases hm : x ∈ l
   ·rw [if_pos hm, if_pos (by simp [hm])]; simp
   ·have hn : ¬ x = y := fun e => hxy e.symm
    rw [if_neg hm, if_neg (by simp [hm, hn])]
def vm (a0 : GValue) (a1 : (List UInt8)) : Option Int := if a0.K.length <= 2 ^ 40 then some (ixB a0.K a1 0) else none
theorem Tx (a0 : GValue) (a1 : (List UInt8)) (r : Int) (h : vm a0 a1 = some r) : ∃ n, Wd n a0 a1 = some r := by
 unfold vm at h
 obtain ⟨ha, h⟩ := zF h
 obtain ⟨z, hz⟩ := NT (x := a1) ha a0.K [] (a0.K.length + 1) rfl (by omega)
 refine ⟨a0.K.length + 1, ?_⟩
 unfold Wd
 simp only [List.length_nil, Int.natCast_zero] at hz
 rw [hz, Option.bind_some, <- h]
 by_cases hc : a1 ∈ a0.K
 ·rw [if_pos hc]
 ·rw [if_neg hc, Oh _ _ _ hc]
theorem Oi : Kp vm := fun a0 a1 r h => (Tx a0 a1 r h).elim fun n hn => Lz n a0 a1 r hn
def YU (a0 : GValue) (a1 : GStep) : Option Int :=
 if a1.Kind = 0 then
  if a0.Kind = 5 then
   (vm a0 a1.Key).bind fun r3 =>
   some r3
  else
  some (-1)
 else
 if a1.Kind = 1 then
  if a0.Kind = 4 then
   if a1.I < (a0.L.length : Int) then
    some a1.I
   else
   some (-1)
  else
  some (-1)
 else
 some (-1)
theorem L0 (a0 : GValue) (a1 : GStep) : Oc (YU a0 a1) 153 [] [.val true (zq a0), .val true (X7 a1)] fun r => (vi r, []) := tc (
 .eI a1.Kind 0 (fun c1 =>
  .eI a0.Kind 5 (fun c2 =>
   .cl (Oi a0 a1.Key) fun r3 =>
   .ret r3) fun c2 =>
  .q (.eFo a1.Kind 1 (by omega)) <|
  .ret (-1)) fun c1 =>
 .eI a1.Kind 1 (fun c2 =>
  .eI a0.Kind 4 (fun c3 =>
   .le zf a0.L <|
   .lI a1.I (a0.L.length : Int) (fun c4 =>
    .ret a1.I) fun c4 =>
   .ret (-1)) fun c3 =>
  .ret (-1)) fun c2 =>
 .ret (-1)) (zh Tryz.func153)
def Jl (F : GState → (List UInt8) → (List GStep) → Option (GValue × Bool)) : Prop := ∀ (a0 : GState) (a1 : (List UInt8)) (a2 : (List GStep)), Oc (F a0 a1 a2) 108 [] [.val true (yn a0), vq za a1, vq zw a2] fun r => (.tup [(true, (zq r.1)), (false, [.bool r.2])], [])
def wK (a2 : (List GStep)) (v2 : Int) (v3 : Int) (v5 : (List UInt8)) (v6 : (List (List UInt8))) (v7 : (List GValue)) : Nat → Int → GValue → Option ((Bool × Int × (List UInt8) × (List (List UInt8)) × (List GValue)) ⊕ (Int × GValue))
  | 0, _, _ => none
  | m + 1, v1, v4 =>
  if v1 < (a2.length : Int) then
   (zv v1).bind fun i2 =>
   (a2[i2]?).bind fun x3 =>
   (YU v4 x3).bind fun r4 =>
   if r4 < 0 then
    some (.inl (false, 0, [], [], []))
   else
   (zv r4).bind fun i6 =>
   (v4.L[i6]?).bind fun x7 =>
   wK a2 v2 v3 v5 v6 v7 m (w64 (v1 + 1)) x7
  else
  some (.inr (v1, v4))
theorem Vs (a2 : (List GStep)) (v2 : Int) (v3 : Int) (v5 : (List UInt8)) (v6 : (List (List UInt8))) (v7 : (List GValue)) (m : Nat) : ∀ (v1 : Int) (v4 : GValue), Ol (wK a2 v2 v3 v5 v6 v7 m v1 v4) 108 (zN Tryz.f108 0) ⟨[(2, vq zw a2), (6, vp 0 0), (9, vp 1 0), (10, vi v1)], [.var [ci v2, ci v3, .ref 2, .ref 3, .ref 4], .var (zq v4), .obj 1 (eL za v5), .obj 1 (eL (zt za) v6), .obj 5 (eL zf v7)], 0⟩ fun o => match o with | .inl ⟨o_0_0, o_0_1, o_0_2, o_0_3, o_0_4⟩ => (.ret, ⟨[(6, vp 0 0), (7, vb o_0_0)], [.var [ci o_0_1, ci o_0_1, .ref 1, .ref 2, .ref 3], .obj 1 (eL za o_0_2), .obj 1 (eL (zt za) o_0_3), .obj 5 (eL zf o_0_4)], 0⟩) | .inr (⟨o_1_0, o_1_1⟩) => (.exit 0, ⟨[(2, vq zw a2), (6, vp 0 0), (9, vp 1 0), (10, vi o_1_0), (27, vb false)], [.var [ci v2, ci v3, .ref 2, .ref 3, .ref 4], .var (zq o_1_1), .obj 1 (eL za v5), .obj 1 (eL (zt za) v6), .obj 5 (eL zf v7)], 0⟩) := by
  induction m with
  | zero => intro v1 v4 o h; cases h
  | succ m ih => exact fun v1 v4 => tlp (
   .le zw a2 <|
   .lI v1 (a2.length : Int) (fun c1 =>
    .na v1 fun i2 =>
    .ix qO a2 i2 fun x3 =>
    .cl (L0 v4 x3) fun r4 =>
    .lI r4 0 (fun c5 =>
     .ret (.inl (false, 0, [], [], []))) fun c5 =>
    .na r4 fun i6 =>
    .ix zO v4.L i6 fun x7 =>
    .go (ih (w64 (v1 + 1)) x7)) fun c1 =>
   .ret (.inr (v1, v4)))
def ZL (n : Nat) (a0 : GState) (a1 : (List UInt8)) (a2 : (List GStep)) : Option (GValue × Bool) :=
 (yS a0 a1).bind fun r1 =>
 if r1 < 0 then
  some ((GValue.mk 0 0 [] [] []), false)
 else
 (zv r1).bind fun i3 =>
 (a0.Entries[i3]?).bind fun x4 =>
 (wK a2 0 0 [] [] [] n 0 x4.Val).bind fun o5 =>
 match o5 with
 | .inl ⟨o5_0_0, o5_0_1, o5_0_2, o5_0_3, o5_0_4⟩ =>
  some ((GValue.mk o5_0_1 o5_0_1 o5_0_2 o5_0_3 o5_0_4), o5_0_0)
 | .inr (⟨o5_1_0, o5_1_1⟩) =>
  some (o5_1_1, true)
theorem Oj (n : Nat) : Jl (ZL n) := fun a0 a1 a2 => tc (
 .cl (ZG a0 a1) fun r1 =>
 .lI r1 0 (fun c2 =>
  .vw zZ [] <|
  .vw (zew za) [] <|
  .vw Nw [] <|
  .ret ((GValue.mk 0 0 [] [] []), false)) fun c2 =>
 .na r1 fun i3 =>
 .ix zX a0.Entries i3 fun x4 =>
 .l2 (Vs a2 0 0 [] [] [] n 0 x4.Val) (fun ⟨o5_0_0, o5_0_1, o5_0_2, o5_0_3, o5_0_4⟩ =>
  .vw zZ o5_0_2 <|
  .vw (zew za) o5_0_3 <|
  .vw Nw o5_0_4 <|
  .ret ((GValue.mk o5_0_1 o5_0_1 o5_0_2 o5_0_3 o5_0_4), o5_0_0)) fun ⟨o5_1_0, o5_1_1⟩ =>
 .ret (o5_1_1, true)) (zh Tryz.func108)
def qZ (a0 : GState) (a1 : (List UInt8)) (a2 : (List GStep)) : Option (GValue × Bool) := ZL (a2.length + 5) a0 a1 a2
theorem R9 (a0 : GState) (a1 : (List UInt8)) (a2 : (List GStep)) (r : (GValue × Bool)) (h : qZ a0 a1 a2 = some r) : ∃ n, ZL n a0 a1 a2 = some r := ⟨_, h⟩
theorem QB : Jl qZ := fun a0 a1 a2 r h => (R9 a0 a1 a2 r h).elim fun n hn => Oj n a0 a1 a2 r hn
def Vt (F : GHistory → Int → (List UInt8) → (List GStep) → Option (Int × Bool)) : Prop := ∀ (a0 : GHistory) (a1 : Int) (a2 : (List UInt8)) (a3 : (List GStep)), Oc (F a0 a1 a2 a3) 57 [] [.val true (yh a0), vi a1, vq za a2, vq zw a3] fun r => (.tup [(false, [ci r.1]), (false, [.bool r.2])], [])
def qI (a2 : (List UInt8)) (a3 : (List GStep)) (a0 : GHistory) (v4 : GValue) : Nat → Int → Option ((Int × Bool) ⊕ Int)
  | 0, _ => none
  | m + 1, v2 =>
  if 0 < v2 then
   (xo a0 (w64 (v2 - 1))).bind fun ⟨r2_0, r2_1⟩ =>
   (qZ r2_0 a2 a3).bind fun ⟨r3_0, r3_1⟩ =>
   match r3_1 with
   | true =>
    (k7 v4 r3_0).bind fun r4 =>
    if r4 = 0 then
     qI a2 a3 a0 v4 m (w64 (v2 - 1))
    else
    some (.inl ((w64 (a0.Base.Serial + v2)), true))
   | false =>
    some (.inl ((w64 (a0.Base.Serial + v2)), true))
  else
  some (.inr v2)
theorem Ty (a2 : (List UInt8)) (a3 : (List GStep)) (a0 : GHistory) (v4 : GValue) (m : Nat) : ∀ (v2 : Int), Ol (qI a2 a3 a0 v4 m v2) 57 (zN Tryz.f57 0) ⟨[(2, vq za a2), (3, vq zw a3), (4, vp 0 0), (12, vp 1 0), (14, vi v2)], [.var (yh a0), .var (zq v4)], 0⟩ fun o => match o with | .inl ⟨o_0_0, o_0_1⟩ => (.ret, ⟨[(8, vi o_0_0), (9, vb o_0_1)], [], 0⟩) | .inr (o_1) => (.exit 0, ⟨[(2, vq za a2), (3, vq zw a3), (4, vp 0 0), (12, vp 1 0), (14, vi o_1), (53, vb false)], [.var (yh a0), .var (zq v4)], 0⟩) := by
  induction m with
  | zero => intro v2 o h; cases h
  | succ m ih => exact fun v2 => tlp (
   .lI 0 v2 (fun c1 =>
    .cl (X0 a0 (w64 (v2 - 1))) fun ⟨r2_0, r2_1⟩ =>
    .cl (QB r2_0 a2 a3) fun ⟨r3_0, r3_1⟩ =>
    .vN 0 r3_1 (
     .an 0 0 <|
     .an 0 0 <|
     .cl (Kk v4 r3_0) fun r4 =>
     .an 0 1 <|
     .eI r4 0 (fun c5 =>
      .an 0 1 <|
      .go (ih (w64 (v2 - 1)))) fun c5 =>
     .an 0 1 <|
     .ret (.inl ((w64 (a0.Base.Serial + v2)), true))) <|
    .an 0 0 <|
    .an 0 0 <|
    .an 0 0 <|
    .an 0 0 <|
    .ret (.inl ((w64 (a0.Base.Serial + v2)), true))) fun c1 =>
   .ret (.inr v2))
def YV (n : Nat) (a0 : GHistory) (a1 : Int) (a2 : (List UInt8)) (a3 : (List GStep)) : Option (Int × Bool) :=
 (QU a0 a1).bind fun r1 =>
 match r1 with
 | true =>
  (vl a3).bind fun r2 =>
  match r2 with
  | true =>
   (xo a0 (w64 (a1 - a0.Base.Serial))).bind fun ⟨r3_0, r3_1⟩ =>
   (qZ r3_0 a2 a3).bind fun ⟨r4_0, r4_1⟩ =>
   match r4_1 with
   | true =>
    (qI a2 a3 a0 r4_0 n (w64 (a1 - a0.Base.Serial))).bind fun o5 =>
    match o5 with
    | .inl ⟨o5_0_0, o5_0_1⟩ =>
     some (o5_0_0, o5_0_1)
    | .inr (o5_1) =>
     some (a0.Base.Serial, true)
   | false =>
    some (0, false)
  | false =>
   some (0, false)
 | false =>
  some (0, false)
theorem MX (n : Nat) : Vt (YV n) := fun a0 a1 a2 a3 => tc (
 .cl (MW a0 a1) fun r1 =>
 .vN 0 r1 (
  .an 0 0 <|
  .cl (Og a3) fun r2 =>
  .an 0 1 <|
  .an 0 1 <|
  .vN 0 r2 (
   .cl (X0 a0 (w64 (a1 - a0.Base.Serial))) fun ⟨r3_0, r3_1⟩ =>
   .cl (QB r3_0 a2 a3) fun ⟨r4_0, r4_1⟩ =>
   .vN 0 r4_1 (
    .l2 (Ty a2 a3 a0 r4_0 n (w64 (a1 - a0.Base.Serial))) (fun ⟨o5_0_0, o5_0_1⟩ =>
     .ret (o5_0_0, o5_0_1)) fun o5_1 =>
    .ret (a0.Base.Serial, true)) <|
   .ret (0, false)) <|
  .ret (0, false)) <|
 .an 0 0 <|
 .an 0 0 <|
 .an 0 0 <|
 .ret (0, false)) (zh Tryz.func57)
def Zp (a0 : GHistory) (a1 : Int) (a2 : (List UInt8)) (a3 : (List GStep)) : Option (Int × Bool) := YV (a0.Events.length + 5) a0 a1 a2 a3
theorem UK (a0 : GHistory) (a1 : Int) (a2 : (List UInt8)) (a3 : (List GStep)) (r : (Int × Bool)) (h : Zp a0 a1 a2 a3 = some r) : ∃ n, YV n a0 a1 a2 a3 = some r := ⟨_, h⟩
theorem L1 : Vt Zp := fun a0 a1 a2 a3 r h => (UK a0 a1 a2 a3 r h).elim fun n hn => MX n a0 a1 a2 a3 r hn
def y8 (a0 : Int) (a1 : Int) (a2 : Int) : Option Bool :=
 if a1 <= a0 then
  some (decide (a0 <= a2))
 else
 some false
theorem xT (a0 : Int) (a1 : Int) (a2 : Int) : Oc (y8 a0 a1 a2) 94 [] [vi a0, vi a1, vi a2] fun r => (vb r, []) := tc (
 .gI a1 a0 (fun c1 =>
  .gD a0 a2 <|
  .ret (decide (a0 <= a2))) fun c1 =>
 .ret false) (zh Tryz.func94)
def ZW (a0 : (List UInt8)) (a1 : UInt8) : Option Int :=
 (qx a0 a1).bind fun r1 =>
 some r1
theorem Vu (a0 : (List UInt8)) (a1 : UInt8) : Oc (ZW a0 a1) 212 [] [vq za a0, .val false [.int .u8 ((a1.toNat : Nat) : Int)]] fun r => (vi r, []) := tc (
 .cl (Xn a0 a1) fun r1 =>
 .ret r1) (zh Tryz.func212)
def xp (a0 : (List UInt8)) (a1 : (List UInt8)) : Option Bool :=
 some (decide (a0 = a1))
theorem ja (a0 : (List UInt8)) (a1 : (List UInt8)) : Oc (xp a0 a1) 105 [] [vq za a0, vq za a1] fun r => (vb r, []) := tc (
 .bt a0 <|
 .bt a1 <|
 .sD a0 a1 <|
 .ret (decide (a0 = a1))) (zh Tryz.func105)
def vn (a0 : (List UInt8)) (a1 : (List UInt8)) : Option Int :=
 if (a1.length : Int) = 0 then
  some 0
 else
 if (a1.length : Int) = 1 then
  (a1[0]?).bind fun x3 =>
  (ZW a0 x3).bind fun r4 =>
  some r4
 else
 if (a1.length : Int) = (a0.length : Int) then
  (xp a1 a0).bind fun r4 =>
  match r4 with
  | true =>
   some 0
  | false =>
   some (-1)
 else
 if (a0.length : Int) < (a1.length : Int) then
  some (-1)
 else
 none
theorem Ok (a0 : (List UInt8)) (a1 : (List UInt8)) : Oc (vn a0 a1) 196 [] [vq za a0, vq za a1] fun r => (vi r, []) := tc (
 .le za a1 <|
 .eI (a1.length : Int) 0 (fun c1 =>
  .ret 0) fun c1 =>
 .eI (a1.length : Int) 1 (fun c2 =>
  .nl 0 <|
  .ix0 za a1 0 fun x3 =>
  .cl (Vu a0 x3) fun r4 =>
  .ret r4) fun c2 =>
 .le za a0 <|
 .eI (a1.length : Int) (a0.length : Int) (fun c3 =>
  .cl (ja a1 a0) fun r4 =>
  .vM 0 r4 (
   .ret 0) <|
  .ret (-1)) fun c3 =>
 .le za a0 <|
 .lI (a0.length : Int) (a1.length : Int) (fun c4 =>
  .ret (-1)) fun c4 =>
 .no) (zh Tryz.func196)
def XH (a0 : (List UInt8)) (a1 : (List UInt8)) : Option ((List UInt8) × (List UInt8) × Bool) :=
 (vn a0 a1).bind fun r1 =>
 if 0 <= r1 then
  (zv r1).bind fun i3 =>
  (w6 a0 none (some i3)).bind fun s4 =>
  (zv (w64 (r1 + (a1.length : Int)))).bind fun i5 =>
  (w6 a0 (some i5) none).bind fun s6 =>
  some (s4, s6, true)
 else
 some (a0, [], false)
theorem MY (a0 : (List UInt8)) (a1 : (List UInt8)) : Oc (XH a0 a1) 170 [] [vq za a0, vq za a1] fun r => (.tup [(false, [cq za r.1]), (false, [cq za r.2.1]), (false, [.bool r.2.2])], []) := tc (
 .cl (Ok a0 a1) fun r1 =>
 .gI 0 r1 (fun c2 =>
  .na r1 fun i3 =>
  .ct za a0 none (some i3) fun s4 =>
  .un zZ a0 <|
  .le za a1 <|
  .na (w64 (r1 + (a1.length : Int))) fun i5 =>
  .ct za a0 (some i5) none fun s6 =>
  .un zZ a0 <|
  .ret (s4, s6, true)) fun c2 =>
 .vw zZ [] <|
 .ret (a0, [], false)) (zh Tryz.func170)
def Kq (F : (List UInt8) → Option Bool) : Prop := ∀ (a0 : (List UInt8)), Oc (F a0) 158 [] [vq za a0] fun r => (vb r, [])
def ql (a0 : (List UInt8)) (v1 : Int) : Nat → Int → Option (Bool ⊕ Int)
  | 0, _ => none
  | m + 1, v2 =>
  if v2 < v1 then
   (zv v2).bind fun i2 =>
   (a0[i2]?).bind fun x3 =>
   if ((x3.toNat : Nat) : Int) < 97 then
    some (.inl false)
   else
   if 122 < ((x3.toNat : Nat) : Int) then
    some (.inl false)
   else
   ql a0 v1 m (w64 (v2 + 1))
  else
  some (.inr v2)
theorem RA (a0 : (List UInt8)) (v1 : Int) (m : Nat) : ∀ (v2 : Int), Ol (ql a0 v1 m v2) 158 (zN Tryz.f158 0) ⟨[(0, vq za a0), (5, vq za a0), (6, vi v1), (7, vi v2)], [], 0⟩ fun o => match o with | .inl o_0 => (.ret, ⟨[(2, vb o_0)], [], 0⟩) | .inr (o_1) => (.exit 0, ⟨[(0, vq za a0), (5, vq za a0), (6, vi v1), (7, vi o_1), (8, vb false)], [], 0⟩) := by
  induction m with
  | zero => intro v2 o h; cases h
  | succ m ih => exact fun v2 => tlp (
   .lI v2 v1 (fun c1 =>
    .na v2 fun i2 =>
    .ix0 za a0 i2 fun x3 =>
    .lI ((x3.toNat : Nat) : Int) 97 (fun c4 =>
     .ret (.inl false)) fun c4 =>
    .lI 122 ((x3.toNat : Nat) : Int) (fun c5 =>
     .ret (.inl false)) fun c5 =>
    .go (ih (w64 (v2 + 1)))) fun c1 =>
   .ret (.inr v2))
def We (n : Nat) (a0 : (List UInt8)) : Option Bool :=
 (ql a0 (a0.length : Int) n 0).bind fun o1 =>
 match o1 with
 | .inl o1_0 =>
  some o1_0
 | .inr (o1_1) =>
  (y8 (a0.length : Int) 1 8).bind fun r2 =>
  some r2
theorem L2 (n : Nat) : Kq (We n) := fun a0 => tc (
 .le za a0 <|
 .l2 (RA a0 (a0.length : Int) n 0) (fun o1_0 =>
  .ret o1_0) fun o1_1 =>
 .le za a0 <|
 .cl (xT (a0.length : Int) 1 8) fun r2 =>
 .ret r2) (zh Tryz.func158)
theorem Tz {a : List UInt8} (ha : a.length <= 2 ^ 20) : ∀ (d i m : Nat), i + d = a.length → d < m → ∃ z, ql a (a.length : Int) m (i : Int) = some (if (a.drop i).all (inB 97 122) = true then .inr z else .inl false) := by
 intro d
 induction d with
 | zero =>
  intro i m hi hm
  obtain ⟨m, rfl, _⟩ := zi hm
  exact ⟨_, by rw [ql, if_neg (by omega), List.drop_eq_nil_of_le (by omega)]; rfl⟩
 | succ d ih =>
  intro i m hi hm
  obtain ⟨m, rfl, hm'⟩ := zi hm
  have hil : i < a.length := by omega
  rw [ql, if_pos (by omega), zb, Option.bind_some, zd hil, Option.bind_some, z7 (by omega), yU hil, List.all_cons]
  by_cases h1 : ((a[i].toNat : Nat) : Int) < 97
  ·exact ⟨0, by rw [if_pos h1, if_neg]; simp [inB]; omega⟩
  ·rw [if_neg h1]
   by_cases h2 : (122 : Int) < ((a[i].toNat : Nat) : Int)
   ·exact ⟨0, by rw [if_pos h2, if_neg]; simp [inB]; omega⟩
   ·rw [if_neg h2, show inB 97 122 a[i] = true by simp [inB]; omega, Bool.true_and]
    exact ih (i + 1) m (by omega) (by omega)
theorem YW (a b c : Int) : y8 a b c = some (decide (b <= a ∧ a <= c)) := by
 unfold y8
 by_cases h : b <= a
 ·rw [if_pos h]; simp [h]
 ·rw [if_neg h]; simp [h]
def xq (a0 : (List UInt8)) : Option Bool := if a0.length <= 2 ^ 20 then some (wD a0) else none
theorem T0 (a0 : (List UInt8)) (r : Bool) (h : xq a0 = some r) : ∃ n, We n a0 = some r := by
 unfold xq at h
 obtain ⟨ha, h⟩ := zF h
 refine ⟨a0.length + 1, ?_⟩
 obtain ⟨z, hz⟩ := Tz ha a0.length 0 (a0.length + 1) (by omega) (by omega)
 rw [show ((0 : Nat) : Int) = 0 from rfl, List.drop_zero] at hz
 unfold We
 rw [<- h, hz]
 unfold wD
 have hd : decide (1 <= a0.length ∧ a0.length <= 8) = decide ((1 : Int) <= (a0.length : Int) ∧ (a0.length : Int) <= 8) := decide_eq_decide.2 (by omega)
 rw [hd]
 cases a0.all (inB 97 122)
 ·rw [Bool.and_false]; rfl
 ·rw [Bool.and_true]
  simp only [if_true, Option.bind_some, YW]
theorem ZM : Kq xq := fun a0 r h => (T0 a0 r h).elim fun n hn => L2 n a0 r hn
def kc (a0 : (List UInt8)) (a1 : (List UInt8)) : Option Bool :=
 if (a1.length : Int) <= (a0.length : Int) then
  (zv (w64 ((a0.length : Int) - (a1.length : Int)))).bind fun i2 =>
  (w6 a0 (some i2) none).bind fun s3 =>
  (xp s3 a1).bind fun r4 =>
  some r4
 else
 some false
theorem Vv (a0 : (List UInt8)) (a1 : (List UInt8)) : Oc (kc a0 a1) 197 [] [vq za a0, vq za a1] fun r => (vb r, []) := tc (
 .le za a0 <|
 .le za a1 <|
 .gI (a1.length : Int) (a0.length : Int) (fun c1 =>
  .le za a0 <|
  .le za a1 <|
  .na (w64 ((a0.length : Int) - (a1.length : Int))) fun i2 =>
  .ct za a0 (some i2) none fun s3 =>
  .un zZ a0 <|
  .cl (ja s3 a1) fun r4 =>
  .ret r4) fun c1 =>
 .ret false) (zh Tryz.func197)
def qR (a0 : (List UInt8)) (a1 : (List UInt8)) : Option ((List UInt8) × Bool) :=
 (kc a0 a1).bind fun r1 =>
 match r1 with
 | true =>
  (zv (w64 ((a0.length : Int) - (a1.length : Int)))).bind fun i2 =>
  (w6 a0 none (some i2)).bind fun s3 =>
  some (s3, true)
 | false =>
  some (a0, false)
theorem XO (a0 : (List UInt8)) (a1 : (List UInt8)) : Oc (qR a0 a1) 171 [] [vq za a0, vq za a1] fun r => (.tup [(false, [cq za r.1]), (false, [.bool r.2])], []) := tc (
 .cl (Vv a0 a1) fun r1 =>
 .vN 0 r1 (
  .le za a0 <|
  .le za a1 <|
  .na (w64 ((a0.length : Int) - (a1.length : Int))) fun i2 =>
  .ct za a0 none (some i2) fun s3 =>
  .un zZ a0 <|
  .ret (s3, true)) <|
 .ret (a0, false)) (zh Tryz.func171)
def ZX (a0 : (List UInt8)) (a1 : (List UInt8)) : Option Bool :=
 if (a1.length : Int) <= (a0.length : Int) then
  (zv (a1.length : Int)).bind fun i2 =>
  (w6 a0 none (some i2)).bind fun s3 =>
  (xp s3 a1).bind fun r4 =>
  some r4
 else
 some false
theorem Vw (a0 : (List UInt8)) (a1 : (List UInt8)) : Oc (ZX a0 a1) 198 [] [vq za a0, vq za a1] fun r => (vb r, []) := tc (
 .le za a0 <|
 .le za a1 <|
 .gI (a1.length : Int) (a0.length : Int) (fun c1 =>
  .le za a1 <|
  .na (a1.length : Int) fun i2 =>
  .ct za a0 none (some i2) fun s3 =>
  .un zZ a0 <|
  .cl (ja s3 a1) fun r4 =>
  .ret r4) fun c1 =>
 .ret false) (zh Tryz.func198)
def kf (a0 : (List UInt8)) (a1 : (List UInt8)) : Option ((List UInt8) × Bool) :=
 (ZX a0 a1).bind fun r1 =>
 match r1 with
 | true =>
  (zv (a1.length : Int)).bind fun i2 =>
  (w6 a0 (some i2) none).bind fun s3 =>
  some (s3, true)
 | false =>
  some (a0, false)
theorem Vx (a0 : (List UInt8)) (a1 : (List UInt8)) : Oc (kf a0 a1) 172 [] [vq za a0, vq za a1] fun r => (.tup [(false, [cq za r.1]), (false, [.bool r.2])], []) := tc (
 .cl (Vw a0 a1) fun r1 =>
 .vN 0 r1 (
  .le za a1 <|
  .na (a1.length : Int) fun i2 =>
  .ct za a0 (some i2) none fun s3 =>
  .un zZ a0 <|
  .ret (s3, true)) <|
 .ret (a0, false)) (zh Tryz.func172)
end
end Go.Am.Try
