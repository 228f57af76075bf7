
/- The functions of the program in plain Lean, and that the machine answers as they do; conditions at each theorem. -/
import Derived.Test.YtjmhaigcaidloaaGreatDoorKG4
set_option linter.unusedVariables false
set_option linter.unusedSimpArgs false
namespace Go.Am.Try
open Go.Am Go.Proofs
set_option linter.unusedVariables false
set_option maxRecDepth 20000
set_option maxHeartbeats 2000000
noncomputable section
def jd (F : (List GValue) → Int → Option Int) : Prop := ∀ (a0 : (List GValue)) (a1 : Int), Oc (F a0 a1) 146 [] [vq zh a0, vi a1] fun r => (vi r, [])
def xD (G_laws_heldValueS : (List GValue) → Int → Option Int) (a0 : (List GValue)) : Nat → Int → Int → Option (Int ⊕ (Int × Int))
  | 0, _, _ => none
  | m + 1, a1, v2 =>
  if v2 < (a0.length : Int) then
   (zv v2).bind fun i2 =>
   (a0[i2]?).bind fun x3 =>
   if x3.Kind = a1 then
    if x3.N = (w64 (a1 + 1)) then
     (yz x3.S (w64 ((w64 (a1 + 1)) + 1))).bind fun r6 =>
     if r6 < 0 then
      some (.inl (-1))
     else
     (yK x3.K r6).bind fun r8 =>
     if r8 < 0 then
      some (.inl (-1))
     else
     (G_laws_heldValueS x3.L r8).bind fun r10 =>
     if r10 < 0 then
      some (.inl (-1))
     else
     xD G_laws_heldValueS a0 m r10 (w64 (v2 + 1))
    else
    some (.inl (-1))
   else
   some (.inl (-1))
  else
  some (.inr (a1, v2))
theorem Ju (G_laws_heldValueS : (List GValue) → Int → Option Int) (H_laws_heldValueS : jd G_laws_heldValueS) (a0 : (List GValue)) (m : Nat) : ∀ (a1 : Int) (v2 : Int), Ol (xD G_laws_heldValueS a0 m a1 v2) 146 (zJ Tryz.f146 0) ⟨[(0, vq zh a0), (1, vi a1), (5, vi v2)], [], 0⟩ fun o => match o with | .inl o_0 => (.ret, ⟨[(4, vi o_0)], [], 0⟩) | .inr (⟨o_1_0, o_1_1⟩) => (.exit 0, ⟨[(0, vq zh a0), (1, vi o_1_0), (5, vi o_1_1), (9, vb false)], [], 0⟩) := by
  induction m with
  | zero => intro a1 v2 o h; cases h
  | succ m ih => exact fun a1 v2 => tlp (
   .le zh a0 <|
   .lI v2 (a0.length : Int) (fun c1 =>
    .na v2 fun i2 =>
    .ix yu a0 i2 fun x3 =>
    .eI x3.Kind a1 (fun c4 =>
     .ag 1 <|
     .ag 0 <|
     .eI x3.N (w64 (a1 + 1)) (fun c5 =>
      .ag 1 <|
      .ag 0 <|
      .cl (xN x3.S (w64 ((w64 (a1 + 1)) + 1))) fun r6 =>
      .lI r6 0 (fun c7 =>
       .ret (.inl (-1))) fun c7 =>
      .ag 2 <|
      .ag 1 <|
      .cl (qG x3.K r6) fun r8 =>
      .lI r8 0 (fun c9 =>
       .ret (.inl (-1))) fun c9 =>
      .ag 3 <|
      .ag 2 <|
      .cl (H_laws_heldValueS x3.L r8) fun r10 =>
      .lI r10 0 (fun c11 =>
       .ret (.inl (-1))) fun c11 =>
      .go (ih r10 (w64 (v2 + 1)))) fun c5 =>
     .ret (.inl (-1))) fun c4 =>
    .ret (.inl (-1))) fun c1 =>
   .ret (.inr (a1, v2)))
def Ya (G_laws_heldValueS : (List GValue) → Int → Option Int) (n : Nat) (a0 : (List GValue)) (a1 : Int) : Option Int :=
 (xD G_laws_heldValueS a0 n a1 0).bind fun o1 =>
 match o1 with
 | .inl o1_0 =>
  some o1_0
 | .inr (⟨o1_1_0, o1_1_1⟩) =>
  some o1_1_0
theorem RP (G_laws_heldValueS : (List GValue) → Int → Option Int) (H_laws_heldValueS : jd G_laws_heldValueS) (n : Nat) : jd (Ya G_laws_heldValueS n) := fun a0 a1 => tc (
 .l2 (Ju G_laws_heldValueS H_laws_heldValueS a0 n a1 0) (fun o1_0 =>
  .ret o1_0) fun ⟨o1_1_0, o1_1_1⟩ =>
 .ret o1_1_0) (zf Tryz.func146)
def yL : Nat → (List GValue) → Int → Option Int
 | 0, _, _ => none
 | n + 1, a0, a1 => Ya (yL n) n a0 a1
theorem KW (n : Nat) : jd (yL n) := by
 induction n with
 | zero => exact fun _ _ _ h => (by rw [yL] at h; cases h)
 | succ n ih =>
  have ih_laws_heldValueS := ih
  exact fun a0 a1 r h => RP (yL n) ih_laws_heldValueS n a0 a1 r (by rw [yL] at h; exact h)
theorem Pi {G : List GValue → Int → Option Int} {a : List GValue} : ∀ (l p : List GValue) (k : Int) (m : Nat), a = p ++ l → mVs k l = l → (∀ v ∈ l, ∀ i : Int, mVs i v.L = v.L → 0 <= i → i + 2 * y6 v.L <= 2 ^ 41 → G v.L i = some (i + cVs v.L)) → 0 <= k → k + 2 * y6 l <= 2 ^ 41 → p.length + l.length <= 2 ^ 41 → l.length < m → ∃ z, xD G a m k (p.length : Int) = some (.inr (k + cVs l, z)) := by
 intro l
 induction l with
 | nil =>
  intro p k m ha _ _ _ _ _ hm
  subst ha
  obtain ⟨m, rfl, _⟩ := zg hm
  exact ⟨_, by rw [xD, if_neg (wc p)]; simp [cVs]; rfl⟩
 | cons x l ih =>
  intro p k m ha hm0 hG h0 h1 h2 hm
  obtain ⟨m, rfl, hm'⟩ := zg hm
  simp only [List.length_cons] at h2 hm'
  have hx := hG x List.mem_cons_self
  have hc := W9 x
  rw [mVs] at hm0
  obtain ⟨e1, e2⟩ := List.cons.inj hm0
  simp only [y6] at h1
  obtain ⟨z, hz⟩ := ih (p ++ [x]) (k + cV x) m (by rw [ha]; simp) e2 (fun v hv => hG v (List.mem_cons_of_mem _ hv)) (by omega) (by omega) (by simp; omega) (by omega)
  refine ⟨z, ?_⟩
  rw [xD, if_pos (by rw [ha]; exact vH p x l), zb, oB, show a[p.length]? = some x by rw [ha]; exact zF p x l, oB, y4 p x (by omega)]
  have hb := j4 x.K
  have hd := XQ x.L
  have hq := xH x
  have hr := Pr x
  rw [Ps] at e1
  have f1 : x.Kind = k := (congrArg GValue.Kind e1).symm
  have f2 : x.N = k + 1 := (congrArg GValue.N e1).symm
  have f3 : mB (k + 1 + 1) x.S = x.S := congrArg GValue.S e1
  have f4 : mBB (k + 1 + 1 + x.S.length) x.K = x.K := congrArg GValue.K e1
  have f5 : mVs (k + 1 + 1 + x.S.length + cB x.K) x.L = x.L := congrArg GValue.L e1
  rw [zW (x := k + 1) (by omega) (by omega), zW (x := k + 1 + 1) (by omega) (by omega), if_pos f1, if_pos f2, jz f3 (by omega) (by omega), oB, if_neg (by omega), vG f4 (by omega) (by omega), oB, if_neg (by omega), hx _ f5 (by omega) (by omega), oB, if_neg (by omega),
   show k + 1 + 1 + (x.S.length : Int) + (cB x.K : Int) + (cVs x.L : Int) = k + ((cV x : Nat) : Int) by omega, hz]
  simp only [cVs]
  rw [show k + ((cV x : Nat) : Int) + (cVs l : Int) = k + ((cV x + cVs l : Nat) : Int) by omega]
theorem Ni : ∀ (N : Nat) (l : List GValue), y6 l < N → ∀ (k : Int) (f : Nat), mVs k l = l → 0 <= k → k + 2 * y6 l <= 2 ^ 41 → y6 l + 2 <= f → yL f l k = some (k + cVs l) := by
 intro N
 induction N with
 | zero => intro l hl; omega
 | succ N ih =>
  intro l hl k f he h0 h1 hf
  obtain ⟨f, rfl, _⟩ := zg (show 0 < f by omega)
  have hlen := yP l
  rw [yL]
  unfold Ya
  obtain ⟨z, hz⟩ := Pi (G := yL f) (a := l) l [] k f rfl he (fun v hv i ge g0 g1 => by
   have := wm hv
   have := xH v
   exact ih v.L (by omega) i f ge g0 g1 (by omega)) h0 h1 (by simp; omega) (by omega)
  simp only [List.length_nil, Int.natCast_zero] at hz
  rw [hz]; rfl
open Classical in
noncomputable def wT (a0 : (List GValue)) (a1 : Int) : Option Int := if mVs a1 a0 = a0 ∧ 0 <= a1 ∧ a1 + 2 * y6 a0 <= 2 ^ 41 then some (a1 + cVs a0) else none
theorem K5 {a : Int} {s : List GValue} (h : mVs a s = s) (h0 : 0 <= a) (h1 : a + 2 * y6 s <= 2 ^ 41) : wT s a = some (a + cVs s) := if_pos ⟨h, h0, h1⟩
theorem JZ (a0 : (List GValue)) (a1 : Int) (r : Int) (h : wT a0 a1 = some r) : ∃ n, yL n a0 a1 = some r := by
 unfold wT at h
 obtain ⟨⟨he, h0, h1⟩, h⟩ := zB h
 exact ⟨y6 a0 + 2, by rw [Ni _ a0 (Nat.lt_succ_self _) a1 _ he h0 h1 (Nat.le_refl _), h]⟩
theorem XP : jd wT := by
 intro a0 a1 r h
 obtain ⟨n, hn⟩ := JZ a0 a1 r h
 exact (KW n) a0 a1 r hn
def Wt (F : (List GEntry) → Int → Option Int) : Prop := ∀ (a0 : (List GEntry)) (a1 : Int), Oc (F a0 a1) 85 [] [vq zj a0, vi a1] fun r => (vi r, [])
def yX (a0 : (List GEntry)) : Nat → Int → Int → Option (Int ⊕ (Int × Int))
  | 0, _, _ => none
  | m + 1, a1, v2 =>
  if v2 < (a0.length : Int) then
   (zv v2).bind fun i2 =>
   (a0[i2]?).bind fun x3 =>
   (yz x3.Addr a1).bind fun r4 =>
   if r4 < 0 then
    some (.inl (-1))
   else
   if x3.Val.Kind = r4 then
    if x3.Val.N = (w64 (r4 + 1)) then
     (yz x3.Val.S (w64 ((w64 (r4 + 1)) + 1))).bind fun r8 =>
     if r8 < 0 then
      some (.inl (-1))
     else
     (yK x3.Val.K r8).bind fun r10 =>
     if r10 < 0 then
      some (.inl (-1))
     else
     (wT x3.Val.L r10).bind fun r12 =>
     if r12 < 0 then
      some (.inl (-1))
     else
     (yK x3.Deps r12).bind fun r14 =>
     if r14 < 0 then
      some (.inl (-1))
     else
     if x3.Taint = true then
      if (r14.tmod 3) = 0 then
       if x3.Turned = (w64 (r14 + 1)) then
        yX a0 m (w64 ((w64 (r14 + 1)) + 1)) (w64 (v2 + 1))
       else
       some (.inl (-1))
      else
      some (.inl (-1))
     else
     if (r14.tmod 3) = 0 then
      some (.inl (-1))
     else
     if x3.Turned = (w64 (r14 + 1)) then
      yX a0 m (w64 ((w64 (r14 + 1)) + 1)) (w64 (v2 + 1))
     else
     some (.inl (-1))
    else
    some (.inl (-1))
   else
   some (.inl (-1))
  else
  some (.inr (a1, v2))
theorem Jv (a0 : (List GEntry)) (m : Nat) : ∀ (a1 : Int) (v2 : Int), Ol (yX a0 m a1 v2) 85 (zJ Tryz.f85 0) ⟨[(0, vq zj a0), (1, vi a1), (5, vi v2)], [], 0⟩ fun o => match o with | .inl o_0 => (.ret, ⟨[(4, vi o_0)], [], 0⟩) | .inr (⟨o_1_0, o_1_1⟩) => (.exit 0, ⟨[(0, vq zj a0), (1, vi o_1_0), (5, vi o_1_1), (9, vb false)], [], 0⟩) := by
  induction m with
  | zero => intro a1 v2 o h; cases h
  | succ m ih => exact fun a1 v2 => tlp (
   .le zj a0 <|
   .lI v2 (a0.length : Int) (fun c1 =>
    .na v2 fun i2 =>
    .ix zV a0 i2 fun x3 =>
    .cl (xN x3.Addr a1) fun r4 =>
    .lI r4 0 (fun c5 =>
     .ret (.inl (-1))) fun c5 =>
    .ag 2 <|
    .ag 1 <|
    .eI x3.Val.Kind r4 (fun c6 =>
     .ag 2 <|
     .ag 1 <|
     .eI x3.Val.N (w64 (r4 + 1)) (fun c7 =>
      .ag 2 <|
      .ag 1 <|
      .cl (xN x3.Val.S (w64 ((w64 (r4 + 1)) + 1))) fun r8 =>
      .lI r8 0 (fun c9 =>
       .ret (.inl (-1))) fun c9 =>
      .ag 3 <|
      .ag 2 <|
      .cl (qG x3.Val.K r8) fun r10 =>
      .lI r10 0 (fun c11 =>
       .ret (.inl (-1))) fun c11 =>
      .ag 4 <|
      .ag 3 <|
      .cl (XP x3.Val.L r10) fun r12 =>
      .lI r12 0 (fun c13 =>
       .ret (.inl (-1))) fun c13 =>
      .ag 5 <|
      .ag 4 <|
      .cl (qG x3.Deps r12) fun r14 =>
      .lI r14 0 (fun c15 =>
       .ret (.inl (-1))) fun c15 =>
      .ag 6 <|
      .ag 5 <|
      .q ⟨.nz 3, .b true, rfl⟩ <|
      .eD (r14.tmod 3) 0 <|
      .sp (x3.Taint = true) (fun c16 =>
       .sp ((r14.tmod 3) = 0) (fun c17 =>
        .eb c16 (dT c17) <|
        .ag 6 <|
        .ag 5 <|
        .eI x3.Turned (w64 (r14 + 1)) (fun c18 =>
         .go (ih (w64 ((w64 (r14 + 1)) + 1)) (w64 (v2 + 1)))) fun c18 =>
        .ret (.inl (-1))) fun c17 =>
       .eb c16 (dF c17) <|
       .ret (.inl (-1))) fun c16 =>
      .sp ((r14.tmod 3) = 0) (fun c17 =>
       .eb (bF c16) (dT c17) <|
       .ret (.inl (-1))) fun c17 =>
      .eb (bF c16) (dF c17) <|
      .ag 6 <|
      .ag 5 <|
      .eI x3.Turned (w64 (r14 + 1)) (fun c18 =>
       .go (ih (w64 ((w64 (r14 + 1)) + 1)) (w64 (v2 + 1)))) fun c18 =>
      .ret (.inl (-1))) fun c7 =>
     .ret (.inl (-1))) fun c6 =>
    .ret (.inl (-1))) fun c1 =>
   .ret (.inr (a1, v2)))
def Yb (n : Nat) (a0 : (List GEntry)) (a1 : Int) : Option Int :=
 (yX a0 n a1 0).bind fun o1 =>
 match o1 with
 | .inl o1_0 =>
  some o1_0
 | .inr (⟨o1_1_0, o1_1_1⟩) =>
  some o1_1_0
theorem RQ (n : Nat) : Wt (Yb n) := fun a0 a1 => tc (
 .l2 (Jv a0 n a1 0) (fun o1_0 =>
  .ret o1_0) fun ⟨o1_1_0, o1_1_1⟩ =>
 .ret o1_1_0) (zf Tryz.func85)
theorem Pj {a : List GEntry} : ∀ (l p : List GEntry) (k : Int) (m : Nat), a = p ++ l → mEs k l = l → 0 <= k → k + 4 * yb l <= 2 ^ 40 → p.length + l.length <= 2 ^ 40 → l.length < m → ∃ z, yX a m k (p.length : Int) = some (.inr (k + cEs l, z)) := by
 intro l
 induction l with
 | nil =>
  intro p k m ha _ _ _ _ hm
  subst ha
  obtain ⟨m, rfl, _⟩ := zg hm
  exact ⟨_, by rw [yX, if_neg (wc p)]; simp [cEs]; rfl⟩
 | cons x l ih =>
  intro p k m ha hm0 h0 h1 h2 hm
  obtain ⟨m, rfl, hm'⟩ := zg hm
  simp only [List.length_cons] at h2 hm'
  have hc := HC x
  rw [mEs] at hm0
  obtain ⟨e1, e2⟩ := List.cons.inj hm0
  simp only [yb] at h1
  obtain ⟨z, hz⟩ := ih (p ++ [x]) (k + cE x) m (by rw [ha]; simp) e2 (by omega) (by omega) (by simp; omega) (by omega)
  refine ⟨z, ?_⟩
  rw [yX, if_pos (by rw [ha]; exact vH p x l), zb, oB, show a[p.length]? = some x by rw [ha]; exact zF p x l, oB, y4 p x (by omega)]
  have hcv := W9 x.Val
  have hcd := j4 x.Deps
  have hve := xH x.Val
  have hcq := Pr x.Val
  have hb := j4 x.Val.K
  have hd := XQ x.Val.L
  have hcE : cE x = x.Addr.length + cV x.Val + cB x.Deps + 2 := rfl
  unfold esz at h1 hc
  have f0 : mB k x.Addr = x.Addr := congrArg GEntry.Addr e1
  have f1 : mV (k + x.Addr.length) x.Val = x.Val := congrArg GEntry.Val e1
  have f2 : mBB (k + x.Addr.length + cV x.Val) x.Deps = x.Deps := congrArg GEntry.Deps e1
  have f3 : decide ((k + x.Addr.length + cV x.Val + cB x.Deps).tmod 3 = 0) = x.Taint := congrArg GEntry.Taint e1
  have f4 : k + x.Addr.length + cV x.Val + cB x.Deps + 1 = x.Turned := congrArg GEntry.Turned e1
  rw [Ps] at f1
  have g1 : x.Val.Kind = k + x.Addr.length := (congrArg GValue.Kind f1).symm
  have g2 : x.Val.N = k + x.Addr.length + 1 := (congrArg GValue.N f1).symm
  have g3 : mB (k + x.Addr.length + 1 + 1) x.Val.S = x.Val.S := congrArg GValue.S f1
  have g4 : mBB (k + x.Addr.length + 1 + 1 + x.Val.S.length) x.Val.K = x.Val.K := congrArg GValue.K f1
  have g5 : mVs (k + x.Addr.length + 1 + 1 + x.Val.S.length + cB x.Val.K) x.Val.L = x.Val.L := congrArg GValue.L f1
  have e6 : k + (x.Addr.length : Int) + 1 + 1 + (x.Val.S.length : Int) + (cB x.Val.K : Int) + (cVs x.Val.L : Int) = k + (x.Addr.length : Int) + (cV x.Val : Int) := by omega
  rw [jz f0 (by omega) (by omega), oB, if_neg (by omega), if_pos g1, zW (x := k + (x.Addr.length : Int) + 1) (by omega) (by omega), if_pos g2, zW (x := k + (x.Addr.length : Int) + 1 + 1) (by omega) (by omega), jz g3 (by omega) (by omega), oB, if_neg (by omega), vG g4 (by omega) (by omega), oB, if_neg (by omega), K5 g5 (by omega) (by omega), oB, if_neg (by omega), e6, vG f2 (by omega) (by omega), oB, if_neg (by omega)]
  rw [zW (x := k + (x.Addr.length : Int) + (cV x.Val : Int) + (cB x.Deps : Int) + 1) (by omega) (by omega), zW (x := k + (x.Addr.length : Int) + (cV x.Val : Int) + (cB x.Deps : Int) + 1 + 1) (by omega) (by omega),
   show k + (x.Addr.length : Int) + (cV x.Val : Int) + (cB x.Deps : Int) + 1 + 1 = k + ((cE x : Nat) : Int) by omega, hz]
  simp only [cEs]
  rw [show k + ((cE x : Nat) : Int) + (cEs l : Int) = k + ((cE x + cEs l : Nat) : Int) by omega]
  by_cases ht : (k + (x.Addr.length : Int) + (cV x.Val : Int) + (cB x.Deps : Int)).tmod 3 = 0
  ·rw [decide_eq_true ht] at f3
   rw [if_pos f3.symm, if_pos ht, if_pos f4.symm]
  ·rw [decide_eq_false ht] at f3
   rw [if_neg (by rw [<- f3]; decide), if_neg ht, if_pos f4.symm]
open Classical in
noncomputable def je (a0 : (List GEntry)) (a1 : Int) : Option Int := if mEs a1 a0 = a0 ∧ 0 <= a1 ∧ a1 + 4 * yb a0 <= 2 ^ 40 then some (a1 + cEs a0) else none
theorem LF {a : Int} {s : List GEntry} (h : mEs a s = s) (h0 : 0 <= a) (h1 : a + 4 * yb s <= 2 ^ 40) : je s a = some (a + cEs s) := if_pos ⟨h, h0, h1⟩
theorem Ka (a0 : (List GEntry)) (a1 : Int) (r : Int) (h : je a0 a1 = some r) : ∃ n, Yb n a0 a1 = some r := by
 unfold je at h
 obtain ⟨⟨he, h0, h1⟩, h⟩ := zB h
 have := qy a0
 obtain ⟨z, hz⟩ := Pj (a := a0) a0 [] a1 (a0.length + 1) rfl he h0 h1 (by simp; omega) (by omega)
 refine ⟨a0.length + 1, ?_⟩
 unfold Yb
 simp only [List.length_nil, Int.natCast_zero] at hz
 rw [hz]
 exact h
theorem VX : Wt je := fun a0 a1 r h => (Ka a0 a1 r h).elim fun n hn => RQ n a0 a1 r hn
def Yz (a0 : GState) (a1 : Int) : Option Int :=
 (yz a0.Pending a1).bind fun r1 =>
 if r1 < 0 then
  some (-1)
 else
 (je a0.Entries r1).bind fun r3 =>
 if r3 < 0 then
  some (-1)
 else
 some r3
theorem RR (a0 : GState) (a1 : Int) : Oc (Yz a0 a1) 25 [] [.val true (zX a0), vi a1] fun r => (vi r, []) := tc (
 .cl (xN a0.Pending a1) fun r1 =>
 .lI r1 0 (fun c2 =>
  .ret (-1)) fun c2 =>
 .cl (VX a0.Entries r1) fun r3 =>
 .lI r3 0 (fun c4 =>
  .ret (-1)) fun c4 =>
 .ret r3) (zf Tryz.func25)
def Wu (F : (List GEvent) → Int → Option Int) : Prop := ∀ (a0 : (List GEvent)) (a1 : Int), Oc (F a0 a1) 101 [] [vq zw a0, vi a1] fun r => (vi r, [])
def xE (a0 : (List GEvent)) : Nat → Int → Int → Option (Int ⊕ (Int × Int))
  | 0, _, _ => none
  | m + 1, a1, v2 =>
  if v2 < (a0.length : Int) then
   (zv v2).bind fun i2 =>
   (a0[i2]?).bind fun x3 =>
   if x3.Kind = a1 then
    (yz x3.Addr (w64 (a1 + 1))).bind fun r5 =>
    if r5 < 0 then
     some (.inl (-1))
    else
    if x3.Act = r5 then
     if x3.Val.Kind = (w64 (r5 + 1)) then
      if x3.Val.N = (w64 ((w64 (r5 + 1)) + 1)) then
       (yz x3.Val.S (w64 ((w64 ((w64 (r5 + 1)) + 1)) + 1))).bind fun r10 =>
       if r10 < 0 then
        some (.inl (-1))
       else
       (yK x3.Val.K r10).bind fun r12 =>
       if r12 < 0 then
        some (.inl (-1))
       else
       (wT x3.Val.L r12).bind fun r14 =>
       if r14 < 0 then
        some (.inl (-1))
       else
       (yK x3.Deps r14).bind fun r16 =>
       if r16 < 0 then
        some (.inl (-1))
       else
       xE a0 m r16 (w64 (v2 + 1))
      else
      some (.inl (-1))
     else
     some (.inl (-1))
    else
    some (.inl (-1))
   else
   some (.inl (-1))
  else
  some (.inr (a1, v2))
theorem Jw (a0 : (List GEvent)) (m : Nat) : ∀ (a1 : Int) (v2 : Int), Ol (xE a0 m a1 v2) 101 (zJ Tryz.f101 0) ⟨[(0, vq zw a0), (1, vi a1), (5, vi v2)], [], 0⟩ fun o => match o with | .inl o_0 => (.ret, ⟨[(4, vi o_0)], [], 0⟩) | .inr (⟨o_1_0, o_1_1⟩) => (.exit 0, ⟨[(0, vq zw a0), (1, vi o_1_0), (5, vi o_1_1), (9, vb false)], [], 0⟩) := by
  induction m with
  | zero => intro a1 v2 o h; cases h
  | succ m ih => exact fun a1 v2 => tlp (
   .le zw a0 <|
   .lI v2 (a0.length : Int) (fun c1 =>
    .na v2 fun i2 =>
    .ix xW a0 i2 fun x3 =>
    .eI x3.Kind a1 (fun c4 =>
     .ag 1 <|
     .ag 0 <|
     .cl (xN x3.Addr (w64 (a1 + 1))) fun r5 =>
     .lI r5 0 (fun c6 =>
      .ret (.inl (-1))) fun c6 =>
     .ag 2 <|
     .ag 1 <|
     .eI x3.Act r5 (fun c7 =>
      .ag 2 <|
      .ag 1 <|
      .eI x3.Val.Kind (w64 (r5 + 1)) (fun c8 =>
       .ag 2 <|
       .ag 1 <|
       .eI x3.Val.N (w64 ((w64 (r5 + 1)) + 1)) (fun c9 =>
        .ag 2 <|
        .ag 1 <|
        .cl (xN x3.Val.S (w64 ((w64 ((w64 (r5 + 1)) + 1)) + 1))) fun r10 =>
        .lI r10 0 (fun c11 =>
         .ret (.inl (-1))) fun c11 =>
        .ag 3 <|
        .ag 2 <|
        .cl (qG x3.Val.K r10) fun r12 =>
        .lI r12 0 (fun c13 =>
         .ret (.inl (-1))) fun c13 =>
        .ag 4 <|
        .ag 3 <|
        .cl (XP x3.Val.L r12) fun r14 =>
        .lI r14 0 (fun c15 =>
         .ret (.inl (-1))) fun c15 =>
        .ag 5 <|
        .ag 4 <|
        .cl (qG x3.Deps r14) fun r16 =>
        .lI r16 0 (fun c17 =>
         .ret (.inl (-1))) fun c17 =>
        .go (ih r16 (w64 (v2 + 1)))) fun c9 =>
       .ret (.inl (-1))) fun c8 =>
      .ret (.inl (-1))) fun c7 =>
     .ret (.inl (-1))) fun c4 =>
    .ret (.inl (-1))) fun c1 =>
   .ret (.inr (a1, v2)))
def Yc (n : Nat) (a0 : (List GEvent)) (a1 : Int) : Option Int :=
 (xE a0 n a1 0).bind fun o1 =>
 match o1 with
 | .inl o1_0 =>
  some o1_0
 | .inr (⟨o1_1_0, o1_1_1⟩) =>
  some o1_1_0
theorem RS (n : Nat) : Wu (Yc n) := fun a0 a1 => tc (
 .l2 (Jw a0 n a1 0) (fun o1_0 =>
  .ret o1_0) fun ⟨o1_1_0, o1_1_1⟩ =>
 .ret o1_1_0) (zf Tryz.func101)
theorem Pk {a : List GEvent} : ∀ (l p : List GEvent) (k : Int) (m : Nat), a = p ++ l → vU k l = l → 0 <= k → k + 4 * zP l <= 2 ^ 40 → p.length + l.length <= 2 ^ 40 → l.length < m → ∃ z, xE a m k (p.length : Int) = some (.inr (k + kg l, z)) := by
 intro l
 induction l with
 | nil =>
  intro p k m ha _ _ _ _ hm
  subst ha
  obtain ⟨m, rfl, _⟩ := zg hm
  exact ⟨_, by rw [xE, if_neg (wc p)]; simp [kg]; rfl⟩
 | cons x l ih =>
  intro p k m ha hm0 h0 h1 h2 hm
  obtain ⟨m, rfl, hm'⟩ := zg hm
  simp only [List.length_cons] at h2 hm'
  have hc := N5 x
  rw [vU] at hm0
  obtain ⟨e1, e2⟩ := List.cons.inj hm0
  simp only [zP] at h1
  obtain ⟨z, hz⟩ := ih (p ++ [x]) (k + cEv x) m (by rw [ha]; simp) e2 (by omega) (by omega) (by simp; omega) (by omega)
  refine ⟨z, ?_⟩
  rw [xE, if_pos (by rw [ha]; exact vH p x l), zb, oB, show a[p.length]? = some x by rw [ha]; exact zF p x l, oB, y4 p x (by omega)]
  have hcv := W9 x.Val
  have hcd := j4 x.Deps
  have hve := xH x.Val
  have hcq := Pr x.Val
  have hb := j4 x.Val.K
  have hd := XQ x.Val.L
  have hcE : cEv x = x.Addr.length + cV x.Val + cB x.Deps + 2 := rfl
  unfold xg at h1 hc
  have f0 : k = x.Kind := congrArg GEvent.Kind e1
  have f1 : mB (k + 1) x.Addr = x.Addr := congrArg GEvent.Addr e1
  have f2 : k + 1 + x.Addr.length = x.Act := congrArg GEvent.Act e1
  have f3 : mV (k + 1 + x.Addr.length + 1) x.Val = x.Val := congrArg GEvent.Val e1
  have f4 : mBB (k + 1 + x.Addr.length + 1 + cV x.Val) x.Deps = x.Deps := congrArg GEvent.Deps e1
  rw [Ps] at f3
  have g1 : x.Val.Kind = k + 1 + x.Addr.length + 1 := (congrArg GValue.Kind f3).symm
  have g2 : x.Val.N = k + 1 + x.Addr.length + 1 + 1 := (congrArg GValue.N f3).symm
  have g3 : mB (k + 1 + x.Addr.length + 1 + 1 + 1) x.Val.S = x.Val.S := congrArg GValue.S f3
  have g4 : mBB (k + 1 + x.Addr.length + 1 + 1 + 1 + x.Val.S.length) x.Val.K = x.Val.K := congrArg GValue.K f3
  have g5 : mVs (k + 1 + x.Addr.length + 1 + 1 + 1 + x.Val.S.length + cB x.Val.K) x.Val.L = x.Val.L := congrArg GValue.L f3
  have e6 : k + 1 + (x.Addr.length : Int) + 1 + 1 + 1 + (x.Val.S.length : Int) + (cB x.Val.K : Int) + (cVs x.Val.L : Int) = k + 1 + (x.Addr.length : Int) + 1 + (cV x.Val : Int) := by omega
  rw [if_pos f0.symm, zW (x := k + 1) (by omega) (by omega), jz f1 (by omega) (by omega), oB, if_neg (by omega), if_pos f2.symm, zW (x := k + 1 + (x.Addr.length : Int) + 1) (by omega) (by omega), if_pos g1,
   zW (x := k + 1 + (x.Addr.length : Int) + 1 + 1) (by omega) (by omega), if_pos g2, zW (x := k + 1 + (x.Addr.length : Int) + 1 + 1 + 1) (by omega) (by omega), jz g3 (by omega) (by omega), oB, if_neg (by omega), vG g4 (by omega) (by omega), oB, if_neg (by omega), K5 g5 (by omega) (by omega), oB, if_neg (by omega), e6, vG f4 (by omega) (by omega), oB, if_neg (by omega),
   show k + 1 + (x.Addr.length : Int) + 1 + (cV x.Val : Int) + (cB x.Deps : Int) = k + ((cEv x : Nat) : Int) by omega, hz]
  simp only [kg]
  rw [show k + ((cEv x : Nat) : Int) + (kg l : Int) = k + ((cEv x + kg l : Nat) : Int) by omega]
open Classical in
noncomputable def jf (a0 : (List GEvent)) (a1 : Int) : Option Int := if vU a1 a0 = a0 ∧ 0 <= a1 ∧ a1 + 4 * zP a0 <= 2 ^ 40 then some (a1 + kg a0) else none
theorem LG {a : Int} {s : List GEvent} (h : vU a s = s) (h0 : 0 <= a) (h1 : a + 4 * zP s <= 2 ^ 40) : jf s a = some (a + kg s) := if_pos ⟨h, h0, h1⟩
theorem Kb (a0 : (List GEvent)) (a1 : Int) (r : Int) (h : jf a0 a1 = some r) : ∃ n, Yc n a0 a1 = some r := by
 unfold jf at h
 obtain ⟨⟨he, h0, h1⟩, h⟩ := zB h
 have := qI a0
 obtain ⟨z, hz⟩ := Pk (a := a0) a0 [] a1 (a0.length + 1) rfl he h0 h1 (by simp; omega) (by omega)
 refine ⟨a0.length + 1, ?_⟩
 unfold Yc
 simp only [List.length_nil, Int.natCast_zero] at hz
 rw [hz]
 exact h
theorem VY : Wu jf := fun a0 a1 r h => (Kb a0 a1 r h).elim fun n hn => RS n a0 a1 r hn
def qH (a0 : GHistory) (a1 : Int) : Option Int :=
 (Yz a0.Base a1).bind fun r1 =>
 if r1 < 0 then
  some (-1)
 else
 (jf a0.Events r1).bind fun r3 =>
 if r3 < 0 then
  some (-1)
 else
 some r3
theorem Xi (a0 : GHistory) (a1 : Int) : Oc (qH a0 a1) 43 [] [.val true (yj a0), vi a1] fun r => (vi r, []) := tc (
 .cl (RR a0.Base a1) fun r1 =>
 .lI r1 0 (fun c2 =>
  .ret (-1)) fun c2 =>
 .cl (VY a0.Events r1) fun r3 =>
 .lI r3 0 (fun c4 =>
  .ret (-1)) fun c4 =>
 .ret r3) (zf Tryz.func43)
def jh (a0 : GHistory) (a1 : Int) : Option Bool :=
 (vf a0 1048576).bind fun r1 =>
 if r1 < 0 then
  some true
 else
 (vg a0).bind fun r3 =>
 (jQ r3 a1).bind fun ⟨r4_0, r4_1⟩ =>
 (jU r3 a1).bind fun ⟨r5_0, r5_1⟩ =>
 (qv r5_0 r4_0).bind fun r6 =>
 match r6 with
 | true =>
  if r5_1 = true then
   if r4_1 = true then
    (qv r3 r3).bind fun r9 =>
    match r9 with
    | true =>
     (yC r3.Base.Serial r3.Base.Open r3.Base.Act r3.Safe 1 r3.Base.Pending r3.Base.Entries r3.Events).bind fun ⟨r10_0, r10_1, r10_2, r10_3⟩ =>
     if r10_0 < 0 then
      none
     else
     (yC r5_0.Base.Serial r5_0.Base.Open r5_0.Base.Act r5_0.Safe 1 r5_0.Base.Pending r5_0.Base.Entries r5_0.Events).bind fun ⟨r12_0, r12_1, r12_2, r12_3⟩ =>
     (qH (GHistory.mk (GState.mk r5_0.Base.Serial r5_0.Base.Open r12_1 r5_0.Base.Act r12_2) r12_3 r5_0.Safe) 1).bind fun r13 =>
     if r13 < 0 then
      none
     else
     if r13 = r12_0 then
      some true
     else
     none
    | false =>
     none
   else
   none
  else
  if r4_1 = true then
   none
  else
  (qv r3 r3).bind fun r9 =>
  match r9 with
  | true =>
   (yC r3.Base.Serial r3.Base.Open r3.Base.Act r3.Safe 1 r3.Base.Pending r3.Base.Entries r3.Events).bind fun ⟨r10_0, r10_1, r10_2, r10_3⟩ =>
   if r10_0 < 0 then
    none
   else
   (yC r5_0.Base.Serial r5_0.Base.Open r5_0.Base.Act r5_0.Safe 1 r5_0.Base.Pending r5_0.Base.Entries r5_0.Events).bind fun ⟨r12_0, r12_1, r12_2, r12_3⟩ =>
   (qH (GHistory.mk (GState.mk r5_0.Base.Serial r5_0.Base.Open r12_1 r5_0.Base.Act r12_2) r12_3 r5_0.Safe) 1).bind fun r13 =>
   if r13 < 0 then
    none
   else
   if r13 = r12_0 then
    some true
   else
   none
  | false =>
   none
 | false =>
  none
theorem ok_laws_FnExactHistCompact (a0 : GHistory) (a1 : Int) : Oc (jh a0 a1) 9 [] [.val true (yj a0), vi a1] fun r => (vb r, []) := tc (
 .cl (Rw a0 1048576) fun r1 =>
 .lI r1 0 (fun c2 =>
  .ret true) fun c2 =>
 .cl (Rz a0) fun r3 =>
 .vw zG r3.Base.Pending <|
 .vo zN r3.Base.Entries <|
 .vo zY r3.Events <|
 .cl (KE r3 a1) fun ⟨r4_0, r4_1⟩ =>
 .cn jt r4_0.Base.Pending <|
 .cn zN r4_0.Base.Entries <|
 .cn zY r4_0.Events <|
 .ag 1 <|
 .vw zG r3.Base.Pending <|
 .vo zN r3.Base.Entries <|
 .vo zY r3.Events <|
 .cl (KO r3 a1) fun ⟨r5_0, r5_1⟩ =>
 .cn jt r5_0.Base.Pending <|
 .cn zN r5_0.Base.Entries <|
 .cn zY r5_0.Events <|
 .vw zG r5_0.Base.Pending <|
 .vo zN r5_0.Base.Entries <|
 .vo zY r5_0.Events <|
 .vw zG r4_0.Base.Pending <|
 .vo zN r4_0.Base.Entries <|
 .vo zY r4_0.Events <|
 .cl (ZU r5_0 r4_0) fun r6 =>
 .vN 0 r6 (
  .an 0 0 <|
  .an 0 0 <|
  .sp (r5_1 = true) (fun c7 =>
   .sp (r4_1 = true) (fun c8 =>
    .eb c7 c8 <|
    .an 0 0 <|
    .ag 4 <|
    .vw zG r3.Base.Pending <|
    .vo zN r3.Base.Entries <|
    .vo zY r3.Events <|
    .vw zG r3.Base.Pending <|
    .vo zN r3.Base.Entries <|
    .vo zY r3.Events <|
    .cl (ZU r3 r3) fun r9 =>
    .vN 0 r9 (
     .cl (j8 r3.Base.Serial r3.Base.Open r3.Base.Act r3.Safe 1 r3.Base.Pending r3.Base.Entries r3.Events) fun ⟨r10_0, r10_1, r10_2, r10_3⟩ =>
     .lI r10_0 0 (fun c11 =>
      .no) fun c11 =>
     .vw zG r5_0.Base.Pending <|
     .vo zN r5_0.Base.Entries <|
     .vo zY r5_0.Events <|
     .vw zG r4_0.Base.Pending <|
     .vo zN r4_0.Base.Entries <|
     .vo zY r4_0.Events <|
     .ag 4 <|
     .an 2 3 <|
     .an 0 3 <|
     .an 0 3 <|
     .eb c7 c8 <|
     .an 0 3 <|
     .cl (j8 r5_0.Base.Serial r5_0.Base.Open r5_0.Base.Act r5_0.Safe 1 r5_0.Base.Pending r5_0.Base.Entries r5_0.Events) fun ⟨r12_0, r12_1, r12_2, r12_3⟩ =>
     .vw zG r12_1 <|
     .vo zN r12_2 <|
     .vo zY r12_3 <|
     .cl (Xi (GHistory.mk (GState.mk r5_0.Base.Serial r5_0.Base.Open r12_1 r5_0.Base.Act r12_2) r12_3 r5_0.Safe) 1) fun r13 =>
     .lI r13 0 (fun c14 =>
      .no) fun c14 =>
     .eI r13 r12_0 (fun c15 =>
      .ag 9 <|
      .vw zG r3.Base.Pending <|
      .vo zN r3.Base.Entries <|
      .vo zY r3.Events <|
      .ag 7 <|
      .cn jt r5_0.Base.Pending <|
      .cn zN r5_0.Base.Entries <|
      .cn zY r5_0.Events <|
      .vw zG r5_0.Base.Pending <|
      .vo zN r5_0.Base.Entries <|
      .vo zY r5_0.Events <|
      .vw zG r4_0.Base.Pending <|
      .vo zN r4_0.Base.Entries <|
      .vo zY r4_0.Events <|
      .ag 6 <|
      .an 0 5 <|
      .an 0 5 <|
      .an 0 5 <|
      .eb c7 c8 <|
      .an 0 5 <|
      .vw zG r12_1 <|
      .vo zN r12_2 <|
      .vo zY r12_3 <|
      .ag 0 <|
      .q (.lF c14) <|
      .q (.eT c15) <|
      .ret true) fun c15 =>
     .no) <|
    .no) fun c8 =>
   .no) fun c7 =>
  .sp (r4_1 = true) (fun c8 =>
   .no) fun c8 =>
  .eb (bF c7) (bF c8) <|
  .an 0 0 <|
  .ag 4 <|
  .vw zG r3.Base.Pending <|
  .vo zN r3.Base.Entries <|
  .vo zY r3.Events <|
  .vw zG r3.Base.Pending <|
  .vo zN r3.Base.Entries <|
  .vo zY r3.Events <|
  .cl (ZU r3 r3) fun r9 =>
  .vN 0 r9 (
   .cl (j8 r3.Base.Serial r3.Base.Open r3.Base.Act r3.Safe 1 r3.Base.Pending r3.Base.Entries r3.Events) fun ⟨r10_0, r10_1, r10_2, r10_3⟩ =>
   .lI r10_0 0 (fun c11 =>
    .no) fun c11 =>
   .vw zG r5_0.Base.Pending <|
   .vo zN r5_0.Base.Entries <|
   .vo zY r5_0.Events <|
   .vw zG r4_0.Base.Pending <|
   .vo zN r4_0.Base.Entries <|
   .vo zY r4_0.Events <|
   .ag 4 <|
   .an 2 3 <|
   .an 0 3 <|
   .an 0 3 <|
   .eb (bF c7) (bF c8) <|
   .an 0 3 <|
   .cl (j8 r5_0.Base.Serial r5_0.Base.Open r5_0.Base.Act r5_0.Safe 1 r5_0.Base.Pending r5_0.Base.Entries r5_0.Events) fun ⟨r12_0, r12_1, r12_2, r12_3⟩ =>
   .vw zG r12_1 <|
   .vo zN r12_2 <|
   .vo zY r12_3 <|
   .cl (Xi (GHistory.mk (GState.mk r5_0.Base.Serial r5_0.Base.Open r12_1 r5_0.Base.Act r12_2) r12_3 r5_0.Safe) 1) fun r13 =>
   .lI r13 0 (fun c14 =>
    .no) fun c14 =>
   .eI r13 r12_0 (fun c15 =>
    .ag 9 <|
    .vw zG r3.Base.Pending <|
    .vo zN r3.Base.Entries <|
    .vo zY r3.Events <|
    .ag 7 <|
    .cn jt r5_0.Base.Pending <|
    .cn zN r5_0.Base.Entries <|
    .cn zY r5_0.Events <|
    .vw zG r5_0.Base.Pending <|
    .vo zN r5_0.Base.Entries <|
    .vo zY r5_0.Events <|
    .vw zG r4_0.Base.Pending <|
    .vo zN r4_0.Base.Entries <|
    .vo zY r4_0.Events <|
    .ag 6 <|
    .an 0 5 <|
    .an 0 5 <|
    .an 0 5 <|
    .eb (bF c7) (bF c8) <|
    .an 0 5 <|
    .vw zG r12_1 <|
    .vo zN r12_2 <|
    .vo zY r12_3 <|
    .ag 0 <|
    .q (.lF c14) <|
    .q (.eT c15) <|
    .ret true) fun c15 =>
   .no) <|
  .no) <|
 .no) (zf Tryz.func9)
end
end Go.Am.Try
