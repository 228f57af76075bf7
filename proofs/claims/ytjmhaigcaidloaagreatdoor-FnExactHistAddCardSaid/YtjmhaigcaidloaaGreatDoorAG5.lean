
/- The functions of the program in plain Lean, and that the machine answers as they do; conditions at each theorem. -/
import Derived.Test.YtjmhaigcaidloaaGreatDoorAG4
set_option linter.unusedVariables false
set_option linter.unusedSimpArgs false
namespace Go.Am.Try
open Go.Am Go.Proofs
set_option linter.unusedVariables false
set_option maxRecDepth 20000
set_option maxHeartbeats 2000000
noncomputable section
def jj (F : (List GValue) → Int → Option Int) : Prop := ∀ (a0 : (List GValue)) (a1 : Int), Oc (F a0 a1) 146 [] [vq zh a0, vi a1] fun r => (vi r, [])
def xI (G_laws_heldValueS : (List GValue) → Int → Option Int) (a0 : (List GValue)) : Nat → Int → Int → Option (Int ⊕ (Int × Int))
  | 0, _, _ => none
  | m + 1, a1, v2 =>
  if v2 < (a0.length : Int) then
   (zv v2).bind fun i2 =>
   (a0[i2]?).bind fun x3 =>
   if x3.Kind = a1 then
    if x3.N = (w64 (a1 + 1)) then
     (y5 x3.S (w64 ((w64 (a1 + 1)) + 1))).bind fun r6 =>
     if r6 < 0 then
      some (.inl (-1))
     else
     (yM x3.K r6).bind fun r8 =>
     if r8 < 0 then
      some (.inl (-1))
     else
     (G_laws_heldValueS x3.L r8).bind fun r10 =>
     if r10 < 0 then
      some (.inl (-1))
     else
     xI G_laws_heldValueS a0 m r10 (w64 (v2 + 1))
    else
    some (.inl (-1))
   else
   some (.inl (-1))
  else
  some (.inr (a1, v2))
theorem J6 (G_laws_heldValueS : (List GValue) → Int → Option Int) (H_laws_heldValueS : jj G_laws_heldValueS) (a0 : (List GValue)) (m : Nat) : ∀ (a1 : Int) (v2 : Int), Ol (xI G_laws_heldValueS a0 m a1 v2) 146 (zJ Tryz.f146 0) ⟨[(0, vq zh a0), (1, vi a1), (5, vi v2)], [], 0⟩ fun o => match o with | .inl o_0 => (.ret, ⟨[(4, vi o_0)], [], 0⟩) | .inr (⟨o_1_0, o_1_1⟩) => (.exit 0, ⟨[(0, vq zh a0), (1, vi o_1_0), (5, vi o_1_1), (9, vb false)], [], 0⟩) := by
  induction m with
  | zero => intro a1 v2 o h; cases h
  | succ m ih => exact fun a1 v2 => tlp (
   .le zh a0 <|
   .lI v2 (a0.length : Int) (fun c1 =>
    .na v2 fun i2 =>
    .ix yz a0 i2 fun x3 =>
    .eI x3.Kind a1 (fun c4 =>
     .ag 1 <|
     .ag 0 <|
     .eI x3.N (w64 (a1 + 1)) (fun c5 =>
      .ag 1 <|
      .ag 0 <|
      .cl (xR x3.S (w64 ((w64 (a1 + 1)) + 1))) fun r6 =>
      .lI r6 0 (fun c7 =>
       .ret (.inl (-1))) fun c7 =>
      .ag 2 <|
      .ag 1 <|
      .cl (qK x3.K r6) fun r8 =>
      .lI r8 0 (fun c9 =>
       .ret (.inl (-1))) fun c9 =>
      .ag 3 <|
      .ag 2 <|
      .cl (H_laws_heldValueS x3.L r8) fun r10 =>
      .lI r10 0 (fun c11 =>
       .ret (.inl (-1))) fun c11 =>
      .go (ih r10 (w64 (v2 + 1)))) fun c5 =>
     .ret (.inl (-1))) fun c4 =>
    .ret (.inl (-1))) fun c1 =>
   .ret (.inr (a1, v2)))
def Yh (G_laws_heldValueS : (List GValue) → Int → Option Int) (n : Nat) (a0 : (List GValue)) (a1 : Int) : Option Int :=
 (xI G_laws_heldValueS a0 n a1 0).bind fun o1 =>
 match o1 with
 | .inl o1_0 =>
  some o1_0
 | .inr (⟨o1_1_0, o1_1_1⟩) =>
  some o1_1_0
theorem RU (G_laws_heldValueS : (List GValue) → Int → Option Int) (H_laws_heldValueS : jj G_laws_heldValueS) (n : Nat) : jj (Yh G_laws_heldValueS n) := fun a0 a1 => tc (
 .l2 (J6 G_laws_heldValueS H_laws_heldValueS a0 n a1 0) (fun o1_0 =>
  .ret o1_0) fun ⟨o1_1_0, o1_1_1⟩ =>
 .ret o1_1_0) (zf Tryz.func146)
def yN : Nat → (List GValue) → Int → Option Int
 | 0, _, _ => none
 | n + 1, a0, a1 => Yh (yN n) n a0 a1
theorem Vd (n : Nat) : jj (yN n) := by
 induction n with
 | zero => exact fun _ _ _ h => (by rw [yN] at h; cases h)
 | succ n ih =>
  have ih_laws_heldValueS := ih
  exact fun a0 a1 r h => RU (yN n) ih_laws_heldValueS n a0 a1 r (by rw [yN] at h; exact h)
theorem Pn {G : List GValue → Int → Option Int} {a : List GValue} : ∀ (l p : List GValue) (k : Int) (m : Nat), a = p ++ l → mVs k l = l → (∀ v ∈ l, ∀ i : Int, mVs i v.L = v.L → 0 <= i → i + 2 * yA v.L <= 2 ^ 41 → G v.L i = some (i + cVs v.L)) → 0 <= k → k + 2 * yA l <= 2 ^ 41 → p.length + l.length <= 2 ^ 41 → l.length < m → ∃ z, xI G a m k (p.length : Int) = some (.inr (k + cVs l, z)) := by
 intro l
 induction l with
 | nil =>
  intro p k m ha _ _ _ _ _ hm
  subst ha
  obtain ⟨m, rfl, _⟩ := zg hm
  exact ⟨_, by rw [xI, if_neg (wh p)]; simp [cVs]; rfl⟩
 | cons x l ih =>
  intro p k m ha hm0 hG h0 h1 h2 hm
  obtain ⟨m, rfl, hm'⟩ := zg hm
  simp only [List.length_cons] at h2 hm'
  have hx := hG x List.mem_cons_self
  have hc := WH x
  rw [mVs] at hm0
  obtain ⟨e1, e2⟩ := List.cons.inj hm0
  simp only [yA] at h1
  obtain ⟨z, hz⟩ := ih (p ++ [x]) (k + cV x) m (by rw [ha]; simp) e2 (fun v hv => hG v (List.mem_cons_of_mem _ hv)) (by omega) (by omega) (by simp; omega) (by omega)
  refine ⟨z, ?_⟩
  rw [xI, if_pos (by rw [ha]; exact vI p x l), zb, oB, show a[p.length]? = some x by rw [ha]; exact zG p x l, oB, y8 p x (by omega)]
  have hb := qM x.K
  have hd := Xk x.L
  have hq := xw x
  have hr := Pw x
  rw [Px] at e1
  have f1 : x.Kind = k := (congrArg GValue.Kind e1).symm
  have f2 : x.N = k + 1 := (congrArg GValue.N e1).symm
  have f3 : mB (k + 1 + 1) x.S = x.S := congrArg GValue.S e1
  have f4 : mBB (k + 1 + 1 + x.S.length) x.K = x.K := congrArg GValue.K e1
  have f5 : mVs (k + 1 + 1 + x.S.length + cB x.K) x.L = x.L := congrArg GValue.L e1
  rw [yc (x := k + 1) (by omega) (by omega), yc (x := k + 1 + 1) (by omega) (by omega), if_pos f1, if_pos f2, j8 f3 (by omega) (by omega), oB, if_neg (by omega), vH f4 (by omega) (by omega), oB, if_neg (by omega), hx _ f5 (by omega) (by omega), oB, if_neg (by omega),
   show k + 1 + 1 + (x.S.length : Int) + (cB x.K : Int) + (cVs x.L : Int) = k + ((cV x : Nat) : Int) by omega, hz]
  simp only [cVs]
  rw [show k + ((cV x : Nat) : Int) + (cVs l : Int) = k + ((cV x + cVs l : Nat) : Int) by omega]
theorem Nj : ∀ (N : Nat) (l : List GValue), yA l < N → ∀ (k : Int) (f : Nat), mVs k l = l → 0 <= k → k + 2 * yA l <= 2 ^ 41 → yA l + 2 <= f → yN f l k = some (k + cVs l) := by
 intro N
 induction N with
 | zero => intro l hl; omega
 | succ N ih =>
  intro l hl k f he h0 h1 hf
  obtain ⟨f, rfl, _⟩ := zg (show 0 < f by omega)
  have hlen := yR l
  rw [yN]
  unfold Yh
  obtain ⟨z, hz⟩ := Pn (G := yN f) (a := l) l [] k f rfl he (fun v hv i ge g0 g1 => by
   have := wr hv
   have := xw v
   exact ih v.L (by omega) i f ge g0 g1 (by omega)) h0 h1 (by simp; omega) (by omega)
  simp only [List.length_nil, Int.natCast_zero] at hz
  rw [hz]; rfl
open Classical in
noncomputable def qd (a0 : (List GValue)) (a1 : Int) : Option Int := if mVs a1 a0 = a0 ∧ 0 <= a1 ∧ a1 + 2 * yA a0 <= 2 ^ 41 then some (a1 + cVs a0) else none
theorem KE {a : Int} {s : List GValue} (h : mVs a s = s) (h0 : 0 <= a) (h1 : a + 2 * yA s <= 2 ^ 41) : qd s a = some (a + cVs s) := if_pos ⟨h, h0, h1⟩
theorem Kk (a0 : (List GValue)) (a1 : Int) (r : Int) (h : qd a0 a1 = some r) : ∃ n, yN n a0 a1 = some r := by
 unfold qd at h
 obtain ⟨⟨he, h0, h1⟩, h⟩ := zC h
 exact ⟨yA a0 + 2, by rw [Nj _ a0 (Nat.lt_succ_self _) a1 _ he h0 h1 (Nat.le_refl _), h]⟩
theorem XV : jj qd := by
 intro a0 a1 r h
 obtain ⟨n, hn⟩ := Kk a0 a1 r h
 exact (Vd n) a0 a1 r hn
def W3 (F : (List GEntry) → Int → Option Int) : Prop := ∀ (a0 : (List GEntry)) (a1 : Int), Oc (F a0 a1) 85 [] [vq zj a0, vi a1] fun r => (vi r, [])
def xc (a0 : (List GEntry)) : Nat → Int → Int → Option (Int ⊕ (Int × Int))
  | 0, _, _ => none
  | m + 1, a1, v2 =>
  if v2 < (a0.length : Int) then
   (zv v2).bind fun i2 =>
   (a0[i2]?).bind fun x3 =>
   (y5 x3.Addr a1).bind fun r4 =>
   if r4 < 0 then
    some (.inl (-1))
   else
   if x3.Val.Kind = r4 then
    if x3.Val.N = (w64 (r4 + 1)) then
     (y5 x3.Val.S (w64 ((w64 (r4 + 1)) + 1))).bind fun r8 =>
     if r8 < 0 then
      some (.inl (-1))
     else
     (yM x3.Val.K r8).bind fun r10 =>
     if r10 < 0 then
      some (.inl (-1))
     else
     (qd x3.Val.L r10).bind fun r12 =>
     if r12 < 0 then
      some (.inl (-1))
     else
     (yM x3.Deps r12).bind fun r14 =>
     if r14 < 0 then
      some (.inl (-1))
     else
     if x3.Taint = true then
      if (r14.tmod 3) = 0 then
       if x3.Turned = (w64 (r14 + 1)) then
        xc a0 m (w64 ((w64 (r14 + 1)) + 1)) (w64 (v2 + 1))
       else
       some (.inl (-1))
      else
      some (.inl (-1))
     else
     if (r14.tmod 3) = 0 then
      some (.inl (-1))
     else
     if x3.Turned = (w64 (r14 + 1)) then
      xc a0 m (w64 ((w64 (r14 + 1)) + 1)) (w64 (v2 + 1))
     else
     some (.inl (-1))
    else
    some (.inl (-1))
   else
   some (.inl (-1))
  else
  some (.inr (a1, v2))
theorem J7 (a0 : (List GEntry)) (m : Nat) : ∀ (a1 : Int) (v2 : Int), Ol (xc a0 m a1 v2) 85 (zJ Tryz.f85 0) ⟨[(0, vq zj a0), (1, vi a1), (5, vi v2)], [], 0⟩ fun o => match o with | .inl o_0 => (.ret, ⟨[(4, vi o_0)], [], 0⟩) | .inr (⟨o_1_0, o_1_1⟩) => (.exit 0, ⟨[(0, vq zj a0), (1, vi o_1_0), (5, vi o_1_1), (9, vb false)], [], 0⟩) := by
  induction m with
  | zero => intro a1 v2 o h; cases h
  | succ m ih => exact fun a1 v2 => tlp (
   .le zj a0 <|
   .lI v2 (a0.length : Int) (fun c1 =>
    .na v2 fun i2 =>
    .ix zV a0 i2 fun x3 =>
    .cl (xR x3.Addr a1) fun r4 =>
    .lI r4 0 (fun c5 =>
     .ret (.inl (-1))) fun c5 =>
    .ag 2 <|
    .ag 1 <|
    .eI x3.Val.Kind r4 (fun c6 =>
     .ag 2 <|
     .ag 1 <|
     .eI x3.Val.N (w64 (r4 + 1)) (fun c7 =>
      .ag 2 <|
      .ag 1 <|
      .cl (xR x3.Val.S (w64 ((w64 (r4 + 1)) + 1))) fun r8 =>
      .lI r8 0 (fun c9 =>
       .ret (.inl (-1))) fun c9 =>
      .ag 3 <|
      .ag 2 <|
      .cl (qK x3.Val.K r8) fun r10 =>
      .lI r10 0 (fun c11 =>
       .ret (.inl (-1))) fun c11 =>
      .ag 4 <|
      .ag 3 <|
      .cl (XV x3.Val.L r10) fun r12 =>
      .lI r12 0 (fun c13 =>
       .ret (.inl (-1))) fun c13 =>
      .ag 5 <|
      .ag 4 <|
      .cl (qK x3.Deps r12) fun r14 =>
      .lI r14 0 (fun c15 =>
       .ret (.inl (-1))) fun c15 =>
      .ag 6 <|
      .ag 5 <|
      .q ⟨.nz 3, .b true, rfl⟩ <|
      .eD (r14.tmod 3) 0 <|
      .sp (x3.Taint = true) (fun c16 =>
       .sp ((r14.tmod 3) = 0) (fun c17 =>
        .eb c16 (dT c17) <|
        .ag 6 <|
        .ag 5 <|
        .eI x3.Turned (w64 (r14 + 1)) (fun c18 =>
         .go (ih (w64 ((w64 (r14 + 1)) + 1)) (w64 (v2 + 1)))) fun c18 =>
        .ret (.inl (-1))) fun c17 =>
       .eb c16 (dF c17) <|
       .ret (.inl (-1))) fun c16 =>
      .sp ((r14.tmod 3) = 0) (fun c17 =>
       .eb (bF c16) (dT c17) <|
       .ret (.inl (-1))) fun c17 =>
      .eb (bF c16) (dF c17) <|
      .ag 6 <|
      .ag 5 <|
      .eI x3.Turned (w64 (r14 + 1)) (fun c18 =>
       .go (ih (w64 ((w64 (r14 + 1)) + 1)) (w64 (v2 + 1)))) fun c18 =>
      .ret (.inl (-1))) fun c7 =>
     .ret (.inl (-1))) fun c6 =>
    .ret (.inl (-1))) fun c1 =>
   .ret (.inr (a1, v2)))
def Yi (n : Nat) (a0 : (List GEntry)) (a1 : Int) : Option Int :=
 (xc a0 n a1 0).bind fun o1 =>
 match o1 with
 | .inl o1_0 =>
  some o1_0
 | .inr (⟨o1_1_0, o1_1_1⟩) =>
  some o1_1_0
theorem RV (n : Nat) : W3 (Yi n) := fun a0 a1 => tc (
 .l2 (J7 a0 n a1 0) (fun o1_0 =>
  .ret o1_0) fun ⟨o1_1_0, o1_1_1⟩ =>
 .ret o1_1_0) (zf Tryz.func85)
theorem Po {a : List GEntry} : ∀ (l p : List GEntry) (k : Int) (m : Nat), a = p ++ l → mEs k l = l → 0 <= k → k + 4 * zZ l <= 2 ^ 40 → p.length + l.length <= 2 ^ 40 → l.length < m → ∃ z, xc a m k (p.length : Int) = some (.inr (k + cEs l, z)) := by
 intro l
 induction l with
 | nil =>
  intro p k m ha _ _ _ _ hm
  subst ha
  obtain ⟨m, rfl, _⟩ := zg hm
  exact ⟨_, by rw [xc, if_neg (wh p)]; simp [cEs]; rfl⟩
 | cons x l ih =>
  intro p k m ha hm0 h0 h1 h2 hm
  obtain ⟨m, rfl, hm'⟩ := zg hm
  simp only [List.length_cons] at h2 hm'
  have hc := HE x
  rw [mEs] at hm0
  obtain ⟨e1, e2⟩ := List.cons.inj hm0
  simp only [zZ] at h1
  obtain ⟨z, hz⟩ := ih (p ++ [x]) (k + cE x) m (by rw [ha]; simp) e2 (by omega) (by omega) (by simp; omega) (by omega)
  refine ⟨z, ?_⟩
  rw [xc, if_pos (by rw [ha]; exact vI p x l), zb, oB, show a[p.length]? = some x by rw [ha]; exact zG p x l, oB, y8 p x (by omega)]
  have hcv := WH x.Val
  have hcd := qM x.Deps
  have hve := xw x.Val
  have hcq := Pw x.Val
  have hb := qM x.Val.K
  have hd := Xk x.Val.L
  have hcE : cE x = x.Addr.length + cV x.Val + cB x.Deps + 2 := rfl
  unfold esz at h1 hc
  have f0 : mB k x.Addr = x.Addr := congrArg GEntry.Addr e1
  have f1 : mV (k + x.Addr.length) x.Val = x.Val := congrArg GEntry.Val e1
  have f2 : mBB (k + x.Addr.length + cV x.Val) x.Deps = x.Deps := congrArg GEntry.Deps e1
  have f3 : decide ((k + x.Addr.length + cV x.Val + cB x.Deps).tmod 3 = 0) = x.Taint := congrArg GEntry.Taint e1
  have f4 : k + x.Addr.length + cV x.Val + cB x.Deps + 1 = x.Turned := congrArg GEntry.Turned e1
  rw [Px] at f1
  have g1 : x.Val.Kind = k + x.Addr.length := (congrArg GValue.Kind f1).symm
  have g2 : x.Val.N = k + x.Addr.length + 1 := (congrArg GValue.N f1).symm
  have g3 : mB (k + x.Addr.length + 1 + 1) x.Val.S = x.Val.S := congrArg GValue.S f1
  have g4 : mBB (k + x.Addr.length + 1 + 1 + x.Val.S.length) x.Val.K = x.Val.K := congrArg GValue.K f1
  have g5 : mVs (k + x.Addr.length + 1 + 1 + x.Val.S.length + cB x.Val.K) x.Val.L = x.Val.L := congrArg GValue.L f1
  have e6 : k + (x.Addr.length : Int) + 1 + 1 + (x.Val.S.length : Int) + (cB x.Val.K : Int) + (cVs x.Val.L : Int) = k + (x.Addr.length : Int) + (cV x.Val : Int) := by omega
  rw [j8 f0 (by omega) (by omega), oB, if_neg (by omega), if_pos g1, yc (x := k + (x.Addr.length : Int) + 1) (by omega) (by omega), if_pos g2, yc (x := k + (x.Addr.length : Int) + 1 + 1) (by omega) (by omega), j8 g3 (by omega) (by omega), oB, if_neg (by omega), vH g4 (by omega) (by omega), oB, if_neg (by omega), KE g5 (by omega) (by omega), oB, if_neg (by omega), e6, vH f2 (by omega) (by omega), oB, if_neg (by omega)]
  rw [yc (x := k + (x.Addr.length : Int) + (cV x.Val : Int) + (cB x.Deps : Int) + 1) (by omega) (by omega), yc (x := k + (x.Addr.length : Int) + (cV x.Val : Int) + (cB x.Deps : Int) + 1 + 1) (by omega) (by omega),
   show k + (x.Addr.length : Int) + (cV x.Val : Int) + (cB x.Deps : Int) + 1 + 1 = k + ((cE x : Nat) : Int) by omega, hz]
  simp only [cEs]
  rw [show k + ((cE x : Nat) : Int) + (cEs l : Int) = k + ((cE x + cEs l : Nat) : Int) by omega]
  by_cases ht : (k + (x.Addr.length : Int) + (cV x.Val : Int) + (cB x.Deps : Int)).tmod 3 = 0
  ·rw [decide_eq_true ht] at f3
   rw [if_pos f3.symm, if_pos ht, if_pos f4.symm]
  ·rw [decide_eq_false ht] at f3
   rw [if_neg (by rw [<- f3]; decide), if_neg ht, if_pos f4.symm]
open Classical in
noncomputable def jk (a0 : (List GEntry)) (a1 : Int) : Option Int := if mEs a1 a0 = a0 ∧ 0 <= a1 ∧ a1 + 4 * zZ a0 <= 2 ^ 40 then some (a1 + cEs a0) else none
theorem LI {a : Int} {s : List GEntry} (h : mEs a s = s) (h0 : 0 <= a) (h1 : a + 4 * zZ s <= 2 ^ 40) : jk s a = some (a + cEs s) := if_pos ⟨h, h0, h1⟩
theorem Kl (a0 : (List GEntry)) (a1 : Int) (r : Int) (h : jk a0 a1 = some r) : ∃ n, Yi n a0 a1 = some r := by
 unfold jk at h
 obtain ⟨⟨he, h0, h1⟩, h⟩ := zC h
 have := wW a0
 obtain ⟨z, hz⟩ := Po (a := a0) a0 [] a1 (a0.length + 1) rfl he h0 h1 (by simp; omega) (by omega)
 refine ⟨a0.length + 1, ?_⟩
 unfold Yi
 simp only [List.length_nil, Int.natCast_zero] at hz
 rw [hz]
 exact h
theorem Rc : W3 jk := fun a0 a1 r h => (Kl a0 a1 r h).elim fun n hn => RV n a0 a1 r hn
def Y6 (a0 : GState) (a1 : Int) : Option Int :=
 (y5 a0.Pending a1).bind fun r1 =>
 if r1 < 0 then
  some (-1)
 else
 (jk a0.Entries r1).bind fun r3 =>
 if r3 < 0 then
  some (-1)
 else
 some r3
theorem RW (a0 : GState) (a1 : Int) : Oc (Y6 a0 a1) 25 [] [.val true (zX a0), vi a1] fun r => (vi r, []) := tc (
 .cl (xR a0.Pending a1) fun r1 =>
 .lI r1 0 (fun c2 =>
  .ret (-1)) fun c2 =>
 .cl (Rc a0.Entries r1) fun r3 =>
 .lI r3 0 (fun c4 =>
  .ret (-1)) fun c4 =>
 .ret r3) (zf Tryz.func25)
def W4 (F : (List GEvent) → Int → Option Int) : Prop := ∀ (a0 : (List GEvent)) (a1 : Int), Oc (F a0 a1) 101 [] [vq zw a0, vi a1] fun r => (vi r, [])
def xJ (a0 : (List GEvent)) : Nat → Int → Int → Option (Int ⊕ (Int × Int))
  | 0, _, _ => none
  | m + 1, a1, v2 =>
  if v2 < (a0.length : Int) then
   (zv v2).bind fun i2 =>
   (a0[i2]?).bind fun x3 =>
   if x3.Kind = a1 then
    (y5 x3.Addr (w64 (a1 + 1))).bind fun r5 =>
    if r5 < 0 then
     some (.inl (-1))
    else
    if x3.Act = r5 then
     if x3.Val.Kind = (w64 (r5 + 1)) then
      if x3.Val.N = (w64 ((w64 (r5 + 1)) + 1)) then
       (y5 x3.Val.S (w64 ((w64 ((w64 (r5 + 1)) + 1)) + 1))).bind fun r10 =>
       if r10 < 0 then
        some (.inl (-1))
       else
       (yM x3.Val.K r10).bind fun r12 =>
       if r12 < 0 then
        some (.inl (-1))
       else
       (qd x3.Val.L r12).bind fun r14 =>
       if r14 < 0 then
        some (.inl (-1))
       else
       (yM x3.Deps r14).bind fun r16 =>
       if r16 < 0 then
        some (.inl (-1))
       else
       xJ a0 m r16 (w64 (v2 + 1))
      else
      some (.inl (-1))
     else
     some (.inl (-1))
    else
    some (.inl (-1))
   else
   some (.inl (-1))
  else
  some (.inr (a1, v2))
theorem J8 (a0 : (List GEvent)) (m : Nat) : ∀ (a1 : Int) (v2 : Int), Ol (xJ a0 m a1 v2) 101 (zJ Tryz.f101 0) ⟨[(0, vq zw a0), (1, vi a1), (5, vi v2)], [], 0⟩ fun o => match o with | .inl o_0 => (.ret, ⟨[(4, vi o_0)], [], 0⟩) | .inr (⟨o_1_0, o_1_1⟩) => (.exit 0, ⟨[(0, vq zw a0), (1, vi o_1_0), (5, vi o_1_1), (9, vb false)], [], 0⟩) := by
  induction m with
  | zero => intro a1 v2 o h; cases h
  | succ m ih => exact fun a1 v2 => tlp (
   .le zw a0 <|
   .lI v2 (a0.length : Int) (fun c1 =>
    .na v2 fun i2 =>
    .ix eq_GEvent a0 i2 fun x3 =>
    .eI x3.Kind a1 (fun c4 =>
     .ag 1 <|
     .ag 0 <|
     .cl (xR x3.Addr (w64 (a1 + 1))) fun r5 =>
     .lI r5 0 (fun c6 =>
      .ret (.inl (-1))) fun c6 =>
     .ag 2 <|
     .ag 1 <|
     .eI x3.Act r5 (fun c7 =>
      .ag 2 <|
      .ag 1 <|
      .eI x3.Val.Kind (w64 (r5 + 1)) (fun c8 =>
       .ag 2 <|
       .ag 1 <|
       .eI x3.Val.N (w64 ((w64 (r5 + 1)) + 1)) (fun c9 =>
        .ag 2 <|
        .ag 1 <|
        .cl (xR x3.Val.S (w64 ((w64 ((w64 (r5 + 1)) + 1)) + 1))) fun r10 =>
        .lI r10 0 (fun c11 =>
         .ret (.inl (-1))) fun c11 =>
        .ag 3 <|
        .ag 2 <|
        .cl (qK x3.Val.K r10) fun r12 =>
        .lI r12 0 (fun c13 =>
         .ret (.inl (-1))) fun c13 =>
        .ag 4 <|
        .ag 3 <|
        .cl (XV x3.Val.L r12) fun r14 =>
        .lI r14 0 (fun c15 =>
         .ret (.inl (-1))) fun c15 =>
        .ag 5 <|
        .ag 4 <|
        .cl (qK x3.Deps r14) fun r16 =>
        .lI r16 0 (fun c17 =>
         .ret (.inl (-1))) fun c17 =>
        .go (ih r16 (w64 (v2 + 1)))) fun c9 =>
       .ret (.inl (-1))) fun c8 =>
      .ret (.inl (-1))) fun c7 =>
     .ret (.inl (-1))) fun c4 =>
    .ret (.inl (-1))) fun c1 =>
   .ret (.inr (a1, v2)))
def Yj (n : Nat) (a0 : (List GEvent)) (a1 : Int) : Option Int :=
 (xJ a0 n a1 0).bind fun o1 =>
 match o1 with
 | .inl o1_0 =>
  some o1_0
 | .inr (⟨o1_1_0, o1_1_1⟩) =>
  some o1_1_0
theorem RX (n : Nat) : W4 (Yj n) := fun a0 a1 => tc (
 .l2 (J8 a0 n a1 0) (fun o1_0 =>
  .ret o1_0) fun ⟨o1_1_0, o1_1_1⟩ =>
 .ret o1_1_0) (zf Tryz.func101)
theorem Pp {a : List GEvent} : ∀ (l p : List GEvent) (k : Int) (m : Nat), a = p ++ l → vV k l = l → 0 <= k → k + 4 * zT l <= 2 ^ 40 → p.length + l.length <= 2 ^ 40 → l.length < m → ∃ z, xJ a m k (p.length : Int) = some (.inr (k + kl l, z)) := by
 intro l
 induction l with
 | nil =>
  intro p k m ha _ _ _ _ hm
  subst ha
  obtain ⟨m, rfl, _⟩ := zg hm
  exact ⟨_, by rw [xJ, if_neg (wh p)]; simp [kl]; rfl⟩
 | cons x l ih =>
  intro p k m ha hm0 h0 h1 h2 hm
  obtain ⟨m, rfl, hm'⟩ := zg hm
  simp only [List.length_cons] at h2 hm'
  have hc := N8 x
  rw [vV] at hm0
  obtain ⟨e1, e2⟩ := List.cons.inj hm0
  simp only [zT] at h1
  obtain ⟨z, hz⟩ := ih (p ++ [x]) (k + cEv x) m (by rw [ha]; simp) e2 (by omega) (by omega) (by simp; omega) (by omega)
  refine ⟨z, ?_⟩
  rw [xJ, if_pos (by rw [ha]; exact vI p x l), zb, oB, show a[p.length]? = some x by rw [ha]; exact zG p x l, oB, y8 p x (by omega)]
  have hcv := WH x.Val
  have hcd := qM x.Deps
  have hve := xw x.Val
  have hcq := Pw x.Val
  have hb := qM x.Val.K
  have hd := Xk x.Val.L
  have hcE : cEv x = x.Addr.length + cV x.Val + cB x.Deps + 2 := rfl
  unfold yy at h1 hc
  have f0 : k = x.Kind := congrArg GEvent.Kind e1
  have f1 : mB (k + 1) x.Addr = x.Addr := congrArg GEvent.Addr e1
  have f2 : k + 1 + x.Addr.length = x.Act := congrArg GEvent.Act e1
  have f3 : mV (k + 1 + x.Addr.length + 1) x.Val = x.Val := congrArg GEvent.Val e1
  have f4 : mBB (k + 1 + x.Addr.length + 1 + cV x.Val) x.Deps = x.Deps := congrArg GEvent.Deps e1
  rw [Px] at f3
  have g1 : x.Val.Kind = k + 1 + x.Addr.length + 1 := (congrArg GValue.Kind f3).symm
  have g2 : x.Val.N = k + 1 + x.Addr.length + 1 + 1 := (congrArg GValue.N f3).symm
  have g3 : mB (k + 1 + x.Addr.length + 1 + 1 + 1) x.Val.S = x.Val.S := congrArg GValue.S f3
  have g4 : mBB (k + 1 + x.Addr.length + 1 + 1 + 1 + x.Val.S.length) x.Val.K = x.Val.K := congrArg GValue.K f3
  have g5 : mVs (k + 1 + x.Addr.length + 1 + 1 + 1 + x.Val.S.length + cB x.Val.K) x.Val.L = x.Val.L := congrArg GValue.L f3
  have e6 : k + 1 + (x.Addr.length : Int) + 1 + 1 + 1 + (x.Val.S.length : Int) + (cB x.Val.K : Int) + (cVs x.Val.L : Int) = k + 1 + (x.Addr.length : Int) + 1 + (cV x.Val : Int) := by omega
  rw [if_pos f0.symm, yc (x := k + 1) (by omega) (by omega), j8 f1 (by omega) (by omega), oB, if_neg (by omega), if_pos f2.symm, yc (x := k + 1 + (x.Addr.length : Int) + 1) (by omega) (by omega), if_pos g1,
   yc (x := k + 1 + (x.Addr.length : Int) + 1 + 1) (by omega) (by omega), if_pos g2, yc (x := k + 1 + (x.Addr.length : Int) + 1 + 1 + 1) (by omega) (by omega), j8 g3 (by omega) (by omega), oB, if_neg (by omega), vH g4 (by omega) (by omega), oB, if_neg (by omega), KE g5 (by omega) (by omega), oB, if_neg (by omega), e6, vH f4 (by omega) (by omega), oB, if_neg (by omega),
   show k + 1 + (x.Addr.length : Int) + 1 + (cV x.Val : Int) + (cB x.Deps : Int) = k + ((cEv x : Nat) : Int) by omega, hz]
  simp only [kl]
  rw [show k + ((cEv x : Nat) : Int) + (kl l : Int) = k + ((cEv x + kl l : Nat) : Int) by omega]
open Classical in
noncomputable def jl (a0 : (List GEvent)) (a1 : Int) : Option Int := if vV a1 a0 = a0 ∧ 0 <= a1 ∧ a1 + 4 * zT a0 <= 2 ^ 40 then some (a1 + kl a0) else none
theorem LJ {a : Int} {s : List GEvent} (h : vV a s = s) (h0 : 0 <= a) (h1 : a + 4 * zT s <= 2 ^ 40) : jl s a = some (a + kl s) := if_pos ⟨h, h0, h1⟩
theorem Km (a0 : (List GEvent)) (a1 : Int) (r : Int) (h : jl a0 a1 = some r) : ∃ n, Yj n a0 a1 = some r := by
 unfold jl at h
 obtain ⟨⟨he, h0, h1⟩, h⟩ := zC h
 have := jn a0
 obtain ⟨z, hz⟩ := Pp (a := a0) a0 [] a1 (a0.length + 1) rfl he h0 h1 (by simp; omega) (by omega)
 refine ⟨a0.length + 1, ?_⟩
 unfold Yj
 simp only [List.length_nil, Int.natCast_zero] at hz
 rw [hz]
 exact h
theorem Re : W4 jl := fun a0 a1 r h => (Km a0 a1 r h).elim fun n hn => RX n a0 a1 r hn
def qL (a0 : GHistory) (a1 : Int) : Option Int :=
 (Y6 a0.Base a1).bind fun r1 =>
 if r1 < 0 then
  some (-1)
 else
 (jl a0.Events r1).bind fun r3 =>
 if r3 < 0 then
  some (-1)
 else
 some r3
theorem Xo (a0 : GHistory) (a1 : Int) : Oc (qL a0 a1) 43 [] [.val true (yq a0), vi a1] fun r => (vi r, []) := tc (
 .cl (RW a0.Base a1) fun r1 =>
 .lI r1 0 (fun c2 =>
  .ret (-1)) fun c2 =>
 .cl (Re a0.Events r1) fun r3 =>
 .lI r3 0 (fun c4 =>
  .ret (-1)) fun c4 =>
 .ret r3) (zf Tryz.func43)
def kR (a0 : GHistory) (a1 : GEvent) : Option Bool :=
 (vh a0 1048576).bind fun r1 =>
 if r1 < 0 then
  some true
 else
 (w4 a1 r1).bind fun r3 =>
 if r3 < 0 then
  some true
 else
 (vj a0).bind fun r5 =>
 (wB a1).bind fun r6 =>
 (ZL r5 r6).bind fun ⟨r7_0, r7_1⟩ =>
 (ZO r5 r6).bind fun ⟨r8_0, r8_1⟩ =>
 (q6 r8_0 r7_0).bind fun r9 =>
 match r9 with
 | true =>
  if r8_1 = true then
   if r7_1 = true then
    (q6 r5 r5).bind fun r12 =>
    match r12 with
    | true =>
     (xC r6 r6).bind fun r13 =>
     match r13 with
     | true =>
      (yE r5.Base.Serial r5.Base.Open r5.Base.Act r5.Safe 1 r5.Base.Pending r5.Base.Entries r5.Events).bind fun ⟨r14_0, r14_1, r14_2, r14_3⟩ =>
      (j7 r6.Kind r6.Act r6.Val.Kind r6.Val.N r14_0 r6.Addr r6.Val.S r6.Val.K r6.Val.L r6.Deps).bind fun ⟨r15_0, r15_1, r15_2, r15_3, r15_4, r15_5⟩ =>
      if r15_0 < 0 then
       none
      else
      (yE r8_0.Base.Serial r8_0.Base.Open r8_0.Base.Act r8_0.Safe 1 r8_0.Base.Pending r8_0.Base.Entries r8_0.Events).bind fun ⟨r17_0, r17_1, r17_2, r17_3⟩ =>
      (qL (GHistory.mk (GState.mk r8_0.Base.Serial r8_0.Base.Open r17_1 r8_0.Base.Act r17_2) r17_3 r8_0.Safe) 1).bind fun r18 =>
      if r18 < 0 then
       none
      else
      if r18 = r17_0 then
       some true
      else
      none
     | false =>
      none
    | false =>
     none
   else
   none
  else
  if r7_1 = true then
   none
  else
  (q6 r5 r5).bind fun r12 =>
  match r12 with
  | true =>
   (xC r6 r6).bind fun r13 =>
   match r13 with
   | true =>
    (yE r5.Base.Serial r5.Base.Open r5.Base.Act r5.Safe 1 r5.Base.Pending r5.Base.Entries r5.Events).bind fun ⟨r14_0, r14_1, r14_2, r14_3⟩ =>
    (j7 r6.Kind r6.Act r6.Val.Kind r6.Val.N r14_0 r6.Addr r6.Val.S r6.Val.K r6.Val.L r6.Deps).bind fun ⟨r15_0, r15_1, r15_2, r15_3, r15_4, r15_5⟩ =>
    if r15_0 < 0 then
     none
    else
    (yE r8_0.Base.Serial r8_0.Base.Open r8_0.Base.Act r8_0.Safe 1 r8_0.Base.Pending r8_0.Base.Entries r8_0.Events).bind fun ⟨r17_0, r17_1, r17_2, r17_3⟩ =>
    (qL (GHistory.mk (GState.mk r8_0.Base.Serial r8_0.Base.Open r17_1 r8_0.Base.Act r17_2) r17_3 r8_0.Safe) 1).bind fun r18 =>
    if r18 < 0 then
     none
    else
    if r18 = r17_0 then
     some true
    else
    none
   | false =>
    none
  | false =>
   none
 | false =>
  none
theorem ok_laws_FnExactHistAdd (a0 : GHistory) (a1 : GEvent) : Oc (kR a0 a1) 11 [] [.val true (yq a0), .val true (xS a1)] fun r => (vb r, []) := tc (
 .cl (R2 a0 1048576) fun r1 =>
 .lI r1 0 (fun c2 =>
  .ret true) fun c2 =>
 .cl (QD a1 r1) fun r3 =>
 .lI r3 0 (fun c4 =>
  .ret true) fun c4 =>
 .cl (R5 a0) fun r5 =>
 .cl (QI a1) fun r6 =>
 .vw zz r5.Base.Pending <|
 .vo zR r5.Base.Entries <|
 .vo zW r5.Events <|
 .vw zz r6.Addr <|
 .vw zz r6.Val.S <|
 .vo (qZ 1 xm) r6.Val.K <|
 .vo wV r6.Val.L <|
 .vo (qZ 1 xm) r6.Deps <|
 .cl (UT r5 r6) fun ⟨r7_0, r7_1⟩ =>
 .cn xm r7_0.Base.Pending <|
 .cn zR r7_0.Base.Entries <|
 .cn zW r7_0.Events <|
 .ag 2 <|
 .ag 1 <|
 .vw zz r5.Base.Pending <|
 .vo zR r5.Base.Entries <|
 .vo zW r5.Events <|
 .vw zz r6.Addr <|
 .vw zz r6.Val.S <|
 .vo (qZ 1 xm) r6.Val.K <|
 .vo wV r6.Val.L <|
 .vo (qZ 1 xm) r6.Deps <|
 .cl (Pa r5 r6) fun ⟨r8_0, r8_1⟩ =>
 .cn xm r8_0.Base.Pending <|
 .cn zR r8_0.Base.Entries <|
 .cn zW r8_0.Events <|
 .vw zz r8_0.Base.Pending <|
 .vo zR r8_0.Base.Entries <|
 .vo zW r8_0.Events <|
 .vw zz r7_0.Base.Pending <|
 .vo zR r7_0.Base.Entries <|
 .vo zW r7_0.Events <|
 .cl (Yb r8_0 r7_0) fun r9 =>
 .vN 0 r9 (
  .an 0 0 <|
  .an 0 0 <|
  .sp (r8_1 = true) (fun c10 =>
   .sp (r7_1 = true) (fun c11 =>
    .eb c10 c11 <|
    .an 0 0 <|
    .ag 5 <|
    .vw zz r5.Base.Pending <|
    .vo zR r5.Base.Entries <|
    .vo zW r5.Events <|
    .vw zz r5.Base.Pending <|
    .vo zR r5.Base.Entries <|
    .vo zW r5.Events <|
    .cl (Yb r5 r5) fun r12 =>
    .vN 0 r12 (
     .ag 6 <|
     .vw zz r6.Addr <|
     .vw zz r6.Val.S <|
     .vo (qZ 1 xm) r6.Val.K <|
     .vo wV r6.Val.L <|
     .vo (qZ 1 xm) r6.Deps <|
     .vw zz r6.Addr <|
     .vw zz r6.Val.S <|
     .vo (qZ 1 xm) r6.Val.K <|
     .vo wV r6.Val.L <|
     .vo (qZ 1 xm) r6.Deps <|
     .cl (Xf r6 r6) fun r13 =>
     .vN 0 r13 (
      .cl (jD r5.Base.Serial r5.Base.Open r5.Base.Act r5.Safe 1 r5.Base.Pending r5.Base.Entries r5.Events) fun ⟨r14_0, r14_1, r14_2, r14_3⟩ =>
      .cl (Wz r6.Kind r6.Act r6.Val.Kind r6.Val.N r14_0 r6.Addr r6.Val.S r6.Val.K r6.Val.L r6.Deps) fun ⟨r15_0, r15_1, r15_2, r15_3, r15_4, r15_5⟩ =>
      .lI r15_0 0 (fun c16 =>
       .no) fun c16 =>
      .vw zz r8_0.Base.Pending <|
      .vo zR r8_0.Base.Entries <|
      .vo zW r8_0.Events <|
      .vw zz r7_0.Base.Pending <|
      .vo zR r7_0.Base.Entries <|
      .vo zW r7_0.Events <|
      .ag 7 <|
      .an 2 6 <|
      .an 0 6 <|
      .an 0 6 <|
      .eb c10 c11 <|
      .an 0 6 <|
      .cl (jD r8_0.Base.Serial r8_0.Base.Open r8_0.Base.Act r8_0.Safe 1 r8_0.Base.Pending r8_0.Base.Entries r8_0.Events) fun ⟨r17_0, r17_1, r17_2, r17_3⟩ =>
      .vw zz r17_1 <|
      .vo zR r17_2 <|
      .vo zW r17_3 <|
      .cl (Xo (GHistory.mk (GState.mk r8_0.Base.Serial r8_0.Base.Open r17_1 r8_0.Base.Act r17_2) r17_3 r8_0.Safe) 1) fun r18 =>
      .lI r18 0 (fun c19 =>
       .no) fun c19 =>
      .eI r18 r17_0 (fun c20 =>
       .ag 13 <|
       .ag 12 <|
       .vw zz r5.Base.Pending <|
       .vo zR r5.Base.Entries <|
       .vo zW r5.Events <|
       .vw zz r6.Addr <|
       .vw zz r6.Val.S <|
       .vo (qZ 1 xm) r6.Val.K <|
       .vo wV r6.Val.L <|
       .vo (qZ 1 xm) r6.Deps <|
       .ag 10 <|
       .cn xm r8_0.Base.Pending <|
       .cn zR r8_0.Base.Entries <|
       .cn zW r8_0.Events <|
       .vw zz r8_0.Base.Pending <|
       .vo zR r8_0.Base.Entries <|
       .vo zW r8_0.Events <|
       .vw zz r7_0.Base.Pending <|
       .vo zR r7_0.Base.Entries <|
       .vo zW r7_0.Events <|
       .ag 9 <|
       .an 0 8 <|
       .an 0 8 <|
       .an 0 8 <|
       .eb c10 c11 <|
       .an 0 8 <|
       .vw zz r17_1 <|
       .vo zR r17_2 <|
       .vo zW r17_3 <|
       .ag 0 <|
       .q (.lF c19) <|
       .q (.eT c20) <|
       .ret true) fun c20 =>
      .no) <|
     .no) <|
    .no) fun c11 =>
   .no) fun c10 =>
  .sp (r7_1 = true) (fun c11 =>
   .no) fun c11 =>
  .eb (bF c10) (bF c11) <|
  .an 0 0 <|
  .ag 5 <|
  .vw zz r5.Base.Pending <|
  .vo zR r5.Base.Entries <|
  .vo zW r5.Events <|
  .vw zz r5.Base.Pending <|
  .vo zR r5.Base.Entries <|
  .vo zW r5.Events <|
  .cl (Yb r5 r5) fun r12 =>
  .vN 0 r12 (
   .ag 6 <|
   .vw zz r6.Addr <|
   .vw zz r6.Val.S <|
   .vo (qZ 1 xm) r6.Val.K <|
   .vo wV r6.Val.L <|
   .vo (qZ 1 xm) r6.Deps <|
   .vw zz r6.Addr <|
   .vw zz r6.Val.S <|
   .vo (qZ 1 xm) r6.Val.K <|
   .vo wV r6.Val.L <|
   .vo (qZ 1 xm) r6.Deps <|
   .cl (Xf r6 r6) fun r13 =>
   .vN 0 r13 (
    .cl (jD r5.Base.Serial r5.Base.Open r5.Base.Act r5.Safe 1 r5.Base.Pending r5.Base.Entries r5.Events) fun ⟨r14_0, r14_1, r14_2, r14_3⟩ =>
    .cl (Wz r6.Kind r6.Act r6.Val.Kind r6.Val.N r14_0 r6.Addr r6.Val.S r6.Val.K r6.Val.L r6.Deps) fun ⟨r15_0, r15_1, r15_2, r15_3, r15_4, r15_5⟩ =>
    .lI r15_0 0 (fun c16 =>
     .no) fun c16 =>
    .vw zz r8_0.Base.Pending <|
    .vo zR r8_0.Base.Entries <|
    .vo zW r8_0.Events <|
    .vw zz r7_0.Base.Pending <|
    .vo zR r7_0.Base.Entries <|
    .vo zW r7_0.Events <|
    .ag 7 <|
    .an 2 6 <|
    .an 0 6 <|
    .an 0 6 <|
    .eb (bF c10) (bF c11) <|
    .an 0 6 <|
    .cl (jD r8_0.Base.Serial r8_0.Base.Open r8_0.Base.Act r8_0.Safe 1 r8_0.Base.Pending r8_0.Base.Entries r8_0.Events) fun ⟨r17_0, r17_1, r17_2, r17_3⟩ =>
    .vw zz r17_1 <|
    .vo zR r17_2 <|
    .vo zW r17_3 <|
    .cl (Xo (GHistory.mk (GState.mk r8_0.Base.Serial r8_0.Base.Open r17_1 r8_0.Base.Act r17_2) r17_3 r8_0.Safe) 1) fun r18 =>
    .lI r18 0 (fun c19 =>
     .no) fun c19 =>
    .eI r18 r17_0 (fun c20 =>
     .ag 13 <|
     .ag 12 <|
     .vw zz r5.Base.Pending <|
     .vo zR r5.Base.Entries <|
     .vo zW r5.Events <|
     .vw zz r6.Addr <|
     .vw zz r6.Val.S <|
     .vo (qZ 1 xm) r6.Val.K <|
     .vo wV r6.Val.L <|
     .vo (qZ 1 xm) r6.Deps <|
     .ag 10 <|
     .cn xm r8_0.Base.Pending <|
     .cn zR r8_0.Base.Entries <|
     .cn zW r8_0.Events <|
     .vw zz r8_0.Base.Pending <|
     .vo zR r8_0.Base.Entries <|
     .vo zW r8_0.Events <|
     .vw zz r7_0.Base.Pending <|
     .vo zR r7_0.Base.Entries <|
     .vo zW r7_0.Events <|
     .ag 9 <|
     .an 0 8 <|
     .an 0 8 <|
     .an 0 8 <|
     .eb (bF c10) (bF c11) <|
     .an 0 8 <|
     .vw zz r17_1 <|
     .vo zR r17_2 <|
     .vo zW r17_3 <|
     .ag 0 <|
     .q (.lF c19) <|
     .q (.eT c20) <|
     .ret true) fun c20 =>
    .no) <|
   .no) <|
  .no) <|
 .no) (zf Tryz.func11)
end
end Go.Am.Try
