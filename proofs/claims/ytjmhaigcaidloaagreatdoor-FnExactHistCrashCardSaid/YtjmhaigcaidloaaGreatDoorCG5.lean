
/- The functions of the program in plain Lean, and that the machine answers as they do; conditions at each theorem. -/
import Derived.Test.YtjmhaigcaidloaaGreatDoorCG4
set_option linter.unusedVariables false
set_option linter.unusedSimpArgs false
namespace Go.Am.Try
open Go.Am Go.Proofs
set_option linter.unusedVariables false
set_option maxRecDepth 20000
set_option maxHeartbeats 2000000
noncomputable section
def qY (F : (List GValue) → Int → Option Int) : Prop := ∀ (a0 : (List GValue)) (a1 : Int), Oc (F a0 a1) 146 [] [vq zh a0, vi a1] fun r => (vi r, [])
def xD (G_laws_heldValueS : (List GValue) → Int → Option Int) (a0 : (List GValue)) : Nat → Int → Int → Option (Int ⊕ (Int × Int))
  | 0, _, _ => none
  | m + 1, a1, v2 =>
  if v2 < (a0.length : Int) then
   (zu v2).bind fun i2 =>
   (a0[i2]?).bind fun x3 =>
   if x3.Kind = a1 then
    if x3.N = (w64 (a1 + 1)) then
     (yz x3.S (w64 ((w64 (a1 + 1)) + 1))).bind fun r6 =>
     if r6 < 0 then
      some (.inl (-1))
     else
     (yI x3.K r6).bind fun r8 =>
     if r8 < 0 then
      some (.inl (-1))
     else
     (G_laws_heldValueS x3.L r8).bind fun r10 =>
     if r10 < 0 then
      some (.inl (-1))
     else
     xD G_laws_heldValueS a0 m r10 (w64 (v2 + 1))
    else
    some (.inl (-1))
   else
   some (.inl (-1))
  else
  some (.inr (a1, v2))
theorem Js (G_laws_heldValueS : (List GValue) → Int → Option Int) (H_laws_heldValueS : qY G_laws_heldValueS) (a0 : (List GValue)) (m : Nat) : ∀ (a1 : Int) (v2 : Int), Ol (xD G_laws_heldValueS a0 m a1 v2) 146 (zI Tryz.f146 0) ⟨[(0, vq zh a0), (1, vi a1), (5, vi v2)], [], 0⟩ fun o => match o with | .inl o_0 => (.ret, ⟨[(4, vi o_0)], [], 0⟩) | .inr (⟨o_1_0, o_1_1⟩) => (.exit 0, ⟨[(0, vq zh a0), (1, vi o_1_0), (5, vi o_1_1), (9, vb false)], [], 0⟩) := by
  induction m with
  | zero => intro a1 v2 o h; cases h
  | succ m ih => exact fun a1 v2 => tlp (
   .le zh a0 <|
   .lI v2 (a0.length : Int) (fun c1 =>
    .na v2 fun i2 =>
    .ix yu a0 i2 fun x3 =>
    .eI x3.Kind a1 (fun c4 =>
     .ag 1 <|
     .ag 0 <|
     .eI x3.N (w64 (a1 + 1)) (fun c5 =>
      .ag 1 <|
      .ag 0 <|
      .cl (xO x3.S (w64 ((w64 (a1 + 1)) + 1))) fun r6 =>
      .lI r6 0 (fun c7 =>
       .ret (.inl (-1))) fun c7 =>
      .ag 2 <|
      .ag 1 <|
      .cl (qF x3.K r6) fun r8 =>
      .lI r8 0 (fun c9 =>
       .ret (.inl (-1))) fun c9 =>
      .ag 3 <|
      .ag 2 <|
      .cl (H_laws_heldValueS x3.L r8) fun r10 =>
      .lI r10 0 (fun c11 =>
       .ret (.inl (-1))) fun c11 =>
      .go (ih r10 (w64 (v2 + 1)))) fun c5 =>
     .ret (.inl (-1))) fun c4 =>
    .ret (.inl (-1))) fun c1 =>
   .ret (.inr (a1, v2)))
def ZV (G_laws_heldValueS : (List GValue) → Int → Option Int) (n : Nat) (a0 : (List GValue)) (a1 : Int) : Option Int :=
 (xD G_laws_heldValueS a0 n a1 0).bind fun o1 =>
 match o1 with
 | .inl o1_0 =>
  some o1_0
 | .inr (⟨o1_1_0, o1_1_1⟩) =>
  some o1_1_0
theorem RN (G_laws_heldValueS : (List GValue) → Int → Option Int) (H_laws_heldValueS : qY G_laws_heldValueS) (n : Nat) : qY (ZV G_laws_heldValueS n) := fun a0 a1 => tc (
 .l2 (Js G_laws_heldValueS H_laws_heldValueS a0 n a1 0) (fun o1_0 =>
  .ret o1_0) fun ⟨o1_1_0, o1_1_1⟩ =>
 .ret o1_1_0) (zf Tryz.func146)
def yJ : Nat → (List GValue) → Int → Option Int
 | 0, _, _ => none
 | n + 1, a0, a1 => ZV (yJ n) n a0 a1
theorem KQ (n : Nat) : qY (yJ n) := by
 induction n with
 | zero => exact fun _ _ _ h => (by rw [yJ] at h; cases h)
 | succ n ih =>
  have ih_laws_heldValueS := ih
  exact fun a0 a1 r h => RN (yJ n) ih_laws_heldValueS n a0 a1 r (by rw [yJ] at h; exact h)
theorem Ph {G : List GValue → Int → Option Int} {a : List GValue} : ∀ (l p : List GValue) (k : Int) (m : Nat), a = p ++ l → mVs k l = l → (∀ v ∈ l, ∀ i : Int, mVs i v.L = v.L → 0 <= i → i + 2 * y6 v.L <= 2 ^ 41 → G v.L i = some (i + cVs v.L)) → 0 <= k → k + 2 * y6 l <= 2 ^ 41 → p.length + l.length <= 2 ^ 41 → l.length < m → ∃ z, xD G a m k (p.length : Int) = some (.inr (k + cVs l, z)) := by
 intro l
 induction l with
 | nil =>
  intro p k m ha _ _ _ _ _ hm
  subst ha
  obtain ⟨m, rfl, _⟩ := zg hm
  exact ⟨_, by rw [xD, if_neg (wc p)]; simp [cVs]; rfl⟩
 | cons x l ih =>
  intro p k m ha hm0 hG h0 h1 h2 hm
  obtain ⟨m, rfl, hm'⟩ := zg hm
  simp only [List.length_cons] at h2 hm'
  have hx := hG x List.mem_cons_self
  have hc := W9 x
  rw [mVs] at hm0
  obtain ⟨e1, e2⟩ := List.cons.inj hm0
  simp only [y6] at h1
  obtain ⟨z, hz⟩ := ih (p ++ [x]) (k + cV x) m (by rw [ha]; simp) e2 (fun v hv => hG v (List.mem_cons_of_mem _ hv)) (by omega) (by omega) (by simp; omega) (by omega)
  refine ⟨z, ?_⟩
  rw [xD, if_pos (by rw [ha]; exact vE p x l), zb, Option.bind_some, show a[p.length]? = some x by rw [ha]; exact zF p x l, Option.bind_some, y4 p x (by omega)]
  have hb := ju x.K
  have hd := XP x.L
  have hq := xH x
  have hr := Pp x
  rw [Pq] at e1
  have f1 : x.Kind = k := (congrArg GValue.Kind e1).symm
  have f2 : x.N = k + 1 := (congrArg GValue.N e1).symm
  have f3 : mB (k + 1 + 1) x.S = x.S := congrArg GValue.S e1
  have f4 : mBB (k + 1 + 1 + x.S.length) x.K = x.K := congrArg GValue.K e1
  have f5 : mVs (k + 1 + 1 + x.S.length + cB x.K) x.L = x.L := congrArg GValue.L e1
  rw [zV (x := k + 1) (by omega) (by omega), zV (x := k + 1 + 1) (by omega) (by omega), if_pos f1, if_pos f2, js f3 (by omega) (by omega), Option.bind_some, if_neg (by omega), vD f4 (by omega) (by omega), Option.bind_some, if_neg (by omega), hx _ f5 (by omega) (by omega), Option.bind_some, if_neg (by omega),
   show k + 1 + 1 + (x.S.length : Int) + (cB x.K : Int) + (cVs x.L : Int) = k + ((cV x : Nat) : Int) by omega, hz]
  simp only [cVs]
  rw [show k + ((cV x : Nat) : Int) + (cVs l : Int) = k + ((cV x + cVs l : Nat) : Int) by omega]
theorem Nc : ∀ (N : Nat) (l : List GValue), y6 l < N → ∀ (k : Int) (f : Nat), mVs k l = l → 0 <= k → k + 2 * y6 l <= 2 ^ 41 → y6 l + 2 <= f → yJ f l k = some (k + cVs l) := by
 intro N
 induction N with
 | zero => intro l hl; omega
 | succ N ih =>
  intro l hl k f he h0 h1 hf
  obtain ⟨f, rfl, _⟩ := zg (show 0 < f by omega)
  have hlen := yN l
  rw [yJ]
  unfold ZV
  obtain ⟨z, hz⟩ := Ph (G := yJ f) (a := l) l [] k f rfl he (fun v hv i ge g0 g1 => by
   have := wl hv
   have := xH v
   exact ih v.L (by omega) i f ge g0 g1 (by omega)) h0 h1 (by simp; omega) (by omega)
  simp only [List.length_nil, Int.natCast_zero] at hz
  rw [hz]; rfl
open Classical in
noncomputable def wS (a0 : (List GValue)) (a1 : Int) : Option Int := if mVs a1 a0 = a0 ∧ 0 <= a1 ∧ a1 + 2 * y6 a0 <= 2 ^ 41 then some (a1 + cVs a0) else none
theorem K0 {a : Int} {s : List GValue} (h : mVs a s = s) (h0 : 0 <= a) (h1 : a + 2 * y6 s <= 2 ^ 41) : wS s a = some (a + cVs s) := if_pos ⟨h, h0, h1⟩
theorem JX (a0 : (List GValue)) (a1 : Int) (r : Int) (h : wS a0 a1 = some r) : ∃ n, yJ n a0 a1 = some r := by
 unfold wS at h
 obtain ⟨⟨he, h0, h1⟩, h⟩ := zB h
 exact ⟨y6 a0 + 2, by rw [Nc _ a0 (Nat.lt_succ_self _) a1 _ he h0 h1 (Nat.le_refl _), h]⟩
theorem XO : qY wS := by
 intro a0 a1 r h
 obtain ⟨n, hn⟩ := JX a0 a1 r h
 exact (KQ n) a0 a1 r hn
def Wt (F : (List GEntry) → Int → Option Int) : Prop := ∀ (a0 : (List GEntry)) (a1 : Int), Oc (F a0 a1) 85 [] [vq zj a0, vi a1] fun r => (vi r, [])
def yV (a0 : (List GEntry)) : Nat → Int → Int → Option (Int ⊕ (Int × Int))
  | 0, _, _ => none
  | m + 1, a1, v2 =>
  if v2 < (a0.length : Int) then
   (zu v2).bind fun i2 =>
   (a0[i2]?).bind fun x3 =>
   (yz x3.Addr a1).bind fun r4 =>
   if r4 < 0 then
    some (.inl (-1))
   else
   if x3.Val.Kind = r4 then
    if x3.Val.N = (w64 (r4 + 1)) then
     (yz x3.Val.S (w64 ((w64 (r4 + 1)) + 1))).bind fun r8 =>
     if r8 < 0 then
      some (.inl (-1))
     else
     (yI x3.Val.K r8).bind fun r10 =>
     if r10 < 0 then
      some (.inl (-1))
     else
     (wS x3.Val.L r10).bind fun r12 =>
     if r12 < 0 then
      some (.inl (-1))
     else
     (yI x3.Deps r12).bind fun r14 =>
     if r14 < 0 then
      some (.inl (-1))
     else
     if x3.Taint = true then
      if (r14.tmod 3) = 0 then
       if x3.Turned = (w64 (r14 + 1)) then
        yV a0 m (w64 ((w64 (r14 + 1)) + 1)) (w64 (v2 + 1))
       else
       some (.inl (-1))
      else
      some (.inl (-1))
     else
     if (r14.tmod 3) = 0 then
      some (.inl (-1))
     else
     if x3.Turned = (w64 (r14 + 1)) then
      yV a0 m (w64 ((w64 (r14 + 1)) + 1)) (w64 (v2 + 1))
     else
     some (.inl (-1))
    else
    some (.inl (-1))
   else
   some (.inl (-1))
  else
  some (.inr (a1, v2))
theorem Jt (a0 : (List GEntry)) (m : Nat) : ∀ (a1 : Int) (v2 : Int), Ol (yV a0 m a1 v2) 85 (zI Tryz.f85 0) ⟨[(0, vq zj a0), (1, vi a1), (5, vi v2)], [], 0⟩ fun o => match o with | .inl o_0 => (.ret, ⟨[(4, vi o_0)], [], 0⟩) | .inr (⟨o_1_0, o_1_1⟩) => (.exit 0, ⟨[(0, vq zj a0), (1, vi o_1_0), (5, vi o_1_1), (9, vb false)], [], 0⟩) := by
  induction m with
  | zero => intro a1 v2 o h; cases h
  | succ m ih => exact fun a1 v2 => tlp (
   .le zj a0 <|
   .lI v2 (a0.length : Int) (fun c1 =>
    .na v2 fun i2 =>
    .ix zT a0 i2 fun x3 =>
    .cl (xO x3.Addr a1) fun r4 =>
    .lI r4 0 (fun c5 =>
     .ret (.inl (-1))) fun c5 =>
    .ag 2 <|
    .ag 1 <|
    .eI x3.Val.Kind r4 (fun c6 =>
     .ag 2 <|
     .ag 1 <|
     .eI x3.Val.N (w64 (r4 + 1)) (fun c7 =>
      .ag 2 <|
      .ag 1 <|
      .cl (xO x3.Val.S (w64 ((w64 (r4 + 1)) + 1))) fun r8 =>
      .lI r8 0 (fun c9 =>
       .ret (.inl (-1))) fun c9 =>
      .ag 3 <|
      .ag 2 <|
      .cl (qF x3.Val.K r8) fun r10 =>
      .lI r10 0 (fun c11 =>
       .ret (.inl (-1))) fun c11 =>
      .ag 4 <|
      .ag 3 <|
      .cl (XO x3.Val.L r10) fun r12 =>
      .lI r12 0 (fun c13 =>
       .ret (.inl (-1))) fun c13 =>
      .ag 5 <|
      .ag 4 <|
      .cl (qF x3.Deps r12) fun r14 =>
      .lI r14 0 (fun c15 =>
       .ret (.inl (-1))) fun c15 =>
      .ag 6 <|
      .ag 5 <|
      .q ⟨.nz 3, .b true, rfl⟩ <|
      .eD (r14.tmod 3) 0 <|
      .sp (x3.Taint = true) (fun c16 =>
       .sp ((r14.tmod 3) = 0) (fun c17 =>
        .eb c16 (dT c17) <|
        .ag 6 <|
        .ag 5 <|
        .eI x3.Turned (w64 (r14 + 1)) (fun c18 =>
         .go (ih (w64 ((w64 (r14 + 1)) + 1)) (w64 (v2 + 1)))) fun c18 =>
        .ret (.inl (-1))) fun c17 =>
       .eb c16 (dF c17) <|
       .ret (.inl (-1))) fun c16 =>
      .sp ((r14.tmod 3) = 0) (fun c17 =>
       .eb (bF c16) (dT c17) <|
       .ret (.inl (-1))) fun c17 =>
      .eb (bF c16) (dF c17) <|
      .ag 6 <|
      .ag 5 <|
      .eI x3.Turned (w64 (r14 + 1)) (fun c18 =>
       .go (ih (w64 ((w64 (r14 + 1)) + 1)) (w64 (v2 + 1)))) fun c18 =>
      .ret (.inl (-1))) fun c7 =>
     .ret (.inl (-1))) fun c6 =>
    .ret (.inl (-1))) fun c1 =>
   .ret (.inr (a1, v2)))
def ZW (n : Nat) (a0 : (List GEntry)) (a1 : Int) : Option Int :=
 (yV a0 n a1 0).bind fun o1 =>
 match o1 with
 | .inl o1_0 =>
  some o1_0
 | .inr (⟨o1_1_0, o1_1_1⟩) =>
  some o1_1_0
theorem RO (n : Nat) : Wt (ZW n) := fun a0 a1 => tc (
 .l2 (Jt a0 n a1 0) (fun o1_0 =>
  .ret o1_0) fun ⟨o1_1_0, o1_1_1⟩ =>
 .ret o1_1_0) (zf Tryz.func85)
theorem Pi {a : List GEntry} : ∀ (l p : List GEntry) (k : Int) (m : Nat), a = p ++ l → mEs k l = l → 0 <= k → k + 4 * yb l <= 2 ^ 40 → p.length + l.length <= 2 ^ 40 → l.length < m → ∃ z, yV a m k (p.length : Int) = some (.inr (k + cEs l, z)) := by
 intro l
 induction l with
 | nil =>
  intro p k m ha _ _ _ _ hm
  subst ha
  obtain ⟨m, rfl, _⟩ := zg hm
  exact ⟨_, by rw [yV, if_neg (wc p)]; simp [cEs]; rfl⟩
 | cons x l ih =>
  intro p k m ha hm0 h0 h1 h2 hm
  obtain ⟨m, rfl, hm'⟩ := zg hm
  simp only [List.length_cons] at h2 hm'
  have hc := H6 x
  rw [mEs] at hm0
  obtain ⟨e1, e2⟩ := List.cons.inj hm0
  simp only [yb] at h1
  obtain ⟨z, hz⟩ := ih (p ++ [x]) (k + cE x) m (by rw [ha]; simp) e2 (by omega) (by omega) (by simp; omega) (by omega)
  refine ⟨z, ?_⟩
  rw [yV, if_pos (by rw [ha]; exact vE p x l), zb, Option.bind_some, show a[p.length]? = some x by rw [ha]; exact zF p x l, Option.bind_some, y4 p x (by omega)]
  have hcv := W9 x.Val
  have hcd := ju x.Deps
  have hve := xH x.Val
  have hcq := Pp x.Val
  have hb := ju x.Val.K
  have hd := XP x.Val.L
  have hcE : cE x = x.Addr.length + cV x.Val + cB x.Deps + 2 := rfl
  unfold esz at h1 hc
  have f0 : mB k x.Addr = x.Addr := congrArg GEntry.Addr e1
  have f1 : mV (k + x.Addr.length) x.Val = x.Val := congrArg GEntry.Val e1
  have f2 : mBB (k + x.Addr.length + cV x.Val) x.Deps = x.Deps := congrArg GEntry.Deps e1
  have f3 : decide ((k + x.Addr.length + cV x.Val + cB x.Deps).tmod 3 = 0) = x.Taint := congrArg GEntry.Taint e1
  have f4 : k + x.Addr.length + cV x.Val + cB x.Deps + 1 = x.Turned := congrArg GEntry.Turned e1
  rw [Pq] at f1
  have g1 : x.Val.Kind = k + x.Addr.length := (congrArg GValue.Kind f1).symm
  have g2 : x.Val.N = k + x.Addr.length + 1 := (congrArg GValue.N f1).symm
  have g3 : mB (k + x.Addr.length + 1 + 1) x.Val.S = x.Val.S := congrArg GValue.S f1
  have g4 : mBB (k + x.Addr.length + 1 + 1 + x.Val.S.length) x.Val.K = x.Val.K := congrArg GValue.K f1
  have g5 : mVs (k + x.Addr.length + 1 + 1 + x.Val.S.length + cB x.Val.K) x.Val.L = x.Val.L := congrArg GValue.L f1
  have e6 : k + (x.Addr.length : Int) + 1 + 1 + (x.Val.S.length : Int) + (cB x.Val.K : Int) + (cVs x.Val.L : Int) = k + (x.Addr.length : Int) + (cV x.Val : Int) := by omega
  rw [js f0 (by omega) (by omega), Option.bind_some, if_neg (by omega), if_pos g1, zV (x := k + (x.Addr.length : Int) + 1) (by omega) (by omega), if_pos g2, zV (x := k + (x.Addr.length : Int) + 1 + 1) (by omega) (by omega), js g3 (by omega) (by omega), Option.bind_some, if_neg (by omega), vD g4 (by omega) (by omega), Option.bind_some, if_neg (by omega), K0 g5 (by omega) (by omega), Option.bind_some, if_neg (by omega), e6, vD f2 (by omega) (by omega), Option.bind_some, if_neg (by omega)]
  rw [zV (x := k + (x.Addr.length : Int) + (cV x.Val : Int) + (cB x.Deps : Int) + 1) (by omega) (by omega), zV (x := k + (x.Addr.length : Int) + (cV x.Val : Int) + (cB x.Deps : Int) + 1 + 1) (by omega) (by omega),
   show k + (x.Addr.length : Int) + (cV x.Val : Int) + (cB x.Deps : Int) + 1 + 1 = k + ((cE x : Nat) : Int) by omega, hz]
  simp only [cEs]
  rw [show k + ((cE x : Nat) : Int) + (cEs l : Int) = k + ((cE x + cEs l : Nat) : Int) by omega]
  by_cases ht : (k + (x.Addr.length : Int) + (cV x.Val : Int) + (cB x.Deps : Int)).tmod 3 = 0
  ·rw [decide_eq_true ht] at f3
   rw [if_pos f3.symm, if_pos ht, if_pos f4.symm]
  ·rw [decide_eq_false ht] at f3
   rw [if_neg (by rw [<- f3]; decide), if_neg ht, if_pos f4.symm]
open Classical in
noncomputable def qZ (a0 : (List GEntry)) (a1 : Int) : Option Int := if mEs a1 a0 = a0 ∧ 0 <= a1 ∧ a1 + 4 * yb a0 <= 2 ^ 40 then some (a1 + cEs a0) else none
theorem L9 {a : Int} {s : List GEntry} (h : mEs a s = s) (h0 : 0 <= a) (h1 : a + 4 * yb s <= 2 ^ 40) : qZ s a = some (a + cEs s) := if_pos ⟨h, h0, h1⟩
theorem JY (a0 : (List GEntry)) (a1 : Int) (r : Int) (h : qZ a0 a1 = some r) : ∃ n, ZW n a0 a1 = some r := by
 unfold qZ at h
 obtain ⟨⟨he, h0, h1⟩, h⟩ := zB h
 have := qw a0
 obtain ⟨z, hz⟩ := Pi (a := a0) a0 [] a1 (a0.length + 1) rfl he h0 h1 (by simp; omega) (by omega)
 refine ⟨a0.length + 1, ?_⟩
 unfold ZW
 simp only [List.length_nil, Int.natCast_zero] at hz
 rw [hz]
 exact h
theorem VS : Wt qZ := fun a0 a1 r h => (JY a0 a1 r h).elim fun n hn => RO n a0 a1 r hn
def Yx (a0 : GState) (a1 : Int) : Option Int :=
 (yz a0.Pending a1).bind fun r1 =>
 if r1 < 0 then
  some (-1)
 else
 (qZ a0.Entries r1).bind fun r3 =>
 if r3 < 0 then
  some (-1)
 else
 some r3
theorem RP (a0 : GState) (a1 : Int) : Oc (Yx a0 a1) 25 [] [.val true (zW a0), vi a1] fun r => (vi r, []) := tc (
 .cl (xO a0.Pending a1) fun r1 =>
 .lI r1 0 (fun c2 =>
  .ret (-1)) fun c2 =>
 .cl (VS a0.Entries r1) fun r3 =>
 .lI r3 0 (fun c4 =>
  .ret (-1)) fun c4 =>
 .ret r3) (zf Tryz.func25)
def Wu (F : (List GEvent) → Int → Option Int) : Prop := ∀ (a0 : (List GEvent)) (a1 : Int), Oc (F a0 a1) 101 [] [vq zy a0, vi a1] fun r => (vi r, [])
def xE (a0 : (List GEvent)) : Nat → Int → Int → Option (Int ⊕ (Int × Int))
  | 0, _, _ => none
  | m + 1, a1, v2 =>
  if v2 < (a0.length : Int) then
   (zu v2).bind fun i2 =>
   (a0[i2]?).bind fun x3 =>
   if x3.Kind = a1 then
    (yz x3.Addr (w64 (a1 + 1))).bind fun r5 =>
    if r5 < 0 then
     some (.inl (-1))
    else
    if x3.Act = r5 then
     if x3.Val.Kind = (w64 (r5 + 1)) then
      if x3.Val.N = (w64 ((w64 (r5 + 1)) + 1)) then
       (yz x3.Val.S (w64 ((w64 ((w64 (r5 + 1)) + 1)) + 1))).bind fun r10 =>
       if r10 < 0 then
        some (.inl (-1))
       else
       (yI x3.Val.K r10).bind fun r12 =>
       if r12 < 0 then
        some (.inl (-1))
       else
       (wS x3.Val.L r12).bind fun r14 =>
       if r14 < 0 then
        some (.inl (-1))
       else
       (yI x3.Deps r14).bind fun r16 =>
       if r16 < 0 then
        some (.inl (-1))
       else
       xE a0 m r16 (w64 (v2 + 1))
      else
      some (.inl (-1))
     else
     some (.inl (-1))
    else
    some (.inl (-1))
   else
   some (.inl (-1))
  else
  some (.inr (a1, v2))
theorem Ju (a0 : (List GEvent)) (m : Nat) : ∀ (a1 : Int) (v2 : Int), Ol (xE a0 m a1 v2) 101 (zI Tryz.f101 0) ⟨[(0, vq zy a0), (1, vi a1), (5, vi v2)], [], 0⟩ fun o => match o with | .inl o_0 => (.ret, ⟨[(4, vi o_0)], [], 0⟩) | .inr (⟨o_1_0, o_1_1⟩) => (.exit 0, ⟨[(0, vq zy a0), (1, vi o_1_0), (5, vi o_1_1), (9, vb false)], [], 0⟩) := by
  induction m with
  | zero => intro a1 v2 o h; cases h
  | succ m ih => exact fun a1 v2 => tlp (
   .le zy a0 <|
   .lI v2 (a0.length : Int) (fun c1 =>
    .na v2 fun i2 =>
    .ix qG a0 i2 fun x3 =>
    .eI x3.Kind a1 (fun c4 =>
     .ag 1 <|
     .ag 0 <|
     .cl (xO x3.Addr (w64 (a1 + 1))) fun r5 =>
     .lI r5 0 (fun c6 =>
      .ret (.inl (-1))) fun c6 =>
     .ag 2 <|
     .ag 1 <|
     .eI x3.Act r5 (fun c7 =>
      .ag 2 <|
      .ag 1 <|
      .eI x3.Val.Kind (w64 (r5 + 1)) (fun c8 =>
       .ag 2 <|
       .ag 1 <|
       .eI x3.Val.N (w64 ((w64 (r5 + 1)) + 1)) (fun c9 =>
        .ag 2 <|
        .ag 1 <|
        .cl (xO x3.Val.S (w64 ((w64 ((w64 (r5 + 1)) + 1)) + 1))) fun r10 =>
        .lI r10 0 (fun c11 =>
         .ret (.inl (-1))) fun c11 =>
        .ag 3 <|
        .ag 2 <|
        .cl (qF x3.Val.K r10) fun r12 =>
        .lI r12 0 (fun c13 =>
         .ret (.inl (-1))) fun c13 =>
        .ag 4 <|
        .ag 3 <|
        .cl (XO x3.Val.L r12) fun r14 =>
        .lI r14 0 (fun c15 =>
         .ret (.inl (-1))) fun c15 =>
        .ag 5 <|
        .ag 4 <|
        .cl (qF x3.Deps r14) fun r16 =>
        .lI r16 0 (fun c17 =>
         .ret (.inl (-1))) fun c17 =>
        .go (ih r16 (w64 (v2 + 1)))) fun c9 =>
       .ret (.inl (-1))) fun c8 =>
      .ret (.inl (-1))) fun c7 =>
     .ret (.inl (-1))) fun c4 =>
    .ret (.inl (-1))) fun c1 =>
   .ret (.inr (a1, v2)))
def ZX (n : Nat) (a0 : (List GEvent)) (a1 : Int) : Option Int :=
 (xE a0 n a1 0).bind fun o1 =>
 match o1 with
 | .inl o1_0 =>
  some o1_0
 | .inr (⟨o1_1_0, o1_1_1⟩) =>
  some o1_1_0
theorem RQ (n : Nat) : Wu (ZX n) := fun a0 a1 => tc (
 .l2 (Ju a0 n a1 0) (fun o1_0 =>
  .ret o1_0) fun ⟨o1_1_0, o1_1_1⟩ =>
 .ret o1_1_0) (zf Tryz.func101)
theorem Pj {a : List GEvent} : ∀ (l p : List GEvent) (k : Int) (m : Nat), a = p ++ l → vR k l = l → 0 <= k → k + 4 * zX l <= 2 ^ 40 → p.length + l.length <= 2 ^ 40 → l.length < m → ∃ z, xE a m k (p.length : Int) = some (.inr (k + jZ l, z)) := by
 intro l
 induction l with
 | nil =>
  intro p k m ha _ _ _ _ hm
  subst ha
  obtain ⟨m, rfl, _⟩ := zg hm
  exact ⟨_, by rw [xE, if_neg (wc p)]; simp [jZ]; rfl⟩
 | cons x l ih =>
  intro p k m ha hm0 h0 h1 h2 hm
  obtain ⟨m, rfl, hm'⟩ := zg hm
  simp only [List.length_cons] at h2 hm'
  have hc := N0 x
  rw [vR] at hm0
  obtain ⟨e1, e2⟩ := List.cons.inj hm0
  simp only [zX] at h1
  obtain ⟨z, hz⟩ := ih (p ++ [x]) (k + cEv x) m (by rw [ha]; simp) e2 (by omega) (by omega) (by simp; omega) (by omega)
  refine ⟨z, ?_⟩
  rw [xE, if_pos (by rw [ha]; exact vE p x l), zb, Option.bind_some, show a[p.length]? = some x by rw [ha]; exact zF p x l, Option.bind_some, y4 p x (by omega)]
  have hcv := W9 x.Val
  have hcd := ju x.Deps
  have hve := xH x.Val
  have hcq := Pp x.Val
  have hb := ju x.Val.K
  have hd := XP x.Val.L
  have hcE : cEv x = x.Addr.length + cV x.Val + cB x.Deps + 2 := rfl
  unfold xf at h1 hc
  have f0 : k = x.Kind := congrArg GEvent.Kind e1
  have f1 : mB (k + 1) x.Addr = x.Addr := congrArg GEvent.Addr e1
  have f2 : k + 1 + x.Addr.length = x.Act := congrArg GEvent.Act e1
  have f3 : mV (k + 1 + x.Addr.length + 1) x.Val = x.Val := congrArg GEvent.Val e1
  have f4 : mBB (k + 1 + x.Addr.length + 1 + cV x.Val) x.Deps = x.Deps := congrArg GEvent.Deps e1
  rw [Pq] at f3
  have g1 : x.Val.Kind = k + 1 + x.Addr.length + 1 := (congrArg GValue.Kind f3).symm
  have g2 : x.Val.N = k + 1 + x.Addr.length + 1 + 1 := (congrArg GValue.N f3).symm
  have g3 : mB (k + 1 + x.Addr.length + 1 + 1 + 1) x.Val.S = x.Val.S := congrArg GValue.S f3
  have g4 : mBB (k + 1 + x.Addr.length + 1 + 1 + 1 + x.Val.S.length) x.Val.K = x.Val.K := congrArg GValue.K f3
  have g5 : mVs (k + 1 + x.Addr.length + 1 + 1 + 1 + x.Val.S.length + cB x.Val.K) x.Val.L = x.Val.L := congrArg GValue.L f3
  have e6 : k + 1 + (x.Addr.length : Int) + 1 + 1 + 1 + (x.Val.S.length : Int) + (cB x.Val.K : Int) + (cVs x.Val.L : Int) = k + 1 + (x.Addr.length : Int) + 1 + (cV x.Val : Int) := by omega
  rw [if_pos f0.symm, zV (x := k + 1) (by omega) (by omega), js f1 (by omega) (by omega), Option.bind_some, if_neg (by omega), if_pos f2.symm, zV (x := k + 1 + (x.Addr.length : Int) + 1) (by omega) (by omega), if_pos g1,
   zV (x := k + 1 + (x.Addr.length : Int) + 1 + 1) (by omega) (by omega), if_pos g2, zV (x := k + 1 + (x.Addr.length : Int) + 1 + 1 + 1) (by omega) (by omega), js g3 (by omega) (by omega), Option.bind_some, if_neg (by omega), vD g4 (by omega) (by omega), Option.bind_some, if_neg (by omega), K0 g5 (by omega) (by omega), Option.bind_some, if_neg (by omega), e6, vD f4 (by omega) (by omega), Option.bind_some, if_neg (by omega),
   show k + 1 + (x.Addr.length : Int) + 1 + (cV x.Val : Int) + (cB x.Deps : Int) = k + ((cEv x : Nat) : Int) by omega, hz]
  simp only [jZ]
  rw [show k + ((cEv x : Nat) : Int) + (jZ l : Int) = k + ((cEv x + jZ l : Nat) : Int) by omega]
open Classical in
noncomputable def ja (a0 : (List GEvent)) (a1 : Int) : Option Int := if vR a1 a0 = a0 ∧ 0 <= a1 ∧ a1 + 4 * zX a0 <= 2 ^ 40 then some (a1 + jZ a0) else none
theorem LA {a : Int} {s : List GEvent} (h : vR a s = s) (h0 : 0 <= a) (h1 : a + 4 * zX s <= 2 ^ 40) : ja s a = some (a + jZ s) := if_pos ⟨h, h0, h1⟩
theorem JZ (a0 : (List GEvent)) (a1 : Int) (r : Int) (h : ja a0 a1 = some r) : ∃ n, ZX n a0 a1 = some r := by
 unfold ja at h
 obtain ⟨⟨he, h0, h1⟩, h⟩ := zB h
 have := jQ a0
 obtain ⟨z, hz⟩ := Pj (a := a0) a0 [] a1 (a0.length + 1) rfl he h0 h1 (by simp; omega) (by omega)
 refine ⟨a0.length + 1, ?_⟩
 unfold ZX
 simp only [List.length_nil, Int.natCast_zero] at hz
 rw [hz]
 exact h
theorem VT : Wu ja := fun a0 a1 r h => (JZ a0 a1 r h).elim fun n hn => RQ n a0 a1 r hn
def jN (a0 : GHistory) (a1 : Int) : Option Int :=
 (Yx a0.Base a1).bind fun r1 =>
 if r1 < 0 then
  some (-1)
 else
 (ja a0.Events r1).bind fun r3 =>
 if r3 < 0 then
  some (-1)
 else
 some r3
theorem KR (a0 : GHistory) (a1 : Int) : Oc (jN a0 a1) 43 [] [.val true (yj a0), vi a1] fun r => (vi r, []) := tc (
 .cl (RP a0.Base a1) fun r1 =>
 .lI r1 0 (fun c2 =>
  .ret (-1)) fun c2 =>
 .cl (VT a0.Events r1) fun r3 =>
 .lI r3 0 (fun c4 =>
  .ret (-1)) fun c4 =>
 .ret r3) (zf Tryz.func43)
def j4 (a0 : GHistory) (a1 : Int) : Option Bool :=
 (kZ a0 1048576).bind fun r1 =>
 if r1 < 0 then
  some true
 else
 (va a0).bind fun r3 =>
 (vd r3 a1).bind fun r4 =>
 (vk r3 a1).bind fun r5 =>
 (jr r5 r4).bind fun r6 =>
 match r6 with
 | true =>
  (jr r3 r3).bind fun r7 =>
  match r7 with
  | true =>
   (xq r3.Base.Serial r3.Base.Open r3.Base.Act r3.Safe 1 r3.Base.Pending r3.Base.Entries r3.Events).bind fun ⟨r8_0, r8_1, r8_2, r8_3⟩ =>
   if r8_0 < 0 then
    none
   else
   (xq r5.Base.Serial r5.Base.Open r5.Base.Act r5.Safe 1 r5.Base.Pending r5.Base.Entries r5.Events).bind fun ⟨r10_0, r10_1, r10_2, r10_3⟩ =>
   (jN (GHistory.mk (GState.mk r5.Base.Serial r5.Base.Open r10_1 r5.Base.Act r10_2) r10_3 r5.Safe) 1).bind fun r11 =>
   if r11 < 0 then
    none
   else
   if r11 = r10_0 then
    some true
   else
   none
  | false =>
   none
 | false =>
  none
theorem ok_laws_FnExactHistCrash (a0 : GHistory) (a1 : Int) : Oc (j4 a0 a1) 10 [] [.val true (yj a0), vi a1] fun r => (vb r, []) := tc (
 .cl (Rr a0 1048576) fun r1 =>
 .lI r1 0 (fun c2 =>
  .ret true) fun c2 =>
 .cl (Ru a0) fun r3 =>
 .vw zN r3.Base.Pending <|
 .vo ya r3.Base.Entries <|
 .vo yt r3.Events <|
 .cl (R6 r3 a1) fun r4 =>
 .cn jz r4.Base.Pending <|
 .cn ya r4.Base.Entries <|
 .cn yt r4.Events <|
 .ag 1 <|
 .vw zN r3.Base.Pending <|
 .vo ya r3.Base.Entries <|
 .vo yt r3.Events <|
 .cl (RE r3 a1) fun r5 =>
 .cn jz r5.Base.Pending <|
 .cn ya r5.Base.Entries <|
 .cn yt r5.Events <|
 .vw zN r5.Base.Pending <|
 .vo ya r5.Base.Entries <|
 .vo yt r5.Events <|
 .vw zN r4.Base.Pending <|
 .vo ya r4.Base.Entries <|
 .vo yt r4.Events <|
 .cl (Wo r5 r4) fun r6 =>
 .vN 0 r6 (
  .ag 4 <|
  .vw zN r3.Base.Pending <|
  .vo ya r3.Base.Entries <|
  .vo yt r3.Events <|
  .vw zN r3.Base.Pending <|
  .vo ya r3.Base.Entries <|
  .vo yt r3.Events <|
  .cl (Wo r3 r3) fun r7 =>
  .vN 0 r7 (
   .cl (Xi r3.Base.Serial r3.Base.Open r3.Base.Act r3.Safe 1 r3.Base.Pending r3.Base.Entries r3.Events) fun ⟨r8_0, r8_1, r8_2, r8_3⟩ =>
   .lI r8_0 0 (fun c9 =>
    .no) fun c9 =>
   .vw zN r5.Base.Pending <|
   .vo ya r5.Base.Entries <|
   .vo yt r5.Events <|
   .vw zN r4.Base.Pending <|
   .vo ya r4.Base.Entries <|
   .vo yt r4.Events <|
   .ag 4 <|
   .an 2 3 <|
   .cl (Xi r5.Base.Serial r5.Base.Open r5.Base.Act r5.Safe 1 r5.Base.Pending r5.Base.Entries r5.Events) fun ⟨r10_0, r10_1, r10_2, r10_3⟩ =>
   .vw zN r10_1 <|
   .vo ya r10_2 <|
   .vo yt r10_3 <|
   .cl (KR (GHistory.mk (GState.mk r5.Base.Serial r5.Base.Open r10_1 r5.Base.Act r10_2) r10_3 r5.Safe) 1) fun r11 =>
   .lI r11 0 (fun c12 =>
    .no) fun c12 =>
   .eI r11 r10_0 (fun c13 =>
    .ag 9 <|
    .vw zN r3.Base.Pending <|
    .vo ya r3.Base.Entries <|
    .vo yt r3.Events <|
    .ag 7 <|
    .cn jz r5.Base.Pending <|
    .cn ya r5.Base.Entries <|
    .cn yt r5.Events <|
    .vw zN r5.Base.Pending <|
    .vo ya r5.Base.Entries <|
    .vo yt r5.Events <|
    .vw zN r4.Base.Pending <|
    .vo ya r4.Base.Entries <|
    .vo yt r4.Events <|
    .ag 6 <|
    .an 0 5 <|
    .vw zN r10_1 <|
    .vo ya r10_2 <|
    .vo yt r10_3 <|
    .ag 0 <|
    .q (.lF c12) <|
    .q (.eT c13) <|
    .ret true) fun c13 =>
   .no) <|
  .no) <|
 .no) (zf Tryz.func10)
end
end Go.Am.Try
