/- The functions of the program in plain Lean, and that the machine answers as they do; conditions at each theorem. -/
import Derived.Test.YtfbfbebalpnkbaaJG2
set_option linter.unusedVariables false
set_option linter.unusedSimpArgs false
namespace Go.Am.Try
open Go.Am Go.Proofs
set_option linter.unusedVariables false
set_option maxRecDepth 20000
set_option maxHeartbeats 2000000
noncomputable section
def wT (F : Int → (List GValue) → Option (Int × (List GValue))) : Prop := ∀ (a0 : Int) (e0 : (List GValue)), Oc (F a0 e0) 52 [.obj 5 (eL zk e0)] [vr 0, vi a0] fun r => (vi r.1, [.obj 5 (eL zk r.2)])
def xl (G_laws_markValueS : Int → (List GValue) → Option (Int × (List GValue))) : Nat → Int → Int → (List GValue) → Option (Int × Int × (List GValue))
  | 0, _, _, _ => none
  | m + 1, a0, v1, e0 =>
  if v1 < (e0.length : Int) then
   (zD v1).bind fun i2 =>
   (e0[i2]?).bind fun x3 =>
   ((e0.set i2 (GValue.mk a0 x3.N x3.S x3.K x3.L))[i2]?).bind fun x4 =>
   (((e0.set i2 (GValue.mk a0 x3.N x3.S x3.K x3.L)).set i2 (GValue.mk x4.Kind (w64 (a0 + 1)) x4.S x4.K x4.L))[i2]?).bind fun x5 =>
   (yz (w64 ((w64 (a0 + 1)) + 1)) x5.S).bind fun ⟨r6_0, r6_1⟩ =>
   ((((e0.set i2 (GValue.mk a0 x3.N x3.S x3.K x3.L)).set i2 (GValue.mk x4.Kind (w64 (a0 + 1)) x4.S x4.K x4.L)).set i2 (GValue.mk x5.Kind x5.N r6_1 x5.K x5.L))[i2]?).bind fun x7 =>
   (yR r6_0 x7.K).bind fun ⟨r8_0, r8_1⟩ =>
   (((((e0.set i2 (GValue.mk a0 x3.N x3.S x3.K x3.L)).set i2 (GValue.mk x4.Kind (w64 (a0 + 1)) x4.S x4.K x4.L)).set i2 (GValue.mk x5.Kind x5.N r6_1 x5.K x5.L)).set i2 (GValue.mk x7.Kind x7.N x7.S r8_1 x7.L))[i2]?).bind fun x9 =>
   (G_laws_markValueS r8_0 x9.L).bind fun ⟨r10_0, r10_1⟩ =>
   xl G_laws_markValueS m r10_0 (w64 (v1 + 1)) (((((e0.set i2 (GValue.mk a0 x3.N x3.S x3.K x3.L)).set i2 (GValue.mk x4.Kind (w64 (a0 + 1)) x4.S x4.K x4.L)).set i2 (GValue.mk x5.Kind x5.N r6_1 x5.K x5.L)).set i2 (GValue.mk x7.Kind x7.N x7.S r8_1 x7.L)).set i2 (GValue.mk x9.Kind x9.N x9.S x9.K r10_1))
  else
  some (a0, v1, e0)
theorem XE (G_laws_markValueS : Int → (List GValue) → Option (Int × (List GValue))) (H_laws_markValueS : wT G_laws_markValueS) (m : Nat) : ∀ (a0 : Int) (v1 : Int) (e0 : (List GValue)), Ol (xl G_laws_markValueS m a0 v1 e0) 52 (yg Try.f52 0) ⟨[(0, vr 0), (1, vi a0), (5, vi v1)], [.obj 5 (eL zk e0)], 1⟩ fun o => match o with | ⟨o_0, o_1, o_2⟩ => (.exit 0, ⟨[(0, vr 0), (1, vi o_0), (5, vi o_1), (9, vb false)], [.obj 5 (eL zk o_2)], 1⟩) := by
  induction m with
  | zero => intro a0 v1 e0 o h; cases h
  | succ m ih => exact fun a0 v1 e0 => tlp (
   .le zk e0 <|
   .lI v1 (e0.length : Int) (fun c1 =>
    .na v1 fun i2 =>
    .ix ym e0 i2 fun x3 =>
    .ag 0 <|
    .sl (ym (GValue.mk a0 x3.N x3.S x3.K x3.L)) e0 i2 <|
    .ag 1 <|
    .ix ym (e0.set i2 (GValue.mk a0 x3.N x3.S x3.K x3.L)) i2 fun x4 =>
    .ag 0 <|
    .sl (ym (GValue.mk x4.Kind (w64 (a0 + 1)) x4.S x4.K x4.L)) (e0.set i2 (GValue.mk a0 x3.N x3.S x3.K x3.L)) i2 <|
    .ag 2 <|
    .ix ym ((e0.set i2 (GValue.mk a0 x3.N x3.S x3.K x3.L)).set i2 (GValue.mk x4.Kind (w64 (a0 + 1)) x4.S x4.K x4.L)) i2 fun x5 =>
    .ag 0 <|
    .cl (wh (w64 ((w64 (a0 + 1)) + 1)) x5.S) fun ⟨r6_0, r6_1⟩ =>
    .ag 1 <|
    .sl (ym (GValue.mk x5.Kind x5.N r6_1 x5.K x5.L)) ((e0.set i2 (GValue.mk a0 x3.N x3.S x3.K x3.L)).set i2 (GValue.mk x4.Kind (w64 (a0 + 1)) x4.S x4.K x4.L)) i2 <|
    .ag 4 <|
    .ix ym (((e0.set i2 (GValue.mk a0 x3.N x3.S x3.K x3.L)).set i2 (GValue.mk x4.Kind (w64 (a0 + 1)) x4.S x4.K x4.L)).set i2 (GValue.mk x5.Kind x5.N r6_1 x5.K x5.L)) i2 fun x7 =>
    .ag 0 <|
    .cl (qK r6_0 x7.K) fun ⟨r8_0, r8_1⟩ =>
    .ag 1 <|
    .sl (ym (GValue.mk x7.Kind x7.N x7.S r8_1 x7.L)) (((e0.set i2 (GValue.mk a0 x3.N x3.S x3.K x3.L)).set i2 (GValue.mk x4.Kind (w64 (a0 + 1)) x4.S x4.K x4.L)).set i2 (GValue.mk x5.Kind x5.N r6_1 x5.K x5.L)) i2 <|
    .ag 6 <|
    .ix ym ((((e0.set i2 (GValue.mk a0 x3.N x3.S x3.K x3.L)).set i2 (GValue.mk x4.Kind (w64 (a0 + 1)) x4.S x4.K x4.L)).set i2 (GValue.mk x5.Kind x5.N r6_1 x5.K x5.L)).set i2 (GValue.mk x7.Kind x7.N x7.S r8_1 x7.L)) i2 fun x9 =>
    .ag 0 <|
    .cl (H_laws_markValueS r8_0 x9.L) fun ⟨r10_0, r10_1⟩ =>
    .ag 1 <|
    .sl (ym (GValue.mk x9.Kind x9.N x9.S x9.K r10_1)) ((((e0.set i2 (GValue.mk a0 x3.N x3.S x3.K x3.L)).set i2 (GValue.mk x4.Kind (w64 (a0 + 1)) x4.S x4.K x4.L)).set i2 (GValue.mk x5.Kind x5.N r6_1 x5.K x5.L)).set i2 (GValue.mk x7.Kind x7.N x7.S r8_1 x7.L)) i2 <|
    .go (ih r10_0 (w64 (v1 + 1)) (((((e0.set i2 (GValue.mk a0 x3.N x3.S x3.K x3.L)).set i2 (GValue.mk x4.Kind (w64 (a0 + 1)) x4.S x4.K x4.L)).set i2 (GValue.mk x5.Kind x5.N r6_1 x5.K x5.L)).set i2 (GValue.mk x7.Kind x7.N x7.S r8_1 x7.L)).set i2 (GValue.mk x9.Kind x9.N x9.S x9.K r10_1)))) fun c1 =>
   .ret (a0, v1, e0))
def kP (G_laws_markValueS : Int → (List GValue) → Option (Int × (List GValue))) (n : Nat) (a0 : Int) (e0 : (List GValue)) : Option (Int × (List GValue)) :=
 (xl G_laws_markValueS n a0 0 e0).bind fun ⟨o1_0, o1_1, o1_2⟩ =>
 some (o1_0, o1_2)
theorem Jz (G_laws_markValueS : Int → (List GValue) → Option (Int × (List GValue))) (H_laws_markValueS : wT G_laws_markValueS) (n : Nat) : wT (kP G_laws_markValueS n) := fun a0 e0 => tc (
 .lp (XE G_laws_markValueS H_laws_markValueS n a0 0 e0) fun ⟨o1_0, o1_1, o1_2⟩ =>
 .ret (o1_0, o1_2)) (zx Try.func52)
def y9 : Nat → Int → (List GValue) → Option (Int × (List GValue))
 | 0, _, _ => none
 | n + 1, a0, e0 => kP (y9 n) n a0 e0
theorem WY (n : Nat) : wT (y9 n) := by
 induction n with
 | zero => exact fun _ _ _ h => (by rw [y9] at h; cases h)
 | succ n ih =>
  have ih_laws_markValueS := ih
  exact fun a0 e0 r h => Jz (y9 n) ih_laws_markValueS n a0 e0 r (by rw [y9] at h; exact h)
theorem Vt {G : Int → List GValue → Option (Int × List GValue)} : ∀ (l p : List GValue) (k : Int) (m : Nat), (∀ v ∈ l, ∀ i : Int, 0 <= i → i + 2 * yu v.L <= 2 ^ 41 → G i v.L = some (i + cVs v.L, mVs i v.L)) → 0 <= k → k + 2 * yu l <= 2 ^ 41 → p.length + l.length <= 2 ^ 41 → l.length < m → ∃ z, xl G m k (p.length : Int) (p ++ l) = some (k + cVs l, z, p ++ mVs k l) := by
 intro l
 induction l with
 | nil =>
  intro p k m _ _ _ _ hm
  obtain ⟨m, rfl, _⟩ := zg hm
  exact ⟨_, by rw [xl, if_neg (wl p)]; simp [mVs, cVs]; rfl⟩
 | cons x l ih =>
  intro p k m hG h0 h1 h2 hm
  obtain ⟨m, rfl, hm'⟩ := zg hm
  simp only [List.length_cons] at h2 hm'
  have hx := hG x List.mem_cons_self
  have hc := W7 x
  obtain ⟨kd, n, s, kk, ks⟩ := x
  have hb := ZG kk
  have hd := YK ks
  simp only [yu, vsz] at h1
  simp only [cV, vsz] at hc
  simp only [GValue.L] at hx
  obtain ⟨z, hz⟩ := ih (p ++ [mV k (.mk kd n s kk ks)]) (k + cV (.mk kd n s kk ks)) m (fun v hv => hG v (List.mem_cons_of_mem _ hv)) (by omega) (by simp only [cV]; omega) (by simp; omega) (by omega)
  rw [xl, if_pos (kw p _ l), zd, Option.bind_some, zy, Option.bind_some]
  simp only [wB, zy, Option.bind_some, GValue.Kind, GValue.N, GValue.S, GValue.K, GValue.L]
  rw [yo (x := k + 1) (by omega) (by omega), yo (x := k + 1 + 1) (by omega) (by omega), je (by omega) (by omega)]
  simp only [Option.bind_some, wB, zy, GValue.Kind, GValue.N, GValue.S, GValue.K, GValue.L]
  rw [vf (by omega) (by omega)]
  simp only [Option.bind_some, wB, zy, GValue.Kind, GValue.N, GValue.S, GValue.K, GValue.L]
  rw [hx _ (by omega) (by omega)]
  simp only [Option.bind_some, wB, zy, GValue.Kind, GValue.N, GValue.S, GValue.K, GValue.L]
  refine ⟨z, ?_⟩
  rw [yt p (mV k (.mk kd n s kk ks)) (by omega), show GValue.mk k (k + 1) (mB (k + 1 + 1) s) (mBB (k + 1 + 1 + s.length) kk) (mVs (k + 1 + 1 + s.length + cB kk) ks) = mV k (.mk kd n s kk ks) by simp only [mV], Zv p _ l,
   show k + 1 + 1 + (s.length : Int) + (cB kk : Int) + (cVs ks : Int) = k + ((cV (.mk kd n s kk ks) : Nat) : Int) by simp only [cV]; omega, hz]
  simp only [mVs, cVs, List.append_assoc, List.singleton_append]
  rw [show k + ((cV (.mk kd n s kk ks) : Nat) : Int) + (cVs l : Int) = k + ((cV (.mk kd n s kk ks) + cVs l : Nat) : Int) by omega]
theorem Pb : ∀ (N : Nat) (l : List GValue), yu l < N → ∀ (k : Int) (f : Nat), 0 <= k → k + 2 * yu l <= 2 ^ 41 → yu l + 2 <= f → y9 f k l = some (k + cVs l, mVs k l) := by
 intro N
 induction N with
 | zero => intro l hl; omega
 | succ N ih =>
  intro l hl k f h0 h1 hf
  obtain ⟨f, rfl, _⟩ := zg (show 0 < f by omega)
  have hlen := y0 l
  rw [y9]
  unfold kP
  obtain ⟨z, hz⟩ := Vt (G := y9 f) l [] k f (fun v hv i g0 g1 => by
   have := yw hv
   have := y8 v
   exact ih v.L (by omega) i f g0 g1 (by omega)) h0 h1 (by simp; omega) (by omega)
  simp only [List.nil_append, List.length_nil, Int.natCast_zero] at hz
  rw [hz]; rfl
def xq (a0 : Int) (e0 : (List GValue)) : Option (Int × (List GValue)) := if 0 <= a0 ∧ a0 + 2 * yu e0 <= 2 ^ 41 then some (a0 + cVs e0, mVs a0 e0) else none
theorem ZW {a : Int} {s : List GValue} (h0 : 0 <= a) (h1 : a + 2 * yu s <= 2 ^ 41) : xq a s = some (a + cVs s, mVs a s) := if_pos ⟨h0, h1⟩
theorem Ww (a0 : Int) (e0 : (List GValue)) (r : (Int × (List GValue))) (h : xq a0 e0 = some r) : ∃ n, y9 n a0 e0 = some r := by
 unfold xq at h
 obtain ⟨⟨h0, h1⟩, h⟩ := yd h
 exact ⟨yu e0 + 2, by rw [Pb _ e0 (Nat.lt_succ_self _) a0 _ h0 h1 (Nat.le_refl _), h]⟩
theorem kl : wT xq := by
 intro a0 e0 r h
 obtain ⟨n, hn⟩ := Ww a0 e0 r h
 exact (WY n) a0 e0 r hn
def yJ (a0_0 : Int) (a0_1 : Int) (a1 : Int) (e0 : (List UInt8)) (e1 : (List (List UInt8))) (e2 : (List GValue)) : Option (Int × (List UInt8) × (List (List UInt8)) × (List GValue)) :=
 (yz a1 e0).bind fun ⟨r1_0, r1_1⟩ =>
 (yR r1_0 e1).bind fun ⟨r2_0, r2_1⟩ =>
 (xq r2_0 e2).bind fun ⟨r3_0, r3_1⟩ =>
 some (r3_0, r1_1, r2_1, r3_1)
theorem qS (a0_0 : Int) (a0_1 : Int) (a1 : Int) (e0 : (List UInt8)) (e1 : (List (List UInt8))) (e2 : (List GValue)) : Oc (yJ a0_0 a0_1 a1 e0 e1 e2) 20 [.obj 1 (eL za e0), .obj 1 (eL (yf 1 za) e1), .obj 5 (eL zk e2)] [.val true [ci a0_0, ci a0_1, .ref 0, .ref 1, .ref 2], vi a1] fun r => (vi r.1, [.obj 1 (eL za r.2.1), .obj 1 (eL (yf 1 za) r.2.2.1), .obj 5 (eL zk r.2.2.2)]) := tc (
 .cl (wh a1 e0) fun ⟨r1_0, r1_1⟩ =>
 .cl (qK r1_0 e1) fun ⟨r2_0, r2_1⟩ =>
 .cl (kl r2_0 e2) fun ⟨r3_0, r3_1⟩ =>
 .ret (r3_0, r1_1, r2_1, r3_1)) (zx Try.func20)
def YD (F : Int → (List GStep) → Option (Int × (List GStep))) : Prop := ∀ (a0 : Int) (e0 : (List GStep)), Oc (F a0 e0) 53 [.obj 3 (eL wj e0)] [vr 0, vi a0] fun r => (vi r.1, [.obj 3 (eL wj r.2)])
def xC : Nat → Int → Int → (List GStep) → Option (Int × Int × (List GStep))
  | 0, _, _, _ => none
  | m + 1, a0, v1, e0 =>
  if v1 < (e0.length : Int) then
   (zD v1).bind fun i2 =>
   (e0[i2]?).bind fun x3 =>
   ((e0.set i2 (GStep.mk a0 x3.Key x3.I))[i2]?).bind fun x4 =>
   (yz (w64 (a0 + 1)) x4.Key).bind fun ⟨r5_0, r5_1⟩ =>
   (((e0.set i2 (GStep.mk a0 x3.Key x3.I)).set i2 (GStep.mk x4.Kind r5_1 x4.I))[i2]?).bind fun x6 =>
   xC m (w64 (r5_0 + 1)) (w64 (v1 + 1)) (((e0.set i2 (GStep.mk a0 x3.Key x3.I)).set i2 (GStep.mk x4.Kind r5_1 x4.I)).set i2 (GStep.mk x6.Kind x6.Key r5_0))
  else
  some (a0, v1, e0)
theorem Wx (m : Nat) : ∀ (a0 : Int) (v1 : Int) (e0 : (List GStep)), Ol (xC m a0 v1 e0) 53 (yg Try.f53 0) ⟨[(0, vr 0), (1, vi a0), (5, vi v1)], [.obj 3 (eL wj e0)], 1⟩ fun o => match o with | ⟨o_0, o_1, o_2⟩ => (.exit 0, ⟨[(0, vr 0), (1, vi o_0), (5, vi o_1), (9, vb false)], [.obj 3 (eL wj o_2)], 1⟩) := by
  induction m with
  | zero => intro a0 v1 e0 o h; cases h
  | succ m ih => exact fun a0 v1 e0 => tlp (
   .le wj e0 <|
   .lI v1 (e0.length : Int) (fun c1 =>
    .na v1 fun i2 =>
    .ix vG e0 i2 fun x3 =>
    .ag 0 <|
    .sl (vG (GStep.mk a0 x3.Key x3.I)) e0 i2 <|
    .ag 1 <|
    .ix vG (e0.set i2 (GStep.mk a0 x3.Key x3.I)) i2 fun x4 =>
    .ag 0 <|
    .cl (wh (w64 (a0 + 1)) x4.Key) fun ⟨r5_0, r5_1⟩ =>
    .ag 1 <|
    .sl (vG (GStep.mk x4.Kind r5_1 x4.I)) (e0.set i2 (GStep.mk a0 x3.Key x3.I)) i2 <|
    .ag 3 <|
    .ix vG ((e0.set i2 (GStep.mk a0 x3.Key x3.I)).set i2 (GStep.mk x4.Kind r5_1 x4.I)) i2 fun x6 =>
    .ag 0 <|
    .sl (vG (GStep.mk x6.Kind x6.Key r5_0)) ((e0.set i2 (GStep.mk a0 x3.Key x3.I)).set i2 (GStep.mk x4.Kind r5_1 x4.I)) i2 <|
    .go (ih (w64 (r5_0 + 1)) (w64 (v1 + 1)) (((e0.set i2 (GStep.mk a0 x3.Key x3.I)).set i2 (GStep.mk x4.Kind r5_1 x4.I)).set i2 (GStep.mk x6.Kind x6.Key r5_0)))) fun c1 =>
   .ret (a0, v1, e0))
def vt (n : Nat) (a0 : Int) (e0 : (List GStep)) : Option (Int × (List GStep)) :=
 (xC n a0 0 e0).bind fun ⟨o1_0, o1_1, o1_2⟩ =>
 some (o1_0, o1_2)
theorem Km (n : Nat) : YD (vt n) := fun a0 e0 => tc (
 .lp (Wx n a0 0 e0) fun ⟨o1_0, o1_1, o1_2⟩ =>
 .ret (o1_0, o1_2)) (zx Try.func53)
theorem R1 : ∀ (l p : List GStep) (k : Int) (m : Nat), 0 <= k → k + 4 * zT l <= 2 ^ 40 → p.length + l.length <= 2 ^ 40 → l.length < m → ∃ z, xC m k (p.length : Int) (p ++ l) = some (k + zo l, z, p ++ wo k l) := by
 intro l
 induction l with
 | nil =>
  intro p k m _ _ _ hm
  obtain ⟨m, rfl, _⟩ := zg hm
  exact ⟨_, by rw [xC, if_neg (wl p)]; simp [wo, zo]; rfl⟩
 | cons x l ih =>
  intro p k m h0 h1 h2 hm
  obtain ⟨m, rfl, hm'⟩ := zg hm
  simp only [List.length_cons] at h2 hm'
  simp only [zT, vy] at h1
  obtain ⟨z, hz⟩ := ih (p ++ [mSt k x]) (k + ((x.Key.length + 2 : Nat) : Int)) m (by omega) (by omega) (by simp; omega) (by omega)
  obtain ⟨kd, ky, i⟩ := x
  simp only [GStep.Key] at *
  rw [xC, if_pos (kw p _ l), zd, Option.bind_some, zy, Option.bind_some]
  simp only [wB, zy, Option.bind_some, GStep.Kind, GStep.Key, GStep.I]
  rw [yo (x := k + 1) (by omega) (by omega), je (by omega) (by omega)]
  simp only [Option.bind_some, wB, zy, GStep.Kind, GStep.Key, GStep.I]
  rw [yo (x := k + 1 + (ky.length : Int) + 1) (by omega) (by omega)]
  refine ⟨z, Eq.trans ?_ (Eq.trans hz ?_)⟩
  ·congr 1
   ·omega
   ·exact yt p (mSt k _) (by omega)
   ·rw [List.append_assoc, List.singleton_append]; rfl
  simp only [wo, zo, GStep.Key, List.append_assoc, List.singleton_append]
  rw [show k + ((ky.length + 2 : Nat) : Int) + (zo l : Int) = k + ((ky.length + 2 + zo l : Nat) : Int) by omega]
def qq (a0 : Int) (e0 : (List GStep)) : Option (Int × (List GStep)) := if 0 <= a0 ∧ a0 + 4 * zT e0 <= 2 ^ 40 then some (a0 + zo e0, wo a0 e0) else none
theorem Pc {a : Int} {s : List GStep} (h0 : 0 <= a) (h1 : a + 4 * zT s <= 2 ^ 40) : qq a s = some (a + zo s, wo a s) := if_pos ⟨h0, h1⟩
theorem WZ (a0 : Int) (e0 : (List GStep)) (r : (Int × (List GStep))) (h : qq a0 e0 = some r) : ∃ n, vt n a0 e0 = some r := by
 unfold qq at h
 obtain ⟨⟨h0, h1⟩, h⟩ := yd h
 have := wX e0
 obtain ⟨z, hz⟩ := R1 e0 [] a0 (e0.length + 1) h0 h1 (by simp; omega) (by omega)
 refine ⟨e0.length + 1, ?_⟩
 unfold vt
 simp only [List.nil_append, List.length_nil, Int.natCast_zero] at hz
 rw [hz]
 exact h
theorem J0 : YD qq := fun a0 e0 r h => (WZ a0 e0 r h).elim fun n hn => Km n a0 e0 r hn
def ZD (F : Int → (List GChange) → Option (Int × (List GChange))) : Prop := ∀ (a0 : Int) (e0 : (List GChange)), Oc (F a0 e0) 21 [.obj 13 (eL yp e0)] [vr 0, vi a0] fun r => (vi r.1, [.obj 13 (eL yp r.2)])
def yW : Nat → Int → Int → (List GChange) → Option (Int × Int × (List GChange))
  | 0, _, _, _ => none
  | m + 1, a0, v1, e0 =>
  if v1 < (e0.length : Int) then
   (zD v1).bind fun i2 =>
   (e0[i2]?).bind fun x3 =>
   (qq a0 x3.Path).bind fun ⟨r4_0, r4_1⟩ =>
   ((e0.set i2 (GChange.mk r4_1 x3.Had x3.Old x3.Has x3.New))[i2]?).bind fun x5 =>
   (((e0.set i2 (GChange.mk r4_1 x3.Had x3.Old x3.Has x3.New)).set i2 (GChange.mk x5.Path (decide ((r4_0.tmod 3) = 0)) x5.Old x5.Has x5.New))[i2]?).bind fun x6 =>
   ((((e0.set i2 (GChange.mk r4_1 x3.Had x3.Old x3.Has x3.New)).set i2 (GChange.mk x5.Path (decide ((r4_0.tmod 3) = 0)) x5.Old x5.Has x5.New)).set i2 (GChange.mk x6.Path x6.Had (GValue.mk (w64 (r4_0 + 1)) x6.Old.N x6.Old.S x6.Old.K x6.Old.L) x6.Has x6.New))[i2]?).bind fun x7 =>
   (((((e0.set i2 (GChange.mk r4_1 x3.Had x3.Old x3.Has x3.New)).set i2 (GChange.mk x5.Path (decide ((r4_0.tmod 3) = 0)) x5.Old x5.Has x5.New)).set i2 (GChange.mk x6.Path x6.Had (GValue.mk (w64 (r4_0 + 1)) x6.Old.N x6.Old.S x6.Old.K x6.Old.L) x6.Has x6.New)).set i2 (GChange.mk x7.Path x7.Had (GValue.mk x7.Old.Kind (w64 ((w64 (r4_0 + 1)) + 1)) x7.Old.S x7.Old.K x7.Old.L) x7.Has x7.New))[i2]?).bind fun x8 =>
   (yz (w64 ((w64 ((w64 (r4_0 + 1)) + 1)) + 1)) x8.Old.S).bind fun ⟨r9_0, r9_1⟩ =>
   ((((((e0.set i2 (GChange.mk r4_1 x3.Had x3.Old x3.Has x3.New)).set i2 (GChange.mk x5.Path (decide ((r4_0.tmod 3) = 0)) x5.Old x5.Has x5.New)).set i2 (GChange.mk x6.Path x6.Had (GValue.mk (w64 (r4_0 + 1)) x6.Old.N x6.Old.S x6.Old.K x6.Old.L) x6.Has x6.New)).set i2 (GChange.mk x7.Path x7.Had (GValue.mk x7.Old.Kind (w64 ((w64 (r4_0 + 1)) + 1)) x7.Old.S x7.Old.K x7.Old.L) x7.Has x7.New)).set i2 (GChange.mk x8.Path x8.Had (GValue.mk x8.Old.Kind x8.Old.N r9_1 x8.Old.K x8.Old.L) x8.Has x8.New))[i2]?).bind fun x10 =>
   (yR r9_0 x10.Old.K).bind fun ⟨r11_0, r11_1⟩ =>
   (((((((e0.set i2 (GChange.mk r4_1 x3.Had x3.Old x3.Has x3.New)).set i2 (GChange.mk x5.Path (decide ((r4_0.tmod 3) = 0)) x5.Old x5.Has x5.New)).set i2 (GChange.mk x6.Path x6.Had (GValue.mk (w64 (r4_0 + 1)) x6.Old.N x6.Old.S x6.Old.K x6.Old.L) x6.Has x6.New)).set i2 (GChange.mk x7.Path x7.Had (GValue.mk x7.Old.Kind (w64 ((w64 (r4_0 + 1)) + 1)) x7.Old.S x7.Old.K x7.Old.L) x7.Has x7.New)).set i2 (GChange.mk x8.Path x8.Had (GValue.mk x8.Old.Kind x8.Old.N r9_1 x8.Old.K x8.Old.L) x8.Has x8.New)).set i2 (GChange.mk x10.Path x10.Had (GValue.mk x10.Old.Kind x10.Old.N x10.Old.S r11_1 x10.Old.L) x10.Has x10.New))[i2]?).bind fun x12 =>
   (xq r11_0 x12.Old.L).bind fun ⟨r13_0, r13_1⟩ =>
   ((((((((e0.set i2 (GChange.mk r4_1 x3.Had x3.Old x3.Has x3.New)).set i2 (GChange.mk x5.Path (decide ((r4_0.tmod 3) = 0)) x5.Old x5.Has x5.New)).set i2 (GChange.mk x6.Path x6.Had (GValue.mk (w64 (r4_0 + 1)) x6.Old.N x6.Old.S x6.Old.K x6.Old.L) x6.Has x6.New)).set i2 (GChange.mk x7.Path x7.Had (GValue.mk x7.Old.Kind (w64 ((w64 (r4_0 + 1)) + 1)) x7.Old.S x7.Old.K x7.Old.L) x7.Has x7.New)).set i2 (GChange.mk x8.Path x8.Had (GValue.mk x8.Old.Kind x8.Old.N r9_1 x8.Old.K x8.Old.L) x8.Has x8.New)).set i2 (GChange.mk x10.Path x10.Had (GValue.mk x10.Old.Kind x10.Old.N x10.Old.S r11_1 x10.Old.L) x10.Has x10.New)).set i2 (GChange.mk x12.Path x12.Had (GValue.mk x12.Old.Kind x12.Old.N x12.Old.S x12.Old.K r13_1) x12.Has x12.New))[i2]?).bind fun x14 =>
   (((((((((e0.set i2 (GChange.mk r4_1 x3.Had x3.Old x3.Has x3.New)).set i2 (GChange.mk x5.Path (decide ((r4_0.tmod 3) = 0)) x5.Old x5.Has x5.New)).set i2 (GChange.mk x6.Path x6.Had (GValue.mk (w64 (r4_0 + 1)) x6.Old.N x6.Old.S x6.Old.K x6.Old.L) x6.Has x6.New)).set i2 (GChange.mk x7.Path x7.Had (GValue.mk x7.Old.Kind (w64 ((w64 (r4_0 + 1)) + 1)) x7.Old.S x7.Old.K x7.Old.L) x7.Has x7.New)).set i2 (GChange.mk x8.Path x8.Had (GValue.mk x8.Old.Kind x8.Old.N r9_1 x8.Old.K x8.Old.L) x8.Has x8.New)).set i2 (GChange.mk x10.Path x10.Had (GValue.mk x10.Old.Kind x10.Old.N x10.Old.S r11_1 x10.Old.L) x10.Has x10.New)).set i2 (GChange.mk x12.Path x12.Had (GValue.mk x12.Old.Kind x12.Old.N x12.Old.S x12.Old.K r13_1) x12.Has x12.New)).set i2 (GChange.mk x14.Path x14.Had x14.Old (decide ((r13_0.tmod 3) = 0)) x14.New))[i2]?).bind fun x15 =>
   ((((((((((e0.set i2 (GChange.mk r4_1 x3.Had x3.Old x3.Has x3.New)).set i2 (GChange.mk x5.Path (decide ((r4_0.tmod 3) = 0)) x5.Old x5.Has x5.New)).set i2 (GChange.mk x6.Path x6.Had (GValue.mk (w64 (r4_0 + 1)) x6.Old.N x6.Old.S x6.Old.K x6.Old.L) x6.Has x6.New)).set i2 (GChange.mk x7.Path x7.Had (GValue.mk x7.Old.Kind (w64 ((w64 (r4_0 + 1)) + 1)) x7.Old.S x7.Old.K x7.Old.L) x7.Has x7.New)).set i2 (GChange.mk x8.Path x8.Had (GValue.mk x8.Old.Kind x8.Old.N r9_1 x8.Old.K x8.Old.L) x8.Has x8.New)).set i2 (GChange.mk x10.Path x10.Had (GValue.mk x10.Old.Kind x10.Old.N x10.Old.S r11_1 x10.Old.L) x10.Has x10.New)).set i2 (GChange.mk x12.Path x12.Had (GValue.mk x12.Old.Kind x12.Old.N x12.Old.S x12.Old.K r13_1) x12.Has x12.New)).set i2 (GChange.mk x14.Path x14.Had x14.Old (decide ((r13_0.tmod 3) = 0)) x14.New)).set i2 (GChange.mk x15.Path x15.Had x15.Old x15.Has (GValue.mk (w64 (r13_0 + 1)) x15.New.N x15.New.S x15.New.K x15.New.L)))[i2]?).bind fun x16 =>
   (((((((((((e0.set i2 (GChange.mk r4_1 x3.Had x3.Old x3.Has x3.New)).set i2 (GChange.mk x5.Path (decide ((r4_0.tmod 3) = 0)) x5.Old x5.Has x5.New)).set i2 (GChange.mk x6.Path x6.Had (GValue.mk (w64 (r4_0 + 1)) x6.Old.N x6.Old.S x6.Old.K x6.Old.L) x6.Has x6.New)).set i2 (GChange.mk x7.Path x7.Had (GValue.mk x7.Old.Kind (w64 ((w64 (r4_0 + 1)) + 1)) x7.Old.S x7.Old.K x7.Old.L) x7.Has x7.New)).set i2 (GChange.mk x8.Path x8.Had (GValue.mk x8.Old.Kind x8.Old.N r9_1 x8.Old.K x8.Old.L) x8.Has x8.New)).set i2 (GChange.mk x10.Path x10.Had (GValue.mk x10.Old.Kind x10.Old.N x10.Old.S r11_1 x10.Old.L) x10.Has x10.New)).set i2 (GChange.mk x12.Path x12.Had (GValue.mk x12.Old.Kind x12.Old.N x12.Old.S x12.Old.K r13_1) x12.Has x12.New)).set i2 (GChange.mk x14.Path x14.Had x14.Old (decide ((r13_0.tmod 3) = 0)) x14.New)).set i2 (GChange.mk x15.Path x15.Had x15.Old x15.Has (GValue.mk (w64 (r13_0 + 1)) x15.New.N x15.New.S x15.New.K x15.New.L))).set i2 (GChange.mk x16.Path x16.Had x16.Old x16.Has (GValue.mk x16.New.Kind (w64 ((w64 (r13_0 + 1)) + 1)) x16.New.S x16.New.K x16.New.L)))[i2]?).bind fun x17 =>
   (yz (w64 ((w64 ((w64 (r13_0 + 1)) + 1)) + 1)) x17.New.S).bind fun ⟨r18_0, r18_1⟩ =>
   ((((((((((((e0.set i2 (GChange.mk r4_1 x3.Had x3.Old x3.Has x3.New)).set i2 (GChange.mk x5.Path (decide ((r4_0.tmod 3) = 0)) x5.Old x5.Has x5.New)).set i2 (GChange.mk x6.Path x6.Had (GValue.mk (w64 (r4_0 + 1)) x6.Old.N x6.Old.S x6.Old.K x6.Old.L) x6.Has x6.New)).set i2 (GChange.mk x7.Path x7.Had (GValue.mk x7.Old.Kind (w64 ((w64 (r4_0 + 1)) + 1)) x7.Old.S x7.Old.K x7.Old.L) x7.Has x7.New)).set i2 (GChange.mk x8.Path x8.Had (GValue.mk x8.Old.Kind x8.Old.N r9_1 x8.Old.K x8.Old.L) x8.Has x8.New)).set i2 (GChange.mk x10.Path x10.Had (GValue.mk x10.Old.Kind x10.Old.N x10.Old.S r11_1 x10.Old.L) x10.Has x10.New)).set i2 (GChange.mk x12.Path x12.Had (GValue.mk x12.Old.Kind x12.Old.N x12.Old.S x12.Old.K r13_1) x12.Has x12.New)).set i2 (GChange.mk x14.Path x14.Had x14.Old (decide ((r13_0.tmod 3) = 0)) x14.New)).set i2 (GChange.mk x15.Path x15.Had x15.Old x15.Has (GValue.mk (w64 (r13_0 + 1)) x15.New.N x15.New.S x15.New.K x15.New.L))).set i2 (GChange.mk x16.Path x16.Had x16.Old x16.Has (GValue.mk x16.New.Kind (w64 ((w64 (r13_0 + 1)) + 1)) x16.New.S x16.New.K x16.New.L))).set i2 (GChange.mk x17.Path x17.Had x17.Old x17.Has (GValue.mk x17.New.Kind x17.New.N r18_1 x17.New.K x17.New.L)))[i2]?).bind fun x19 =>
   (yR r18_0 x19.New.K).bind fun ⟨r20_0, r20_1⟩ =>
   (((((((((((((e0.set i2 (GChange.mk r4_1 x3.Had x3.Old x3.Has x3.New)).set i2 (GChange.mk x5.Path (decide ((r4_0.tmod 3) = 0)) x5.Old x5.Has x5.New)).set i2 (GChange.mk x6.Path x6.Had (GValue.mk (w64 (r4_0 + 1)) x6.Old.N x6.Old.S x6.Old.K x6.Old.L) x6.Has x6.New)).set i2 (GChange.mk x7.Path x7.Had (GValue.mk x7.Old.Kind (w64 ((w64 (r4_0 + 1)) + 1)) x7.Old.S x7.Old.K x7.Old.L) x7.Has x7.New)).set i2 (GChange.mk x8.Path x8.Had (GValue.mk x8.Old.Kind x8.Old.N r9_1 x8.Old.K x8.Old.L) x8.Has x8.New)).set i2 (GChange.mk x10.Path x10.Had (GValue.mk x10.Old.Kind x10.Old.N x10.Old.S r11_1 x10.Old.L) x10.Has x10.New)).set i2 (GChange.mk x12.Path x12.Had (GValue.mk x12.Old.Kind x12.Old.N x12.Old.S x12.Old.K r13_1) x12.Has x12.New)).set i2 (GChange.mk x14.Path x14.Had x14.Old (decide ((r13_0.tmod 3) = 0)) x14.New)).set i2 (GChange.mk x15.Path x15.Had x15.Old x15.Has (GValue.mk (w64 (r13_0 + 1)) x15.New.N x15.New.S x15.New.K x15.New.L))).set i2 (GChange.mk x16.Path x16.Had x16.Old x16.Has (GValue.mk x16.New.Kind (w64 ((w64 (r13_0 + 1)) + 1)) x16.New.S x16.New.K x16.New.L))).set i2 (GChange.mk x17.Path x17.Had x17.Old x17.Has (GValue.mk x17.New.Kind x17.New.N r18_1 x17.New.K x17.New.L))).set i2 (GChange.mk x19.Path x19.Had x19.Old x19.Has (GValue.mk x19.New.Kind x19.New.N x19.New.S r20_1 x19.New.L)))[i2]?).bind fun x21 =>
   (xq r20_0 x21.New.L).bind fun ⟨r22_0, r22_1⟩ =>
   yW m r22_0 (w64 (v1 + 1)) (((((((((((((e0.set i2 (GChange.mk r4_1 x3.Had x3.Old x3.Has x3.New)).set i2 (GChange.mk x5.Path (decide ((r4_0.tmod 3) = 0)) x5.Old x5.Has x5.New)).set i2 (GChange.mk x6.Path x6.Had (GValue.mk (w64 (r4_0 + 1)) x6.Old.N x6.Old.S x6.Old.K x6.Old.L) x6.Has x6.New)).set i2 (GChange.mk x7.Path x7.Had (GValue.mk x7.Old.Kind (w64 ((w64 (r4_0 + 1)) + 1)) x7.Old.S x7.Old.K x7.Old.L) x7.Has x7.New)).set i2 (GChange.mk x8.Path x8.Had (GValue.mk x8.Old.Kind x8.Old.N r9_1 x8.Old.K x8.Old.L) x8.Has x8.New)).set i2 (GChange.mk x10.Path x10.Had (GValue.mk x10.Old.Kind x10.Old.N x10.Old.S r11_1 x10.Old.L) x10.Has x10.New)).set i2 (GChange.mk x12.Path x12.Had (GValue.mk x12.Old.Kind x12.Old.N x12.Old.S x12.Old.K r13_1) x12.Has x12.New)).set i2 (GChange.mk x14.Path x14.Had x14.Old (decide ((r13_0.tmod 3) = 0)) x14.New)).set i2 (GChange.mk x15.Path x15.Had x15.Old x15.Has (GValue.mk (w64 (r13_0 + 1)) x15.New.N x15.New.S x15.New.K x15.New.L))).set i2 (GChange.mk x16.Path x16.Had x16.Old x16.Has (GValue.mk x16.New.Kind (w64 ((w64 (r13_0 + 1)) + 1)) x16.New.S x16.New.K x16.New.L))).set i2 (GChange.mk x17.Path x17.Had x17.Old x17.Has (GValue.mk x17.New.Kind x17.New.N r18_1 x17.New.K x17.New.L))).set i2 (GChange.mk x19.Path x19.Had x19.Old x19.Has (GValue.mk x19.New.Kind x19.New.N x19.New.S r20_1 x19.New.L))).set i2 (GChange.mk x21.Path x21.Had x21.Old x21.Has (GValue.mk x21.New.Kind x21.New.N x21.New.S x21.New.K r22_1)))
  else
  some (a0, v1, e0)
theorem Xw (m : Nat) : ∀ (a0 : Int) (v1 : Int) (e0 : (List GChange)), Ol (yW m a0 v1 e0) 21 (yg Try.f21 0) ⟨[(0, vr 0), (1, vi a0), (5, vi v1)], [.obj 13 (eL yp e0)], 1⟩ fun o => match o with | ⟨o_0, o_1, o_2⟩ => (.exit 0, ⟨[(0, vr 0), (1, vi o_0), (5, vi o_1), (9, vb false)], [.obj 13 (eL yp o_2)], 1⟩) := by
  induction m with
  | zero => intro a0 v1 e0 o h; cases h
  | succ m ih => exact fun a0 v1 e0 => tlp (
   .le yp e0 <|
   .lI v1 (e0.length : Int) (fun c1 =>
    .na v1 fun i2 =>
    .ix z7 e0 i2 fun x3 =>
    .ag 0 <|
    .cl (J0 a0 x3.Path) fun ⟨r4_0, r4_1⟩ =>
    .ag 1 <|
    .sl (z7 (GChange.mk r4_1 x3.Had x3.Old x3.Has x3.New)) e0 i2 <|
    .q ⟨.nz 3, .b true, rfl⟩ <|
    .eD (r4_0.tmod 3) 0 <|
    .ag 2 <|
    .ix z7 (e0.set i2 (GChange.mk r4_1 x3.Had x3.Old x3.Has x3.New)) i2 fun x5 =>
    .ag 0 <|
    .sl (z7 (GChange.mk x5.Path (decide ((r4_0.tmod 3) = 0)) x5.Old x5.Has x5.New)) (e0.set i2 (GChange.mk r4_1 x3.Had x3.Old x3.Has x3.New)) i2 <|
    .ag 3 <|
    .ix z7 ((e0.set i2 (GChange.mk r4_1 x3.Had x3.Old x3.Has x3.New)).set i2 (GChange.mk x5.Path (decide ((r4_0.tmod 3) = 0)) x5.Old x5.Has x5.New)) i2 fun x6 =>
    .ag 0 <|
    .sl (z7 (GChange.mk x6.Path x6.Had (GValue.mk (w64 (r4_0 + 1)) x6.Old.N x6.Old.S x6.Old.K x6.Old.L) x6.Has x6.New)) ((e0.set i2 (GChange.mk r4_1 x3.Had x3.Old x3.Has x3.New)).set i2 (GChange.mk x5.Path (decide ((r4_0.tmod 3) = 0)) x5.Old x5.Has x5.New)) i2 <|
    .ag 4 <|
    .ix z7 (((e0.set i2 (GChange.mk r4_1 x3.Had x3.Old x3.Has x3.New)).set i2 (GChange.mk x5.Path (decide ((r4_0.tmod 3) = 0)) x5.Old x5.Has x5.New)).set i2 (GChange.mk x6.Path x6.Had (GValue.mk (w64 (r4_0 + 1)) x6.Old.N x6.Old.S x6.Old.K x6.Old.L) x6.Has x6.New)) i2 fun x7 =>
    .ag 0 <|
    .sl (z7 (GChange.mk x7.Path x7.Had (GValue.mk x7.Old.Kind (w64 ((w64 (r4_0 + 1)) + 1)) x7.Old.S x7.Old.K x7.Old.L) x7.Has x7.New)) (((e0.set i2 (GChange.mk r4_1 x3.Had x3.Old x3.Has x3.New)).set i2 (GChange.mk x5.Path (decide ((r4_0.tmod 3) = 0)) x5.Old x5.Has x5.New)).set i2 (GChange.mk x6.Path x6.Had (GValue.mk (w64 (r4_0 + 1)) x6.Old.N x6.Old.S x6.Old.K x6.Old.L) x6.Has x6.New)) i2 <|
    .ag 5 <|
    .ix z7 ((((e0.set i2 (GChange.mk r4_1 x3.Had x3.Old x3.Has x3.New)).set i2 (GChange.mk x5.Path (decide ((r4_0.tmod 3) = 0)) x5.Old x5.Has x5.New)).set i2 (GChange.mk x6.Path x6.Had (GValue.mk (w64 (r4_0 + 1)) x6.Old.N x6.Old.S x6.Old.K x6.Old.L) x6.Has x6.New)).set i2 (GChange.mk x7.Path x7.Had (GValue.mk x7.Old.Kind (w64 ((w64 (r4_0 + 1)) + 1)) x7.Old.S x7.Old.K x7.Old.L) x7.Has x7.New)) i2 fun x8 =>
    .ag 0 <|
    .cl (wh (w64 ((w64 ((w64 (r4_0 + 1)) + 1)) + 1)) x8.Old.S) fun ⟨r9_0, r9_1⟩ =>
    .ag 1 <|
    .sl (z7 (GChange.mk x8.Path x8.Had (GValue.mk x8.Old.Kind x8.Old.N r9_1 x8.Old.K x8.Old.L) x8.Has x8.New)) ((((e0.set i2 (GChange.mk r4_1 x3.Had x3.Old x3.Has x3.New)).set i2 (GChange.mk x5.Path (decide ((r4_0.tmod 3) = 0)) x5.Old x5.Has x5.New)).set i2 (GChange.mk x6.Path x6.Had (GValue.mk (w64 (r4_0 + 1)) x6.Old.N x6.Old.S x6.Old.K x6.Old.L) x6.Has x6.New)).set i2 (GChange.mk x7.Path x7.Had (GValue.mk x7.Old.Kind (w64 ((w64 (r4_0 + 1)) + 1)) x7.Old.S x7.Old.K x7.Old.L) x7.Has x7.New)) i2 <|
    .ag 7 <|
    .ix z7 (((((e0.set i2 (GChange.mk r4_1 x3.Had x3.Old x3.Has x3.New)).set i2 (GChange.mk x5.Path (decide ((r4_0.tmod 3) = 0)) x5.Old x5.Has x5.New)).set i2 (GChange.mk x6.Path x6.Had (GValue.mk (w64 (r4_0 + 1)) x6.Old.N x6.Old.S x6.Old.K x6.Old.L) x6.Has x6.New)).set i2 (GChange.mk x7.Path x7.Had (GValue.mk x7.Old.Kind (w64 ((w64 (r4_0 + 1)) + 1)) x7.Old.S x7.Old.K x7.Old.L) x7.Has x7.New)).set i2 (GChange.mk x8.Path x8.Had (GValue.mk x8.Old.Kind x8.Old.N r9_1 x8.Old.K x8.Old.L) x8.Has x8.New)) i2 fun x10 =>
    .ag 0 <|
    .cl (qK r9_0 x10.Old.K) fun ⟨r11_0, r11_1⟩ =>
    .ag 1 <|
    .sl (z7 (GChange.mk x10.Path x10.Had (GValue.mk x10.Old.Kind x10.Old.N x10.Old.S r11_1 x10.Old.L) x10.Has x10.New)) (((((e0.set i2 (GChange.mk r4_1 x3.Had x3.Old x3.Has x3.New)).set i2 (GChange.mk x5.Path (decide ((r4_0.tmod 3) = 0)) x5.Old x5.Has x5.New)).set i2 (GChange.mk x6.Path x6.Had (GValue.mk (w64 (r4_0 + 1)) x6.Old.N x6.Old.S x6.Old.K x6.Old.L) x6.Has x6.New)).set i2 (GChange.mk x7.Path x7.Had (GValue.mk x7.Old.Kind (w64 ((w64 (r4_0 + 1)) + 1)) x7.Old.S x7.Old.K x7.Old.L) x7.Has x7.New)).set i2 (GChange.mk x8.Path x8.Had (GValue.mk x8.Old.Kind x8.Old.N r9_1 x8.Old.K x8.Old.L) x8.Has x8.New)) i2 <|
    .ag 9 <|
    .ix z7 ((((((e0.set i2 (GChange.mk r4_1 x3.Had x3.Old x3.Has x3.New)).set i2 (GChange.mk x5.Path (decide ((r4_0.tmod 3) = 0)) x5.Old x5.Has x5.New)).set i2 (GChange.mk x6.Path x6.Had (GValue.mk (w64 (r4_0 + 1)) x6.Old.N x6.Old.S x6.Old.K x6.Old.L) x6.Has x6.New)).set i2 (GChange.mk x7.Path x7.Had (GValue.mk x7.Old.Kind (w64 ((w64 (r4_0 + 1)) + 1)) x7.Old.S x7.Old.K x7.Old.L) x7.Has x7.New)).set i2 (GChange.mk x8.Path x8.Had (GValue.mk x8.Old.Kind x8.Old.N r9_1 x8.Old.K x8.Old.L) x8.Has x8.New)).set i2 (GChange.mk x10.Path x10.Had (GValue.mk x10.Old.Kind x10.Old.N x10.Old.S r11_1 x10.Old.L) x10.Has x10.New)) i2 fun x12 =>
    .ag 0 <|
    .cl (kl r11_0 x12.Old.L) fun ⟨r13_0, r13_1⟩ =>
    .ag 1 <|
    .sl (z7 (GChange.mk x12.Path x12.Had (GValue.mk x12.Old.Kind x12.Old.N x12.Old.S x12.Old.K r13_1) x12.Has x12.New)) ((((((e0.set i2 (GChange.mk r4_1 x3.Had x3.Old x3.Has x3.New)).set i2 (GChange.mk x5.Path (decide ((r4_0.tmod 3) = 0)) x5.Old x5.Has x5.New)).set i2 (GChange.mk x6.Path x6.Had (GValue.mk (w64 (r4_0 + 1)) x6.Old.N x6.Old.S x6.Old.K x6.Old.L) x6.Has x6.New)).set i2 (GChange.mk x7.Path x7.Had (GValue.mk x7.Old.Kind (w64 ((w64 (r4_0 + 1)) + 1)) x7.Old.S x7.Old.K x7.Old.L) x7.Has x7.New)).set i2 (GChange.mk x8.Path x8.Had (GValue.mk x8.Old.Kind x8.Old.N r9_1 x8.Old.K x8.Old.L) x8.Has x8.New)).set i2 (GChange.mk x10.Path x10.Had (GValue.mk x10.Old.Kind x10.Old.N x10.Old.S r11_1 x10.Old.L) x10.Has x10.New)) i2 <|
    .q ⟨.nz 3, .b true, rfl⟩ <|
    .eD (r13_0.tmod 3) 0 <|
    .ag 11 <|
    .ix z7 (((((((e0.set i2 (GChange.mk r4_1 x3.Had x3.Old x3.Has x3.New)).set i2 (GChange.mk x5.Path (decide ((r4_0.tmod 3) = 0)) x5.Old x5.Has x5.New)).set i2 (GChange.mk x6.Path x6.Had (GValue.mk (w64 (r4_0 + 1)) x6.Old.N x6.Old.S x6.Old.K x6.Old.L) x6.Has x6.New)).set i2 (GChange.mk x7.Path x7.Had (GValue.mk x7.Old.Kind (w64 ((w64 (r4_0 + 1)) + 1)) x7.Old.S x7.Old.K x7.Old.L) x7.Has x7.New)).set i2 (GChange.mk x8.Path x8.Had (GValue.mk x8.Old.Kind x8.Old.N r9_1 x8.Old.K x8.Old.L) x8.Has x8.New)).set i2 (GChange.mk x10.Path x10.Had (GValue.mk x10.Old.Kind x10.Old.N x10.Old.S r11_1 x10.Old.L) x10.Has x10.New)).set i2 (GChange.mk x12.Path x12.Had (GValue.mk x12.Old.Kind x12.Old.N x12.Old.S x12.Old.K r13_1) x12.Has x12.New)) i2 fun x14 =>
    .ag 0 <|
    .sl (z7 (GChange.mk x14.Path x14.Had x14.Old (decide ((r13_0.tmod 3) = 0)) x14.New)) (((((((e0.set i2 (GChange.mk r4_1 x3.Had x3.Old x3.Has x3.New)).set i2 (GChange.mk x5.Path (decide ((r4_0.tmod 3) = 0)) x5.Old x5.Has x5.New)).set i2 (GChange.mk x6.Path x6.Had (GValue.mk (w64 (r4_0 + 1)) x6.Old.N x6.Old.S x6.Old.K x6.Old.L) x6.Has x6.New)).set i2 (GChange.mk x7.Path x7.Had (GValue.mk x7.Old.Kind (w64 ((w64 (r4_0 + 1)) + 1)) x7.Old.S x7.Old.K x7.Old.L) x7.Has x7.New)).set i2 (GChange.mk x8.Path x8.Had (GValue.mk x8.Old.Kind x8.Old.N r9_1 x8.Old.K x8.Old.L) x8.Has x8.New)).set i2 (GChange.mk x10.Path x10.Had (GValue.mk x10.Old.Kind x10.Old.N x10.Old.S r11_1 x10.Old.L) x10.Has x10.New)).set i2 (GChange.mk x12.Path x12.Had (GValue.mk x12.Old.Kind x12.Old.N x12.Old.S x12.Old.K r13_1) x12.Has x12.New)) i2 <|
    .ag 12 <|
    .ix z7 ((((((((e0.set i2 (GChange.mk r4_1 x3.Had x3.Old x3.Has x3.New)).set i2 (GChange.mk x5.Path (decide ((r4_0.tmod 3) = 0)) x5.Old x5.Has x5.New)).set i2 (GChange.mk x6.Path x6.Had (GValue.mk (w64 (r4_0 + 1)) x6.Old.N x6.Old.S x6.Old.K x6.Old.L) x6.Has x6.New)).set i2 (GChange.mk x7.Path x7.Had (GValue.mk x7.Old.Kind (w64 ((w64 (r4_0 + 1)) + 1)) x7.Old.S x7.Old.K x7.Old.L) x7.Has x7.New)).set i2 (GChange.mk x8.Path x8.Had (GValue.mk x8.Old.Kind x8.Old.N r9_1 x8.Old.K x8.Old.L) x8.Has x8.New)).set i2 (GChange.mk x10.Path x10.Had (GValue.mk x10.Old.Kind x10.Old.N x10.Old.S r11_1 x10.Old.L) x10.Has x10.New)).set i2 (GChange.mk x12.Path x12.Had (GValue.mk x12.Old.Kind x12.Old.N x12.Old.S x12.Old.K r13_1) x12.Has x12.New)).set i2 (GChange.mk x14.Path x14.Had x14.Old (decide ((r13_0.tmod 3) = 0)) x14.New)) i2 fun x15 =>
    .ag 0 <|
    .sl (z7 (GChange.mk x15.Path x15.Had x15.Old x15.Has (GValue.mk (w64 (r13_0 + 1)) x15.New.N x15.New.S x15.New.K x15.New.L))) ((((((((e0.set i2 (GChange.mk r4_1 x3.Had x3.Old x3.Has x3.New)).set i2 (GChange.mk x5.Path (decide ((r4_0.tmod 3) = 0)) x5.Old x5.Has x5.New)).set i2 (GChange.mk x6.Path x6.Had (GValue.mk (w64 (r4_0 + 1)) x6.Old.N x6.Old.S x6.Old.K x6.Old.L) x6.Has x6.New)).set i2 (GChange.mk x7.Path x7.Had (GValue.mk x7.Old.Kind (w64 ((w64 (r4_0 + 1)) + 1)) x7.Old.S x7.Old.K x7.Old.L) x7.Has x7.New)).set i2 (GChange.mk x8.Path x8.Had (GValue.mk x8.Old.Kind x8.Old.N r9_1 x8.Old.K x8.Old.L) x8.Has x8.New)).set i2 (GChange.mk x10.Path x10.Had (GValue.mk x10.Old.Kind x10.Old.N x10.Old.S r11_1 x10.Old.L) x10.Has x10.New)).set i2 (GChange.mk x12.Path x12.Had (GValue.mk x12.Old.Kind x12.Old.N x12.Old.S x12.Old.K r13_1) x12.Has x12.New)).set i2 (GChange.mk x14.Path x14.Had x14.Old (decide ((r13_0.tmod 3) = 0)) x14.New)) i2 <|
    .ag 13 <|
    .ix z7 (((((((((e0.set i2 (GChange.mk r4_1 x3.Had x3.Old x3.Has x3.New)).set i2 (GChange.mk x5.Path (decide ((r4_0.tmod 3) = 0)) x5.Old x5.Has x5.New)).set i2 (GChange.mk x6.Path x6.Had (GValue.mk (w64 (r4_0 + 1)) x6.Old.N x6.Old.S x6.Old.K x6.Old.L) x6.Has x6.New)).set i2 (GChange.mk x7.Path x7.Had (GValue.mk x7.Old.Kind (w64 ((w64 (r4_0 + 1)) + 1)) x7.Old.S x7.Old.K x7.Old.L) x7.Has x7.New)).set i2 (GChange.mk x8.Path x8.Had (GValue.mk x8.Old.Kind x8.Old.N r9_1 x8.Old.K x8.Old.L) x8.Has x8.New)).set i2 (GChange.mk x10.Path x10.Had (GValue.mk x10.Old.Kind x10.Old.N x10.Old.S r11_1 x10.Old.L) x10.Has x10.New)).set i2 (GChange.mk x12.Path x12.Had (GValue.mk x12.Old.Kind x12.Old.N x12.Old.S x12.Old.K r13_1) x12.Has x12.New)).set i2 (GChange.mk x14.Path x14.Had x14.Old (decide ((r13_0.tmod 3) = 0)) x14.New)).set i2 (GChange.mk x15.Path x15.Had x15.Old x15.Has (GValue.mk (w64 (r13_0 + 1)) x15.New.N x15.New.S x15.New.K x15.New.L))) i2 fun x16 =>
    .ag 0 <|
    .sl (z7 (GChange.mk x16.Path x16.Had x16.Old x16.Has (GValue.mk x16.New.Kind (w64 ((w64 (r13_0 + 1)) + 1)) x16.New.S x16.New.K x16.New.L))) (((((((((e0.set i2 (GChange.mk r4_1 x3.Had x3.Old x3.Has x3.New)).set i2 (GChange.mk x5.Path (decide ((r4_0.tmod 3) = 0)) x5.Old x5.Has x5.New)).set i2 (GChange.mk x6.Path x6.Had (GValue.mk (w64 (r4_0 + 1)) x6.Old.N x6.Old.S x6.Old.K x6.Old.L) x6.Has x6.New)).set i2 (GChange.mk x7.Path x7.Had (GValue.mk x7.Old.Kind (w64 ((w64 (r4_0 + 1)) + 1)) x7.Old.S x7.Old.K x7.Old.L) x7.Has x7.New)).set i2 (GChange.mk x8.Path x8.Had (GValue.mk x8.Old.Kind x8.Old.N r9_1 x8.Old.K x8.Old.L) x8.Has x8.New)).set i2 (GChange.mk x10.Path x10.Had (GValue.mk x10.Old.Kind x10.Old.N x10.Old.S r11_1 x10.Old.L) x10.Has x10.New)).set i2 (GChange.mk x12.Path x12.Had (GValue.mk x12.Old.Kind x12.Old.N x12.Old.S x12.Old.K r13_1) x12.Has x12.New)).set i2 (GChange.mk x14.Path x14.Had x14.Old (decide ((r13_0.tmod 3) = 0)) x14.New)).set i2 (GChange.mk x15.Path x15.Had x15.Old x15.Has (GValue.mk (w64 (r13_0 + 1)) x15.New.N x15.New.S x15.New.K x15.New.L))) i2 <|
    .ag 14 <|
    .ix z7 ((((((((((e0.set i2 (GChange.mk r4_1 x3.Had x3.Old x3.Has x3.New)).set i2 (GChange.mk x5.Path (decide ((r4_0.tmod 3) = 0)) x5.Old x5.Has x5.New)).set i2 (GChange.mk x6.Path x6.Had (GValue.mk (w64 (r4_0 + 1)) x6.Old.N x6.Old.S x6.Old.K x6.Old.L) x6.Has x6.New)).set i2 (GChange.mk x7.Path x7.Had (GValue.mk x7.Old.Kind (w64 ((w64 (r4_0 + 1)) + 1)) x7.Old.S x7.Old.K x7.Old.L) x7.Has x7.New)).set i2 (GChange.mk x8.Path x8.Had (GValue.mk x8.Old.Kind x8.Old.N r9_1 x8.Old.K x8.Old.L) x8.Has x8.New)).set i2 (GChange.mk x10.Path x10.Had (GValue.mk x10.Old.Kind x10.Old.N x10.Old.S r11_1 x10.Old.L) x10.Has x10.New)).set i2 (GChange.mk x12.Path x12.Had (GValue.mk x12.Old.Kind x12.Old.N x12.Old.S x12.Old.K r13_1) x12.Has x12.New)).set i2 (GChange.mk x14.Path x14.Had x14.Old (decide ((r13_0.tmod 3) = 0)) x14.New)).set i2 (GChange.mk x15.Path x15.Had x15.Old x15.Has (GValue.mk (w64 (r13_0 + 1)) x15.New.N x15.New.S x15.New.K x15.New.L))).set i2 (GChange.mk x16.Path x16.Had x16.Old x16.Has (GValue.mk x16.New.Kind (w64 ((w64 (r13_0 + 1)) + 1)) x16.New.S x16.New.K x16.New.L))) i2 fun x17 =>
    .ag 0 <|
    .cl (wh (w64 ((w64 ((w64 (r13_0 + 1)) + 1)) + 1)) x17.New.S) fun ⟨r18_0, r18_1⟩ =>
    .ag 1 <|
    .sl (z7 (GChange.mk x17.Path x17.Had x17.Old x17.Has (GValue.mk x17.New.Kind x17.New.N r18_1 x17.New.K x17.New.L))) ((((((((((e0.set i2 (GChange.mk r4_1 x3.Had x3.Old x3.Has x3.New)).set i2 (GChange.mk x5.Path (decide ((r4_0.tmod 3) = 0)) x5.Old x5.Has x5.New)).set i2 (GChange.mk x6.Path x6.Had (GValue.mk (w64 (r4_0 + 1)) x6.Old.N x6.Old.S x6.Old.K x6.Old.L) x6.Has x6.New)).set i2 (GChange.mk x7.Path x7.Had (GValue.mk x7.Old.Kind (w64 ((w64 (r4_0 + 1)) + 1)) x7.Old.S x7.Old.K x7.Old.L) x7.Has x7.New)).set i2 (GChange.mk x8.Path x8.Had (GValue.mk x8.Old.Kind x8.Old.N r9_1 x8.Old.K x8.Old.L) x8.Has x8.New)).set i2 (GChange.mk x10.Path x10.Had (GValue.mk x10.Old.Kind x10.Old.N x10.Old.S r11_1 x10.Old.L) x10.Has x10.New)).set i2 (GChange.mk x12.Path x12.Had (GValue.mk x12.Old.Kind x12.Old.N x12.Old.S x12.Old.K r13_1) x12.Has x12.New)).set i2 (GChange.mk x14.Path x14.Had x14.Old (decide ((r13_0.tmod 3) = 0)) x14.New)).set i2 (GChange.mk x15.Path x15.Had x15.Old x15.Has (GValue.mk (w64 (r13_0 + 1)) x15.New.N x15.New.S x15.New.K x15.New.L))).set i2 (GChange.mk x16.Path x16.Had x16.Old x16.Has (GValue.mk x16.New.Kind (w64 ((w64 (r13_0 + 1)) + 1)) x16.New.S x16.New.K x16.New.L))) i2 <|
    .ag 16 <|
    .ix z7 (((((((((((e0.set i2 (GChange.mk r4_1 x3.Had x3.Old x3.Has x3.New)).set i2 (GChange.mk x5.Path (decide ((r4_0.tmod 3) = 0)) x5.Old x5.Has x5.New)).set i2 (GChange.mk x6.Path x6.Had (GValue.mk (w64 (r4_0 + 1)) x6.Old.N x6.Old.S x6.Old.K x6.Old.L) x6.Has x6.New)).set i2 (GChange.mk x7.Path x7.Had (GValue.mk x7.Old.Kind (w64 ((w64 (r4_0 + 1)) + 1)) x7.Old.S x7.Old.K x7.Old.L) x7.Has x7.New)).set i2 (GChange.mk x8.Path x8.Had (GValue.mk x8.Old.Kind x8.Old.N r9_1 x8.Old.K x8.Old.L) x8.Has x8.New)).set i2 (GChange.mk x10.Path x10.Had (GValue.mk x10.Old.Kind x10.Old.N x10.Old.S r11_1 x10.Old.L) x10.Has x10.New)).set i2 (GChange.mk x12.Path x12.Had (GValue.mk x12.Old.Kind x12.Old.N x12.Old.S x12.Old.K r13_1) x12.Has x12.New)).set i2 (GChange.mk x14.Path x14.Had x14.Old (decide ((r13_0.tmod 3) = 0)) x14.New)).set i2 (GChange.mk x15.Path x15.Had x15.Old x15.Has (GValue.mk (w64 (r13_0 + 1)) x15.New.N x15.New.S x15.New.K x15.New.L))).set i2 (GChange.mk x16.Path x16.Had x16.Old x16.Has (GValue.mk x16.New.Kind (w64 ((w64 (r13_0 + 1)) + 1)) x16.New.S x16.New.K x16.New.L))).set i2 (GChange.mk x17.Path x17.Had x17.Old x17.Has (GValue.mk x17.New.Kind x17.New.N r18_1 x17.New.K x17.New.L))) i2 fun x19 =>
    .ag 0 <|
    .cl (qK r18_0 x19.New.K) fun ⟨r20_0, r20_1⟩ =>
    .ag 1 <|
    .sl (z7 (GChange.mk x19.Path x19.Had x19.Old x19.Has (GValue.mk x19.New.Kind x19.New.N x19.New.S r20_1 x19.New.L))) (((((((((((e0.set i2 (GChange.mk r4_1 x3.Had x3.Old x3.Has x3.New)).set i2 (GChange.mk x5.Path (decide ((r4_0.tmod 3) = 0)) x5.Old x5.Has x5.New)).set i2 (GChange.mk x6.Path x6.Had (GValue.mk (w64 (r4_0 + 1)) x6.Old.N x6.Old.S x6.Old.K x6.Old.L) x6.Has x6.New)).set i2 (GChange.mk x7.Path x7.Had (GValue.mk x7.Old.Kind (w64 ((w64 (r4_0 + 1)) + 1)) x7.Old.S x7.Old.K x7.Old.L) x7.Has x7.New)).set i2 (GChange.mk x8.Path x8.Had (GValue.mk x8.Old.Kind x8.Old.N r9_1 x8.Old.K x8.Old.L) x8.Has x8.New)).set i2 (GChange.mk x10.Path x10.Had (GValue.mk x10.Old.Kind x10.Old.N x10.Old.S r11_1 x10.Old.L) x10.Has x10.New)).set i2 (GChange.mk x12.Path x12.Had (GValue.mk x12.Old.Kind x12.Old.N x12.Old.S x12.Old.K r13_1) x12.Has x12.New)).set i2 (GChange.mk x14.Path x14.Had x14.Old (decide ((r13_0.tmod 3) = 0)) x14.New)).set i2 (GChange.mk x15.Path x15.Had x15.Old x15.Has (GValue.mk (w64 (r13_0 + 1)) x15.New.N x15.New.S x15.New.K x15.New.L))).set i2 (GChange.mk x16.Path x16.Had x16.Old x16.Has (GValue.mk x16.New.Kind (w64 ((w64 (r13_0 + 1)) + 1)) x16.New.S x16.New.K x16.New.L))).set i2 (GChange.mk x17.Path x17.Had x17.Old x17.Has (GValue.mk x17.New.Kind x17.New.N r18_1 x17.New.K x17.New.L))) i2 <|
    .ag 18 <|
    .ix z7 ((((((((((((e0.set i2 (GChange.mk r4_1 x3.Had x3.Old x3.Has x3.New)).set i2 (GChange.mk x5.Path (decide ((r4_0.tmod 3) = 0)) x5.Old x5.Has x5.New)).set i2 (GChange.mk x6.Path x6.Had (GValue.mk (w64 (r4_0 + 1)) x6.Old.N x6.Old.S x6.Old.K x6.Old.L) x6.Has x6.New)).set i2 (GChange.mk x7.Path x7.Had (GValue.mk x7.Old.Kind (w64 ((w64 (r4_0 + 1)) + 1)) x7.Old.S x7.Old.K x7.Old.L) x7.Has x7.New)).set i2 (GChange.mk x8.Path x8.Had (GValue.mk x8.Old.Kind x8.Old.N r9_1 x8.Old.K x8.Old.L) x8.Has x8.New)).set i2 (GChange.mk x10.Path x10.Had (GValue.mk x10.Old.Kind x10.Old.N x10.Old.S r11_1 x10.Old.L) x10.Has x10.New)).set i2 (GChange.mk x12.Path x12.Had (GValue.mk x12.Old.Kind x12.Old.N x12.Old.S x12.Old.K r13_1) x12.Has x12.New)).set i2 (GChange.mk x14.Path x14.Had x14.Old (decide ((r13_0.tmod 3) = 0)) x14.New)).set i2 (GChange.mk x15.Path x15.Had x15.Old x15.Has (GValue.mk (w64 (r13_0 + 1)) x15.New.N x15.New.S x15.New.K x15.New.L))).set i2 (GChange.mk x16.Path x16.Had x16.Old x16.Has (GValue.mk x16.New.Kind (w64 ((w64 (r13_0 + 1)) + 1)) x16.New.S x16.New.K x16.New.L))).set i2 (GChange.mk x17.Path x17.Had x17.Old x17.Has (GValue.mk x17.New.Kind x17.New.N r18_1 x17.New.K x17.New.L))).set i2 (GChange.mk x19.Path x19.Had x19.Old x19.Has (GValue.mk x19.New.Kind x19.New.N x19.New.S r20_1 x19.New.L))) i2 fun x21 =>
    .ag 0 <|
    .cl (kl r20_0 x21.New.L) fun ⟨r22_0, r22_1⟩ =>
    .ag 1 <|
    .sl (z7 (GChange.mk x21.Path x21.Had x21.Old x21.Has (GValue.mk x21.New.Kind x21.New.N x21.New.S x21.New.K r22_1))) ((((((((((((e0.set i2 (GChange.mk r4_1 x3.Had x3.Old x3.Has x3.New)).set i2 (GChange.mk x5.Path (decide ((r4_0.tmod 3) = 0)) x5.Old x5.Has x5.New)).set i2 (GChange.mk x6.Path x6.Had (GValue.mk (w64 (r4_0 + 1)) x6.Old.N x6.Old.S x6.Old.K x6.Old.L) x6.Has x6.New)).set i2 (GChange.mk x7.Path x7.Had (GValue.mk x7.Old.Kind (w64 ((w64 (r4_0 + 1)) + 1)) x7.Old.S x7.Old.K x7.Old.L) x7.Has x7.New)).set i2 (GChange.mk x8.Path x8.Had (GValue.mk x8.Old.Kind x8.Old.N r9_1 x8.Old.K x8.Old.L) x8.Has x8.New)).set i2 (GChange.mk x10.Path x10.Had (GValue.mk x10.Old.Kind x10.Old.N x10.Old.S r11_1 x10.Old.L) x10.Has x10.New)).set i2 (GChange.mk x12.Path x12.Had (GValue.mk x12.Old.Kind x12.Old.N x12.Old.S x12.Old.K r13_1) x12.Has x12.New)).set i2 (GChange.mk x14.Path x14.Had x14.Old (decide ((r13_0.tmod 3) = 0)) x14.New)).set i2 (GChange.mk x15.Path x15.Had x15.Old x15.Has (GValue.mk (w64 (r13_0 + 1)) x15.New.N x15.New.S x15.New.K x15.New.L))).set i2 (GChange.mk x16.Path x16.Had x16.Old x16.Has (GValue.mk x16.New.Kind (w64 ((w64 (r13_0 + 1)) + 1)) x16.New.S x16.New.K x16.New.L))).set i2 (GChange.mk x17.Path x17.Had x17.Old x17.Has (GValue.mk x17.New.Kind x17.New.N r18_1 x17.New.K x17.New.L))).set i2 (GChange.mk x19.Path x19.Had x19.Old x19.Has (GValue.mk x19.New.Kind x19.New.N x19.New.S r20_1 x19.New.L))) i2 <|
    .go (ih r22_0 (w64 (v1 + 1)) (((((((((((((e0.set i2 (GChange.mk r4_1 x3.Had x3.Old x3.Has x3.New)).set i2 (GChange.mk x5.Path (decide ((r4_0.tmod 3) = 0)) x5.Old x5.Has x5.New)).set i2 (GChange.mk x6.Path x6.Had (GValue.mk (w64 (r4_0 + 1)) x6.Old.N x6.Old.S x6.Old.K x6.Old.L) x6.Has x6.New)).set i2 (GChange.mk x7.Path x7.Had (GValue.mk x7.Old.Kind (w64 ((w64 (r4_0 + 1)) + 1)) x7.Old.S x7.Old.K x7.Old.L) x7.Has x7.New)).set i2 (GChange.mk x8.Path x8.Had (GValue.mk x8.Old.Kind x8.Old.N r9_1 x8.Old.K x8.Old.L) x8.Has x8.New)).set i2 (GChange.mk x10.Path x10.Had (GValue.mk x10.Old.Kind x10.Old.N x10.Old.S r11_1 x10.Old.L) x10.Has x10.New)).set i2 (GChange.mk x12.Path x12.Had (GValue.mk x12.Old.Kind x12.Old.N x12.Old.S x12.Old.K r13_1) x12.Has x12.New)).set i2 (GChange.mk x14.Path x14.Had x14.Old (decide ((r13_0.tmod 3) = 0)) x14.New)).set i2 (GChange.mk x15.Path x15.Had x15.Old x15.Has (GValue.mk (w64 (r13_0 + 1)) x15.New.N x15.New.S x15.New.K x15.New.L))).set i2 (GChange.mk x16.Path x16.Had x16.Old x16.Has (GValue.mk x16.New.Kind (w64 ((w64 (r13_0 + 1)) + 1)) x16.New.S x16.New.K x16.New.L))).set i2 (GChange.mk x17.Path x17.Had x17.Old x17.Has (GValue.mk x17.New.Kind x17.New.N r18_1 x17.New.K x17.New.L))).set i2 (GChange.mk x19.Path x19.Had x19.Old x19.Has (GValue.mk x19.New.Kind x19.New.N x19.New.S r20_1 x19.New.L))).set i2 (GChange.mk x21.Path x21.Had x21.Old x21.Has (GValue.mk x21.New.Kind x21.New.N x21.New.S x21.New.K r22_1))))) fun c1 =>
   .ret (a0, v1, e0))
def km (n : Nat) (a0 : Int) (e0 : (List GChange)) : Option (Int × (List GChange)) :=
 (yW n a0 0 e0).bind fun ⟨o1_0, o1_1, o1_2⟩ =>
 some (o1_0, o1_2)
theorem QE (n : Nat) : ZD (km n) := fun a0 e0 => tc (
 .lp (Xw n a0 0 e0) fun ⟨o1_0, o1_1, o1_2⟩ =>
 .ret (o1_0, o1_2)) (zx Try.func21)
theorem Kn : ∀ (l p : List GChange) (k : Int) (m : Nat), 0 <= k → k + 6 * zE l <= 2 ^ 39 → p.length + l.length <= 2 ^ 40 → l.length < m → ∃ z, yW m k (p.length : Int) (p ++ l) = some (k + qv l, z, p ++ jf k l) := by
 intro l
 induction l with
 | nil =>
  intro p k m _ _ _ hm
  obtain ⟨m, rfl, _⟩ := zg hm
  exact ⟨_, by rw [yW, if_neg (wl p)]; simp [jf, qv]; rfl⟩
 | cons x l ih =>
  intro p k m h0 h1 h2 hm
  obtain ⟨m, rfl, hm'⟩ := zg hm
  simp only [List.length_cons] at h2 hm'
  have hc := Pr x
  simp only [zE] at h1
  obtain ⟨z, hz⟩ := ih (p ++ [mCh k x]) (k + cCh x) m (by omega) (by omega) (by simp; omega) (by omega)
  have hcp := Jj x.Path
  have o1 := y8 x.Old
  have o2 := V1 x.Old
  have o3 := ZG x.Old.K
  have o4 := YK x.Old.L
  have o5 := W7 x.Old
  have n1 := y8 x.New
  have n2 := V1 x.New
  have n3 := ZG x.New.K
  have n4 := YK x.New.L
  have n5 := W7 x.New
  have hmE : mCh k x = .mk (wo k x.Path) (decide ((k + zo x.Path).tmod 3 = 0)) (mV (k + zo x.Path + 1) x.Old) (decide ((k + zo x.Path + 1 + cV x.Old).tmod 3 = 0)) (mV (k + zo x.Path + 1 + cV x.Old + 1) x.New) := rfl
  have hcE : cCh x = zo x.Path + cV x.Old + cV x.New + 2 := rfl
  have q1 := TO (k + zo x.Path + 1) x.Old
  have q2 := TO (k + zo x.Path + 1 + cV x.Old + 1) x.New
  have fin : some (k + ((cCh x : Nat) : Int) + ((qv l : Nat) : Int), z, p ++ [mCh k x] ++ jf (k + cCh x) l) = some (k + ((qv (x :: l) : Nat) : Int), z, p ++ jf k (x :: l)) := by
   simp only [jf, qv, List.append_assoc, List.singleton_append]
   rw [show k + ((cCh x : Nat) : Int) + ((qv l : Nat) : Int) = k + ((cCh x + qv l : Nat) : Int) by omega]
  unfold kS at h1 hc
  refine ⟨z, Eq.trans ?_ (hz.trans fin)⟩
  clear hz fin ih
  generalize mCh k x = mx at *
  generalize cCh x = cx at *
  generalize cV x.Old = co at *
  generalize cV x.New = cn at *
  generalize vsz x.Old = vo at *
  generalize vsz x.New = vn at *
  generalize hmo : mV (k + zo x.Path + 1) x.Old = mo at *
  generalize hmn : mV (k + zo x.Path + 1 + co + 1) x.New = mn at *
  subst hmE
  obtain ⟨pt, hd, ⟨ok, on, os, okk, ol⟩, hs, ⟨nk, nn, ns, nkk, nl⟩⟩ := x
  simp only [GChange.Path, GChange.Old, GChange.New, GValue.S, GValue.K, GValue.L] at *
  rw [yW, if_pos (kw p _ l), zd, Option.bind_some, zy, Option.bind_some]
  simp only [GChange.Path]
  rw [Pc (by omega) (by omega), Option.bind_some]
  simp only [wB, zy, Option.bind_some, GChange.Path, GChange.Had, GChange.Old, GChange.Has, GChange.New, GValue.Kind, GValue.N, GValue.S, GValue.K, GValue.L]
  rw [yo (x := k + (zo pt : Int) + 1) (by omega) (by omega), yo (x := k + (zo pt : Int) + 1 + 1) (by omega) (by omega), yo (x := k + (zo pt : Int) + 1 + 1 + 1) (by omega) (by omega), je (by omega) (by omega)]
  simp only [wB, zy, Option.bind_some, GChange.Path, GChange.Had, GChange.Old, GChange.Has, GChange.New, GValue.Kind, GValue.N, GValue.S, GValue.K, GValue.L]
  rw [vf (by omega) (by omega)]
  simp only [wB, zy, Option.bind_some, GChange.Path, GChange.Had, GChange.Old, GChange.Has, GChange.New, GValue.Kind, GValue.N, GValue.S, GValue.K, GValue.L]
  rw [ZW (by omega) (by omega)]
  simp only [wB, zy, Option.bind_some, GChange.Path, GChange.Had, GChange.Old, GChange.Has, GChange.New, GValue.Kind, GValue.N, GValue.S, GValue.K, GValue.L]
  rw [show k + (zo pt : Int) + 1 + 1 + 1 + (os.length : Int) + (cB okk : Int) + (cVs ol : Int) = k + (zo pt : Int) + 1 + (co : Int) by omega]
  rw [yo (x := k + (zo pt : Int) + 1 + (co : Int) + 1) (by omega) (by omega), yo (x := k + (zo pt : Int) + 1 + (co : Int) + 1 + 1) (by omega) (by omega), yo (x := k + (zo pt : Int) + 1 + (co : Int) + 1 + 1 + 1) (by omega) (by omega), je (by omega) (by omega)]
  simp only [wB, zy, Option.bind_some, GChange.Path, GChange.Had, GChange.Old, GChange.Has, GChange.New, GValue.Kind, GValue.N, GValue.S, GValue.K, GValue.L]
  rw [vf (by omega) (by omega)]
  simp only [wB, zy, Option.bind_some, GChange.Path, GChange.Had, GChange.Old, GChange.Has, GChange.New, GValue.Kind, GValue.N, GValue.S, GValue.K, GValue.L]
  rw [ZW (by omega) (by omega)]
  simp only [wB, zy, Option.bind_some, GChange.Path, GChange.Had, GChange.Old, GChange.Has, GChange.New, GValue.Kind, GValue.N, GValue.S, GValue.K, GValue.L]
  rw [<- q1, <- q2, yt p (GChange.mk (wo k pt) (decide ((k + (zo pt : Int)).tmod 3 = 0)) mo (decide ((k + (zo pt : Int) + 1 + (co : Int)).tmod 3 = 0)) mn) (by omega), Zv p _ l,
   show k + (zo pt : Int) + 1 + (co : Int) + 1 + 1 + 1 + (ns.length : Int) + (cB nkk : Int) + (cVs nl : Int) = k + (cx : Int) by omega]
  congr
def yZ (a0 : Int) (e0 : (List GChange)) : Option (Int × (List GChange)) := if 0 <= a0 ∧ a0 + 6 * zE e0 <= 2 ^ 39 then some (a0 + qv e0, jf a0 e0) else none
theorem R2 {a : Int} {s : List GChange} (h0 : 0 <= a) (h1 : a + 6 * zE s <= 2 ^ 39) : yZ a s = some (a + qv s, jf a s) := if_pos ⟨h0, h1⟩
theorem XF (a0 : Int) (e0 : (List GChange)) (r : (Int × (List GChange))) (h : yZ a0 e0 = some r) : ∃ n, km n a0 e0 = some r := by
 unfold yZ at h
 obtain ⟨⟨h0, h1⟩, h⟩ := yd h
 have := wY e0
 obtain ⟨z, hz⟩ := Kn e0 [] a0 (e0.length + 1) h0 h1 (by simp; omega) (by omega)
 refine ⟨e0.length + 1, ?_⟩
 unfold km
 simp only [List.nil_append, List.length_nil, Int.natCast_zero] at hz
 rw [hz]
 exact h
theorem Zi : ZD yZ := fun a0 e0 r h => (XF a0 e0 r h).elim fun n hn => QE n a0 e0 r hn
def YE (F : (List UInt8) → Int → Option Int) : Prop := ∀ (a0 : (List UInt8)) (a1 : Int), Oc (F a0 a1) 42 [] [vq za a0, vi a1] fun r => (vi r, [])
def xD (a0 : (List UInt8)) : Nat → Int → Int → Option (Int ⊕ (Int × Int))
  | 0, _, _ => none
  | m + 1, a1, v2 =>
  if v2 < (a0.length : Int) then
   (zD v2).bind fun i2 =>
   (a0[i2]?).bind fun x3 =>
   if ((x3.toNat : Nat) : Int) = (((b8 a1).toNat : Nat) : Int) then
    xD a0 m (w64 (a1 + 1)) (w64 (v2 + 1))
   else
   some (.inl (-1))
  else
  some (.inr (a1, v2))
theorem Wy (a0 : (List UInt8)) (m : Nat) : ∀ (a1 : Int) (v2 : Int), Ol (xD a0 m a1 v2) 42 (yg Try.f42 0) ⟨[(0, vq za a0), (1, vi a1), (5, vi v2)], [], 0⟩ fun o => match o with | .inl o_0 => (.ret, ⟨[(4, vi o_0)], [], 0⟩) | .inr (⟨o_1_0, o_1_1⟩) => (.exit 0, ⟨[(0, vq za a0), (1, vi o_1_0), (5, vi o_1_1), (9, vb false)], [], 0⟩) := by
  induction m with
  | zero => intro a1 v2 o h; cases h
  | succ m ih => exact fun a1 v2 => tlp (
   .le za a0 <|
   .lI v2 (a0.length : Int) (fun c1 =>
    .na v2 fun i2 =>
    .ix0 za a0 i2 fun x3 =>
    .eI ((x3.toNat : Nat) : Int) (((b8 a1).toNat : Nat) : Int) (fun c4 =>
     .go (ih (w64 (a1 + 1)) (w64 (v2 + 1)))) fun c4 =>
    .ret (.inl (-1))) fun c1 =>
   .ret (.inr (a1, v2)))
def vu (n : Nat) (a0 : (List UInt8)) (a1 : Int) : Option Int :=
 (xD a0 n a1 0).bind fun o1 =>
 match o1 with
 | .inl o1_0 =>
  some o1_0
 | .inr (⟨o1_1_0, o1_1_1⟩) =>
  some o1_1_0
theorem Ko (n : Nat) : YE (vu n) := fun a0 a1 => tc (
 .l2 (Wy a0 n a1 0) (fun o1_0 =>
  .ret o1_0) fun ⟨o1_1_0, o1_1_1⟩ =>
 .ret o1_1_0) (zx Try.func42)
theorem R3 {a : List UInt8} : ∀ (l p : List UInt8) (k : Int) (m : Nat), a = p ++ l → mB k l = l → 0 <= k → k + 2 * l.length <= 2 ^ 41 → p.length + l.length <= 2 ^ 41 → l.length < m → ∃ z, xD a m k (p.length : Int) = some (.inr (k + l.length, z)) := by
 intro l
 induction l with
 | nil =>
  intro p k m ha _ _ _ _ hm
  subst ha
  obtain ⟨m, rfl, _⟩ := zg hm
  exact ⟨_, by rw [xD, if_neg (wl p)]; simp; rfl⟩
 | cons x l ih =>
  intro p k m ha hm0 h0 h1 h2 hm
  obtain ⟨m, rfl, hm'⟩ := zg hm
  simp only [List.length_cons] at h1 h2 hm'
  rw [mB] at hm0
  obtain ⟨e1, e2⟩ := List.cons.inj hm0
  obtain ⟨z, hz⟩ := ih (p ++ [x]) (k + 1) m (by rw [ha]; simp) e2 (by omega) (by omega) (by simp; omega) (by omega)
  refine ⟨z, ?_⟩
  rw [xD, if_pos (by rw [ha]; exact kw p x l), zd, Option.bind_some, show a[p.length]? = some x by rw [ha]; exact zy p x l, Option.bind_some, if_pos (by rw [e1]), yt p x (by omega), yo (x := k + 1) (by omega) (by omega), hz]
  simp only [List.length_cons]
  rw [show k + 1 + (l.length : Int) = k + ((l.length + 1 : Nat) : Int) by omega]
def zR (a0 : (List UInt8)) (a1 : Int) : Option Int := if mB a1 a0 = a0 ∧ 0 <= a1 ∧ a1 + 2 * a0.length <= 2 ^ 41 then some (a1 + a0.length) else none
theorem kn {a : Int} {s : List UInt8} (h : mB a s = s) (h0 : 0 <= a) (h1 : a + 2 * s.length <= 2 ^ 41) : zR s a = some (a + s.length) := if_pos ⟨h, h0, h1⟩
theorem Qa (a0 : (List UInt8)) (a1 : Int) (r : Int) (h : zR a0 a1 = some r) : ∃ n, vu n a0 a1 = some r := by
 unfold zR at h
 obtain ⟨⟨he, h0, h1⟩, h⟩ := yd h
 obtain ⟨z, hz⟩ := R3 (a := a0) a0 [] a1 (a0.length + 1) rfl he h0 h1 (by simp; omega) (by omega)
 refine ⟨a0.length + 1, ?_⟩
 unfold vu
 simp only [List.length_nil, Int.natCast_zero] at hz
 rw [hz]
 exact h
theorem yA : YE zR := fun a0 a1 r h => (Qa a0 a1 r h).elim fun n hn => Ko n a0 a1 r hn
def YF (F : (List GStep) → Int → Option Int) : Prop := ∀ (a0 : (List GStep)) (a1 : Int), Oc (F a0 a1) 54 [] [vq zP a0, vi a1] fun r => (vi r, [])
def xE (a0 : (List GStep)) : Nat → Int → Int → Option (Int ⊕ (Int × Int))
  | 0, _, _ => none
  | m + 1, a1, v2 =>
  if v2 < (a0.length : Int) then
   (zD v2).bind fun i2 =>
   (a0[i2]?).bind fun x3 =>
   if x3.Kind = a1 then
    (zR x3.Key (w64 (a1 + 1))).bind fun r5 =>
    if r5 < 0 then
     some (.inl (-1))
    else
    if x3.I = r5 then
     xE a0 m (w64 (r5 + 1)) (w64 (v2 + 1))
    else
    some (.inl (-1))
   else
   some (.inl (-1))
  else
  some (.inr (a1, v2))
theorem Wz (a0 : (List GStep)) (m : Nat) : ∀ (a1 : Int) (v2 : Int), Ol (xE a0 m a1 v2) 54 (yg Try.f54 0) ⟨[(0, vq zP a0), (1, vi a1), (5, vi v2)], [], 0⟩ fun o => match o with | .inl o_0 => (.ret, ⟨[(4, vi o_0)], [], 0⟩) | .inr (⟨o_1_0, o_1_1⟩) => (.exit 0, ⟨[(0, vq zP a0), (1, vi o_1_0), (5, vi o_1_1), (9, vb false)], [], 0⟩) := by
  induction m with
  | zero => intro a1 v2 o h; cases h
  | succ m ih => exact fun a1 v2 => tlp (
   .le zP a0 <|
   .lI v2 (a0.length : Int) (fun c1 =>
    .na v2 fun i2 =>
    .ix ku a0 i2 fun x3 =>
    .eI x3.Kind a1 (fun c4 =>
     .ag 1 <|
     .ag 0 <|
     .cl (yA x3.Key (w64 (a1 + 1))) fun r5 =>
     .lI r5 0 (fun c6 =>
      .ret (.inl (-1))) fun c6 =>
     .ag 2 <|
     .ag 1 <|
     .eI x3.I r5 (fun c7 =>
      .go (ih (w64 (r5 + 1)) (w64 (v2 + 1)))) fun c7 =>
     .ret (.inl (-1))) fun c4 =>
    .ret (.inl (-1))) fun c1 =>
   .ret (.inr (a1, v2)))
def vv (n : Nat) (a0 : (List GStep)) (a1 : Int) : Option Int :=
 (xE a0 n a1 0).bind fun o1 =>
 match o1 with
 | .inl o1_0 =>
  some o1_0
 | .inr (⟨o1_1_0, o1_1_1⟩) =>
  some o1_1_0
theorem Kp (n : Nat) : YF (vv n) := fun a0 a1 => tc (
 .l2 (Wz a0 n a1 0) (fun o1_0 =>
  .ret o1_0) fun ⟨o1_1_0, o1_1_1⟩ =>
 .ret o1_1_0) (zx Try.func54)
theorem R4 {a : List GStep} : ∀ (l p : List GStep) (k : Int) (m : Nat), a = p ++ l → wo k l = l → 0 <= k → k + 4 * zT l <= 2 ^ 40 → p.length + l.length <= 2 ^ 40 → l.length < m → ∃ z, xE a m k (p.length : Int) = some (.inr (k + zo l, z)) := by
 intro l
 induction l with
 | nil =>
  intro p k m ha _ _ _ _ hm
  subst ha
  obtain ⟨m, rfl, _⟩ := zg hm
  exact ⟨_, by rw [xE, if_neg (wl p)]; simp [zo]; rfl⟩
 | cons x l ih =>
  intro p k m ha hm0 h0 h1 h2 hm
  obtain ⟨m, rfl, hm'⟩ := zg hm
  simp only [List.length_cons] at h2 hm'
  rw [wo] at hm0
  obtain ⟨e1, e2⟩ := List.cons.inj hm0
  simp only [zT, vy] at h1
  obtain ⟨z, hz⟩ := ih (p ++ [x]) (k + ((x.Key.length + 2 : Nat) : Int)) m (by rw [ha]; simp) e2 (by omega) (by omega) (by simp; omega) (by omega)
  refine ⟨z, ?_⟩
  rw [xE, if_pos (by rw [ha]; exact kw p x l), zd, Option.bind_some, show a[p.length]? = some x by rw [ha]; exact zy p x l, Option.bind_some, yt p x (by omega)]
  have f0 : k = x.Kind := congrArg GStep.Kind e1
  have f1 : mB (k + 1) x.Key = x.Key := congrArg GStep.Key e1
  have f2 : k + 1 + x.Key.length = x.I := congrArg GStep.I e1
  rw [if_pos f0.symm, yo (x := k + 1) (by omega) (by omega), kn f1 (by omega) (by omega), Option.bind_some, if_neg (by omega), if_pos f2.symm, yo (x := k + 1 + (x.Key.length : Int) + 1) (by omega) (by omega), show k + 1 + (x.Key.length : Int) + 1 = k + ((x.Key.length + 2 : Nat) : Int) by omega, hz]
  simp only [zo]
  rw [show k + ((x.Key.length + 2 : Nat) : Int) + (zo l : Int) = k + ((x.Key.length + 2 + zo l : Nat) : Int) by omega]
open Classical in
noncomputable def qu (a0 : (List GStep)) (a1 : Int) : Option Int := if wo a1 a0 = a0 ∧ 0 <= a1 ∧ a1 + 4 * zT a0 <= 2 ^ 40 then some (a1 + zo a0) else none
theorem Pd {a : Int} {s : List GStep} (h : wo a s = s) (h0 : 0 <= a) (h1 : a + 4 * zT s <= 2 ^ 40) : qu s a = some (a + zo s) := if_pos ⟨h, h0, h1⟩
theorem Qb (a0 : (List GStep)) (a1 : Int) (r : Int) (h : qu a0 a1 = some r) : ∃ n, vv n a0 a1 = some r := by
 unfold qu at h
 obtain ⟨⟨he, h0, h1⟩, h⟩ := yd h
 have := wX a0
 obtain ⟨z, hz⟩ := R4 (a := a0) a0 [] a1 (a0.length + 1) rfl he h0 h1 (by simp; omega) (by omega)
 refine ⟨a0.length + 1, ?_⟩
 unfold vv
 simp only [List.length_nil, Int.natCast_zero] at hz
 rw [hz]
 exact h
theorem J1 : YF qu := fun a0 a1 r h => (Qb a0 a1 r h).elim fun n hn => Kp n a0 a1 r hn
def Ye (F : (List (List UInt8)) → Int → Option Int) : Prop := ∀ (a0 : (List (List UInt8))) (a1 : Int), Oc (F a0 a1) 13 [] [vq (zu za) a0, vi a1] fun r => (vi r, [])
def xm (a0 : (List (List UInt8))) : Nat → Int → Int → Option (Int ⊕ (Int × Int))
  | 0, _, _ => none
  | m + 1, a1, v2 =>
  if v2 < (a0.length : Int) then
   (zD v2).bind fun i2 =>
   (a0[i2]?).bind fun x3 =>
   (zR x3 a1).bind fun r4 =>
   if r4 < 0 then
    some (.inl (-1))
   else
   xm a0 m r4 (w64 (v2 + 1))
  else
  some (.inr (a1, v2))
theorem XG (a0 : (List (List UInt8))) (m : Nat) : ∀ (a1 : Int) (v2 : Int), Ol (xm a0 m a1 v2) 13 (yg Try.f13 0) ⟨[(0, vq (zu za) a0), (1, vi a1), (5, vi v2)], [], 0⟩ fun o => match o with | .inl o_0 => (.ret, ⟨[(4, vi o_0)], [], 0⟩) | .inr (⟨o_1_0, o_1_1⟩) => (.exit 0, ⟨[(0, vq (zu za) a0), (1, vi o_1_0), (5, vi o_1_1), (9, vb false)], [], 0⟩) := by
  induction m with
  | zero => intro a1 v2 o h; cases h
  | succ m ih => exact fun a1 v2 => tlp (
   .le (zu za) a0 <|
   .lI v2 (a0.length : Int) (fun c1 =>
    .na v2 fun i2 =>
    .ix0 (zu za) a0 i2 fun x3 =>
    .cl (yA x3 a1) fun r4 =>
    .lI r4 0 (fun c5 =>
     .ret (.inl (-1))) fun c5 =>
    .go (ih r4 (w64 (v2 + 1)))) fun c1 =>
   .ret (.inr (a1, v2)))
def kQ (n : Nat) (a0 : (List (List UInt8))) (a1 : Int) : Option Int :=
 (xm a0 n a1 0).bind fun o1 =>
 match o1 with
 | .inl o1_0 =>
  some o1_0
 | .inr (⟨o1_1_0, o1_1_1⟩) =>
  some o1_1_0
theorem J2 (n : Nat) : Ye (kQ n) := fun a0 a1 => tc (
 .l2 (XG a0 n a1 0) (fun o1_0 =>
  .ret o1_0) fun ⟨o1_1_0, o1_1_1⟩ =>
 .ret o1_1_0) (zx Try.func13)
theorem Vu {a : List (List UInt8)} : ∀ (l p : List (List UInt8)) (k : Int) (m : Nat), a = p ++ l → mBB k l = l → 0 <= k → k + 2 * bsz l <= 2 ^ 41 → p.length + l.length <= 2 ^ 41 → l.length < m → ∃ z, xm a m k (p.length : Int) = some (.inr (k + cB l, z)) := by
 intro l
 induction l with
 | nil =>
  intro p k m ha _ _ _ _ hm
  subst ha
  obtain ⟨m, rfl, _⟩ := zg hm
  exact ⟨_, by rw [xm, if_neg (wl p)]; simp [cB]; rfl⟩
 | cons x l ih =>
  intro p k m ha hm0 h0 h1 h2 hm
  obtain ⟨m, rfl, hm'⟩ := zg hm
  rw [Pl] at h1
  simp only [List.length_cons] at h2 hm'
  rw [mBB] at hm0
  obtain ⟨e1, e2⟩ := List.cons.inj hm0
  obtain ⟨z, hz⟩ := ih (p ++ [x]) (k + x.length) m (by rw [ha]; simp) e2 (by omega) (by omega) (by simp; omega) (by omega)
  refine ⟨z, ?_⟩
  rw [xm, if_pos (by rw [ha]; exact kw p x l), zd, Option.bind_some, show a[p.length]? = some x by rw [ha]; exact zy p x l, Option.bind_some, kn e1 (by omega) (by omega), Option.bind_some, if_neg (by omega), yt p x (by omega), hz, PV]
  rw [show k + (x.length : Int) + (cB l : Int) = k + ((x.length + cB l : Nat) : Int) by omega]
def zU (a0 : (List (List UInt8))) (a1 : Int) : Option Int := if mBB a1 a0 = a0 ∧ 0 <= a1 ∧ a1 + 2 * bsz a0 <= 2 ^ 41 then some (a1 + cB a0) else none
theorem ZX {a : Int} {s : List (List UInt8)} (h : mBB a s = s) (h0 : 0 <= a) (h1 : a + 2 * bsz s <= 2 ^ 41) : zU s a = some (a + cB s) := if_pos ⟨h, h0, h1⟩
theorem W1 (a0 : (List (List UInt8))) (a1 : Int) (r : Int) (h : zU a0 a1 = some r) : ∃ n, kQ n a0 a1 = some r := by
 unfold zU at h
 obtain ⟨⟨he, h0, h1⟩, h⟩ := yd h
 have := wk a0
 obtain ⟨z, hz⟩ := Vu (a := a0) a0 [] a1 (a0.length + 1) rfl he h0 h1 (by simp; omega) (by omega)
 refine ⟨a0.length + 1, ?_⟩
 unfold kQ
 simp only [List.length_nil, Int.natCast_zero] at hz
 rw [hz]
 exact h
theorem xc : Ye zU := fun a0 a1 r h => (W1 a0 a1 r h).elim fun n hn => J2 n a0 a1 r hn
def wU (F : (List GValue) → Int → Option Int) : Prop := ∀ (a0 : (List GValue)) (a1 : Int), Oc (F a0 a1) 55 [] [vq zb a0, vi a1] fun r => (vi r, [])
def xn (G_laws_heldValueS : (List GValue) → Int → Option Int) (a0 : (List GValue)) : Nat → Int → Int → Option (Int ⊕ (Int × Int))
  | 0, _, _ => none
  | m + 1, a1, v2 =>
  if v2 < (a0.length : Int) then
   (zD v2).bind fun i2 =>
   (a0[i2]?).bind fun x3 =>
   if x3.Kind = a1 then
    if x3.N = (w64 (a1 + 1)) then
     (zR x3.S (w64 ((w64 (a1 + 1)) + 1))).bind fun r6 =>
     if r6 < 0 then
      some (.inl (-1))
     else
     (zU x3.K r6).bind fun r8 =>
     if r8 < 0 then
      some (.inl (-1))
     else
     (G_laws_heldValueS x3.L r8).bind fun r10 =>
     if r10 < 0 then
      some (.inl (-1))
     else
     xn G_laws_heldValueS a0 m r10 (w64 (v2 + 1))
    else
    some (.inl (-1))
   else
   some (.inl (-1))
  else
  some (.inr (a1, v2))
theorem XH (G_laws_heldValueS : (List GValue) → Int → Option Int) (H_laws_heldValueS : wU G_laws_heldValueS) (a0 : (List GValue)) (m : Nat) : ∀ (a1 : Int) (v2 : Int), Ol (xn G_laws_heldValueS a0 m a1 v2) 55 (yg Try.f55 0) ⟨[(0, vq zb a0), (1, vi a1), (5, vi v2)], [], 0⟩ fun o => match o with | .inl o_0 => (.ret, ⟨[(4, vi o_0)], [], 0⟩) | .inr (⟨o_1_0, o_1_1⟩) => (.exit 0, ⟨[(0, vq zb a0), (1, vi o_1_0), (5, vi o_1_1), (9, vb false)], [], 0⟩) := by
  induction m with
  | zero => intro a1 v2 o h; cases h
  | succ m ih => exact fun a1 v2 => tlp (
   .le zb a0 <|
   .lI v2 (a0.length : Int) (fun c1 =>
    .na v2 fun i2 =>
    .ix eq_GValue a0 i2 fun x3 =>
    .eI x3.Kind a1 (fun c4 =>
     .ag 1 <|
     .ag 0 <|
     .eI x3.N (w64 (a1 + 1)) (fun c5 =>
      .ag 1 <|
      .ag 0 <|
      .cl (yA x3.S (w64 ((w64 (a1 + 1)) + 1))) fun r6 =>
      .lI r6 0 (fun c7 =>
       .ret (.inl (-1))) fun c7 =>
      .ag 2 <|
      .ag 1 <|
      .cl (xc x3.K r6) fun r8 =>
      .lI r8 0 (fun c9 =>
       .ret (.inl (-1))) fun c9 =>
      .ag 3 <|
      .ag 2 <|
      .cl (H_laws_heldValueS x3.L r8) fun r10 =>
      .lI r10 0 (fun c11 =>
       .ret (.inl (-1))) fun c11 =>
      .go (ih r10 (w64 (v2 + 1)))) fun c5 =>
     .ret (.inl (-1))) fun c4 =>
    .ret (.inl (-1))) fun c1 =>
   .ret (.inr (a1, v2)))
def kR (G_laws_heldValueS : (List GValue) → Int → Option Int) (n : Nat) (a0 : (List GValue)) (a1 : Int) : Option Int :=
 (xn G_laws_heldValueS a0 n a1 0).bind fun o1 =>
 match o1 with
 | .inl o1_0 =>
  some o1_0
 | .inr (⟨o1_1_0, o1_1_1⟩) =>
  some o1_1_0
theorem J3 (G_laws_heldValueS : (List GValue) → Int → Option Int) (H_laws_heldValueS : wU G_laws_heldValueS) (n : Nat) : wU (kR G_laws_heldValueS n) := fun a0 a1 => tc (
 .l2 (XH G_laws_heldValueS H_laws_heldValueS a0 n a1 0) (fun o1_0 =>
  .ret o1_0) fun ⟨o1_1_0, o1_1_1⟩ =>
 .ret o1_1_0) (zx Try.func55)
def yB : Nat → (List GValue) → Int → Option Int
 | 0, _, _ => none
 | n + 1, a0, a1 => kR (yB n) n a0 a1
theorem Qc (n : Nat) : wU (yB n) := by
 induction n with
 | zero => exact fun _ _ _ h => (by rw [yB] at h; cases h)
 | succ n ih =>
  have ih_laws_heldValueS := ih
  exact fun a0 a1 r h => J3 (yB n) ih_laws_heldValueS n a0 a1 r (by rw [yB] at h; exact h)
theorem Vv {G : List GValue → Int → Option Int} {a : List GValue} : ∀ (l p : List GValue) (k : Int) (m : Nat), a = p ++ l → mVs k l = l → (∀ v ∈ l, ∀ i : Int, mVs i v.L = v.L → 0 <= i → i + 2 * yu v.L <= 2 ^ 41 → G v.L i = some (i + cVs v.L)) → 0 <= k → k + 2 * yu l <= 2 ^ 41 → p.length + l.length <= 2 ^ 41 → l.length < m → ∃ z, xn G a m k (p.length : Int) = some (.inr (k + cVs l, z)) := by
 intro l
 induction l with
 | nil =>
  intro p k m ha _ _ _ _ _ hm
  subst ha
  obtain ⟨m, rfl, _⟩ := zg hm
  exact ⟨_, by rw [xn, if_neg (wl p)]; simp [cVs]; rfl⟩
 | cons x l ih =>
  intro p k m ha hm0 hG h0 h1 h2 hm
  obtain ⟨m, rfl, hm'⟩ := zg hm
  simp only [List.length_cons] at h2 hm'
  have hx := hG x List.mem_cons_self
  have hc := W7 x
  rw [mVs] at hm0
  obtain ⟨e1, e2⟩ := List.cons.inj hm0
  simp only [yu] at h1
  obtain ⟨z, hz⟩ := ih (p ++ [x]) (k + cV x) m (by rw [ha]; simp) e2 (fun v hv => hG v (List.mem_cons_of_mem _ hv)) (by omega) (by omega) (by simp; omega) (by omega)
  refine ⟨z, ?_⟩
  rw [xn, if_pos (by rw [ha]; exact kw p x l), zd, Option.bind_some, show a[p.length]? = some x by rw [ha]; exact zy p x l, Option.bind_some, yt p x (by omega)]
  have hb := ZG x.K
  have hd := YK x.L
  have hq := y8 x
  have hr := V1 x
  rw [TO] at e1
  have f1 : x.Kind = k := (congrArg GValue.Kind e1).symm
  have f2 : x.N = k + 1 := (congrArg GValue.N e1).symm
  have f3 : mB (k + 1 + 1) x.S = x.S := congrArg GValue.S e1
  have f4 : mBB (k + 1 + 1 + x.S.length) x.K = x.K := congrArg GValue.K e1
  have f5 : mVs (k + 1 + 1 + x.S.length + cB x.K) x.L = x.L := congrArg GValue.L e1
  rw [yo (x := k + 1) (by omega) (by omega), yo (x := k + 1 + 1) (by omega) (by omega), if_pos f1, if_pos f2, kn f3 (by omega) (by omega), Option.bind_some, if_neg (by omega), ZX f4 (by omega) (by omega), Option.bind_some, if_neg (by omega), hx _ f5 (by omega) (by omega), Option.bind_some, if_neg (by omega),
   show k + 1 + 1 + (x.S.length : Int) + (cB x.K : Int) + (cVs x.L : Int) = k + ((cV x : Nat) : Int) by omega, hz]
  simp only [cVs]
  rw [show k + ((cV x : Nat) : Int) + (cVs l : Int) = k + ((cV x + cVs l : Nat) : Int) by omega]
theorem Pe : ∀ (N : Nat) (l : List GValue), yu l < N → ∀ (k : Int) (f : Nat), mVs k l = l → 0 <= k → k + 2 * yu l <= 2 ^ 41 → yu l + 2 <= f → yB f l k = some (k + cVs l) := by
 intro N
 induction N with
 | zero => intro l hl; omega
 | succ N ih =>
  intro l hl k f he h0 h1 hf
  obtain ⟨f, rfl, _⟩ := zg (show 0 < f by omega)
  have hlen := y0 l
  rw [yB]
  unfold kR
  obtain ⟨z, hz⟩ := Vv (G := yB f) (a := l) l [] k f rfl he (fun v hv i ge g0 g1 => by
   have := yw hv
   have := y8 v
   exact ih v.L (by omega) i f ge g0 g1 (by omega)) h0 h1 (by simp; omega) (by omega)
  simp only [List.length_nil, Int.natCast_zero] at hz
  rw [hz]; rfl
open Classical in
noncomputable def ye (a0 : (List GValue)) (a1 : Int) : Option Int := if mVs a1 a0 = a0 ∧ 0 <= a1 ∧ a1 + 2 * yu a0 <= 2 ^ 41 then some (a1 + cVs a0) else none
theorem WJ {a : Int} {s : List GValue} (h : mVs a s = s) (h0 : 0 <= a) (h1 : a + 2 * yu s <= 2 ^ 41) : ye s a = some (a + cVs s) := if_pos ⟨h, h0, h1⟩
theorem W2 (a0 : (List GValue)) (a1 : Int) (r : Int) (h : ye a0 a1 = some r) : ∃ n, yB n a0 a1 = some r := by
 unfold ye at h
 obtain ⟨⟨he, h0, h1⟩, h⟩ := yd h
 exact ⟨yu a0 + 2, by rw [Pe _ a0 (Nat.lt_succ_self _) a1 _ he h0 h1 (Nat.le_refl _), h]⟩
theorem xV : wU ye := by
 intro a0 a1 r h
 obtain ⟨n, hn⟩ := W2 a0 a1 r h
 exact (Qc n) a0 a1 r hn
def ZE (F : (List GChange) → Int → Option Int) : Prop := ∀ (a0 : (List GChange)) (a1 : Int), Oc (F a0 a1) 22 [] [vq zL a0, vi a1] fun r => (vi r, [])
def yl (a0 : (List GChange)) : Nat → Int → Int → Option (Int ⊕ (Int × Int))
  | 0, _, _ => none
  | m + 1, a1, v2 =>
  if v2 < (a0.length : Int) then
   (zD v2).bind fun i2 =>
   (a0[i2]?).bind fun x3 =>
   (qu x3.Path a1).bind fun r4 =>
   if r4 < 0 then
    some (.inl (-1))
   else
   if x3.Had = true then
    if (r4.tmod 3) = 0 then
     if x3.Old.Kind = (w64 (r4 + 1)) then
      if x3.Old.N = (w64 ((w64 (r4 + 1)) + 1)) then
       (zR x3.Old.S (w64 ((w64 ((w64 (r4 + 1)) + 1)) + 1))).bind fun r10 =>
       if r10 < 0 then
        some (.inl (-1))
       else
       (zU x3.Old.K r10).bind fun r12 =>
       if r12 < 0 then
        some (.inl (-1))
       else
       (ye x3.Old.L r12).bind fun r14 =>
       if r14 < 0 then
        some (.inl (-1))
       else
       if x3.Has = true then
        if (r14.tmod 3) = 0 then
         if x3.New.Kind = (w64 (r14 + 1)) then
          if x3.New.N = (w64 ((w64 (r14 + 1)) + 1)) then
           (zR x3.New.S (w64 ((w64 ((w64 (r14 + 1)) + 1)) + 1))).bind fun r20 =>
           if r20 < 0 then
            some (.inl (-1))
           else
           (zU x3.New.K r20).bind fun r22 =>
           if r22 < 0 then
            some (.inl (-1))
           else
           (ye x3.New.L r22).bind fun r24 =>
           if r24 < 0 then
            some (.inl (-1))
           else
           yl a0 m r24 (w64 (v2 + 1))
          else
          some (.inl (-1))
         else
         some (.inl (-1))
        else
        some (.inl (-1))
       else
       if (r14.tmod 3) = 0 then
        some (.inl (-1))
       else
       if x3.New.Kind = (w64 (r14 + 1)) then
        if x3.New.N = (w64 ((w64 (r14 + 1)) + 1)) then
         (zR x3.New.S (w64 ((w64 ((w64 (r14 + 1)) + 1)) + 1))).bind fun r20 =>
         if r20 < 0 then
          some (.inl (-1))
         else
         (zU x3.New.K r20).bind fun r22 =>
         if r22 < 0 then
          some (.inl (-1))
         else
         (ye x3.New.L r22).bind fun r24 =>
         if r24 < 0 then
          some (.inl (-1))
         else
         yl a0 m r24 (w64 (v2 + 1))
        else
        some (.inl (-1))
       else
       some (.inl (-1))
      else
      some (.inl (-1))
     else
     some (.inl (-1))
    else
    some (.inl (-1))
   else
   if (r4.tmod 3) = 0 then
    some (.inl (-1))
   else
   if x3.Old.Kind = (w64 (r4 + 1)) then
    if x3.Old.N = (w64 ((w64 (r4 + 1)) + 1)) then
     (zR x3.Old.S (w64 ((w64 ((w64 (r4 + 1)) + 1)) + 1))).bind fun r10 =>
     if r10 < 0 then
      some (.inl (-1))
     else
     (zU x3.Old.K r10).bind fun r12 =>
     if r12 < 0 then
      some (.inl (-1))
     else
     (ye x3.Old.L r12).bind fun r14 =>
     if r14 < 0 then
      some (.inl (-1))
     else
     if x3.Has = true then
      if (r14.tmod 3) = 0 then
       if x3.New.Kind = (w64 (r14 + 1)) then
        if x3.New.N = (w64 ((w64 (r14 + 1)) + 1)) then
         (zR x3.New.S (w64 ((w64 ((w64 (r14 + 1)) + 1)) + 1))).bind fun r20 =>
         if r20 < 0 then
          some (.inl (-1))
         else
         (zU x3.New.K r20).bind fun r22 =>
         if r22 < 0 then
          some (.inl (-1))
         else
         (ye x3.New.L r22).bind fun r24 =>
         if r24 < 0 then
          some (.inl (-1))
         else
         yl a0 m r24 (w64 (v2 + 1))
        else
        some (.inl (-1))
       else
       some (.inl (-1))
      else
      some (.inl (-1))
     else
     if (r14.tmod 3) = 0 then
      some (.inl (-1))
     else
     if x3.New.Kind = (w64 (r14 + 1)) then
      if x3.New.N = (w64 ((w64 (r14 + 1)) + 1)) then
       (zR x3.New.S (w64 ((w64 ((w64 (r14 + 1)) + 1)) + 1))).bind fun r20 =>
       if r20 < 0 then
        some (.inl (-1))
       else
       (zU x3.New.K r20).bind fun r22 =>
       if r22 < 0 then
        some (.inl (-1))
       else
       (ye x3.New.L r22).bind fun r24 =>
       if r24 < 0 then
        some (.inl (-1))
       else
       yl a0 m r24 (w64 (v2 + 1))
      else
      some (.inl (-1))
     else
     some (.inl (-1))
    else
    some (.inl (-1))
   else
   some (.inl (-1))
  else
  some (.inr (a1, v2))
theorem Xx (a0 : (List GChange)) (m : Nat) : ∀ (a1 : Int) (v2 : Int), Ol (yl a0 m a1 v2) 22 (yg Try.f22 0) ⟨[(0, vq zL a0), (1, vi a1), (5, vi v2)], [], 0⟩ fun o => match o with | .inl o_0 => (.ret, ⟨[(4, vi o_0)], [], 0⟩) | .inr (⟨o_1_0, o_1_1⟩) => (.exit 0, ⟨[(0, vq zL a0), (1, vi o_1_0), (5, vi o_1_1), (9, vb false)], [], 0⟩) := by
  induction m with
  | zero => intro a1 v2 o h; cases h
  | succ m ih => exact fun a1 v2 => tlp (
   .le zL a0 <|
   .lI v2 (a0.length : Int) (fun c1 =>
    .na v2 fun i2 =>
    .ix qL a0 i2 fun x3 =>
    .cl (J1 x3.Path a1) fun r4 =>
    .lI r4 0 (fun c5 =>
     .ret (.inl (-1))) fun c5 =>
    .ag 2 <|
    .ag 1 <|
    .q ⟨.nz 3, .b true, rfl⟩ <|
    .eD (r4.tmod 3) 0 <|
    .sp (x3.Had = true) (fun c6 =>
     .sp ((r4.tmod 3) = 0) (fun c7 =>
      .eb c6 (dT c7) <|
      .ag 2 <|
      .ag 1 <|
      .eI x3.Old.Kind (w64 (r4 + 1)) (fun c8 =>
       .ag 2 <|
       .ag 1 <|
       .eI x3.Old.N (w64 ((w64 (r4 + 1)) + 1)) (fun c9 =>
        .ag 2 <|
        .ag 1 <|
        .cl (yA x3.Old.S (w64 ((w64 ((w64 (r4 + 1)) + 1)) + 1))) fun r10 =>
        .lI r10 0 (fun c11 =>
         .ret (.inl (-1))) fun c11 =>
        .ag 3 <|
        .ag 2 <|
        .cl (xc x3.Old.K r10) fun r12 =>
        .lI r12 0 (fun c13 =>
         .ret (.inl (-1))) fun c13 =>
        .ag 4 <|
        .ag 3 <|
        .cl (xV x3.Old.L r12) fun r14 =>
        .lI r14 0 (fun c15 =>
         .ret (.inl (-1))) fun c15 =>
        .ag 5 <|
        .ag 4 <|
        .q ⟨.nz 3, .b true, rfl⟩ <|
        .eD (r14.tmod 3) 0 <|
        .sp (x3.Has = true) (fun c16 =>
         .sp ((r14.tmod 3) = 0) (fun c17 =>
          .eb c16 (dT c17) <|
          .ag 5 <|
          .ag 4 <|
          .eI x3.New.Kind (w64 (r14 + 1)) (fun c18 =>
           .ag 5 <|
           .ag 4 <|
           .eI x3.New.N (w64 ((w64 (r14 + 1)) + 1)) (fun c19 =>
            .ag 5 <|
            .ag 4 <|
            .cl (yA x3.New.S (w64 ((w64 ((w64 (r14 + 1)) + 1)) + 1))) fun r20 =>
            .lI r20 0 (fun c21 =>
             .ret (.inl (-1))) fun c21 =>
            .ag 6 <|
            .ag 5 <|
            .cl (xc x3.New.K r20) fun r22 =>
            .lI r22 0 (fun c23 =>
             .ret (.inl (-1))) fun c23 =>
            .ag 7 <|
            .ag 6 <|
            .cl (xV x3.New.L r22) fun r24 =>
            .lI r24 0 (fun c25 =>
             .ret (.inl (-1))) fun c25 =>
            .go (ih r24 (w64 (v2 + 1)))) fun c19 =>
           .ret (.inl (-1))) fun c18 =>
          .ret (.inl (-1))) fun c17 =>
         .eb c16 (dF c17) <|
         .ret (.inl (-1))) fun c16 =>
        .sp ((r14.tmod 3) = 0) (fun c17 =>
         .eb (bF c16) (dT c17) <|
         .ret (.inl (-1))) fun c17 =>
        .eb (bF c16) (dF c17) <|
        .ag 5 <|
        .ag 4 <|
        .eI x3.New.Kind (w64 (r14 + 1)) (fun c18 =>
         .ag 5 <|
         .ag 4 <|
         .eI x3.New.N (w64 ((w64 (r14 + 1)) + 1)) (fun c19 =>
          .ag 5 <|
          .ag 4 <|
          .cl (yA x3.New.S (w64 ((w64 ((w64 (r14 + 1)) + 1)) + 1))) fun r20 =>
          .lI r20 0 (fun c21 =>
           .ret (.inl (-1))) fun c21 =>
          .ag 6 <|
          .ag 5 <|
          .cl (xc x3.New.K r20) fun r22 =>
          .lI r22 0 (fun c23 =>
           .ret (.inl (-1))) fun c23 =>
          .ag 7 <|
          .ag 6 <|
          .cl (xV x3.New.L r22) fun r24 =>
          .lI r24 0 (fun c25 =>
           .ret (.inl (-1))) fun c25 =>
          .go (ih r24 (w64 (v2 + 1)))) fun c19 =>
         .ret (.inl (-1))) fun c18 =>
        .ret (.inl (-1))) fun c9 =>
       .ret (.inl (-1))) fun c8 =>
      .ret (.inl (-1))) fun c7 =>
     .eb c6 (dF c7) <|
     .ret (.inl (-1))) fun c6 =>
    .sp ((r4.tmod 3) = 0) (fun c7 =>
     .eb (bF c6) (dT c7) <|
     .ret (.inl (-1))) fun c7 =>
    .eb (bF c6) (dF c7) <|
    .ag 2 <|
    .ag 1 <|
    .eI x3.Old.Kind (w64 (r4 + 1)) (fun c8 =>
     .ag 2 <|
     .ag 1 <|
     .eI x3.Old.N (w64 ((w64 (r4 + 1)) + 1)) (fun c9 =>
      .ag 2 <|
      .ag 1 <|
      .cl (yA x3.Old.S (w64 ((w64 ((w64 (r4 + 1)) + 1)) + 1))) fun r10 =>
      .lI r10 0 (fun c11 =>
       .ret (.inl (-1))) fun c11 =>
      .ag 3 <|
      .ag 2 <|
      .cl (xc x3.Old.K r10) fun r12 =>
      .lI r12 0 (fun c13 =>
       .ret (.inl (-1))) fun c13 =>
      .ag 4 <|
      .ag 3 <|
      .cl (xV x3.Old.L r12) fun r14 =>
      .lI r14 0 (fun c15 =>
       .ret (.inl (-1))) fun c15 =>
      .ag 5 <|
      .ag 4 <|
      .q ⟨.nz 3, .b true, rfl⟩ <|
      .eD (r14.tmod 3) 0 <|
      .sp (x3.Has = true) (fun c16 =>
       .sp ((r14.tmod 3) = 0) (fun c17 =>
        .eb c16 (dT c17) <|
        .ag 5 <|
        .ag 4 <|
        .eI x3.New.Kind (w64 (r14 + 1)) (fun c18 =>
         .ag 5 <|
         .ag 4 <|
         .eI x3.New.N (w64 ((w64 (r14 + 1)) + 1)) (fun c19 =>
          .ag 5 <|
          .ag 4 <|
          .cl (yA x3.New.S (w64 ((w64 ((w64 (r14 + 1)) + 1)) + 1))) fun r20 =>
          .lI r20 0 (fun c21 =>
           .ret (.inl (-1))) fun c21 =>
          .ag 6 <|
          .ag 5 <|
          .cl (xc x3.New.K r20) fun r22 =>
          .lI r22 0 (fun c23 =>
           .ret (.inl (-1))) fun c23 =>
          .ag 7 <|
          .ag 6 <|
          .cl (xV x3.New.L r22) fun r24 =>
          .lI r24 0 (fun c25 =>
           .ret (.inl (-1))) fun c25 =>
          .go (ih r24 (w64 (v2 + 1)))) fun c19 =>
         .ret (.inl (-1))) fun c18 =>
        .ret (.inl (-1))) fun c17 =>
       .eb c16 (dF c17) <|
       .ret (.inl (-1))) fun c16 =>
      .sp ((r14.tmod 3) = 0) (fun c17 =>
       .eb (bF c16) (dT c17) <|
       .ret (.inl (-1))) fun c17 =>
      .eb (bF c16) (dF c17) <|
      .ag 5 <|
      .ag 4 <|
      .eI x3.New.Kind (w64 (r14 + 1)) (fun c18 =>
       .ag 5 <|
       .ag 4 <|
       .eI x3.New.N (w64 ((w64 (r14 + 1)) + 1)) (fun c19 =>
        .ag 5 <|
        .ag 4 <|
        .cl (yA x3.New.S (w64 ((w64 ((w64 (r14 + 1)) + 1)) + 1))) fun r20 =>
        .lI r20 0 (fun c21 =>
         .ret (.inl (-1))) fun c21 =>
        .ag 6 <|
        .ag 5 <|
        .cl (xc x3.New.K r20) fun r22 =>
        .lI r22 0 (fun c23 =>
         .ret (.inl (-1))) fun c23 =>
        .ag 7 <|
        .ag 6 <|
        .cl (xV x3.New.L r22) fun r24 =>
        .lI r24 0 (fun c25 =>
         .ret (.inl (-1))) fun c25 =>
        .go (ih r24 (w64 (v2 + 1)))) fun c19 =>
       .ret (.inl (-1))) fun c18 =>
      .ret (.inl (-1))) fun c9 =>
     .ret (.inl (-1))) fun c8 =>
    .ret (.inl (-1))) fun c1 =>
   .ret (.inr (a1, v2)))
def ko (n : Nat) (a0 : (List GChange)) (a1 : Int) : Option Int :=
 (yl a0 n a1 0).bind fun o1 =>
 match o1 with
 | .inl o1_0 =>
  some o1_0
 | .inr (⟨o1_1_0, o1_1_1⟩) =>
  some o1_1_0
theorem QF (n : Nat) : ZE (ko n) := fun a0 a1 => tc (
 .l2 (Xx a0 n a1 0) (fun o1_0 =>
  .ret o1_0) fun ⟨o1_1_0, o1_1_1⟩ =>
 .ret o1_1_0) (zx Try.func22)
theorem Kq {a : List GChange} : ∀ (l p : List GChange) (k : Int) (m : Nat), a = p ++ l → jf k l = l → 0 <= k → k + 6 * zE l <= 2 ^ 39 → p.length + l.length <= 2 ^ 40 → l.length < m → ∃ z, yl a m k (p.length : Int) = some (.inr (k + qv l, z)) := by
 intro l
 induction l with
 | nil =>
  intro p k m ha _ _ _ _ hm
  subst ha
  obtain ⟨m, rfl, _⟩ := zg hm
  exact ⟨_, by rw [yl, if_neg (wl p)]; simp [qv]; rfl⟩
 | cons x l ih =>
  intro p k m ha hm0 h0 h1 h2 hm
  obtain ⟨m, rfl, hm'⟩ := zg hm
  simp only [List.length_cons] at h2 hm'
  have hc := Pr x
  rw [jf] at hm0
  obtain ⟨e1, e2⟩ := List.cons.inj hm0
  simp only [zE] at h1
  obtain ⟨z, hz⟩ := ih (p ++ [x]) (k + cCh x) m (by rw [ha]; simp) e2 (by omega) (by omega) (by simp; omega) (by omega)
  have hcp := Jj x.Path
  have o1 := y8 x.Old
  have o2 := V1 x.Old
  have n1 := y8 x.New
  have n2 := V1 x.New
  have hcE : cCh x = zo x.Path + cV x.Old + cV x.New + 2 := rfl
  unfold kS at h1 hc
  have f0 : wo k x.Path = x.Path := congrArg GChange.Path e1
  have f1 : decide ((k + zo x.Path).tmod 3 = 0) = x.Had := congrArg GChange.Had e1
  have f2 : mV (k + zo x.Path + 1) x.Old = x.Old := congrArg GChange.Old e1
  have f3 : decide ((k + zo x.Path + 1 + cV x.Old).tmod 3 = 0) = x.Has := congrArg GChange.Has e1
  have f4 : mV (k + zo x.Path + 1 + cV x.Old + 1) x.New = x.New := congrArg GChange.New e1
  rw [TO] at f2 f4
  refine ⟨z, ?_⟩
  have tl : ((((k + ((cCh x : Nat) : Int)) + ((qv l : Nat) : Int)) : Int), z) = (k + ((qv (x :: l) : Nat) : Int), z) := by simp only [qv]; congr 1; omega
  rw [tl] at hz
  have hg : a[p.length]? = some x := by rw [ha]; exact zy p x l
  have hlt : (p.length : Int) < (a.length : Int) := by rw [ha]; exact kw p x l
  have hw : w64 ((p.length : Int) + 1) = ((p ++ [x]).length : Int) := yt p x (by omega)
  have hcx : k + ((cCh x : Nat) : Int) <= 2 ^ 39 := by omega
  have hh : k + 6 * (((zT x.Path : Nat) : Int) + ((vsz x.Old : Nat) : Int) + ((vsz x.New : Nat) : Int)) <= 2 ^ 39 := by omega
  clear ha e1 e2 ih hm tl h1 hc hcp hm' h2
  generalize ((p ++ [x]).length : Int) = pl at *
  generalize ((qv (x :: l) : Nat) : Int) = fin at *
  generalize cCh x = cx at *
  generalize cV x.Old = co at *
  generalize cV x.New = cn at *
  generalize vsz x.Old = vo at *
  generalize vsz x.New = vn at *
  rw [yl, if_pos hlt, zd, Option.bind_some, hg, Option.bind_some, hw, Pd f0 (by omega) (by omega), Option.bind_some, if_neg (by omega)]
  have g1 : x.Old.Kind = (k + (zo x.Path : Int)) + 1 := (congrArg GValue.Kind f2).symm
  have g2 : x.Old.N = (k + (zo x.Path : Int)) + 1 + 1 := (congrArg GValue.N f2).symm
  have g3 : mB ((k + (zo x.Path : Int)) + 1 + 1 + 1) x.Old.S = x.Old.S := congrArg GValue.S f2
  have g4 : mBB ((k + (zo x.Path : Int)) + 1 + 1 + 1 + x.Old.S.length) x.Old.K = x.Old.K := congrArg GValue.K f2
  have g5 : mVs ((k + (zo x.Path : Int)) + 1 + 1 + 1 + x.Old.S.length + cB x.Old.K) x.Old.L = x.Old.L := congrArg GValue.L f2
  have j1 : x.New.Kind = (k + (zo x.Path : Int) + 1 + (co : Int)) + 1 := (congrArg GValue.Kind f4).symm
  have j2 : x.New.N = (k + (zo x.Path : Int) + 1 + (co : Int)) + 1 + 1 := (congrArg GValue.N f4).symm
  have j3 : mB ((k + (zo x.Path : Int) + 1 + (co : Int)) + 1 + 1 + 1) x.New.S = x.New.S := congrArg GValue.S f4
  have j4 : mBB ((k + (zo x.Path : Int) + 1 + (co : Int)) + 1 + 1 + 1 + x.New.S.length) x.New.K = x.New.K := congrArg GValue.K f4
  have j5 : mVs ((k + (zo x.Path : Int) + 1 + (co : Int)) + 1 + 1 + 1 + x.New.S.length + cB x.New.K) x.New.L = x.New.L := congrArg GValue.L f4
  have e6 : (k + (zo x.Path : Int)) + 1 + 1 + 1 + (x.Old.S.length : Int) + (cB x.Old.K : Int) + (cVs x.Old.L : Int) = (k + (zo x.Path : Int) + 1 + (co : Int)) := by omega
  have e7 : (k + (zo x.Path : Int) + 1 + (co : Int)) + 1 + 1 + 1 + (x.New.S.length : Int) + (cB x.New.K : Int) + (cVs x.New.L : Int) = k + (cx : Int) := by omega
  have w1 : w64 ((k + (zo x.Path : Int)) + 1) = (k + (zo x.Path : Int)) + 1 := yo (by omega) (by omega)
  have w2 : w64 ((k + (zo x.Path : Int)) + 1 + 1) = (k + (zo x.Path : Int)) + 1 + 1 := yo (by omega) (by omega)
  have w3 : w64 ((k + (zo x.Path : Int)) + 1 + 1 + 1) = (k + (zo x.Path : Int)) + 1 + 1 + 1 := yo (by omega) (by omega)
  have w4 : w64 ((k + (zo x.Path : Int) + 1 + (co : Int)) + 1) = (k + (zo x.Path : Int) + 1 + (co : Int)) + 1 := yo (by omega) (by omega)
  have w5 : w64 ((k + (zo x.Path : Int) + 1 + (co : Int)) + 1 + 1) = (k + (zo x.Path : Int) + 1 + (co : Int)) + 1 + 1 := yo (by omega) (by omega)
  have w6 : w64 ((k + (zo x.Path : Int) + 1 + (co : Int)) + 1 + 1 + 1) = (k + (zo x.Path : Int) + 1 + (co : Int)) + 1 + 1 + 1 := yo (by omega) (by omega)
  have s1 : zR x.Old.S ((k + (zo x.Path : Int)) + 1 + 1 + 1) = _ := kn g3 (by omega) (by omega)
  have s2 : zU x.Old.K ((k + (zo x.Path : Int)) + 1 + 1 + 1 + x.Old.S.length) = _ := ZX g4 (by omega) (by omega)
  have s3 : ye x.Old.L ((k + (zo x.Path : Int)) + 1 + 1 + 1 + x.Old.S.length + cB x.Old.K) = _ := WJ g5 (by omega) (by omega)
  have s4 : zR x.New.S ((k + (zo x.Path : Int) + 1 + (co : Int)) + 1 + 1 + 1) = _ := kn j3 (by omega) (by omega)
  have s5 : zU x.New.K ((k + (zo x.Path : Int) + 1 + (co : Int)) + 1 + 1 + 1 + x.New.S.length) = _ := ZX j4 (by omega) (by omega)
  have s6 : ye x.New.L ((k + (zo x.Path : Int) + 1 + (co : Int)) + 1 + 1 + 1 + x.New.S.length + cB x.New.K) = _ := WJ j5 (by omega) (by omega)
  have n1' : ¬ (k + (zo x.Path : Int)) + 1 + 1 + 1 + (x.Old.S.length : Int) < 0 := by omega
  have n2' : ¬ (k + (zo x.Path : Int)) + 1 + 1 + 1 + (x.Old.S.length : Int) + (cB x.Old.K : Int) < 0 := by omega
  have n3' : ¬ (k + (zo x.Path : Int) + 1 + (co : Int)) < 0 := by omega
  have n4' : ¬ (k + (zo x.Path : Int) + 1 + (co : Int)) + 1 + 1 + 1 + (x.New.S.length : Int) < 0 := by omega
  have n5' : ¬ (k + (zo x.Path : Int) + 1 + (co : Int)) + 1 + 1 + 1 + (x.New.S.length : Int) + (cB x.New.K : Int) < 0 := by omega
  have n6' : ¬ k + (cx : Int) < 0 := by omega
  by_cases c1 : (k + (zo x.Path : Int)).tmod 3 = 0
  ·have hd : x.Had = true := by rw [<- f1]; exact decide_eq_true c1
   rw [if_pos hd, if_pos c1, w1, if_pos g1, w2, if_pos g2, w3, s1, Option.bind_some, if_neg n1', s2, Option.bind_some, if_neg n2', s3, Option.bind_some, e6, if_neg n3']
   by_cases c2 : (k + (zo x.Path : Int) + 1 + (co : Int)).tmod 3 = 0
   ·have hs : x.Has = true := by rw [<- f3]; exact decide_eq_true c2
    rw [if_pos hs, if_pos c2, w4, if_pos j1, w5, if_pos j2, w6, s4, Option.bind_some, if_neg n4', s5, Option.bind_some, if_neg n5', s6, Option.bind_some, e7, if_neg n6', hz]
   ·have hs : ¬ x.Has = true := by rw [<- f3]; exact fun h => c2 (of_decide_eq_true h)
    rw [if_neg hs, if_neg c2, w4, if_pos j1, w5, if_pos j2, w6, s4, Option.bind_some, if_neg n4', s5, Option.bind_some, if_neg n5', s6, Option.bind_some, e7, if_neg n6', hz]
  ·have hd : ¬ x.Had = true := by rw [<- f1]; exact fun h => c1 (of_decide_eq_true h)
   rw [if_neg hd, if_neg c1, w1, if_pos g1, w2, if_pos g2, w3, s1, Option.bind_some, if_neg n1', s2, Option.bind_some, if_neg n2', s3, Option.bind_some, e6, if_neg n3']
   by_cases c2 : (k + (zo x.Path : Int) + 1 + (co : Int)).tmod 3 = 0
   ·have hs : x.Has = true := by rw [<- f3]; exact decide_eq_true c2
    rw [if_pos hs, if_pos c2, w4, if_pos j1, w5, if_pos j2, w6, s4, Option.bind_some, if_neg n4', s5, Option.bind_some, if_neg n5', s6, Option.bind_some, e7, if_neg n6', hz]
   ·have hs : ¬ x.Has = true := by rw [<- f3]; exact fun h => c2 (of_decide_eq_true h)
    rw [if_neg hs, if_neg c2, w4, if_pos j1, w5, if_pos j2, w6, s4, Option.bind_some, if_neg n4', s5, Option.bind_some, if_neg n5', s6, Option.bind_some, e7, if_neg n6', hz]
open Classical in
noncomputable def xd (a0 : (List GChange)) (a1 : Int) : Option Int := if jf a1 a0 = a0 ∧ 0 <= a1 ∧ a1 + 6 * zE a0 <= 2 ^ 39 then some (a1 + qv a0) else none
theorem R5 {a : Int} {s : List GChange} (h : jf a s = s) (h0 : 0 <= a) (h1 : a + 6 * zE s <= 2 ^ 39) : xd s a = some (a + qv s) := if_pos ⟨h, h0, h1⟩
theorem XI (a0 : (List GChange)) (a1 : Int) (r : Int) (h : xd a0 a1 = some r) : ∃ n, ko n a0 a1 = some r := by
 unfold xd at h
 obtain ⟨⟨he, h0, h1⟩, h⟩ := yd h
 have := wY a0
 obtain ⟨z, hz⟩ := Kq (a := a0) a0 [] a1 (a0.length + 1) rfl he h0 h1 (by simp; omega) (by omega)
 refine ⟨a0.length + 1, ?_⟩
 unfold ko
 simp only [List.length_nil, Int.natCast_zero] at hz
 rw [hz]
 exact h
theorem Zj : ZE xd := fun a0 a1 r h => (XI a0 a1 r h).elim fun n hn => QF n a0 a1 r hn
def kq (a0 : GValue) (a1 : GValue) : Option Bool :=
 (wZ a0 1048576).bind fun r1 =>
 if r1 < 0 then
  some true
 else
 (wZ a1 r1).bind fun r3 =>
 if r3 < 0 then
  some true
 else
 (qf a0).bind fun r5 =>
 (qf a1).bind fun r6 =>
 (Z3 r5 r6).bind fun ⟨r7_0, r7_1⟩ =>
 (Z6 r5 r6).bind fun ⟨r8_0, r8_1⟩ =>
 (qp r8_0 r7_0).bind fun r9 =>
 match r9 with
 | true =>
  if r8_1 = true then
   if r7_1 = true then
    (zJ r5 r5).bind fun r12 =>
    match r12 with
    | true =>
     (zJ r6 r6).bind fun r13 =>
     match r13 with
     | true =>
      (yJ r5.Kind r5.N 1 r5.S r5.K r5.L).bind fun ⟨r14_0, r14_1, r14_2, r14_3⟩ =>
      (yJ r6.Kind r6.N r14_0 r6.S r6.K r6.L).bind fun ⟨r15_0, r15_1, r15_2, r15_3⟩ =>
      if r15_0 < 0 then
       none
      else
      (yZ 1 r8_0).bind fun ⟨r17_0, r17_1⟩ =>
      (xd r17_1 1).bind fun r18 =>
      if r18 < 0 then
       none
      else
      if r18 = r17_0 then
       some true
      else
      none
     | false =>
      none
    | false =>
     none
   else
   none
  else
  if r7_1 = true then
   none
  else
  (zJ r5 r5).bind fun r12 =>
  match r12 with
  | true =>
   (zJ r6 r6).bind fun r13 =>
   match r13 with
   | true =>
    (yJ r5.Kind r5.N 1 r5.S r5.K r5.L).bind fun ⟨r14_0, r14_1, r14_2, r14_3⟩ =>
    (yJ r6.Kind r6.N r14_0 r6.S r6.K r6.L).bind fun ⟨r15_0, r15_1, r15_2, r15_3⟩ =>
    if r15_0 < 0 then
     none
    else
    (yZ 1 r8_0).bind fun ⟨r17_0, r17_1⟩ =>
    (xd r17_1 1).bind fun r18 =>
    if r18 < 0 then
     none
    else
    if r18 = r17_0 then
     some true
    else
    none
   | false =>
    none
  | false =>
   none
 | false =>
  none
theorem ok_laws_FnExactDiff (a0 : GValue) (a1 : GValue) : Oc (kq a0 a1) 4 [] [.val true (ze a0), .val true (ze a1)] fun r => (vb r, []) := tc (
 .cl (Xj a0 1048576) fun r1 =>
 .lI r1 0 (fun c2 =>
  .ret true) fun c2 =>
 .cl (Xj a1 r1) fun r3 =>
 .lI r3 0 (fun c4 =>
  .ret true) fun c4 =>
 .cl (Xm a0) fun r5 =>
 .cl (Xm a1) fun r6 =>
 .vw xY r5.S <|
 .vo (wV 1 xW) r5.K <|
 .vo yE r5.L <|
 .vw xY r6.S <|
 .vo (wV 1 xW) r6.K <|
 .vo yE r6.L <|
 .cl (UT r5 r6) fun ⟨r7_0, r7_1⟩ =>
 .cn zG r7_0 <|
 .ag 2 <|
 .ag 1 <|
 .vw xY r5.S <|
 .vo (wV 1 xW) r5.K <|
 .vo yE r5.L <|
 .vw xY r6.S <|
 .vo (wV 1 xW) r6.K <|
 .vo yE r6.L <|
 .cl (UX r5 r6) fun ⟨r8_0, r8_1⟩ =>
 .cn zG r8_0 <|
 .vo zG r8_0 <|
 .vo zG r7_0 <|
 .cl (Jx r8_0 r7_0) fun r9 =>
 .vN 0 r9 (
  .an 0 0 <|
  .an 0 0 <|
  .sp (r8_1 = true) (fun c10 =>
   .sp (r7_1 = true) (fun c11 =>
    .eb c10 c11 <|
    .an 0 0 <|
    .ag 5 <|
    .vw xY r5.S <|
    .vo (wV 1 xW) r5.K <|
    .vo yE r5.L <|
    .vw xY r5.S <|
    .vo (wV 1 xW) r5.K <|
    .vo yE r5.L <|
    .cl (yG r5 r5) fun r12 =>
    .vN 0 r12 (
     .ag 6 <|
     .vw xY r6.S <|
     .vo (wV 1 xW) r6.K <|
     .vo yE r6.L <|
     .vw xY r6.S <|
     .vo (wV 1 xW) r6.K <|
     .vo yE r6.L <|
     .cl (yG r6 r6) fun r13 =>
     .vN 0 r13 (
      .cl (qS r5.Kind r5.N 1 r5.S r5.K r5.L) fun ⟨r14_0, r14_1, r14_2, r14_3⟩ =>
      .cl (qS r6.Kind r6.N r14_0 r6.S r6.K r6.L) fun ⟨r15_0, r15_1, r15_2, r15_3⟩ =>
      .lI r15_0 0 (fun c16 =>
       .no) fun c16 =>
      .vo zG r8_0 <|
      .vo zG r7_0 <|
      .ag 7 <|
      .an 2 6 <|
      .an 0 6 <|
      .an 0 6 <|
      .eb c10 c11 <|
      .an 0 6 <|
      .cl (Zi 1 r8_0) fun ⟨r17_0, r17_1⟩ =>
      .vo zG r17_1 <|
      .cl (Zj r17_1 1) fun r18 =>
      .lI r18 0 (fun c19 =>
       .no) fun c19 =>
      .eI r18 r17_0 (fun c20 =>
       .ag 13 <|
       .ag 12 <|
       .vw xY r5.S <|
       .vo (wV 1 xW) r5.K <|
       .vo yE r5.L <|
       .vw xY r6.S <|
       .vo (wV 1 xW) r6.K <|
       .vo yE r6.L <|
       .ag 10 <|
       .cn zG r8_0 <|
       .vo zG r8_0 <|
       .vo zG r7_0 <|
       .ag 9 <|
       .an 0 8 <|
       .an 0 8 <|
       .an 0 8 <|
       .eb c10 c11 <|
       .an 0 8 <|
       .vo zG r17_1 <|
       .ag 0 <|
       .q (.lF c19) <|
       .q (.eT c20) <|
       .ret true) fun c20 =>
      .no) <|
     .no) <|
    .no) fun c11 =>
   .no) fun c10 =>
  .sp (r7_1 = true) (fun c11 =>
   .no) fun c11 =>
  .eb (bF c10) (bF c11) <|
  .an 0 0 <|
  .ag 5 <|
  .vw xY r5.S <|
  .vo (wV 1 xW) r5.K <|
  .vo yE r5.L <|
  .vw xY r5.S <|
  .vo (wV 1 xW) r5.K <|
  .vo yE r5.L <|
  .cl (yG r5 r5) fun r12 =>
  .vN 0 r12 (
   .ag 6 <|
   .vw xY r6.S <|
   .vo (wV 1 xW) r6.K <|
   .vo yE r6.L <|
   .vw xY r6.S <|
   .vo (wV 1 xW) r6.K <|
   .vo yE r6.L <|
   .cl (yG r6 r6) fun r13 =>
   .vN 0 r13 (
    .cl (qS r5.Kind r5.N 1 r5.S r5.K r5.L) fun ⟨r14_0, r14_1, r14_2, r14_3⟩ =>
    .cl (qS r6.Kind r6.N r14_0 r6.S r6.K r6.L) fun ⟨r15_0, r15_1, r15_2, r15_3⟩ =>
    .lI r15_0 0 (fun c16 =>
     .no) fun c16 =>
    .vo zG r8_0 <|
    .vo zG r7_0 <|
    .ag 7 <|
    .an 2 6 <|
    .an 0 6 <|
    .an 0 6 <|
    .eb (bF c10) (bF c11) <|
    .an 0 6 <|
    .cl (Zi 1 r8_0) fun ⟨r17_0, r17_1⟩ =>
    .vo zG r17_1 <|
    .cl (Zj r17_1 1) fun r18 =>
    .lI r18 0 (fun c19 =>
     .no) fun c19 =>
    .eI r18 r17_0 (fun c20 =>
     .ag 13 <|
     .ag 12 <|
     .vw xY r5.S <|
     .vo (wV 1 xW) r5.K <|
     .vo yE r5.L <|
     .vw xY r6.S <|
     .vo (wV 1 xW) r6.K <|
     .vo yE r6.L <|
     .ag 10 <|
     .cn zG r8_0 <|
     .vo zG r8_0 <|
     .vo zG r7_0 <|
     .ag 9 <|
     .an 0 8 <|
     .an 0 8 <|
     .an 0 8 <|
     .eb (bF c10) (bF c11) <|
     .an 0 8 <|
     .vo zG r17_1 <|
     .ag 0 <|
     .q (.lF c19) <|
     .q (.eT c20) <|
     .ret true) fun c20 =>
    .no) <|
   .no) <|
  .no) <|
 .no) (zx Try.func4)
end
end Go.Am.Try
