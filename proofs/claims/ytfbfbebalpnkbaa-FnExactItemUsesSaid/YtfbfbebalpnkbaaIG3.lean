/- The functions of the program in plain Lean, and that the machine answers as they do; conditions at each theorem. -/
import Derived.Test.YtfbfbebalpnkbaaIG2
set_option linter.unusedVariables false
set_option linter.unusedSimpArgs false
namespace Go.Am.Try
open Go.Am Go.Proofs
set_option linter.unusedVariables false
set_option maxRecDepth 20000
set_option maxHeartbeats 2000000
noncomputable section
def Zw (F : (List (List UInt8)) → Int → Option Int) : Prop := ∀ (a0 : (List (List UInt8))) (a1 : Int), Oc (F a0 a1) 13 [] [vq (zk za) a0, vi a1] fun r => (vi r, [])
def yK (a0 : (List (List UInt8))) : Nat → Int → Int → Option (Int ⊕ (Int × Int))
  | 0, _, _ => none
  | m + 1, a1, v2 =>
  if v2 < (a0.length : Int) then
   (zT v2).bind fun i2 =>
   (a0[i2]?).bind fun x3 =>
   (w4 x3 a1).bind fun r4 =>
   if r4 < 0 then
    some (.inl (-1))
   else
   yK a0 m r4 (w64 (v2 + 1))
  else
  some (.inr (a1, v2))
theorem YS (a0 : (List (List UInt8))) (m : Nat) : ∀ (a1 : Int) (v2 : Int), Ol (yK a0 m a1 v2) 13 (zY Try.f13 0) ⟨[(0, vq (zk za) a0), (1, vi a1), (5, vi v2)], [], 0⟩ fun o => match o with | .inl o_0 => (.ret, ⟨[(4, vi o_0)], [], 0⟩) | .inr (⟨o_1_0, o_1_1⟩) => (.exit 0, ⟨[(0, vq (zk za) a0), (1, vi o_1_0), (5, vi o_1_1), (9, vb false)], [], 0⟩) := by
  induction m with
  | zero => intro a1 v2 o h; cases h
  | succ m ih => exact fun a1 v2 => tlp (
   .le (zk za) a0 <|
   .lI v2 (a0.length : Int) (fun c1 =>
    .na v2 fun i2 =>
    .ix0 (zk za) a0 i2 fun x3 =>
    .cl (Q2 x3 a1) fun r4 =>
    .lI r4 0 (fun c5 =>
     .ret (.inl (-1))) fun c5 =>
    .go (ih r4 (w64 (v2 + 1)))) fun c1 =>
   .ret (.inr (a1, v2)))
def jU (n : Nat) (a0 : (List (List UInt8))) (a1 : Int) : Option Int :=
 (yK a0 n a1 0).bind fun o1 =>
 match o1 with
 | .inl o1_0 =>
  some o1_0
 | .inr (⟨o1_1_0, o1_1_1⟩) =>
  some o1_1_0
theorem Q3 (n : Nat) : Zw (jU n) := fun a0 a1 => tc (
 .l2 (YS a0 n a1 0) (fun o1_0 =>
  .ret o1_0) fun ⟨o1_1_0, o1_1_1⟩ =>
 .ret o1_1_0) (zs Try.func13)
theorem Kl {a : List (List UInt8)} : ∀ (l p : List (List UInt8)) (k : Int) (m : Nat), a = p ++ l → mBB k l = l → 0 <= k → k + 2 * bsz l <= 2 ^ 41 → p.length + l.length <= 2 ^ 41 → l.length < m → ∃ z, yK a m k (p.length : Int) = some (.inr (k + cB l, z)) := by
 intro l
 induction l with
 | nil =>
  intro p k m ha _ _ _ _ hm
  subst ha
  obtain ⟨m, rfl, _⟩ := zl hm
  exact ⟨_, by rw [yK, if_neg (vH p)]; simp [cB]; rfl⟩
 | cons x l ih =>
  intro p k m ha hm0 h0 h1 h2 hm
  obtain ⟨m, rfl, hm'⟩ := zl hm
  rw [xT] at h1
  simp only [List.length_cons] at h2 hm'
  rw [mBB] at hm0
  obtain ⟨e1, e2⟩ := List.cons.inj hm0
  obtain ⟨z, hz⟩ := ih (p ++ [x]) (k + x.length) m (by rw [ha]; simp) e2 (by omega) (by omega) (by simp; omega) (by omega)
  refine ⟨z, ?_⟩
  rw [yK, if_pos (by rw [ha]; exact Ya p x l), zu, Option.bind_some, show a[p.length]? = some x by rw [ha]; exact xn p x l, Option.bind_some, TM e1 (by omega) (by omega), Option.bind_some, if_neg (by omega), wt p x (by omega), hz, UH]
  rw [show k + (x.length : Int) + (cB l : Int) = k + ((x.length + cB l : Nat) : Int) by omega]
def xC (a0 : (List (List UInt8))) (a1 : Int) : Option Int := if mBB a1 a0 = a0 ∧ 0 <= a1 ∧ a1 + 2 * bsz a0 <= 2 ^ 41 then some (a1 + cB a0) else none
theorem Rx {a : Int} {s : List (List UInt8)} (h : mBB a s = s) (h0 : 0 <= a) (h1 : a + 2 * bsz s <= 2 ^ 41) : xC s a = some (a + cB s) := if_pos ⟨h, h0, h1⟩
theorem X2 (a0 : (List (List UInt8))) (a1 : Int) (r : Int) (h : xC a0 a1 = some r) : ∃ n, jU n a0 a1 = some r := by
 unfold xC at h
 obtain ⟨⟨he, h0, h1⟩, h⟩ := yl h
 have := qq a0
 obtain ⟨z, hz⟩ := Kl (a := a0) a0 [] a1 (a0.length + 1) rfl he h0 h1 (by simp; omega) (by omega)
 refine ⟨a0.length + 1, ?_⟩
 unfold jU
 simp only [List.length_nil, Int.natCast_zero] at hz
 rw [hz]
 exact h
theorem WF : Zw xC := fun a0 a1 r h => (X2 a0 a1 r h).elim fun n hn => Q3 n a0 a1 r hn
def wU (a0 : GItem) : Option Bool :=
 (kc a0 1048576).bind fun r1 =>
 if r1 < 0 then
  some true
 else
 (kf a0).bind fun r3 =>
 (qZ r3).bind fun r4 =>
 (je r3).bind fun r5 =>
 (yT r5 r4).bind fun r6 =>
 match r6 with
 | true =>
  (km r3 r3).bind fun r7 =>
  match r7 with
  | true =>
   (jg r3.Kind r3.Many r3.By.Kind r3.By.N 1 r3.Name r3.By.S r3.By.K r3.By.Kids r3.Names r3.Exprs).bind fun ⟨r8_0, r8_1, r8_2, r8_3, r8_4, r8_5, r8_6⟩ =>
   if r8_0 < 0 then
    none
   else
   (yi 1 r5).bind fun ⟨r10_0, r10_1⟩ =>
   (xC r10_1 1).bind fun r11 =>
   if r11 < 0 then
    none
   else
   if r11 = r10_0 then
    some true
   else
   none
  | false =>
   none
 | false =>
  none
theorem ok_laws_FnExactItemUses (a0 : GItem) : Oc (wU a0) 3 [] [.val true (zJ a0)] fun r => (vb r, []) := tc (
 .cl (Ve a0 1048576) fun r1 =>
 .lI r1 0 (fun c2 =>
  .ret true) fun c2 =>
 .cl (Vi a0) fun r3 =>
 .vw Zg r3.Name <|
 .vw Zg r3.By.S <|
 .vo (xq 1 yM) r3.By.K <|
 .vo wF r3.By.Kids <|
 .vo (xq 1 yM) r3.Names <|
 .vo wF r3.Exprs <|
 .cl (Jb r3) fun r4 =>
 .cn (xq 1 yM) r4 <|
 .ag 1 <|
 .vw Zg r3.Name <|
 .vw Zg r3.By.S <|
 .vo (xq 1 yM) r3.By.K <|
 .vo wF r3.By.Kids <|
 .vo (xq 1 yM) r3.Names <|
 .vo wF r3.Exprs <|
 .cl (Jl r3) fun r5 =>
 .cn (xq 1 yM) r5 <|
 .vo (xq 1 yM) r5 <|
 .vo (xq 1 yM) r4 <|
 .cl (k8 r5 r4) fun r6 =>
 .vN 0 r6 (
  .ag 4 <|
  .vw Zg r3.Name <|
  .vw Zg r3.By.S <|
  .vo (xq 1 yM) r3.By.K <|
  .vo wF r3.By.Kids <|
  .vo (xq 1 yM) r3.Names <|
  .vo wF r3.Exprs <|
  .vw Zg r3.Name <|
  .vw Zg r3.By.S <|
  .vo (xq 1 yM) r3.By.K <|
  .vo wF r3.By.Kids <|
  .vo (xq 1 yM) r3.Names <|
  .vo wF r3.Exprs <|
  .cl (Vs r3 r3) fun r7 =>
  .vN 0 r7 (
   .cl (Jq r3.Kind r3.Many r3.By.Kind r3.By.N 1 r3.Name r3.By.S r3.By.K r3.By.Kids r3.Names r3.Exprs) fun ⟨r8_0, r8_1, r8_2, r8_3, r8_4, r8_5, r8_6⟩ =>
   .lI r8_0 0 (fun c9 =>
    .no) fun c9 =>
   .vo (xq 1 yM) r5 <|
   .vo (xq 1 yM) r4 <|
   .ag 4 <|
   .an 2 3 <|
   .cl (wQ 1 r5) fun ⟨r10_0, r10_1⟩ =>
   .vo (xq 1 yM) r10_1 <|
   .cl (WF r10_1 1) fun r11 =>
   .lI r11 0 (fun c12 =>
    .no) fun c12 =>
   .eI r11 r10_0 (fun c13 =>
    .ag 9 <|
    .vw Zg r3.Name <|
    .vw Zg r3.By.S <|
    .vo (xq 1 yM) r3.By.K <|
    .vo wF r3.By.Kids <|
    .vo (xq 1 yM) r3.Names <|
    .vo wF r3.Exprs <|
    .ag 7 <|
    .cn (xq 1 yM) r5 <|
    .vo (xq 1 yM) r5 <|
    .vo (xq 1 yM) r4 <|
    .ag 6 <|
    .an 0 5 <|
    .vo (xq 1 yM) r10_1 <|
    .ag 0 <|
    .q (.lF c12) <|
    .q (.eT c13) <|
    .ret true) fun c13 =>
   .no) <|
  .no) <|
 .no) (zs Try.func3)
end
end Go.Am.Try
