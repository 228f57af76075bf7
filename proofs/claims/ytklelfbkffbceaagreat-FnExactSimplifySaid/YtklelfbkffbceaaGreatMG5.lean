/- The functions of the program in plain Lean, and that the machine answers as they do; conditions at each theorem. -/
import Derived.Test.YtklelfbkffbceaaGreatMG4
set_option linter.unusedVariables false
set_option linter.unusedSimpArgs false
namespace Go.Am.Try
open Go.Am Go.Proofs
set_option linter.unusedVariables false
set_option maxRecDepth 20000
set_option maxHeartbeats 2000000
noncomputable section
def Q3 (F : (List (List UInt8)) → Option (List (List UInt8))) : Prop := ∀ (a0 : (List (List UInt8))), Oc (F a0) 86 [] [vq (zi za) a0] fun r => (.val false [.own 1 (eL (yC 1 za) r)], [])
def wv (a0 : (List (List UInt8))) (v1 : Int) : Nat → Int → (List (List UInt8)) → Option (Int × (List (List UInt8)))
  | 0, _, _ => none
  | m + 1, v2, v3 =>
  if v2 < v1 then
   (zH v2).bind fun i2 =>
   (a0[i2]?).bind fun x3 =>
   (y9 x3).bind fun r4 =>
   if y4 24 (v3.length + [r4].length) then
   wv a0 v1 m (w64 (v2 + 1)) (v3 ++ [r4])
   else none
  else
  some (v2, v3)
theorem KA (a0 : (List (List UInt8))) (v1 : Int) (m : Nat) : ∀ (v2 : Int) (v3 : (List (List UInt8))), Ol (wv a0 v1 m v2 v3) 86 (zQ Tryz.f86 0) ⟨[(3, vr 0), (7, vq (zi za) a0), (8, vi v1), (9, vi v2)], [.obj 1 (eL (yC 1 za) v3)], 0⟩ fun o => match o with | ⟨o_0, o_1⟩ => (.exit 0, ⟨[(3, vr 0), (7, vq (zi za) a0), (8, vi v1), (9, vi o_0), (10, vb false)], [.obj 1 (eL (yC 1 za) o_1)], 0⟩) := by
  induction m with
  | zero => intro v2 v3 o h; cases h
  | succ m ih => exact fun v2 v3 => tlp (
   .lI v2 v1 (fun c1 =>
    .na v2 fun i2 =>
    .ix0 (zi za) a0 i2 fun x3 =>
    .cl (xf x3) fun r4 =>
    .ao 24 (zC 1 z9) v3 [r4] fun n5 =>
    .go (ih (w64 (v2 + 1)) (v3 ++ [r4]))) fun c1 =>
   .ret (v2, v3))
def YU (n : Nat) (a0 : (List (List UInt8))) : Option (List (List UInt8)) :=
 (wv a0 (a0.length : Int) n 0 []).bind fun ⟨o1_0, o1_1⟩ =>
 some o1_1
theorem Uq (n : Nat) : Q3 (YU n) := fun a0 => tc (
 .le (zi za) a0 <|
 .lp (KA a0 (a0.length : Int) n 0 []) fun ⟨o1_0, o1_1⟩ =>
 .ret o1_1) (zj Tryz.func86)
theorem Q4 {a : List UInt8} (h : a.length <= 2 ^ 39) : y9 a = some a := if_pos (xb (by decide) (by omega))
theorem OO {a : List (List UInt8)} (ha : bsz a <= 2 ^ 39) : ∀ (l p : List (List UInt8)) (m : Nat), a = p ++ l → l.length < m → ∃ z, wv a (a.length : Int) m (p.length : Int) p = some (z, a) := by
 have hl := qJ a
 intro l
 induction l with
 | nil =>
  intro p m he hm
  subst he
  obtain ⟨m, rfl, _⟩ := zg hm
  exact ⟨_, by rw [wv, if_neg (yD p)]; simp; rfl⟩
 | cons x l ih =>
  intro p m he hm
  obtain ⟨m, rfl, hm'⟩ := zg hm
  have hx : 1 + x.length <= bsz a := Xl (by rw [he]; simp)
  have hlen : a.length = p.length + (l.length + 1) := by rw [he]; simp
  obtain ⟨z, hz⟩ := ih (p ++ [x]) m (by rw [he]; simp) (by simp only [List.length_cons] at hm'; omega)
  refine ⟨z, ?_⟩
  rw [wv, if_pos (by omega), zl, Option.bind_some, show a[p.length]? = some x by rw [he]; exact yg p x l, Option.bind_some, Q4 (by omega), Option.bind_some, if_pos (xb (by decide) (by simp only [List.length_cons, List.length_nil]; omega)), y8 p x (by omega), hz]
def yI (a0 : (List (List UInt8))) : Option (List (List UInt8)) := if bsz a0 <= 2 ^ 39 then some a0 else none
theorem Rk {a : List (List UInt8)} (h : bsz a <= 2 ^ 39) : yI a = some a := if_pos h
theorem Vs (a0 : (List (List UInt8))) (r : (List (List UInt8))) (h : yI a0 = some r) : ∃ n, YU n a0 = some r := by
 unfold yI at h
 obtain ⟨ha, h⟩ := yc h
 obtain ⟨z, hz⟩ := OO ha a0 [] (a0.length + 1) rfl (by omega)
 refine ⟨a0.length + 1, ?_⟩
 unfold YU
 simp only [List.length_nil, Int.natCast_zero] at hz
 rw [hz]; exact h
theorem wm : Q3 yI := fun a0 r h => (Vs a0 r h).elim fun n hn => Uq n a0 r hn
def vZ (F : GValue → Option GExpr) : Prop := ∀ (a0 : GValue), Oc (F a0) 84 [] [.val true (zf a0)] fun r => (.val true (yL r), [])
def wD (G_impl_exprOf : GValue → Option GExpr) (v0 : (List GValue)) (v1 : Int) (v3 : Int) (v4 : Int) (v5 : Int) (v6 : Int) (v7 : (List UInt8)) (v8 : (List (List UInt8))) (v9 : (List GExpr)) (v10 : (List UInt8)) (v11 : (List (List UInt8))) : Nat → Int → (List GExpr) → Option (Int × (List GExpr))
  | 0, _, _ => none
  | m + 1, v2, v12 =>
  if v2 < v1 then
   (zH v2).bind fun i2 =>
   (v0[i2]?).bind fun x3 =>
   (G_impl_exprOf x3).bind fun r4 =>
   if y4 88 (v12.length + [r4].length) then
   wD G_impl_exprOf v0 v1 v3 v4 v5 v6 v7 v8 v9 v10 v11 m (w64 (v2 + 1)) (v12 ++ [r4])
   else none
  else
  some (v2, v12)
theorem WU (G_impl_exprOf : GValue → Option GExpr) (H_impl_exprOf : vZ G_impl_exprOf) (v0 : (List GValue)) (v1 : Int) (v3 : Int) (v4 : Int) (v5 : Int) (v6 : Int) (v7 : (List UInt8)) (v8 : (List (List UInt8))) (v9 : (List GExpr)) (v10 : (List UInt8)) (v11 : (List (List UInt8))) (m : Nat) : ∀ (v2 : Int) (v12 : (List GExpr)), Ol (wD G_impl_exprOf v0 v1 v3 v4 v5 v6 v7 v8 v9 v10 v11 m v2 v12) 84 (zQ Tryz.f84 0) ⟨[(2, vp 0 0), (3, vp 1 0), (32, vq zb v0), (33, vi v1), (34, vi v2)], [.var [ci v3, ci v4, .ref 2, .ref 3, .ref 4], .var [ci v5, ci v6, .ref 5, .ref 6, .ref 7], .obj 1 (eL za v7), .obj 1 (eL (yC 1 za) v8), .obj 5 (eL z7 v9), .obj 1 (eL za v10), .obj 1 (eL (yC 1 za) v11), .obj 5 (eL z7 v12)], 0⟩ fun o => match o with | ⟨o_0, o_1⟩ => (.exit 0, ⟨[(2, vp 0 0), (3, vp 1 0), (32, vq zb v0), (33, vi v1), (34, vi o_0), (35, vb false)], [.var [ci v3, ci v4, .ref 2, .ref 3, .ref 4], .var [ci v5, ci v6, .ref 5, .ref 6, .ref 7], .obj 1 (eL za v7), .obj 1 (eL (yC 1 za) v8), .obj 5 (eL z7 v9), .obj 1 (eL za v10), .obj 1 (eL (yC 1 za) v11), .obj 5 (eL z7 o_1)], 0⟩) := by
  induction m with
  | zero => intro v2 v12 o h; cases h
  | succ m ih => exact fun v2 v12 => tlp (
   .lI v2 v1 (fun c1 =>
    .na v2 fun i2 =>
    .ix zh v0 i2 fun x3 =>
    .cl (H_impl_exprOf x3) fun r4 =>
    .nd (y4 88 (v12.length + [r4].length)) fun n5 =>
    .q ⟨.room 88 (eL z7 v12) ([(yL r4)] : List (List C)), .b true, by rw [(show ([(yL r4)] : List (List C)) = eL z7 [r4] from (yk (y3 r4) y7))]; exact (A.room n5)⟩ <|
    .q ⟨.uni 5 ([(yL r4)] : List (List C)), .b true, by rw [(show ([(yL r4)] : List (List C)) = eL z7 [r4] from (yk (y3 r4) y7))]; exact (A.uniO yw)⟩ <|
    .q ⟨.app (eL z7 v12) ([(yL r4)] : List (List C)), .l (eL z7 (v12 ++ [r4])), by rw [(show ([(yL r4)] : List (List C)) = eL z7 [r4] from (yk (y3 r4) y7))]; exact A.app⟩ <|
    .go (ih (w64 (v2 + 1)) (v12 ++ [r4]))) fun c1 =>
   .ret (v2, v12))
def WM (G_impl_exprOf : GValue → Option GExpr) (n : Nat) (a0 : GValue) : Option GExpr :=
 if a0.Kind = 2 then
  if a0.N < 0 then
   some (GExpr.mk 14 0 [] [] [(GExpr.mk 2 (w64 (0 - a0.N)) [] [] [])])
  else
  (y9 a0.S).bind fun r3 =>
  (yI a0.K).bind fun r4 =>
  (wD G_impl_exprOf a0.L (a0.L.length : Int) 0 0 a0.Kind a0.N [] [] [] r3 r4 n 0 []).bind fun ⟨o5_0, o5_1⟩ =>
  some (GExpr.mk a0.Kind a0.N r3 r4 o5_1)
 else
 (y9 a0.S).bind fun r2 =>
 (yI a0.K).bind fun r3 =>
 (wD G_impl_exprOf a0.L (a0.L.length : Int) 0 0 a0.Kind a0.N [] [] [] r2 r3 n 0 []).bind fun ⟨o4_0, o4_1⟩ =>
 some (GExpr.mk a0.Kind a0.N r2 r3 o4_1)
theorem Mr (G_impl_exprOf : GValue → Option GExpr) (H_impl_exprOf : vZ G_impl_exprOf) (n : Nat) : vZ (WM G_impl_exprOf n) := fun a0 => tc (
 .eI a0.Kind 2 (fun c1 =>
  .lI a0.N 0 (fun c2 =>
   .ret (GExpr.mk 14 0 [] [] [(GExpr.mk 2 (w64 (0 - a0.N)) [] [] [])])) fun c2 =>
  .cl (xf a0.S) fun r3 =>
  .cl (wm a0.K) fun r4 =>
  .le zb a0.L <|
  .lp (WU G_impl_exprOf H_impl_exprOf a0.L (a0.L.length : Int) 0 0 a0.Kind a0.N [] [] [] r3 r4 n 0 []) fun ⟨o5_0, o5_1⟩ =>
  .ret (GExpr.mk a0.Kind a0.N r3 r4 o5_1)) fun c1 =>
 .cl (xf a0.S) fun r2 =>
 .cl (wm a0.K) fun r3 =>
 .le zb a0.L <|
 .lp (WU G_impl_exprOf H_impl_exprOf a0.L (a0.L.length : Int) 0 0 a0.Kind a0.N [] [] [] r2 r3 n 0 []) fun ⟨o4_0, o4_1⟩ =>
 .ret (GExpr.mk a0.Kind a0.N r2 r3 o4_1)) (zj Tryz.func84)
def wA : Nat → GValue → Option GExpr
 | 0, _ => none
 | n + 1, a0 => WM (wA n) n a0
theorem Pz (n : Nat) : vZ (wA n) := by
 induction n with
 | zero => exact fun _ _ h => (by rw [wA] at h; cases h)
 | succ n ih =>
  have ih_impl_exprOf := ih
  exact fun a0 r h => Mr (wA n) ih_impl_exprOf n a0 r (by rw [wA] at h; exact h)
theorem GH {G : GValue → Option GExpr} {a : List GValue} {v3 v4 v5 v6 : Int} {v7 : List UInt8} {v8 : List (List UInt8)} {v9 : List GExpr} {v10 : List UInt8} {v11 : List (List UInt8)} (ha : a.length <= 2 ^ 39) : ∀ (l p : List GValue) (m : Nat), a = p ++ l → (∀ x ∈ l, G x = some (xOf x)) → l.length < m → ∃ z, wD G a (a.length : Int) v3 v4 v5 v6 v7 v8 v9 v10 v11 m (p.length : Int) (jJ p) = some (z, jJ a) := by
 intro l
 induction l with
 | nil =>
  intro p m he _ hm
  subst he
  obtain ⟨m, rfl, _⟩ := zg hm
  exact ⟨_, by rw [wD, if_neg (yD p)]; simp; rfl⟩
 | cons x l ih =>
  intro p m he hG hm
  obtain ⟨m, rfl, hm'⟩ := zg hm
  have hlen : a.length = p.length + (l.length + 1) := by rw [he]; simp
  obtain ⟨z, hz⟩ := ih (p ++ [x]) m (by rw [he]; simp) (fun y hy => hG y (List.mem_cons_of_mem _ hy)) (by simp only [List.length_cons] at hm'; omega)
  refine ⟨z, ?_⟩
  rw [wD, if_pos (by omega), zl, Option.bind_some, show a[p.length]? = some x by rw [he]; exact yg p x l, Option.bind_some, hG x List.mem_cons_self, Option.bind_some, if_pos (xb (by decide) (by rw [U3]; simp only [List.length_cons, List.length_nil]; omega)), y8 p x (by omega), <- Rw, hz]
theorem BZ : ∀ (N : Nat) (v : GValue), vsz v < N → vsz v <= 2 ^ 39 → ∀ f : Nat, vsz v + 2 <= f → wA f v = some (xOf v) := by
 intro N
 induction N with
 | zero => intro v hv; omega
 | succ N ih =>
  intro v hv hs f hf
  obtain ⟨f, rfl, _⟩ := zg (show 0 < f by omega)
  have he := jz v
  have hl := qK v.L
  rw [wA]
  unfold WM
  rw [Q4 (by omega), Rk (by omega), DQ]
  simp only [Option.bind_some]
  obtain ⟨z, hz⟩ := GH (G := wA f) (a := v.L) (v3 := 0) (v4 := 0) (v5 := v.Kind) (v6 := v.N) (v7 := []) (v8 := []) (v9 := []) (v10 := v.S) (v11 := v.K) (by omega) v.L [] f rfl (fun x hx => by
   have := ZJ hx
   exact ih x (by omega) (by omega) f (by omega)) (by omega)
  simp only [List.length_nil, Int.natCast_zero, jJ] at hz
  rw [hz]
  simp only [Option.bind_some]
  by_cases h2 : v.Kind = 2
  ·rw [if_pos h2]
   by_cases hn : v.N < 0
   ·rw [if_pos hn, if_pos ⟨h2, hn⟩]
   ·rw [if_neg hn, if_neg (fun h => hn h.2)]
  ·rw [if_neg h2, if_neg (fun h => h2 h.1)]
def Za (a0 : GValue) : Option GExpr := if vsz a0 <= 2 ^ 39 then some (xOf a0) else none
theorem Ur (a0 : GValue) (r : GExpr) (h : Za a0 = some r) : ∃ n, wA n a0 = some r := by
 unfold Za at h
 obtain ⟨ha, h⟩ := yc h
 exact ⟨vsz a0 + 2, by rw [<- h]; exact BZ _ a0 (Nat.lt_succ_self _) ha _ (Nat.le_refl _)⟩
theorem OP : vZ Za := by
 intro a0 r h
 obtain ⟨n, hn⟩ := Ur a0 r h
 exact (Pz n) a0 r hn
def ja (F : GExpr → Option GExpr) : Prop := ∀ (a0 : GExpr), Oc (F a0) 40 [] [.val true (zs a0)] fun r => (.val true (yL r), [])
def yn (G_impl_Expr_simple : GExpr → Option GExpr) (v0 : (List GExpr)) (v1 : Int) (v3 : Int) (v4 : Int) (v5 : Int) (v6 : Int) (v7 : (List UInt8)) (v8 : (List (List UInt8))) (v9 : (List GExpr)) (v10 : (List UInt8)) (v11 : (List (List UInt8))) : Nat → Int → (List GExpr) → Option (Int × (List GExpr))
  | 0, _, _ => none
  | m + 1, v2, v12 =>
  if v2 < v1 then
   (zH v2).bind fun i2 =>
   (v0[i2]?).bind fun x3 =>
   (G_impl_Expr_simple x3).bind fun r4 =>
   if y4 88 (v12.length + [r4].length) then
   yn G_impl_Expr_simple v0 v1 v3 v4 v5 v6 v7 v8 v9 v10 v11 m (w64 (v2 + 1)) (v12 ++ [r4])
   else none
  else
  some (v2, v12)
theorem w6 (G_impl_Expr_simple : GExpr → Option GExpr) (H_impl_Expr_simple : ja G_impl_Expr_simple) (v0 : (List GExpr)) (v1 : Int) (v3 : Int) (v4 : Int) (v5 : Int) (v6 : Int) (v7 : (List UInt8)) (v8 : (List (List UInt8))) (v9 : (List GExpr)) (v10 : (List UInt8)) (v11 : (List (List UInt8))) (m : Nat) : ∀ (v2 : Int) (v12 : (List GExpr)), Ol (yn G_impl_Expr_simple v0 v1 v3 v4 v5 v6 v7 v8 v9 v10 v11 m v2 v12) 40 (zQ Tryz.f40 0) ⟨[(2, vp 0 0), (5, vp 1 0), (50, vq zd v0), (51, vi v1), (52, vi v2)], [.var [ci v3, ci v4, .ref 2, .ref 3, .ref 4], .var [ci v5, ci v6, .ref 5, .ref 6, .ref 7], .obj 1 (eL za v7), .obj 1 (eL (yC 1 za) v8), .obj 5 (eL z7 v9), .obj 1 (eL za v10), .obj 1 (eL (yC 1 za) v11), .obj 5 (eL z7 v12)], 0⟩ fun o => match o with | ⟨o_0, o_1⟩ => (.exit 0, ⟨[(2, vp 0 0), (5, vp 1 0), (50, vq zd v0), (51, vi v1), (52, vi o_0), (53, vb false)], [.var [ci v3, ci v4, .ref 2, .ref 3, .ref 4], .var [ci v5, ci v6, .ref 5, .ref 6, .ref 7], .obj 1 (eL za v7), .obj 1 (eL (yC 1 za) v8), .obj 5 (eL z7 v9), .obj 1 (eL za v10), .obj 1 (eL (yC 1 za) v11), .obj 5 (eL z7 o_1)], 0⟩) := by
  induction m with
  | zero => intro v2 v12 o h; cases h
  | succ m ih => exact fun v2 v12 => tlp (
   .lI v2 v1 (fun c1 =>
    .na v2 fun i2 =>
    .ix eq_GExpr v0 i2 fun x3 =>
    .cl (H_impl_Expr_simple x3) fun r4 =>
    .nd (y4 88 (v12.length + [r4].length)) fun n5 =>
    .q ⟨.room 88 (eL z7 v12) ([(yL r4)] : List (List C)), .b true, by rw [(show ([(yL r4)] : List (List C)) = eL z7 [r4] from (yk (y3 r4) y7))]; exact (A.room n5)⟩ <|
    .q ⟨.uni 5 ([(yL r4)] : List (List C)), .b true, by rw [(show ([(yL r4)] : List (List C)) = eL z7 [r4] from (yk (y3 r4) y7))]; exact (A.uniO yw)⟩ <|
    .q ⟨.app (eL z7 v12) ([(yL r4)] : List (List C)), .l (eL z7 (v12 ++ [r4])), by rw [(show ([(yL r4)] : List (List C)) = eL z7 [r4] from (yk (y3 r4) y7))]; exact A.app⟩ <|
    .go (ih (w64 (v2 + 1)) (v12 ++ [r4]))) fun c1 =>
   .ret (v2, v12))
def ko (G_impl_Expr_simple : GExpr → Option GExpr) (n : Nat) (a0 : GExpr) : Option GExpr :=
 (kh a0 [6, 7, 10, 11, 12]).bind fun r1 =>
 match r1 with
 | true =>
  (Zz (GEnv.mk (GValue.mk 5 0 [] [] []) (GValue.mk 5 0 [] [] []) (GValue.mk 0 0 [] [] []) (GValue.mk 0 0 [] [] []) (GValue.mk 0 0 [] [] [])) a0).bind fun ⟨r2_0, r2_1⟩ =>
  if r2_1 = 0 then
   if r2_0.Kind = 4 then
    (y9 a0.S).bind fun r5 =>
    (yI a0.K).bind fun r6 =>
    (yn G_impl_Expr_simple a0.Kids (a0.Kids.length : Int) 0 0 a0.Kind a0.N [] [] [] r5 r6 n 0 []).bind fun ⟨o7_0, o7_1⟩ =>
    some (GExpr.mk a0.Kind a0.N r5 r6 o7_1)
   else
   if r2_0.Kind = 5 then
    (y9 a0.S).bind fun r6 =>
    (yI a0.K).bind fun r7 =>
    (yn G_impl_Expr_simple a0.Kids (a0.Kids.length : Int) 0 0 a0.Kind a0.N [] [] [] r6 r7 n 0 []).bind fun ⟨o8_0, o8_1⟩ =>
    some (GExpr.mk a0.Kind a0.N r6 r7 o8_1)
   else
   if r2_0.Kind = 6 then
    (y9 a0.S).bind fun r7 =>
    (yI a0.K).bind fun r8 =>
    (yn G_impl_Expr_simple a0.Kids (a0.Kids.length : Int) 0 0 a0.Kind a0.N [] [] [] r7 r8 n 0 []).bind fun ⟨o9_0, o9_1⟩ =>
    some (GExpr.mk a0.Kind a0.N r7 r8 o9_1)
   else
   (Za r2_0).bind fun r7 =>
   some r7
  else
  (y9 a0.S).bind fun r4 =>
  (yI a0.K).bind fun r5 =>
  (yn G_impl_Expr_simple a0.Kids (a0.Kids.length : Int) 0 0 a0.Kind a0.N [] [] [] r4 r5 n 0 []).bind fun ⟨o6_0, o6_1⟩ =>
  some (GExpr.mk a0.Kind a0.N r4 r5 o6_1)
 | false =>
  (y9 a0.S).bind fun r2 =>
  (yI a0.K).bind fun r3 =>
  (yn G_impl_Expr_simple a0.Kids (a0.Kids.length : Int) 0 0 a0.Kind a0.N [] [] [] r2 r3 n 0 []).bind fun ⟨o4_0, o4_1⟩ =>
  some (GExpr.mk a0.Kind a0.N r2 r3 o4_1)
theorem Rl (G_impl_Expr_simple : GExpr → Option GExpr) (H_impl_Expr_simple : ja G_impl_Expr_simple) (n : Nat) : ja (ko G_impl_Expr_simple n) := fun a0 => tc (
 .vw za9 [6, 7, 10, 11, 12] <|
 .cl (Vn a0 [6, 7, 10, 11, 12]) fun r1 =>
 .vM 0 r1 (
  .vw ze [] <|
  .vo (zC 1 z9) [] <|
  .vo zz [] <|
  .vw ze [] <|
  .vo (zC 1 z9) [] <|
  .vo zz [] <|
  .vw ze [] <|
  .vo (zC 1 z9) [] <|
  .vo zz [] <|
  .vw ze [] <|
  .vo (zC 1 z9) [] <|
  .vo zz [] <|
  .vw ze [] <|
  .vo (zC 1 z9) [] <|
  .vo zz [] <|
  .cl (Up (GEnv.mk (GValue.mk 5 0 [] [] []) (GValue.mk 5 0 [] [] []) (GValue.mk 0 0 [] [] []) (GValue.mk 0 0 [] [] []) (GValue.mk 0 0 [] [] [])) a0) fun ⟨r2_0, r2_1⟩ =>
  .eI r2_1 0 (fun c3 =>
   .eI r2_0.Kind 4 (fun c4 =>
    .cl (xf a0.S) fun r5 =>
    .cl (wm a0.K) fun r6 =>
    .le zd a0.Kids <|
    .lp (w6 G_impl_Expr_simple H_impl_Expr_simple a0.Kids (a0.Kids.length : Int) 0 0 a0.Kind a0.N [] [] [] r5 r6 n 0 []) fun ⟨o7_0, o7_1⟩ =>
    .ret (GExpr.mk a0.Kind a0.N r5 r6 o7_1)) fun c4 =>
   .eI r2_0.Kind 5 (fun c5 =>
    .cl (xf a0.S) fun r6 =>
    .cl (wm a0.K) fun r7 =>
    .le zd a0.Kids <|
    .lp (w6 G_impl_Expr_simple H_impl_Expr_simple a0.Kids (a0.Kids.length : Int) 0 0 a0.Kind a0.N [] [] [] r6 r7 n 0 []) fun ⟨o8_0, o8_1⟩ =>
    .ret (GExpr.mk a0.Kind a0.N r6 r7 o8_1)) fun c5 =>
   .eI r2_0.Kind 6 (fun c6 =>
    .cl (xf a0.S) fun r7 =>
    .cl (wm a0.K) fun r8 =>
    .le zd a0.Kids <|
    .lp (w6 G_impl_Expr_simple H_impl_Expr_simple a0.Kids (a0.Kids.length : Int) 0 0 a0.Kind a0.N [] [] [] r7 r8 n 0 []) fun ⟨o9_0, o9_1⟩ =>
    .ret (GExpr.mk a0.Kind a0.N r7 r8 o9_1)) fun c6 =>
   .cl (OP r2_0) fun r7 =>
   .ret r7) fun c3 =>
  .cl (xf a0.S) fun r4 =>
  .cl (wm a0.K) fun r5 =>
  .le zd a0.Kids <|
  .lp (w6 G_impl_Expr_simple H_impl_Expr_simple a0.Kids (a0.Kids.length : Int) 0 0 a0.Kind a0.N [] [] [] r4 r5 n 0 []) fun ⟨o6_0, o6_1⟩ =>
  .ret (GExpr.mk a0.Kind a0.N r4 r5 o6_1)) <|
 .cl (xf a0.S) fun r2 =>
 .cl (wm a0.K) fun r3 =>
 .le zd a0.Kids <|
 .lp (w6 G_impl_Expr_simple H_impl_Expr_simple a0.Kids (a0.Kids.length : Int) 0 0 a0.Kind a0.N [] [] [] r2 r3 n 0 []) fun ⟨o4_0, o4_1⟩ =>
 .ret (GExpr.mk a0.Kind a0.N r2 r3 o4_1)) (zj Tryz.func40)
def y0 : Nat → GExpr → Option GExpr
 | 0, _ => none
 | n + 1, a0 => ko (y0 n) n a0
theorem KB (n : Nat) : ja (y0 n) := by
 induction n with
 | zero => exact fun _ _ h => (by rw [y0] at h; cases h)
 | succ n ih =>
  have ih_impl_Expr_simple := ih
  exact fun a0 r h => Rl (y0 n) ih_impl_Expr_simple n a0 r (by rw [y0] at h; exact h)
def kq (a0 : GExpr) : Option GExpr := y0 (xsz a0 + 3) a0
theorem JS (a0 : GExpr) (r : GExpr) (h : kq a0 = some r) : ∃ n, y0 n a0 = some r := ⟨_, h⟩
theorem Vt : ja kq := by
 intro a0 r h
 obtain ⟨n, hn⟩ := JS a0 r h
 exact (KB n) a0 r hn
def Z0 (a0 : GExpr) : Option (GExpr × Bool) :=
 (YJ a0).bind fun r1 =>
 match r1 with
 | true =>
  (kq a0).bind fun r2 =>
  some (r2, true)
 | false =>
  some ((GExpr.mk 0 0 [] [] []), false)
theorem Us (a0 : GExpr) : Oc (Z0 a0) 9 [] [.val true (zs a0)] fun r => (.tup [(true, (yL r.1)), (false, [.bool r.2])], []) := tc (
 .cl (OK a0) fun r1 =>
 .vN 0 r1 (
  .cl (Vt a0) fun r2 =>
  .ret (r2, true)) <|
 .ret ((GExpr.mk 0 0 [] [] []), false)) (zj Tryz.func9)
def JT (F : (List UInt8) → (List UInt8) → Option Bool) : Prop := ∀ (a0 : (List UInt8)) (a1 : (List UInt8)), Oc (F a0 a1) 41 [] [vq za a0, vq za a1] fun r => (vb r, [])
def qm (a0 : (List UInt8)) (a1 : (List UInt8)) : Nat → Int → Option (Bool ⊕ Int)
  | 0, _ => none
  | m + 1, v2 =>
  if v2 < (a0.length : Int) then
   (zH v2).bind fun i2 =>
   (a0[i2]?).bind fun x3 =>
   (a1[i2]?).bind fun x4 =>
   if ((x3.toNat : Nat) : Int) = ((x4.toNat : Nat) : Int) then
    qm a0 a1 m (w64 (v2 + 1))
   else
   some (.inl false)
  else
  some (.inr v2)
theorem Rm (a0 : (List UInt8)) (a1 : (List UInt8)) (m : Nat) : ∀ (v2 : Int), Ol (qm a0 a1 m v2) 41 (zQ Tryz.f41 0) ⟨[(0, vq za a0), (1, vq za a1), (5, vi v2)], [], 0⟩ fun o => match o with | .inl o_0 => (.ret, ⟨[(4, vb o_0)], [], 0⟩) | .inr (o_1) => (.exit 0, ⟨[(0, vq za a0), (1, vq za a1), (5, vi o_1), (14, vb false)], [], 0⟩) := by
  induction m with
  | zero => intro v2 o h; cases h
  | succ m ih => exact fun v2 => tlp (
   .le za a0 <|
   .lI v2 (a0.length : Int) (fun c1 =>
    .na v2 fun i2 =>
    .ix0 za a0 i2 fun x3 =>
    .ag 1 <|
    .ix0 za a1 i2 fun x4 =>
    .eI ((x3.toNat : Nat) : Int) ((x4.toNat : Nat) : Int) (fun c5 =>
     .go (ih (w64 (v2 + 1)))) fun c5 =>
    .ret (.inl false)) fun c1 =>
   .ret (.inr v2))
def XT (n : Nat) (a0 : (List UInt8)) (a1 : (List UInt8)) : Option Bool :=
 if (a0.length : Int) = (a1.length : Int) then
  (qm a0 a1 n 0).bind fun o2 =>
  match o2 with
  | .inl o2_0 =>
   some o2_0
  | .inr (o2_1) =>
   some true
 else
 some false
theorem OQ (n : Nat) : JT (XT n) := fun a0 a1 => tc (
 .le za a0 <|
 .le za a1 <|
 .eI (a0.length : Int) (a1.length : Int) (fun c1 =>
  .l2 (Rm a0 a1 n 0) (fun o2_0 =>
   .ret o2_0) fun o2_1 =>
  .ret true) fun c1 =>
 .ret false) (zj Tryz.func41)
theorem NK {a : List UInt8} (ha : a.length <= 2 ^ 40) : ∀ (d i m : Nat), i + d = a.length → d < m → ∃ z, qm a a m (i : Int) = some (.inr z) := by
 intro d
 induction d with
 | zero =>
  intro i m hi hm
  obtain ⟨m, rfl, _⟩ := zg hm
  exact ⟨_, by rw [qm, if_neg (by omega)]⟩
 | succ d ih =>
  intro i m hi hm
  obtain ⟨m, rfl, hm'⟩ := zg hm
  have hil : i < a.length := by omega
  rw [qm, if_pos (by omega), zl, Option.bind_some, zr hil, Option.bind_some, Option.bind_some, if_pos rfl, yt (by omega)]
  exact ih (i + 1) m (by omega) (by omega)
def qI (a0 : (List UInt8)) (a1 : (List UInt8)) : Option Bool := if a0 = a1 ∧ a0.length <= 2 ^ 40 then some true else none
theorem To (a0 : (List UInt8)) (a1 : (List UInt8)) (r : Bool) (h : qI a0 a1 = some r) : ∃ n, XT n a0 a1 = some r := by
 unfold qI at h
 obtain ⟨⟨he, ha⟩, h2⟩ := yc h
 clear h
 subst he
 refine ⟨a0.length + 1, ?_⟩
 obtain ⟨z, hz⟩ := NK ha a0.length 0 (a0.length + 1) (by omega) (by omega)
 rw [show ((0 : Nat) : Int) = 0 from rfl] at hz
 unfold XT
 rw [if_pos rfl, hz]; exact h2
theorem Jl : JT qI := fun a0 a1 r h => (To a0 a1 r h).elim fun n hn => OQ n a0 a1 r hn
def Jm (F : (List (List UInt8)) → (List (List UInt8)) → Option Bool) : Prop := ∀ (a0 : (List (List UInt8))) (a1 : (List (List UInt8))), Oc (F a0 a1) 42 [] [vq (zi za) a0, vq (zi za) a1] fun r => (vb r, [])
def wR (a0 : (List (List UInt8))) (a1 : (List (List UInt8))) : Nat → Int → Option (Bool ⊕ Int)
  | 0, _ => none
  | m + 1, v2 =>
  if v2 < (a0.length : Int) then
   (zH v2).bind fun i2 =>
   (a0[i2]?).bind fun x3 =>
   (a1[i2]?).bind fun x4 =>
   (qI x3 x4).bind fun r5 =>
   match r5 with
   | true =>
    wR a0 a1 m (w64 (v2 + 1))
   | false =>
    some (.inl false)
  else
  some (.inr v2)
theorem Vu (a0 : (List (List UInt8))) (a1 : (List (List UInt8))) (m : Nat) : ∀ (v2 : Int), Ol (wR a0 a1 m v2) 42 (zQ Tryz.f42 0) ⟨[(0, vq (zi za) a0), (1, vq (zi za) a1), (5, vi v2)], [], 0⟩ fun o => match o with | .inl o_0 => (.ret, ⟨[(4, vb o_0)], [], 0⟩) | .inr (o_1) => (.exit 0, ⟨[(0, vq (zi za) a0), (1, vq (zi za) a1), (5, vi o_1), (14, vb false)], [], 0⟩) := by
  induction m with
  | zero => intro v2 o h; cases h
  | succ m ih => exact fun v2 => tlp (
   .le (zi za) a0 <|
   .lI v2 (a0.length : Int) (fun c1 =>
    .na v2 fun i2 =>
    .ix0 (zi za) a0 i2 fun x3 =>
    .ag 1 <|
    .ix0 (zi za) a1 i2 fun x4 =>
    .cl (Jl x3 x4) fun r5 =>
    .vN 0 r5 (
     .go (ih (w64 (v2 + 1)))) <|
    .ret (.inl false)) fun c1 =>
   .ret (.inr v2))
def X9 (n : Nat) (a0 : (List (List UInt8))) (a1 : (List (List UInt8))) : Option Bool :=
 if (a0.length : Int) = (a1.length : Int) then
  (wR a0 a1 n 0).bind fun o2 =>
  match o2 with
  | .inl o2_0 =>
   some o2_0
  | .inr (o2_1) =>
   some true
 else
 some false
theorem P0 (n : Nat) : Jm (X9 n) := fun a0 a1 => tc (
 .le (zi za) a0 <|
 .le (zi za) a1 <|
 .eI (a0.length : Int) (a1.length : Int) (fun c1 =>
  .l2 (Vu a0 a1 n 0) (fun o2_0 =>
   .ret o2_0) fun o2_1 =>
  .ret true) fun c1 =>
 .ret false) (zj Tryz.func42)
theorem Ms {a : List (List UInt8)} (ha : bsz a <= 2 ^ 40) : ∀ (d i m : Nat), i + d = a.length → d < m → ∃ z, wR a a m (i : Int) = some (.inr z) := by
 have hl := qJ a
 intro d
 induction d with
 | zero =>
  intro i m hi hm
  obtain ⟨m, rfl, _⟩ := zg hm
  exact ⟨_, by rw [wR, if_neg (by omega)]⟩
 | succ d ih =>
  intro i m hi hm
  obtain ⟨m, rfl, hm'⟩ := zg hm
  have hil : i < a.length := by omega
  have hx := Xl (List.getElem_mem hil)
  rw [wR, if_pos (by omega), zl, Option.bind_some, zr hil, Option.bind_some, Option.bind_some]
  unfold qI
  rw [if_pos ⟨rfl, by omega⟩, Option.bind_some, yt (by omega)]
  exact ih (i + 1) m (by omega) (by omega)
def kr (a0 : (List (List UInt8))) (a1 : (List (List UInt8))) : Option Bool := if a0 = a1 ∧ bsz a0 <= 2 ^ 40 then some true else none
theorem Rn (a0 : (List (List UInt8))) (a1 : (List (List UInt8))) (r : Bool) (h : kr a0 a1 = some r) : ∃ n, X9 n a0 a1 = some r := by
 unfold kr at h
 obtain ⟨⟨he, ha⟩, h2⟩ := yc h
 clear h
 subst he
 have hl := qJ a0
 refine ⟨a0.length + 1, ?_⟩
 obtain ⟨z, hz⟩ := Ms ha a0.length 0 (a0.length + 1) (by omega) (by omega)
 rw [show ((0 : Nat) : Int) = 0 from rfl] at hz
 unfold X9
 rw [if_pos rfl, hz]; exact h2
theorem Ut : Jm kr := fun a0 a1 r h => (Rn a0 a1 r h).elim fun n hn => P0 n a0 a1 r hn
def Yn (F : (List GExpr) → (List GExpr) → Option Bool) : Prop := ∀ (a0 : (List GExpr)) (a1 : (List GExpr)), Oc (F a0 a1) 43 [] [vq zd a0, vq zd a1] fun r => (vb r, [])
def Zb (F : GExpr → GExpr → Option Bool) : Prop := ∀ (a0 : GExpr) (a1 : GExpr), Oc (F a0 a1) 10 [] [.val true (zs a0), .val true (zs a1)] fun r => (vb r, [])
def qn (G_laws_eqExpr : GExpr → GExpr → Option Bool) (a0 : (List GExpr)) (a1 : (List GExpr)) : Nat → Int → Option (Bool ⊕ Int)
  | 0, _ => none
  | m + 1, v2 =>
  if v2 < (a0.length : Int) then
   (zH v2).bind fun i2 =>
   (a0[i2]?).bind fun x3 =>
   (a1[i2]?).bind fun x4 =>
   (G_laws_eqExpr x3 x4).bind fun r5 =>
   match r5 with
   | true =>
    qn G_laws_eqExpr a0 a1 m (w64 (v2 + 1))
   | false =>
    some (.inl false)
  else
  some (.inr v2)
theorem Ro (G_laws_eqExpr : GExpr → GExpr → Option Bool) (H_laws_eqExpr : Zb G_laws_eqExpr) (a0 : (List GExpr)) (a1 : (List GExpr)) (m : Nat) : ∀ (v2 : Int), Ol (qn G_laws_eqExpr a0 a1 m v2) 43 (zQ Tryz.f43 0) ⟨[(0, vq zd a0), (1, vq zd a1), (5, vi v2)], [], 0⟩ fun o => match o with | .inl o_0 => (.ret, ⟨[(4, vb o_0)], [], 0⟩) | .inr (o_1) => (.exit 0, ⟨[(0, vq zd a0), (1, vq zd a1), (5, vi o_1), (14, vb false)], [], 0⟩) := by
  induction m with
  | zero => intro v2 o h; cases h
  | succ m ih => exact fun v2 => tlp (
   .le zd a0 <|
   .lI v2 (a0.length : Int) (fun c1 =>
    .na v2 fun i2 =>
    .ix eq_GExpr a0 i2 fun x3 =>
    .ag 1 <|
    .ix eq_GExpr a1 i2 fun x4 =>
    .cl (H_laws_eqExpr x3 x4) fun r5 =>
    .vN 0 r5 (
     .go (ih (w64 (v2 + 1)))) <|
    .ret (.inl false)) fun c1 =>
   .ret (.inr v2))
def Yo (G_laws_eqExpr : GExpr → GExpr → Option Bool) (n : Nat) (a0 : (List GExpr)) (a1 : (List GExpr)) : Option Bool :=
 if (a0.length : Int) = (a1.length : Int) then
  (qn G_laws_eqExpr a0 a1 n 0).bind fun o2 =>
  match o2 with
  | .inl o2_0 =>
   some o2_0
  | .inr (o2_1) =>
   some true
 else
 some false
theorem OR (G_laws_eqExpr : GExpr → GExpr → Option Bool) (H_laws_eqExpr : Zb G_laws_eqExpr) (n : Nat) : Yn (Yo G_laws_eqExpr n) := fun a0 a1 => tc (
 .le zd a0 <|
 .le zd a1 <|
 .eI (a0.length : Int) (a1.length : Int) (fun c1 =>
  .l2 (Ro G_laws_eqExpr H_laws_eqExpr a0 a1 n 0) (fun o2_0 =>
   .ret o2_0) fun o2_1 =>
  .ret true) fun c1 =>
 .ret false) (zj Tryz.func43)
def WN (G_laws_eqExprS : (List GExpr) → (List GExpr) → Option Bool) (a0 : GExpr) (a1 : GExpr) : Option Bool :=
 if a0.Kind = a1.Kind then
  if a0.N = a1.N then
   (qI a0.S a1.S).bind fun r3 =>
   match r3 with
   | true =>
    (kr a0.K a1.K).bind fun r4 =>
    match r4 with
    | true =>
     (G_laws_eqExprS a0.Kids a1.Kids).bind fun r5 =>
     match r5 with
     | true =>
      some true
     | false =>
      some false
    | false =>
     some false
   | false =>
    some false
  else
  some false
 else
 some false
theorem Mt (G_laws_eqExprS : (List GExpr) → (List GExpr) → Option Bool) (H_laws_eqExprS : Yn G_laws_eqExprS) : Zb (WN G_laws_eqExprS) := fun a0 a1 => tc (
 .eI a0.Kind a1.Kind (fun c1 =>
  .eI a0.N a1.N (fun c2 =>
   .cl (Jl a0.S a1.S) fun r3 =>
   .vN 0 r3 (
    .cl (Ut a0.K a1.K) fun r4 =>
    .vN 0 r4 (
     .cl (H_laws_eqExprS a0.Kids a1.Kids) fun r5 =>
     .vN 0 r5 (
      .ret true) <|
     .ret false) <|
    .ret false) <|
   .ret false) fun c2 =>
  .ret false) fun c1 =>
 .ret false) (zj Tryz.func10)
mutual
def wS : Nat → (List GExpr) → (List GExpr) → Option Bool
 | 0, _, _ => none
 | n + 1, a0, a1 => Yo (qv n) n a0 a1
def qv : Nat → GExpr → GExpr → Option Bool
 | 0, _, _ => none
 | n + 1, a0, a1 => WN (wS n) a0 a1
end
theorem Q5 (n : Nat) : Yn (wS n) ∧ Zb (qv n) := by
 induction n with
 | zero => exact ⟨fun _ _ _ h => (by rw [wS] at h; cases h), fun _ _ _ h => (by rw [qv] at h; cases h)⟩
 | succ n ih =>
  obtain ⟨ih_laws_eqExprS, ih_laws_eqExpr⟩ := ih
  exact ⟨fun a0 a1 r h => OR (qv n) ih_laws_eqExpr n a0 a1 r (by rw [wS] at h; exact h),
   fun a0 a1 r h => Mt (wS n) ih_laws_eqExprS a0 a1 r (by rw [qv] at h; exact h)⟩
theorem L9 {G : GExpr → GExpr → Option Bool} {a : List GExpr} {f : Nat} (ha : a.length <= 2 ^ 40) (hf : a.length < f) (hG : ∀ v ∈ a, G v v = some true) : Yo G f a a = some true := by
 have loop : ∀ (d i m : Nat), i + d = a.length → d < m → ∃ z, qn G a a m (i : Int) = some (.inr z) := by
  intro d
  induction d with
  | zero =>
   intro i m hi hm
   obtain ⟨m, rfl, _⟩ := zg hm
   exact ⟨_, by rw [qn, if_neg (by omega)]⟩
  | succ d ih =>
   intro i m hi hm
   obtain ⟨m, rfl, hm'⟩ := zg hm
   have hil : i < a.length := by omega
   rw [qn, if_pos (by omega), zl, Option.bind_some, zr hil, Option.bind_some, Option.bind_some, hG _ (List.getElem_mem hil), Option.bind_some, yt (by omega)]
   exact ih (i + 1) m (by omega) (by omega)
 obtain ⟨z, hz⟩ := loop a.length 0 f (by omega) (by omega)
 rw [show ((0 : Nat) : Int) = 0 from rfl] at hz
 unfold Yo
 rw [if_pos rfl, hz]; rfl
theorem NL : ∀ (N : Nat) (v : GExpr), xsz v < N → xsz v <= 2 ^ 40 → ∀ f : Nat, 2 * xsz v + 3 <= f → qv f v v = some true := by
 intro N
 induction N with
 | zero => intro v hv; omega
 | succ N ih =>
  intro v hv hs f hf
  obtain ⟨f, rfl, _⟩ := zg (show 0 < f by omega)
  obtain ⟨f, rfl, _⟩ := zg (show 0 < f by omega)
  have he := xv v
  have hl := yF v.Kids
  rw [qv]
  unfold WN qI kr
  rw [if_pos rfl, if_pos rfl, if_pos (show v.S = v.S ∧ v.S.length <= 2 ^ 40 from ⟨rfl, by omega⟩), Option.bind_some]
  dsimp only
  rw [if_pos (show v.K = v.K ∧ bsz v.K <= 2 ^ 40 from ⟨rfl, by omega⟩), Option.bind_some]
  dsimp only
  rw [wS, L9 (by omega) (by omega) fun x hx => ?_]
  ·rfl
  ·have := xA hx
   exact ih x (by omega) (by omega) f (by omega)
open Classical in
noncomputable def XU (a0 : (List GExpr)) (a1 : (List GExpr)) : Option Bool := if a0 = a1 ∧ z8 a0 <= 2 ^ 40 then some true else none
theorem Tp (a0 : (List GExpr)) (a1 : (List GExpr)) (r : Bool) (h : XU a0 a1 = some r) : ∃ n, wS n a0 a1 = some r := by
 unfold XU at h
 obtain ⟨⟨he, ha⟩, h2⟩ := yc h
 clear h
 subst he
 have hl := yF a0
 refine ⟨2 * z8 a0 + 5, ?_⟩
 rw [wS, L9 (by omega) (by omega) fun x hx => ?_, h2]
 have := xA hx
 exact NL _ x (Nat.lt_succ_self _) (by omega) _ (by omega)
open Classical in
noncomputable def jr (a0 : GExpr) (a1 : GExpr) : Option Bool := if a0 = a1 ∧ xsz a0 <= 2 ^ 40 then some true else none
theorem Uu (a0 : GExpr) (a1 : GExpr) (r : Bool) (h : jr a0 a1 = some r) : ∃ n, qv n a0 a1 = some r := by
 unfold jr at h
 obtain ⟨⟨he, ha⟩, h2⟩ := yc h
 clear h
 subst he
 exact ⟨2 * xsz a0 + 3, by rw [<- h2]; exact NL _ a0 (Nat.lt_succ_self _) ha _ (Nat.le_refl _)⟩
theorem zbg : Yn XU := by
 intro a0 a1 r h
 obtain ⟨n, hn⟩ := Tp a0 a1 r h
 exact (Q5 n).1 a0 a1 r hn
theorem XV : Zb jr := by
 intro a0 a1 r h
 obtain ⟨n, hn⟩ := Uu a0 a1 r h
 exact (Q5 n).2 a0 a1 r hn
def Q6 (F : Int → (List UInt8) → Option (Int × (List UInt8))) : Prop := ∀ (a0 : Int) (e0 : (List UInt8)), Oc (F a0 e0) 44 [.obj 1 (eL za e0)] [vr 0, vi a0] fun r => (vi r.1, [.obj 1 (eL za r.2)])
def ww : Nat → Int → Int → (List UInt8) → Option (Int × Int × (List UInt8))
  | 0, _, _, _ => none
  | m + 1, a0, v1, e0 =>
  if v1 < (e0.length : Int) then
   (zH v1).bind fun i2 =>
   (e0[i2]?).bind fun x3 =>
   ww m (w64 (a0 + 1)) (w64 (v1 + 1)) (e0.set i2 (b8 a0))
  else
  some (a0, v1, e0)
theorem KC (m : Nat) : ∀ (a0 : Int) (v1 : Int) (e0 : (List UInt8)), Ol (ww m a0 v1 e0) 44 (zQ Tryz.f44 0) ⟨[(0, vr 0), (1, vi a0), (5, vi v1)], [.obj 1 (eL za e0)], 1⟩ fun o => match o with | ⟨o_0, o_1, o_2⟩ => (.exit 0, ⟨[(0, vr 0), (1, vi o_0), (5, vi o_1), (9, vb false)], [.obj 1 (eL za o_2)], 1⟩) := by
  induction m with
  | zero => intro a0 v1 e0 o h; cases h
  | succ m ih => exact fun a0 v1 e0 => tlp (
   .le za e0 <|
   .lI v1 (e0.length : Int) (fun c1 =>
    .na v1 fun i2 =>
    .ix0 za e0 i2 fun x3 =>
    .ag 0 <|
    .sl (e := za) (x := (b8 a0)) (c := [.int .u8 (((b8 a0).toNat : Nat) : Int)]) rfl e0 i2 <|
    .go (ih (w64 (a0 + 1)) (w64 (v1 + 1)) (e0.set i2 (b8 a0)))) fun c1 =>
   .ret (a0, v1, e0))
def YV (n : Nat) (a0 : Int) (e0 : (List UInt8)) : Option (Int × (List UInt8)) :=
 (ww n a0 0 e0).bind fun ⟨o1_0, o1_1, o1_2⟩ =>
 some (o1_0, o1_2)
theorem Uv (n : Nat) : Q6 (YV n) := fun a0 e0 => tc (
 .lp (KC n a0 0 e0) fun ⟨o1_0, o1_1, o1_2⟩ =>
 .ret (o1_0, o1_2)) (zj Tryz.func44)
theorem OS : ∀ (l p : List UInt8) (k : Int) (m : Nat), 0 <= k → k + 2 * l.length <= 2 ^ 41 → p.length + l.length <= 2 ^ 41 → l.length < m → ∃ z, ww m k (p.length : Int) (p ++ l) = some (k + l.length, z, p ++ mB k l) := by
 intro l
 induction l with
 | nil =>
  intro p k m _ _ _ hm
  obtain ⟨m, rfl, _⟩ := zg hm
  exact ⟨_, by rw [ww, if_neg (yD p)]; simp [mB]; rfl⟩
 | cons x l ih =>
  intro p k m h0 h1 h2 hm
  obtain ⟨m, rfl, hm'⟩ := zg hm
  simp only [List.length_cons] at h1 h2 hm'
  obtain ⟨z, hz⟩ := ih (p ++ [b8 k]) (k + 1) m (by omega) (by omega) (by simp; omega) (by omega)
  rw [ww, if_pos (Wz p x l), zl, Option.bind_some, yg, Option.bind_some, Ql, y8 p (b8 k) (by omega), yu (x := k + 1) (by omega) (by omega), QE p (b8 k) l, hz]
  refine ⟨z, ?_⟩
  rw [mB, QE p (b8 k) (mB (k + 1) l)]
  simp only [List.length_cons]
  rw [show k + 1 + (l.length : Int) = k + ((l.length + 1 : Nat) : Int) by omega]
def wE (a0 : Int) (e0 : (List UInt8)) : Option (Int × (List UInt8)) := if 0 <= a0 ∧ a0 + 2 * e0.length <= 2 ^ 41 then some (a0 + e0.length, mB a0 e0) else none
theorem XA {a : Int} {s : List UInt8} (h0 : 0 <= a) (h1 : a + 2 * s.length <= 2 ^ 41) : wE a s = some (a + s.length, mB a s) := if_pos ⟨h0, h1⟩
theorem Vv (a0 : Int) (e0 : (List UInt8)) (r : (Int × (List UInt8))) (h : wE a0 e0 = some r) : ∃ n, YV n a0 e0 = some r := by
 unfold wE at h
 obtain ⟨⟨h0, h1⟩, h⟩ := yc h
 obtain ⟨z, hz⟩ := OS e0 [] a0 (e0.length + 1) h0 h1 (by simp; omega) (by omega)
 refine ⟨e0.length + 1, ?_⟩
 unfold YV
 simp only [List.nil_append, List.length_nil, Int.natCast_zero] at hz
 rw [hz]
 exact h
theorem Yw : Q6 wE := fun a0 e0 r h => (Vv a0 e0 r h).elim fun n hn => Uv n a0 e0 r hn
def WV (F : Int → (List (List UInt8)) → Option (Int × (List (List UInt8)))) : Prop := ∀ (a0 : Int) (e0 : (List (List UInt8))), Oc (F a0 e0) 45 [.obj 1 (eL (yC 1 za) e0)] [vr 0, vi a0] fun r => (vi r.1, [.obj 1 (eL (yC 1 za) r.2)])
def wg : Nat → Int → Int → (List (List UInt8)) → Option (Int × Int × (List (List UInt8)))
  | 0, _, _, _ => none
  | m + 1, a0, v1, e0 =>
  if v1 < (e0.length : Int) then
   (zH v1).bind fun i2 =>
   (e0[i2]?).bind fun x3 =>
   (wE a0 x3).bind fun ⟨r4_0, r4_1⟩ =>
   wg m r4_0 (w64 (v1 + 1)) (e0.set i2 r4_1)
  else
  some (a0, v1, e0)
theorem JU (m : Nat) : ∀ (a0 : Int) (v1 : Int) (e0 : (List (List UInt8))), Ol (wg m a0 v1 e0) 45 (zQ Tryz.f45 0) ⟨[(0, vr 0), (1, vi a0), (5, vi v1)], [.obj 1 (eL (yC 1 za) e0)], 1⟩ fun o => match o with | ⟨o_0, o_1, o_2⟩ => (.exit 0, ⟨[(0, vr 0), (1, vi o_0), (5, vi o_1), (9, vb false)], [.obj 1 (eL (yC 1 za) o_2)], 1⟩) := by
  induction m with
  | zero => intro a0 v1 e0 o h; cases h
  | succ m ih => exact fun a0 v1 e0 => tlp (
   .le (yC 1 za) e0 <|
   .lI v1 (e0.length : Int) (fun c1 =>
    .na v1 fun i2 =>
    .ix0 (yC 1 za) e0 i2 fun x3 =>
    .ag 0 <|
    .cl (Yw a0 x3) fun ⟨r4_0, r4_1⟩ =>
    .ag 1 <|
    .sl (e := (yC 1 za)) (x := r4_1) (c := [.own 1 (eL za r4_1)]) rfl e0 i2 <|
    .go (ih r4_0 (w64 (v1 + 1)) (e0.set i2 r4_1))) fun c1 =>
   .ret (a0, v1, e0))
def Yx (n : Nat) (a0 : Int) (e0 : (List (List UInt8))) : Option (Int × (List (List UInt8))) :=
 (wg n a0 0 e0).bind fun ⟨o1_0, o1_1, o1_2⟩ =>
 some (o1_0, o1_2)
theorem Tq (n : Nat) : WV (Yx n) := fun a0 e0 => tc (
 .lp (JU n a0 0 e0) fun ⟨o1_0, o1_1, o1_2⟩ =>
 .ret (o1_0, o1_2)) (zj Tryz.func45)
theorem P1 : ∀ (l p : List (List UInt8)) (k : Int) (m : Nat), 0 <= k → k + 2 * bsz l <= 2 ^ 41 → p.length + l.length <= 2 ^ 41 → l.length < m → ∃ z, wg m k (p.length : Int) (p ++ l) = some (k + cB l, z, p ++ mBB k l) := by
 intro l
 induction l with
 | nil =>
  intro p k m _ _ _ hm
  obtain ⟨m, rfl, _⟩ := zg hm
  exact ⟨_, by rw [wg, if_neg (yD p)]; simp [mBB, cB]; rfl⟩
 | cons x l ih =>
  intro p k m h0 h1 h2 hm
  obtain ⟨m, rfl, hm'⟩ := zg hm
  rw [Xa] at h1
  simp only [List.length_cons] at h2 hm'
  obtain ⟨z, hz⟩ := ih (p ++ [mB k x]) (k + x.length) m (by omega) (by omega) (by simp; omega) (by omega)
  rw [wg, if_pos (Wz p x l), zl, Option.bind_some, yg, Option.bind_some, XA (by omega) (by omega), Option.bind_some]
  dsimp only
  rw [Ql, y8 p (mB k x) (by omega), QE p (mB k x) l, hz]
  refine ⟨z, ?_⟩
  rw [mBB, QE p (mB k x) (mBB (k + x.length) l), Hp]
  rw [show k + (x.length : Int) + (cB l : Int) = k + ((x.length + cB l : Nat) : Int) by omega]
def qp (a0 : Int) (e0 : (List (List UInt8))) : Option (Int × (List (List UInt8))) := if 0 <= a0 ∧ a0 + 2 * bsz e0 <= 2 ^ 41 then some (a0 + cB e0, mBB a0 e0) else none
theorem WO {a : Int} {s : List (List UInt8)} (h0 : 0 <= a) (h1 : a + 2 * bsz s <= 2 ^ 41) : qp a s = some (a + cB s, mBB a s) := if_pos ⟨h0, h1⟩
theorem KD (a0 : Int) (e0 : (List (List UInt8))) (r : (Int × (List (List UInt8)))) (h : qp a0 e0 = some r) : ∃ n, Yx n a0 e0 = some r := by
 unfold qp at h
 obtain ⟨⟨h0, h1⟩, h⟩ := yc h
 have := qJ e0
 obtain ⟨z, hz⟩ := P1 e0 [] a0 (e0.length + 1) h0 h1 (by simp; omega) (by omega)
 refine ⟨e0.length + 1, ?_⟩
 unfold Yx
 simp only [List.nil_append, List.length_nil, Int.natCast_zero] at hz
 rw [hz]
 exact h
theorem Wv : WV qp := fun a0 e0 r h => (KD a0 e0 r h).elim fun n hn => Tq n a0 e0 r hn
def jE (F : Int → (List GExpr) → Option (Int × (List GExpr))) : Prop := ∀ (a0 : Int) (e0 : (List GExpr)), Oc (F a0 e0) 46 [.obj 5 (eL z7 e0)] [vr 0, vi a0] fun r => (vi r.1, [.obj 5 (eL z7 r.2)])
def wx (G_laws_markExprS : Int → (List GExpr) → Option (Int × (List GExpr))) : Nat → Int → Int → (List GExpr) → Option (Int × Int × (List GExpr))
  | 0, _, _, _ => none
  | m + 1, a0, v1, e0 =>
  if v1 < (e0.length : Int) then
   (zH v1).bind fun i2 =>
   (e0[i2]?).bind fun x3 =>
   ((e0.set i2 (GExpr.mk a0 x3.N x3.S x3.K x3.Kids))[i2]?).bind fun x4 =>
   (((e0.set i2 (GExpr.mk a0 x3.N x3.S x3.K x3.Kids)).set i2 (GExpr.mk x4.Kind (w64 (a0 + 1)) x4.S x4.K x4.Kids))[i2]?).bind fun x5 =>
   (wE (w64 ((w64 (a0 + 1)) + 1)) x5.S).bind fun ⟨r6_0, r6_1⟩ =>
   ((((e0.set i2 (GExpr.mk a0 x3.N x3.S x3.K x3.Kids)).set i2 (GExpr.mk x4.Kind (w64 (a0 + 1)) x4.S x4.K x4.Kids)).set i2 (GExpr.mk x5.Kind x5.N r6_1 x5.K x5.Kids))[i2]?).bind fun x7 =>
   (qp r6_0 x7.K).bind fun ⟨r8_0, r8_1⟩ =>
   (((((e0.set i2 (GExpr.mk a0 x3.N x3.S x3.K x3.Kids)).set i2 (GExpr.mk x4.Kind (w64 (a0 + 1)) x4.S x4.K x4.Kids)).set i2 (GExpr.mk x5.Kind x5.N r6_1 x5.K x5.Kids)).set i2 (GExpr.mk x7.Kind x7.N x7.S r8_1 x7.Kids))[i2]?).bind fun x9 =>
   (G_laws_markExprS r8_0 x9.Kids).bind fun ⟨r10_0, r10_1⟩ =>
   wx G_laws_markExprS m r10_0 (w64 (v1 + 1)) (((((e0.set i2 (GExpr.mk a0 x3.N x3.S x3.K x3.Kids)).set i2 (GExpr.mk x4.Kind (w64 (a0 + 1)) x4.S x4.K x4.Kids)).set i2 (GExpr.mk x5.Kind x5.N r6_1 x5.K x5.Kids)).set i2 (GExpr.mk x7.Kind x7.N x7.S r8_1 x7.Kids)).set i2 (GExpr.mk x9.Kind x9.N x9.S x9.K r10_1))
  else
  some (a0, v1, e0)
theorem KE (G_laws_markExprS : Int → (List GExpr) → Option (Int × (List GExpr))) (H_laws_markExprS : jE G_laws_markExprS) (m : Nat) : ∀ (a0 : Int) (v1 : Int) (e0 : (List GExpr)), Ol (wx G_laws_markExprS m a0 v1 e0) 46 (zQ Tryz.f46 0) ⟨[(0, vr 0), (1, vi a0), (5, vi v1)], [.obj 5 (eL z7 e0)], 1⟩ fun o => match o with | ⟨o_0, o_1, o_2⟩ => (.exit 0, ⟨[(0, vr 0), (1, vi o_0), (5, vi o_1), (9, vb false)], [.obj 5 (eL z7 o_2)], 1⟩) := by
  induction m with
  | zero => intro a0 v1 e0 o h; cases h
  | succ m ih => exact fun a0 v1 e0 => tlp (
   .le z7 e0 <|
   .lI v1 (e0.length : Int) (fun c1 =>
    .na v1 fun i2 =>
    .ix y3 e0 i2 fun x3 =>
    .ag 0 <|
    .sl (y3 (GExpr.mk a0 x3.N x3.S x3.K x3.Kids)) e0 i2 <|
    .ag 1 <|
    .ix y3 (e0.set i2 (GExpr.mk a0 x3.N x3.S x3.K x3.Kids)) i2 fun x4 =>
    .ag 0 <|
    .sl (y3 (GExpr.mk x4.Kind (w64 (a0 + 1)) x4.S x4.K x4.Kids)) (e0.set i2 (GExpr.mk a0 x3.N x3.S x3.K x3.Kids)) i2 <|
    .ag 2 <|
    .ix y3 ((e0.set i2 (GExpr.mk a0 x3.N x3.S x3.K x3.Kids)).set i2 (GExpr.mk x4.Kind (w64 (a0 + 1)) x4.S x4.K x4.Kids)) i2 fun x5 =>
    .ag 0 <|
    .cl (Yw (w64 ((w64 (a0 + 1)) + 1)) x5.S) fun ⟨r6_0, r6_1⟩ =>
    .ag 1 <|
    .sl (y3 (GExpr.mk x5.Kind x5.N r6_1 x5.K x5.Kids)) ((e0.set i2 (GExpr.mk a0 x3.N x3.S x3.K x3.Kids)).set i2 (GExpr.mk x4.Kind (w64 (a0 + 1)) x4.S x4.K x4.Kids)) i2 <|
    .ag 4 <|
    .ix y3 (((e0.set i2 (GExpr.mk a0 x3.N x3.S x3.K x3.Kids)).set i2 (GExpr.mk x4.Kind (w64 (a0 + 1)) x4.S x4.K x4.Kids)).set i2 (GExpr.mk x5.Kind x5.N r6_1 x5.K x5.Kids)) i2 fun x7 =>
    .ag 0 <|
    .cl (Wv r6_0 x7.K) fun ⟨r8_0, r8_1⟩ =>
    .ag 1 <|
    .sl (y3 (GExpr.mk x7.Kind x7.N x7.S r8_1 x7.Kids)) (((e0.set i2 (GExpr.mk a0 x3.N x3.S x3.K x3.Kids)).set i2 (GExpr.mk x4.Kind (w64 (a0 + 1)) x4.S x4.K x4.Kids)).set i2 (GExpr.mk x5.Kind x5.N r6_1 x5.K x5.Kids)) i2 <|
    .ag 6 <|
    .ix y3 ((((e0.set i2 (GExpr.mk a0 x3.N x3.S x3.K x3.Kids)).set i2 (GExpr.mk x4.Kind (w64 (a0 + 1)) x4.S x4.K x4.Kids)).set i2 (GExpr.mk x5.Kind x5.N r6_1 x5.K x5.Kids)).set i2 (GExpr.mk x7.Kind x7.N x7.S r8_1 x7.Kids)) i2 fun x9 =>
    .ag 0 <|
    .cl (H_laws_markExprS r8_0 x9.Kids) fun ⟨r10_0, r10_1⟩ =>
    .ag 1 <|
    .sl (y3 (GExpr.mk x9.Kind x9.N x9.S x9.K r10_1)) ((((e0.set i2 (GExpr.mk a0 x3.N x3.S x3.K x3.Kids)).set i2 (GExpr.mk x4.Kind (w64 (a0 + 1)) x4.S x4.K x4.Kids)).set i2 (GExpr.mk x5.Kind x5.N r6_1 x5.K x5.Kids)).set i2 (GExpr.mk x7.Kind x7.N x7.S r8_1 x7.Kids)) i2 <|
    .go (ih r10_0 (w64 (v1 + 1)) (((((e0.set i2 (GExpr.mk a0 x3.N x3.S x3.K x3.Kids)).set i2 (GExpr.mk x4.Kind (w64 (a0 + 1)) x4.S x4.K x4.Kids)).set i2 (GExpr.mk x5.Kind x5.N r6_1 x5.K x5.Kids)).set i2 (GExpr.mk x7.Kind x7.N x7.S r8_1 x7.Kids)).set i2 (GExpr.mk x9.Kind x9.N x9.S x9.K r10_1)))) fun c1 =>
   .ret (a0, v1, e0))
def YW (G_laws_markExprS : Int → (List GExpr) → Option (Int × (List GExpr))) (n : Nat) (a0 : Int) (e0 : (List GExpr)) : Option (Int × (List GExpr)) :=
 (wx G_laws_markExprS n a0 0 e0).bind fun ⟨o1_0, o1_1, o1_2⟩ =>
 some (o1_0, o1_2)
theorem Uw (G_laws_markExprS : Int → (List GExpr) → Option (Int × (List GExpr))) (H_laws_markExprS : jE G_laws_markExprS) (n : Nat) : jE (YW G_laws_markExprS n) := fun a0 e0 => tc (
 .lp (KE G_laws_markExprS H_laws_markExprS n a0 0 e0) fun ⟨o1_0, o1_1, o1_2⟩ =>
 .ret (o1_0, o1_2)) (zj Tryz.func46)
def xy : Nat → Int → (List GExpr) → Option (Int × (List GExpr))
 | 0, _, _ => none
 | n + 1, a0, e0 => YW (xy n) n a0 e0
theorem Rp (n : Nat) : jE (xy n) := by
 induction n with
 | zero => exact fun _ _ _ h => (by rw [xy] at h; cases h)
 | succ n ih =>
  have ih_laws_markExprS := ih
  exact fun a0 e0 r h => Uw (xy n) ih_laws_markExprS n a0 e0 r (by rw [xy] at h; exact h)
theorem OT {G : Int → List GExpr → Option (Int × List GExpr)} : ∀ (l p : List GExpr) (k : Int) (m : Nat), (∀ v ∈ l, ∀ i : Int, 0 <= i → i + 2 * z8 v.Kids <= 2 ^ 41 → G i v.Kids = some (i + cXs v.Kids, mXs i v.Kids)) → 0 <= k → k + 2 * z8 l <= 2 ^ 41 → p.length + l.length <= 2 ^ 41 → l.length < m → ∃ z, wx G m k (p.length : Int) (p ++ l) = some (k + cXs l, z, p ++ mXs k l) := by
 intro l
 induction l with
 | nil =>
  intro p k m _ _ _ _ hm
  obtain ⟨m, rfl, _⟩ := zg hm
  exact ⟨_, by rw [wx, if_neg (yD p)]; simp [mXs, cXs]; rfl⟩
 | cons x l ih =>
  intro p k m hG h0 h1 h2 hm
  obtain ⟨m, rfl, hm'⟩ := zg hm
  simp only [List.length_cons] at h2 hm'
  have hx := hG x List.mem_cons_self
  have hc := Eo x
  obtain ⟨kd, n, s, kk, ks⟩ := x
  have hb := W1 kk
  have hd := JY ks
  simp only [z8, xsz] at h1
  simp only [cX, xsz] at hc
  simp only [GExpr.Kids] at hx
  obtain ⟨z, hz⟩ := ih (p ++ [mX k (.mk kd n s kk ks)]) (k + cX (.mk kd n s kk ks)) m (fun v hv => hG v (List.mem_cons_of_mem _ hv)) (by omega) (by simp only [cX]; omega) (by simp; omega) (by omega)
  rw [wx, if_pos (Wz p _ l), zl, Option.bind_some, yg, Option.bind_some]
  simp only [Ql, yg, Option.bind_some, GExpr.Kind, GExpr.N, GExpr.S, GExpr.K, GExpr.Kids]
  rw [yu (x := k + 1) (by omega) (by omega), yu (x := k + 1 + 1) (by omega) (by omega), XA (by omega) (by omega)]
  simp only [Option.bind_some, Ql, yg, GExpr.Kind, GExpr.N, GExpr.S, GExpr.K, GExpr.Kids]
  rw [WO (by omega) (by omega)]
  simp only [Option.bind_some, Ql, yg, GExpr.Kind, GExpr.N, GExpr.S, GExpr.K, GExpr.Kids]
  rw [hx _ (by omega) (by omega)]
  simp only [Option.bind_some, Ql, yg, GExpr.Kind, GExpr.N, GExpr.S, GExpr.K, GExpr.Kids]
  refine ⟨z, ?_⟩
  rw [y8 p (mX k (.mk kd n s kk ks)) (by omega), show GExpr.mk k (k + 1) (mB (k + 1 + 1) s) (mBB (k + 1 + 1 + s.length) kk) (mXs (k + 1 + 1 + s.length + cB kk) ks) = mX k (.mk kd n s kk ks) by simp only [mX], QE p _ l,
   show k + 1 + 1 + (s.length : Int) + (cB kk : Int) + (cXs ks : Int) = k + ((cX (.mk kd n s kk ks) : Nat) : Int) by simp only [cX]; omega, hz]
  simp only [mXs, cXs, List.append_assoc, List.singleton_append]
  rw [show k + ((cX (.mk kd n s kk ks) : Nat) : Int) + (cXs l : Int) = k + ((cX (.mk kd n s kk ks) + cXs l : Nat) : Int) by omega]
theorem GI : ∀ (N : Nat) (l : List GExpr), z8 l < N → ∀ (k : Int) (f : Nat), 0 <= k → k + 2 * z8 l <= 2 ^ 41 → z8 l + 2 <= f → xy f k l = some (k + cXs l, mXs k l) := by
 intro N
 induction N with
 | zero => intro l hl; omega
 | succ N ih =>
  intro l hl k f h0 h1 hf
  obtain ⟨f, rfl, _⟩ := zg (show 0 < f by omega)
  have hlen := yF l
  rw [xy]
  unfold YW
  obtain ⟨z, hz⟩ := OT (G := xy f) l [] k f (fun v hv i g0 g1 => by
   have := xA hv
   have := xv v
   exact ih v.Kids (by omega) i f g0 g1 (by omega)) h0 h1 (by simp; omega) (by omega)
  simp only [List.nil_append, List.length_nil, Int.natCast_zero] at hz
  rw [hz]; rfl
def jF (a0 : Int) (e0 : (List GExpr)) : Option (Int × (List GExpr)) := if 0 <= a0 ∧ a0 + 2 * z8 e0 <= 2 ^ 41 then some (a0 + cXs e0, mXs a0 e0) else none
theorem Rq {a : Int} {s : List GExpr} (h0 : 0 <= a) (h1 : a + 2 * z8 s <= 2 ^ 41) : jF a s = some (a + cXs s, mXs a s) := if_pos ⟨h0, h1⟩
theorem Vw (a0 : Int) (e0 : (List GExpr)) (r : (Int × (List GExpr))) (h : jF a0 e0 = some r) : ∃ n, xy n a0 e0 = some r := by
 unfold jF at h
 obtain ⟨⟨h0, h1⟩, h⟩ := yc h
 exact ⟨z8 e0 + 2, by rw [GI _ e0 (Nat.lt_succ_self _) a0 _ h0 h1 (Nat.le_refl _), h]⟩
theorem Ts : jE jF := by
 intro a0 e0 r h
 obtain ⟨n, hn⟩ := Vw a0 e0 r h
 exact (Rp n) a0 e0 r hn
def xQ (a0_0 : Int) (a0_1 : Int) (a1 : Int) (e0 : (List UInt8)) (e1 : (List (List UInt8))) (e2 : (List GExpr)) : Option (Int × (List UInt8) × (List (List UInt8)) × (List GExpr)) :=
 (wE a1 e0).bind fun ⟨r1_0, r1_1⟩ =>
 (qp r1_0 e1).bind fun ⟨r2_0, r2_1⟩ =>
 (jF r2_0 e2).bind fun ⟨r3_0, r3_1⟩ =>
 some (r3_0, r1_1, r2_1, r3_1)
theorem vH (a0_0 : Int) (a0_1 : Int) (a1 : Int) (e0 : (List UInt8)) (e1 : (List (List UInt8))) (e2 : (List GExpr)) : Oc (xQ a0_0 a0_1 a1 e0 e1 e2) 11 [.obj 1 (eL za e0), .obj 1 (eL (yC 1 za) e1), .obj 5 (eL z7 e2)] [.val true [ci a0_0, ci a0_1, .ref 0, .ref 1, .ref 2], vi a1] fun r => (vi r.1, [.obj 1 (eL za r.2.1), .obj 1 (eL (yC 1 za) r.2.2.1), .obj 5 (eL z7 r.2.2.2)]) := tc (
 .cl (Yw a1 e0) fun ⟨r1_0, r1_1⟩ =>
 .cl (Wv r1_0 e1) fun ⟨r2_0, r2_1⟩ =>
 .cl (Ts r2_0 e2) fun ⟨r3_0, r3_1⟩ =>
 .ret (r3_0, r1_1, r2_1, r3_1)) (zj Tryz.func11)
def Q7 (F : (List UInt8) → Int → Option Int) : Prop := ∀ (a0 : (List UInt8)) (a1 : Int), Oc (F a0 a1) 47 [] [vq za a0, vi a1] fun r => (vi r, [])
def wy (a0 : (List UInt8)) : Nat → Int → Int → Option (Int ⊕ (Int × Int))
  | 0, _, _ => none
  | m + 1, a1, v2 =>
  if v2 < (a0.length : Int) then
   (zH v2).bind fun i2 =>
   (a0[i2]?).bind fun x3 =>
   if ((x3.toNat : Nat) : Int) = (((b8 a1).toNat : Nat) : Int) then
    wy a0 m (w64 (a1 + 1)) (w64 (v2 + 1))
   else
   some (.inl (-1))
  else
  some (.inr (a1, v2))
theorem KF (a0 : (List UInt8)) (m : Nat) : ∀ (a1 : Int) (v2 : Int), Ol (wy a0 m a1 v2) 47 (zQ Tryz.f47 0) ⟨[(0, vq za a0), (1, vi a1), (5, vi v2)], [], 0⟩ fun o => match o with | .inl o_0 => (.ret, ⟨[(4, vi o_0)], [], 0⟩) | .inr (⟨o_1_0, o_1_1⟩) => (.exit 0, ⟨[(0, vq za a0), (1, vi o_1_0), (5, vi o_1_1), (9, vb false)], [], 0⟩) := by
  induction m with
  | zero => intro a1 v2 o h; cases h
  | succ m ih => exact fun a1 v2 => tlp (
   .le za a0 <|
   .lI v2 (a0.length : Int) (fun c1 =>
    .na v2 fun i2 =>
    .ix0 za a0 i2 fun x3 =>
    .eI ((x3.toNat : Nat) : Int) (((b8 a1).toNat : Nat) : Int) (fun c4 =>
     .go (ih (w64 (a1 + 1)) (w64 (v2 + 1)))) fun c4 =>
    .ret (.inl (-1))) fun c1 =>
   .ret (.inr (a1, v2)))
def YX (n : Nat) (a0 : (List UInt8)) (a1 : Int) : Option Int :=
 (wy a0 n a1 0).bind fun o1 =>
 match o1 with
 | .inl o1_0 =>
  some o1_0
 | .inr (⟨o1_1_0, o1_1_1⟩) =>
  some o1_1_0
theorem Ux (n : Nat) : Q7 (YX n) := fun a0 a1 => tc (
 .l2 (KF a0 n a1 0) (fun o1_0 =>
  .ret o1_0) fun ⟨o1_1_0, o1_1_1⟩ =>
 .ret o1_1_0) (zj Tryz.func47)
theorem OU {a : List UInt8} : ∀ (l p : List UInt8) (k : Int) (m : Nat), a = p ++ l → mB k l = l → 0 <= k → k + 2 * l.length <= 2 ^ 41 → p.length + l.length <= 2 ^ 41 → l.length < m → ∃ z, wy a m k (p.length : Int) = some (.inr (k + l.length, z)) := by
 intro l
 induction l with
 | nil =>
  intro p k m ha _ _ _ _ hm
  subst ha
  obtain ⟨m, rfl, _⟩ := zg hm
  exact ⟨_, by rw [wy, if_neg (yD p)]; simp; rfl⟩
 | cons x l ih =>
  intro p k m ha hm0 h0 h1 h2 hm
  obtain ⟨m, rfl, hm'⟩ := zg hm
  simp only [List.length_cons] at h1 h2 hm'
  rw [mB] at hm0
  obtain ⟨e1, e2⟩ := List.cons.inj hm0
  obtain ⟨z, hz⟩ := ih (p ++ [x]) (k + 1) m (by rw [ha]; simp) e2 (by omega) (by omega) (by simp; omega) (by omega)
  refine ⟨z, ?_⟩
  rw [wy, if_pos (by rw [ha]; exact Wz p x l), zl, Option.bind_some, show a[p.length]? = some x by rw [ha]; exact yg p x l, Option.bind_some, if_pos (by rw [e1]), y8 p x (by omega), yu (x := k + 1) (by omega) (by omega), hz]
  simp only [List.length_cons]
  rw [show k + 1 + (l.length : Int) = k + ((l.length + 1 : Nat) : Int) by omega]
def wF (a0 : (List UInt8)) (a1 : Int) : Option Int := if mB a1 a0 = a0 ∧ 0 <= a1 ∧ a1 + 2 * a0.length <= 2 ^ 41 then some (a1 + a0.length) else none
theorem Q8 {a : Int} {s : List UInt8} (h : mB a s = s) (h0 : 0 <= a) (h1 : a + 2 * s.length <= 2 ^ 41) : wF s a = some (a + s.length) := if_pos ⟨h, h0, h1⟩
theorem Vx (a0 : (List UInt8)) (a1 : Int) (r : Int) (h : wF a0 a1 = some r) : ∃ n, YX n a0 a1 = some r := by
 unfold wF at h
 obtain ⟨⟨he, h0, h1⟩, h⟩ := yc h
 obtain ⟨z, hz⟩ := OU (a := a0) a0 [] a1 (a0.length + 1) rfl he h0 h1 (by simp; omega) (by omega)
 refine ⟨a0.length + 1, ?_⟩
 unfold YX
 simp only [List.length_nil, Int.natCast_zero] at hz
 rw [hz]
 exact h
theorem Yy : Q7 wF := fun a0 a1 r h => (Vx a0 a1 r h).elim fun n hn => Ux n a0 a1 r hn
def WW (F : (List (List UInt8)) → Int → Option Int) : Prop := ∀ (a0 : (List (List UInt8))) (a1 : Int), Oc (F a0 a1) 48 [] [vq (zi za) a0, vi a1] fun r => (vi r, [])
def wh (a0 : (List (List UInt8))) : Nat → Int → Int → Option (Int ⊕ (Int × Int))
  | 0, _, _ => none
  | m + 1, a1, v2 =>
  if v2 < (a0.length : Int) then
   (zH v2).bind fun i2 =>
   (a0[i2]?).bind fun x3 =>
   (wF x3 a1).bind fun r4 =>
   if r4 < 0 then
    some (.inl (-1))
   else
   wh a0 m r4 (w64 (v2 + 1))
  else
  some (.inr (a1, v2))
theorem JV (a0 : (List (List UInt8))) (m : Nat) : ∀ (a1 : Int) (v2 : Int), Ol (wh a0 m a1 v2) 48 (zQ Tryz.f48 0) ⟨[(0, vq (zi za) a0), (1, vi a1), (5, vi v2)], [], 0⟩ fun o => match o with | .inl o_0 => (.ret, ⟨[(4, vi o_0)], [], 0⟩) | .inr (⟨o_1_0, o_1_1⟩) => (.exit 0, ⟨[(0, vq (zi za) a0), (1, vi o_1_0), (5, vi o_1_1), (9, vb false)], [], 0⟩) := by
  induction m with
  | zero => intro a1 v2 o h; cases h
  | succ m ih => exact fun a1 v2 => tlp (
   .le (zi za) a0 <|
   .lI v2 (a0.length : Int) (fun c1 =>
    .na v2 fun i2 =>
    .ix0 (zi za) a0 i2 fun x3 =>
    .cl (Yy x3 a1) fun r4 =>
    .lI r4 0 (fun c5 =>
     .ret (.inl (-1))) fun c5 =>
    .go (ih r4 (w64 (v2 + 1)))) fun c1 =>
   .ret (.inr (a1, v2)))
def Yz (n : Nat) (a0 : (List (List UInt8))) (a1 : Int) : Option Int :=
 (wh a0 n a1 0).bind fun o1 =>
 match o1 with
 | .inl o1_0 =>
  some o1_0
 | .inr (⟨o1_1_0, o1_1_1⟩) =>
  some o1_1_0
theorem Tt (n : Nat) : WW (Yz n) := fun a0 a1 => tc (
 .l2 (JV a0 n a1 0) (fun o1_0 =>
  .ret o1_0) fun ⟨o1_1_0, o1_1_1⟩ =>
 .ret o1_1_0) (zj Tryz.func48)
theorem P2 {a : List (List UInt8)} : ∀ (l p : List (List UInt8)) (k : Int) (m : Nat), a = p ++ l → mBB k l = l → 0 <= k → k + 2 * bsz l <= 2 ^ 41 → p.length + l.length <= 2 ^ 41 → l.length < m → ∃ z, wh a m k (p.length : Int) = some (.inr (k + cB l, z)) := by
 intro l
 induction l with
 | nil =>
  intro p k m ha _ _ _ _ hm
  subst ha
  obtain ⟨m, rfl, _⟩ := zg hm
  exact ⟨_, by rw [wh, if_neg (yD p)]; simp [cB]; rfl⟩
 | cons x l ih =>
  intro p k m ha hm0 h0 h1 h2 hm
  obtain ⟨m, rfl, hm'⟩ := zg hm
  rw [Xa] at h1
  simp only [List.length_cons] at h2 hm'
  rw [mBB] at hm0
  obtain ⟨e1, e2⟩ := List.cons.inj hm0
  obtain ⟨z, hz⟩ := ih (p ++ [x]) (k + x.length) m (by rw [ha]; simp) e2 (by omega) (by omega) (by simp; omega) (by omega)
  refine ⟨z, ?_⟩
  rw [wh, if_pos (by rw [ha]; exact Wz p x l), zl, Option.bind_some, show a[p.length]? = some x by rw [ha]; exact yg p x l, Option.bind_some, Q8 e1 (by omega) (by omega), Option.bind_some, if_neg (by omega), y8 p x (by omega), hz, Hp]
  rw [show k + (x.length : Int) + (cB l : Int) = k + ((x.length + cB l : Nat) : Int) by omega]
def qq (a0 : (List (List UInt8))) (a1 : Int) : Option Int := if mBB a1 a0 = a0 ∧ 0 <= a1 ∧ a1 + 2 * bsz a0 <= 2 ^ 41 then some (a1 + cB a0) else none
theorem Vd {a : Int} {s : List (List UInt8)} (h : mBB a s = s) (h0 : 0 <= a) (h1 : a + 2 * bsz s <= 2 ^ 41) : qq s a = some (a + cB s) := if_pos ⟨h, h0, h1⟩
theorem KG (a0 : (List (List UInt8))) (a1 : Int) (r : Int) (h : qq a0 a1 = some r) : ∃ n, Yz n a0 a1 = some r := by
 unfold qq at h
 obtain ⟨⟨he, h0, h1⟩, h⟩ := yc h
 have := qJ a0
 obtain ⟨z, hz⟩ := P2 (a := a0) a0 [] a1 (a0.length + 1) rfl he h0 h1 (by simp; omega) (by omega)
 refine ⟨a0.length + 1, ?_⟩
 unfold Yz
 simp only [List.length_nil, Int.natCast_zero] at hz
 rw [hz]
 exact h
theorem Ww : WW qq := fun a0 a1 r h => (KG a0 a1 r h).elim fun n hn => Tt n a0 a1 r hn
def jG (F : (List GExpr) → Int → Option Int) : Prop := ∀ (a0 : (List GExpr)) (a1 : Int), Oc (F a0 a1) 49 [] [vq zd a0, vi a1] fun r => (vi r, [])
def wz (G_laws_heldExprS : (List GExpr) → Int → Option Int) (a0 : (List GExpr)) : Nat → Int → Int → Option (Int ⊕ (Int × Int))
  | 0, _, _ => none
  | m + 1, a1, v2 =>
  if v2 < (a0.length : Int) then
   (zH v2).bind fun i2 =>
   (a0[i2]?).bind fun x3 =>
   if x3.Kind = a1 then
    if x3.N = (w64 (a1 + 1)) then
     (wF x3.S (w64 ((w64 (a1 + 1)) + 1))).bind fun r6 =>
     if r6 < 0 then
      some (.inl (-1))
     else
     (qq x3.K r6).bind fun r8 =>
     if r8 < 0 then
      some (.inl (-1))
     else
     (G_laws_heldExprS x3.Kids r8).bind fun r10 =>
     if r10 < 0 then
      some (.inl (-1))
     else
     wz G_laws_heldExprS a0 m r10 (w64 (v2 + 1))
    else
    some (.inl (-1))
   else
   some (.inl (-1))
  else
  some (.inr (a1, v2))
theorem KH (G_laws_heldExprS : (List GExpr) → Int → Option Int) (H_laws_heldExprS : jG G_laws_heldExprS) (a0 : (List GExpr)) (m : Nat) : ∀ (a1 : Int) (v2 : Int), Ol (wz G_laws_heldExprS a0 m a1 v2) 49 (zQ Tryz.f49 0) ⟨[(0, vq zd a0), (1, vi a1), (5, vi v2)], [], 0⟩ fun o => match o with | .inl o_0 => (.ret, ⟨[(4, vi o_0)], [], 0⟩) | .inr (⟨o_1_0, o_1_1⟩) => (.exit 0, ⟨[(0, vq zd a0), (1, vi o_1_0), (5, vi o_1_1), (9, vb false)], [], 0⟩) := by
  induction m with
  | zero => intro a1 v2 o h; cases h
  | succ m ih => exact fun a1 v2 => tlp (
   .le zd a0 <|
   .lI v2 (a0.length : Int) (fun c1 =>
    .na v2 fun i2 =>
    .ix eq_GExpr a0 i2 fun x3 =>
    .eI x3.Kind a1 (fun c4 =>
     .ag 1 <|
     .ag 0 <|
     .eI x3.N (w64 (a1 + 1)) (fun c5 =>
      .ag 1 <|
      .ag 0 <|
      .cl (Yy x3.S (w64 ((w64 (a1 + 1)) + 1))) fun r6 =>
      .lI r6 0 (fun c7 =>
       .ret (.inl (-1))) fun c7 =>
      .ag 2 <|
      .ag 1 <|
      .cl (Ww x3.K r6) fun r8 =>
      .lI r8 0 (fun c9 =>
       .ret (.inl (-1))) fun c9 =>
      .ag 3 <|
      .ag 2 <|
      .cl (H_laws_heldExprS x3.Kids r8) fun r10 =>
      .lI r10 0 (fun c11 =>
       .ret (.inl (-1))) fun c11 =>
      .go (ih r10 (w64 (v2 + 1)))) fun c5 =>
     .ret (.inl (-1))) fun c4 =>
    .ret (.inl (-1))) fun c1 =>
   .ret (.inr (a1, v2)))
def YY (G_laws_heldExprS : (List GExpr) → Int → Option Int) (n : Nat) (a0 : (List GExpr)) (a1 : Int) : Option Int :=
 (wz G_laws_heldExprS a0 n a1 0).bind fun o1 =>
 match o1 with
 | .inl o1_0 =>
  some o1_0
 | .inr (⟨o1_1_0, o1_1_1⟩) =>
  some o1_1_0
theorem Uy (G_laws_heldExprS : (List GExpr) → Int → Option Int) (H_laws_heldExprS : jG G_laws_heldExprS) (n : Nat) : jG (YY G_laws_heldExprS n) := fun a0 a1 => tc (
 .l2 (KH G_laws_heldExprS H_laws_heldExprS a0 n a1 0) (fun o1_0 =>
  .ret o1_0) fun ⟨o1_1_0, o1_1_1⟩ =>
 .ret o1_1_0) (zj Tryz.func49)
def xz : Nat → (List GExpr) → Int → Option Int
 | 0, _, _ => none
 | n + 1, a0, a1 => YY (xz n) n a0 a1
theorem Rr (n : Nat) : jG (xz n) := by
 induction n with
 | zero => exact fun _ _ _ h => (by rw [xz] at h; cases h)
 | succ n ih =>
  have ih_laws_heldExprS := ih
  exact fun a0 a1 r h => Uy (xz n) ih_laws_heldExprS n a0 a1 r (by rw [xz] at h; exact h)
theorem OV {G : List GExpr → Int → Option Int} {a : List GExpr} : ∀ (l p : List GExpr) (k : Int) (m : Nat), a = p ++ l → mXs k l = l → (∀ v ∈ l, ∀ i : Int, mXs i v.Kids = v.Kids → 0 <= i → i + 2 * z8 v.Kids <= 2 ^ 41 → G v.Kids i = some (i + cXs v.Kids)) → 0 <= k → k + 2 * z8 l <= 2 ^ 41 → p.length + l.length <= 2 ^ 41 → l.length < m → ∃ z, wz G a m k (p.length : Int) = some (.inr (k + cXs l, z)) := by
 intro l
 induction l with
 | nil =>
  intro p k m ha _ _ _ _ _ hm
  subst ha
  obtain ⟨m, rfl, _⟩ := zg hm
  exact ⟨_, by rw [wz, if_neg (yD p)]; simp [cXs]; rfl⟩
 | cons x l ih =>
  intro p k m ha hm0 hG h0 h1 h2 hm
  obtain ⟨m, rfl, hm'⟩ := zg hm
  simp only [List.length_cons] at h2 hm'
  have hx := hG x List.mem_cons_self
  have hc := Eo x
  rw [mXs] at hm0
  obtain ⟨e1, e2⟩ := List.cons.inj hm0
  simp only [z8] at h1
  obtain ⟨z, hz⟩ := ih (p ++ [x]) (k + cX x) m (by rw [ha]; simp) e2 (fun v hv => hG v (List.mem_cons_of_mem _ hv)) (by omega) (by omega) (by simp; omega) (by omega)
  refine ⟨z, ?_⟩
  rw [wz, if_pos (by rw [ha]; exact Wz p x l), zl, Option.bind_some, show a[p.length]? = some x by rw [ha]; exact yg p x l, Option.bind_some, y8 p x (by omega)]
  have hb := W1 x.K
  have hd := JY x.Kids
  have hq := xv x
  have hr := zg3 x
  rw [zg4] at e1
  have f1 : x.Kind = k := (congrArg GExpr.Kind e1).symm
  have f2 : x.N = k + 1 := (congrArg GExpr.N e1).symm
  have f3 : mB (k + 1 + 1) x.S = x.S := congrArg GExpr.S e1
  have f4 : mBB (k + 1 + 1 + x.S.length) x.K = x.K := congrArg GExpr.K e1
  have f5 : mXs (k + 1 + 1 + x.S.length + cB x.K) x.Kids = x.Kids := congrArg GExpr.Kids e1
  rw [yu (x := k + 1) (by omega) (by omega), yu (x := k + 1 + 1) (by omega) (by omega), if_pos f1, if_pos f2, Q8 f3 (by omega) (by omega), Option.bind_some, if_neg (by omega), Vd f4 (by omega) (by omega), Option.bind_some, if_neg (by omega), hx _ f5 (by omega) (by omega), Option.bind_some, if_neg (by omega),
   show k + 1 + 1 + (x.S.length : Int) + (cB x.K : Int) + (cXs x.Kids : Int) = k + ((cX x : Nat) : Int) by omega, hz]
  simp only [cXs]
  rw [show k + ((cX x : Nat) : Int) + (cXs l : Int) = k + ((cX x + cXs l : Nat) : Int) by omega]
theorem GJ : ∀ (N : Nat) (l : List GExpr), z8 l < N → ∀ (k : Int) (f : Nat), mXs k l = l → 0 <= k → k + 2 * z8 l <= 2 ^ 41 → z8 l + 2 <= f → xz f l k = some (k + cXs l) := by
 intro N
 induction N with
 | zero => intro l hl; omega
 | succ N ih =>
  intro l hl k f he h0 h1 hf
  obtain ⟨f, rfl, _⟩ := zg (show 0 < f by omega)
  have hlen := yF l
  rw [xz]
  unfold YY
  obtain ⟨z, hz⟩ := OV (G := xz f) (a := l) l [] k f rfl he (fun v hv i ge g0 g1 => by
   have := xA hv
   have := xv v
   exact ih v.Kids (by omega) i f ge g0 g1 (by omega)) h0 h1 (by simp; omega) (by omega)
  simp only [List.length_nil, Int.natCast_zero] at hz
  rw [hz]; rfl
open Classical in
noncomputable def jH (a0 : (List GExpr)) (a1 : Int) : Option Int := if mXs a1 a0 = a0 ∧ 0 <= a1 ∧ a1 + 2 * z8 a0 <= 2 ^ 41 then some (a1 + cXs a0) else none
theorem NM {a : Int} {s : List GExpr} (h : mXs a s = s) (h0 : 0 <= a) (h1 : a + 2 * z8 s <= 2 ^ 41) : jH s a = some (a + cXs s) := if_pos ⟨h, h0, h1⟩
theorem Vy (a0 : (List GExpr)) (a1 : Int) (r : Int) (h : jH a0 a1 = some r) : ∃ n, xz n a0 a1 = some r := by
 unfold jH at h
 obtain ⟨⟨he, h0, h1⟩, h⟩ := yc h
 exact ⟨z8 a0 + 2, by rw [GJ _ a0 (Nat.lt_succ_self _) a1 _ he h0 h1 (Nat.le_refl _), h]⟩
theorem Tu : jG jH := by
 intro a0 a1 r h
 obtain ⟨n, hn⟩ := Vy a0 a1 r h
 exact (Rr n) a0 a1 r hn
def ku (a0 : GExpr) (a1 : Int) : Option Int :=
 (wF a0.S a1).bind fun r1 =>
 if r1 < 0 then
  some (-1)
 else
 (qq a0.K r1).bind fun r3 =>
 if r3 < 0 then
  some (-1)
 else
 (jH a0.Kids r3).bind fun r5 =>
 if r5 < 0 then
  some (-1)
 else
 some r5
theorem Q9 (a0 : GExpr) (a1 : Int) : Oc (ku a0 a1) 12 [] [.val true (zs a0), vi a1] fun r => (vi r, []) := tc (
 .cl (Yy a0.S a1) fun r1 =>
 .lI r1 0 (fun c2 =>
  .ret (-1)) fun c2 =>
 .cl (Ww a0.K r1) fun r3 =>
 .lI r3 0 (fun c4 =>
  .ret (-1)) fun c4 =>
 .cl (Tu a0.Kids r3) fun r5 =>
 .lI r5 0 (fun c6 =>
  .ret (-1)) fun c6 =>
 .ret r5) (zj Tryz.func12)
def kE (a0 : GExpr) : Option Bool :=
 (vL a0 1048576).bind fun r1 =>
 if r1 < 0 then
  some true
 else
 (vQ a0).bind fun r3 =>
 (Zs r3).bind fun ⟨r4_0, r4_1⟩ =>
 (Z0 r3).bind fun ⟨r5_0, r5_1⟩ =>
 (jr r5_0 r4_0).bind fun r6 =>
 match r6 with
 | true =>
  if r5_1 = true then
   if r4_1 = true then
    (jr r3 r3).bind fun r9 =>
    match r9 with
    | true =>
     (xQ r3.Kind r3.N 1 r3.S r3.K r3.Kids).bind fun ⟨r10_0, r10_1, r10_2, r10_3⟩ =>
     if r10_0 < 0 then
      none
     else
     (xQ r5_0.Kind r5_0.N 1 r5_0.S r5_0.K r5_0.Kids).bind fun ⟨r12_0, r12_1, r12_2, r12_3⟩ =>
     (ku (GExpr.mk r5_0.Kind r5_0.N r12_1 r12_2 r12_3) 1).bind fun r13 =>
     if r13 < 0 then
      none
     else
     if r13 = r12_0 then
      some true
     else
     none
    | false =>
     none
   else
   none
  else
  if r4_1 = true then
   none
  else
  (jr r3 r3).bind fun r9 =>
  match r9 with
  | true =>
   (xQ r3.Kind r3.N 1 r3.S r3.K r3.Kids).bind fun ⟨r10_0, r10_1, r10_2, r10_3⟩ =>
   if r10_0 < 0 then
    none
   else
   (xQ r5_0.Kind r5_0.N 1 r5_0.S r5_0.K r5_0.Kids).bind fun ⟨r12_0, r12_1, r12_2, r12_3⟩ =>
   (ku (GExpr.mk r5_0.Kind r5_0.N r12_1 r12_2 r12_3) 1).bind fun r13 =>
   if r13 < 0 then
    none
   else
   if r13 = r12_0 then
    some true
   else
   none
  | false =>
   none
 | false =>
  none
theorem ok_laws_FnExactSimplify (a0 : GExpr) : Oc (kE a0) 3 [] [.val true (zs a0)] fun r => (vb r, []) := tc (
 .cl (O1 a0 1048576) fun r1 =>
 .lI r1 0 (fun c2 =>
  .ret true) fun c2 =>
 .cl (O4 a0) fun r3 =>
 .vw ze r3.S <|
 .vo (zC 1 z9) r3.K <|
 .vo yw r3.Kids <|
 .cl (Ug r3) fun ⟨r4_0, r4_1⟩ =>
 .cn z9 r4_0.S <|
 .cn (zC 1 z9) r4_0.K <|
 .cn yw r4_0.Kids <|
 .ag 1 <|
 .vw ze r3.S <|
 .vo (zC 1 z9) r3.K <|
 .vo yw r3.Kids <|
 .cl (Us r3) fun ⟨r5_0, r5_1⟩ =>
 .cn z9 r5_0.S <|
 .cn (zC 1 z9) r5_0.K <|
 .cn yw r5_0.Kids <|
 .vw ze r5_0.S <|
 .vo (zC 1 z9) r5_0.K <|
 .vo yw r5_0.Kids <|
 .vw ze r4_0.S <|
 .vo (zC 1 z9) r4_0.K <|
 .vo yw r4_0.Kids <|
 .cl (XV r5_0 r4_0) fun r6 =>
 .vN 0 r6 (
  .an 0 0 <|
  .an 0 0 <|
  .sp (r5_1 = true) (fun c7 =>
   .sp (r4_1 = true) (fun c8 =>
    .eb c7 c8 <|
    .an 0 0 <|
    .ag 4 <|
    .vw ze r3.S <|
    .vo (zC 1 z9) r3.K <|
    .vo yw r3.Kids <|
    .vw ze r3.S <|
    .vo (zC 1 z9) r3.K <|
    .vo yw r3.Kids <|
    .cl (XV r3 r3) fun r9 =>
    .vN 0 r9 (
     .cl (vH r3.Kind r3.N 1 r3.S r3.K r3.Kids) fun ⟨r10_0, r10_1, r10_2, r10_3⟩ =>
     .lI r10_0 0 (fun c11 =>
      .no) fun c11 =>
     .vw ze r5_0.S <|
     .vo (zC 1 z9) r5_0.K <|
     .vo yw r5_0.Kids <|
     .vw ze r4_0.S <|
     .vo (zC 1 z9) r4_0.K <|
     .vo yw r4_0.Kids <|
     .ag 4 <|
     .an 2 3 <|
     .an 0 3 <|
     .an 0 3 <|
     .eb c7 c8 <|
     .an 0 3 <|
     .cl (vH r5_0.Kind r5_0.N 1 r5_0.S r5_0.K r5_0.Kids) fun ⟨r12_0, r12_1, r12_2, r12_3⟩ =>
     .vw ze r12_1 <|
     .vo (zC 1 z9) r12_2 <|
     .vo yw r12_3 <|
     .cl (Q9 (GExpr.mk r5_0.Kind r5_0.N r12_1 r12_2 r12_3) 1) fun r13 =>
     .lI r13 0 (fun c14 =>
      .no) fun c14 =>
     .eI r13 r12_0 (fun c15 =>
      .ag 9 <|
      .vw ze r3.S <|
      .vo (zC 1 z9) r3.K <|
      .vo yw r3.Kids <|
      .ag 7 <|
      .cn z9 r5_0.S <|
      .cn (zC 1 z9) r5_0.K <|
      .cn yw r5_0.Kids <|
      .vw ze r5_0.S <|
      .vo (zC 1 z9) r5_0.K <|
      .vo yw r5_0.Kids <|
      .vw ze r4_0.S <|
      .vo (zC 1 z9) r4_0.K <|
      .vo yw r4_0.Kids <|
      .ag 6 <|
      .an 0 5 <|
      .an 0 5 <|
      .an 0 5 <|
      .eb c7 c8 <|
      .an 0 5 <|
      .vw ze r12_1 <|
      .vo (zC 1 z9) r12_2 <|
      .vo yw r12_3 <|
      .ag 0 <|
      .q (.lF c14) <|
      .q (.eT c15) <|
      .ret true) fun c15 =>
     .no) <|
    .no) fun c8 =>
   .no) fun c7 =>
  .sp (r4_1 = true) (fun c8 =>
   .no) fun c8 =>
  .eb (bF c7) (bF c8) <|
  .an 0 0 <|
  .ag 4 <|
  .vw ze r3.S <|
  .vo (zC 1 z9) r3.K <|
  .vo yw r3.Kids <|
  .vw ze r3.S <|
  .vo (zC 1 z9) r3.K <|
  .vo yw r3.Kids <|
  .cl (XV r3 r3) fun r9 =>
  .vN 0 r9 (
   .cl (vH r3.Kind r3.N 1 r3.S r3.K r3.Kids) fun ⟨r10_0, r10_1, r10_2, r10_3⟩ =>
   .lI r10_0 0 (fun c11 =>
    .no) fun c11 =>
   .vw ze r5_0.S <|
   .vo (zC 1 z9) r5_0.K <|
   .vo yw r5_0.Kids <|
   .vw ze r4_0.S <|
   .vo (zC 1 z9) r4_0.K <|
   .vo yw r4_0.Kids <|
   .ag 4 <|
   .an 2 3 <|
   .an 0 3 <|
   .an 0 3 <|
   .eb (bF c7) (bF c8) <|
   .an 0 3 <|
   .cl (vH r5_0.Kind r5_0.N 1 r5_0.S r5_0.K r5_0.Kids) fun ⟨r12_0, r12_1, r12_2, r12_3⟩ =>
   .vw ze r12_1 <|
   .vo (zC 1 z9) r12_2 <|
   .vo yw r12_3 <|
   .cl (Q9 (GExpr.mk r5_0.Kind r5_0.N r12_1 r12_2 r12_3) 1) fun r13 =>
   .lI r13 0 (fun c14 =>
    .no) fun c14 =>
   .eI r13 r12_0 (fun c15 =>
    .ag 9 <|
    .vw ze r3.S <|
    .vo (zC 1 z9) r3.K <|
    .vo yw r3.Kids <|
    .ag 7 <|
    .cn z9 r5_0.S <|
    .cn (zC 1 z9) r5_0.K <|
    .cn yw r5_0.Kids <|
    .vw ze r5_0.S <|
    .vo (zC 1 z9) r5_0.K <|
    .vo yw r5_0.Kids <|
    .vw ze r4_0.S <|
    .vo (zC 1 z9) r4_0.K <|
    .vo yw r4_0.Kids <|
    .ag 6 <|
    .an 0 5 <|
    .an 0 5 <|
    .an 0 5 <|
    .eb (bF c7) (bF c8) <|
    .an 0 5 <|
    .vw ze r12_1 <|
    .vo (zC 1 z9) r12_2 <|
    .vo yw r12_3 <|
    .ag 0 <|
    .q (.lF c14) <|
    .q (.eT c15) <|
    .ret true) fun c15 =>
   .no) <|
  .no) <|
 .no) (zj Tryz.func3)
end
end Go.Am.Try
