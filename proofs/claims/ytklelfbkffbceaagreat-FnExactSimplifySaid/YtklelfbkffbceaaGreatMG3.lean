/- The functions of the program in plain Lean, and that the machine answers as they do; conditions at each theorem. -/
import Derived.Test.YtklelfbkffbceaaGreatMG2
set_option linter.unusedVariables false
set_option linter.unusedSimpArgs false
namespace Go.Am.Try
open Go.Am Go.Proofs
set_option linter.unusedVariables false
set_option maxRecDepth 20000
set_option maxHeartbeats 2000000
noncomputable section
def kc (F : GExpr → Option GExpr) : Prop := ∀ (a0 : GExpr), Oc (F a0) 35 [] [.val true (zs a0)] fun r => (.val true (zs r), [])
def yl (G_spec_l7simple : GExpr → Option GExpr) (a0 : GExpr) (v2 : Int) (v3 : Int) (v4 : Int) (v5 : Int) (v6 : (List UInt8)) (v7 : (List (List UInt8))) (v8 : (List UInt8)) (v9 : (List (List UInt8))) (v10 : (List GExpr)) : Nat → Int → (List GExpr) → Option (Int × (List GExpr))
  | 0, _, _ => none
  | m + 1, v0, v11 =>
  if v0 < (a0.Kids.length : Int) then
   (zH v0).bind fun i2 =>
   (a0.Kids[i2]?).bind fun x3 =>
   (G_spec_l7simple x3).bind fun r4 =>
   if y4 88 (v11.length + [r4].length) then
   yl G_spec_l7simple a0 v2 v3 v4 v5 v6 v7 v8 v9 v10 m (w64 (v0 + 1)) (v11 ++ [r4])
   else none
  else
  some (v0, v11)
theorem wt (G_spec_l7simple : GExpr → Option GExpr) (H_spec_l7simple : kc G_spec_l7simple) (a0 : GExpr) (v2 : Int) (v3 : Int) (v4 : Int) (v5 : Int) (v6 : (List UInt8)) (v7 : (List (List UInt8))) (v8 : (List UInt8)) (v9 : (List (List UInt8))) (v10 : (List GExpr)) (m : Nat) : ∀ (v0 : Int) (v11 : (List GExpr)), Ol (yl G_spec_l7simple a0 v2 v3 v4 v5 v6 v7 v8 v9 v10 m v0 v11) 35 (zQ Tryz.f35 0) ⟨[(1, vp 0 0), (2, vp 1 0), (7, vp 2 0), (8, vi v0)], [.var (zs a0), .var [ci v2, ci v3, .ref 3, .ref 4, .ref 5], .var [ci v4, ci v5, cq za v6, cq (zi za) v7, .ref 6], .obj 1 (eL za v8), .obj 1 (eL (zi za) v9), .obj 5 (eL zd v10), .obj 5 (eL zd v11)], 0⟩ fun o => match o with | ⟨o_0, o_1⟩ => (.exit 0, ⟨[(1, vp 0 0), (2, vp 1 0), (7, vp 2 0), (8, vi o_0), (57, vb false)], [.var (zs a0), .var [ci v2, ci v3, .ref 3, .ref 4, .ref 5], .var [ci v4, ci v5, cq za v6, cq (zi za) v7, .ref 6], .obj 1 (eL za v8), .obj 1 (eL (zi za) v9), .obj 5 (eL zd v10), .obj 5 (eL zd o_1)], 0⟩) := by
  induction m with
  | zero => intro v0 v11 o h; cases h
  | succ m ih => exact fun v0 v11 => tlp (
   .le zd a0.Kids <|
   .lI v0 (a0.Kids.length : Int) (fun c1 =>
    .na v0 fun i2 =>
    .ix eq_GExpr a0.Kids i2 fun x3 =>
    .cl (H_spec_l7simple x3) fun r4 =>
    .q ⟨.pl ([(zs r4)] : List (List C)), .b true, by rw [(show ([(zs r4)] : List (List C)) = eL zd [r4] from (yk (eq_GExpr r4) y7))]; exact (A.pl xG)⟩ <|
    .nd (y4 88 (v11.length + [r4].length)) fun n5 =>
    .q ⟨.room 88 (eL zd v11) ([(zs r4)] : List (List C)), .b true, by rw [(show ([(zs r4)] : List (List C)) = eL zd [r4] from (yk (eq_GExpr r4) y7))]; exact (A.room n5)⟩ <|
    .q ⟨.uni 5 ([(zs r4)] : List (List C)), .b true, by rw [(show ([(zs r4)] : List (List C)) = eL zd [r4] from (yk (eq_GExpr r4) y7))]; exact (A.uni xG)⟩ <|
    .q ⟨.app (eL zd v11) ([(zs r4)] : List (List C)), .l (eL zd (v11 ++ [r4])), by rw [(show ([(zs r4)] : List (List C)) = eL zd [r4] from (yk (eq_GExpr r4) y7))]; exact A.app⟩ <|
    .go (ih (w64 (v0 + 1)) (v11 ++ [r4]))) fun c1 =>
   .ret (v0, v11))
def Zq (G_spec_l7simple : GExpr → Option GExpr) (n : Nat) (a0 : GExpr) : Option GExpr :=
 (Yb a0).bind fun r1 =>
 match r1 with
 | true =>
  (Yd a0 6 []).bind fun r2 =>
  if (r2.length : Int) = 0 then
   (YI a0 (GEnv.mk (GValue.mk 5 0 [] [] []) (GValue.mk 5 0 [] [] []) (GValue.mk 0 0 [] [] []) (GValue.mk 0 0 [] [] []) (GValue.mk 0 0 [] [] []))).bind fun ⟨r4_0, r4_1⟩ =>
   if r4_1 = 0 then
    if r4_0.Kind = 4 then
     (yl G_spec_l7simple a0 0 0 a0.Kind a0.N a0.S a0.K [] [] [] n 0 []).bind fun ⟨o7_0, o7_1⟩ =>
     some (GExpr.mk a0.Kind a0.N a0.S a0.K o7_1)
    else
    if r4_0.Kind = 5 then
     (yl G_spec_l7simple a0 0 0 a0.Kind a0.N a0.S a0.K [] [] [] n 0 []).bind fun ⟨o8_0, o8_1⟩ =>
     some (GExpr.mk a0.Kind a0.N a0.S a0.K o8_1)
    else
    (Y4 r4_0).bind fun ⟨r8_0, r8_1⟩ =>
    match r8_1 with
    | true =>
     some r8_0
    | false =>
     (yl G_spec_l7simple a0 0 0 a0.Kind a0.N a0.S a0.K [] [] [] n 0 []).bind fun ⟨o9_0, o9_1⟩ =>
     some (GExpr.mk a0.Kind a0.N a0.S a0.K o9_1)
   else
   (yl G_spec_l7simple a0 0 0 a0.Kind a0.N a0.S a0.K [] [] [] n 0 []).bind fun ⟨o6_0, o6_1⟩ =>
   some (GExpr.mk a0.Kind a0.N a0.S a0.K o6_1)
  else
  (yl G_spec_l7simple a0 0 0 a0.Kind a0.N a0.S a0.K [] [] [] n 0 []).bind fun ⟨o4_0, o4_1⟩ =>
  some (GExpr.mk a0.Kind a0.N a0.S a0.K o4_1)
 | false =>
  (yl G_spec_l7simple a0 0 0 a0.Kind a0.N a0.S a0.K [] [] [] n 0 []).bind fun ⟨o2_0, o2_1⟩ =>
  some (GExpr.mk a0.Kind a0.N a0.S a0.K o2_1)
theorem Pq (G_spec_l7simple : GExpr → Option GExpr) (H_spec_l7simple : kc G_spec_l7simple) (n : Nat) : kc (Zq G_spec_l7simple n) := fun a0 => tc (
 .cl (Pj a0) fun r1 =>
 .vM 0 r1 (
  .az 0 0 <|
  .cl (Pl a0 6 []) fun r2 =>
  .az 0 1 <|
  .le (zi za) r2 <|
  .az 0 1 <|
  .eI (r2.length : Int) 0 (fun c3 =>
   .az 0 1 <|
   .vw ze [] <|
   .vw (zn za) [] <|
   .vw zc [] <|
   .vw ze [] <|
   .vw (zn za) [] <|
   .vw zc [] <|
   .vw ze [] <|
   .vw (zn za) [] <|
   .vw zc [] <|
   .vw ze [] <|
   .vw (zn za) [] <|
   .vw zc [] <|
   .vw ze [] <|
   .vw (zn za) [] <|
   .vw zc [] <|
   .cl (OI a0 (GEnv.mk (GValue.mk 5 0 [] [] []) (GValue.mk 5 0 [] [] []) (GValue.mk 0 0 [] [] []) (GValue.mk 0 0 [] [] []) (GValue.mk 0 0 [] [] []))) fun ⟨r4_0, r4_1⟩ =>
   .eI r4_1 0 (fun c5 =>
    .eI r4_0.Kind 4 (fun c6 =>
     .lp (wt G_spec_l7simple H_spec_l7simple a0 0 0 a0.Kind a0.N a0.S a0.K [] [] [] n 0 []) fun ⟨o7_0, o7_1⟩ =>
     .vw xG o7_1 <|
     .ret (GExpr.mk a0.Kind a0.N a0.S a0.K o7_1)) fun c6 =>
    .eI r4_0.Kind 5 (fun c7 =>
     .lp (wt G_spec_l7simple H_spec_l7simple a0 0 0 a0.Kind a0.N a0.S a0.K [] [] [] n 0 []) fun ⟨o8_0, o8_1⟩ =>
     .vw xG o8_1 <|
     .ret (GExpr.mk a0.Kind a0.N a0.S a0.K o8_1)) fun c7 =>
    .cl (NE r4_0) fun ⟨r8_0, r8_1⟩ =>
    .vM 0 r8_1 (
     .ret r8_0) <|
    .lp (wt G_spec_l7simple H_spec_l7simple a0 0 0 a0.Kind a0.N a0.S a0.K [] [] [] n 0 []) fun ⟨o9_0, o9_1⟩ =>
    .vw xG o9_1 <|
    .ret (GExpr.mk a0.Kind a0.N a0.S a0.K o9_1)) fun c5 =>
   .lp (wt G_spec_l7simple H_spec_l7simple a0 0 0 a0.Kind a0.N a0.S a0.K [] [] [] n 0 []) fun ⟨o6_0, o6_1⟩ =>
   .vw xG o6_1 <|
   .ret (GExpr.mk a0.Kind a0.N a0.S a0.K o6_1)) fun c3 =>
  .az 0 1 <|
  .lp (wt G_spec_l7simple H_spec_l7simple a0 0 0 a0.Kind a0.N a0.S a0.K [] [] [] n 0 []) fun ⟨o4_0, o4_1⟩ =>
  .vw xG o4_1 <|
  .ret (GExpr.mk a0.Kind a0.N a0.S a0.K o4_1)) <|
 .az 0 0 <|
 .az 0 0 <|
 .az 0 0 <|
 .az 0 0 <|
 .lp (wt G_spec_l7simple H_spec_l7simple a0 0 0 a0.Kind a0.N a0.S a0.K [] [] [] n 0 []) fun ⟨o2_0, o2_1⟩ =>
 .vw xG o2_1 <|
 .ret (GExpr.mk a0.Kind a0.N a0.S a0.K o2_1)) (zj Tryz.func35)
def yH : Nat → GExpr → Option GExpr
 | 0, _ => none
 | n + 1, a0 => Zq (yH n) n a0
theorem Ta (n : Nat) : kc (yH n) := by
 induction n with
 | zero => exact fun _ _ h => (by rw [yH] at h; cases h)
 | succ n ih =>
  have ih_spec_l7simple := ih
  exact fun a0 r h => Pq (yH n) ih_spec_l7simple n a0 r (by rw [yH] at h; exact h)
def Zr (a0 : GExpr) : Option GExpr := yH (xsz a0 + 3) a0
theorem VS (a0 : GExpr) (r : GExpr) (h : Zr a0 = some r) : ∃ n, yH n a0 = some r := ⟨_, h⟩
theorem Ue : kc Zr := by
 intro a0 r h
 obtain ⟨n, hn⟩ := VS a0 r h
 exact (Ta n) a0 r hn
def WP (F : (List (List UInt8)) → Option (List (List UInt8))) : Prop := ∀ (a0 : (List (List UInt8))), Oc (F a0) 75 [] [vq (zi za) a0] fun r => (.val false [.own 1 (eL (yC 1 za) r)], [])
def wb (a0 : (List (List UInt8))) : Nat → Int → (List (List UInt8)) → Option (Int × (List (List UInt8)))
  | 0, _, _ => none
  | m + 1, v1, v2 =>
  if v1 < (a0.length : Int) then
   (zH v1).bind fun i2 =>
   (a0[i2]?).bind fun x3 =>
   if y4 1 (0 + x3.length) then
   if y4 24 (v2.length + [x3].length) then
   wb a0 m (w64 (v1 + 1)) (v2 ++ [x3])
   else none
   else none
  else
  some (v1, v2)
theorem JG (a0 : (List (List UInt8))) (m : Nat) : ∀ (v1 : Int) (v2 : (List (List UInt8))), Ol (wb a0 m v1 v2) 75 (zQ Tryz.f75 0) ⟨[(0, vq (zi za) a0), (3, vr 0), (4, vi v1)], [.obj 1 (eL (yC 1 za) v2)], 0⟩ fun o => match o with | ⟨o_0, o_1⟩ => (.exit 0, ⟨[(0, vq (zi za) a0), (3, vr 0), (4, vi o_0), (8, vb false)], [.obj 1 (eL (yC 1 za) o_1)], 0⟩) := by
  induction m with
  | zero => intro v1 v2 o h; cases h
  | succ m ih => exact fun v1 v2 => tlp (
   .le (zi za) a0 <|
   .lI v1 (a0.length : Int) (fun c1 =>
    .na v1 fun i2 =>
    .ix0 (zi za) a0 i2 fun x3 =>
    .ap 1 ze [] x3 fun n4 =>
    .ao 24 (zC 1 z9) v2 [x3] fun n5 =>
    .go (ih (w64 (v1 + 1)) (v2 ++ [x3]))) fun c1 =>
   .ret (v1, v2))
def Yr (n : Nat) (a0 : (List (List UInt8))) : Option (List (List UInt8)) :=
 (wb a0 n 0 []).bind fun ⟨o1_0, o1_1⟩ =>
 some o1_1
theorem Tb (n : Nat) : WP (Yr n) := fun a0 => tc (
 .lp (JG a0 n 0 []) fun ⟨o1_0, o1_1⟩ =>
 .ret o1_1) (zj Tryz.func75)
theorem HZ {a : List (List UInt8)} (ha : bsz a <= 2 ^ 39) : ∀ (l p : List (List UInt8)) (m : Nat), a = p ++ l → l.length < m → ∃ z, wb a m (p.length : Int) p = some (z, a) := by
 have hl := qJ a
 intro l
 induction l with
 | nil =>
  intro p m he hm
  subst he
  obtain ⟨m, rfl, _⟩ := zg hm
  exact ⟨_, by rw [wb, if_neg (yD p)]; simp; rfl⟩
 | cons x l ih =>
  intro p m he hm
  obtain ⟨m, rfl, hm'⟩ := zg hm
  have hx : 1 + x.length <= bsz a := Xl (by rw [he]; simp)
  have hlen : a.length = p.length + (l.length + 1) := by rw [he]; simp
  obtain ⟨z, hz⟩ := ih (p ++ [x]) m (by rw [he]; simp) (by simp only [List.length_cons] at hm'; omega)
  refine ⟨z, ?_⟩
  rw [wb, if_pos (by rw [he]; exact Wz p x l), zl, Option.bind_some, show a[p.length]? = some x by rw [he]; exact yg p x l, Option.bind_some, if_pos (xb (by decide) (by omega)), if_pos (xb (by decide) (by simp only [List.length_cons, List.length_nil]; omega)), y8 p x (by omega), hz]
def js (a0 : (List (List UInt8))) : Option (List (List UInt8)) := if bsz a0 <= 2 ^ 39 then some a0 else none
theorem K0 (a0 : (List (List UInt8))) (r : (List (List UInt8))) (h : js a0 = some r) : ∃ n, Yr n a0 = some r := by
 unfold js at h
 obtain ⟨ha, h⟩ := yc h
 obtain ⟨z, hz⟩ := HZ ha a0 [] (a0.length + 1) rfl (by omega)
 refine ⟨a0.length + 1, ?_⟩
 unfold Yr
 simp only [List.length_nil, Int.natCast_zero] at hz
 rw [hz]; exact h
theorem VT : WP js := fun a0 r h => (K0 a0 r h).elim fun n hn => Tb n a0 r hn
def jA (F : GExpr → Option GExpr) : Prop := ∀ (a0 : GExpr), Oc (F a0) 34 [] [.val true (zs a0)] fun r => (.val true (yL r), [])
def wu (G_spec_l6ownExpr : GExpr → Option GExpr) (a0 : GExpr) (v2 : Int) (v3 : Int) (v4 : Int) (v5 : Int) (v6 : (List UInt8)) (v7 : (List (List UInt8))) (v8 : (List GExpr)) (v9 : (List UInt8)) (v10 : (List (List UInt8))) : Nat → Int → (List GExpr) → Option (Int × (List GExpr))
  | 0, _, _ => none
  | m + 1, v0, v11 =>
  if v0 < (a0.Kids.length : Int) then
   (zH v0).bind fun i2 =>
   (a0.Kids[i2]?).bind fun x3 =>
   (G_spec_l6ownExpr x3).bind fun r4 =>
   if y4 88 (v11.length + [r4].length) then
   wu G_spec_l6ownExpr a0 v2 v3 v4 v5 v6 v7 v8 v9 v10 m (w64 (v0 + 1)) (v11 ++ [r4])
   else none
  else
  some (v0, v11)
theorem K1 (G_spec_l6ownExpr : GExpr → Option GExpr) (H_spec_l6ownExpr : jA G_spec_l6ownExpr) (a0 : GExpr) (v2 : Int) (v3 : Int) (v4 : Int) (v5 : Int) (v6 : (List UInt8)) (v7 : (List (List UInt8))) (v8 : (List GExpr)) (v9 : (List UInt8)) (v10 : (List (List UInt8))) (m : Nat) : ∀ (v0 : Int) (v11 : (List GExpr)), Ol (wu G_spec_l6ownExpr a0 v2 v3 v4 v5 v6 v7 v8 v9 v10 m v0 v11) 34 (zQ Tryz.f34 0) ⟨[(1, vp 0 0), (2, vp 1 0), (3, vp 2 0), (4, vi v0)], [.var (zs a0), .var [ci v2, ci v3, .ref 3, .ref 4, .ref 5], .var [ci v4, ci v5, .ref 6, .ref 7, .ref 8], .obj 1 (eL za v6), .obj 1 (eL (yC 1 za) v7), .obj 5 (eL z7 v8), .obj 1 (eL za v9), .obj 1 (eL (yC 1 za) v10), .obj 5 (eL z7 v11)], 0⟩ fun o => match o with | ⟨o_0, o_1⟩ => (.exit 0, ⟨[(1, vp 0 0), (2, vp 1 0), (3, vp 2 0), (4, vi o_0), (21, vb false)], [.var (zs a0), .var [ci v2, ci v3, .ref 3, .ref 4, .ref 5], .var [ci v4, ci v5, .ref 6, .ref 7, .ref 8], .obj 1 (eL za v6), .obj 1 (eL (yC 1 za) v7), .obj 5 (eL z7 v8), .obj 1 (eL za v9), .obj 1 (eL (yC 1 za) v10), .obj 5 (eL z7 o_1)], 0⟩) := by
  induction m with
  | zero => intro v0 v11 o h; cases h
  | succ m ih => exact fun v0 v11 => tlp (
   .le zd a0.Kids <|
   .lI v0 (a0.Kids.length : Int) (fun c1 =>
    .na v0 fun i2 =>
    .ix eq_GExpr a0.Kids i2 fun x3 =>
    .cl (H_spec_l6ownExpr x3) fun r4 =>
    .nd (y4 88 (v11.length + [r4].length)) fun n5 =>
    .q ⟨.room 88 (eL z7 v11) ([(yL r4)] : List (List C)), .b true, by rw [(show ([(yL r4)] : List (List C)) = eL z7 [r4] from (yk (y3 r4) y7))]; exact (A.room n5)⟩ <|
    .q ⟨.uni 5 ([(yL r4)] : List (List C)), .b true, by rw [(show ([(yL r4)] : List (List C)) = eL z7 [r4] from (yk (y3 r4) y7))]; exact (A.uniO yw)⟩ <|
    .q ⟨.app (eL z7 v11) ([(yL r4)] : List (List C)), .l (eL z7 (v11 ++ [r4])), by rw [(show ([(yL r4)] : List (List C)) = eL z7 [r4] from (yk (y3 r4) y7))]; exact A.app⟩ <|
    .go (ih (w64 (v0 + 1)) (v11 ++ [r4]))) fun c1 =>
   .ret (v0, v11))
def YR (G_spec_l6ownExpr : GExpr → Option GExpr) (n : Nat) (a0 : GExpr) : Option GExpr :=
 if y4 1 (0 + a0.S.length) then
 (js a0.K).bind fun r2 =>
 (wu G_spec_l6ownExpr a0 0 0 a0.Kind a0.N [] [] [] a0.S r2 n 0 []).bind fun ⟨o3_0, o3_1⟩ =>
 some (GExpr.mk a0.Kind a0.N a0.S r2 o3_1)
 else none
theorem Uf (G_spec_l6ownExpr : GExpr → Option GExpr) (H_spec_l6ownExpr : jA G_spec_l6ownExpr) (n : Nat) : jA (YR G_spec_l6ownExpr n) := fun a0 => tc (
 .ap 1 ze [] a0.S fun n1 =>
 .cl (VT a0.K) fun r2 =>
 .lp (K1 G_spec_l6ownExpr H_spec_l6ownExpr a0 0 0 a0.Kind a0.N [] [] [] a0.S r2 n 0 []) fun ⟨o3_0, o3_1⟩ =>
 .ret (GExpr.mk a0.Kind a0.N a0.S r2 o3_1)) (zj Tryz.func34)
def xw : Nat → GExpr → Option GExpr
 | 0, _ => none
 | n + 1, a0 => YR (xw n) n a0
theorem VU (n : Nat) : jA (xw n) := by
 induction n with
 | zero => exact fun _ _ h => (by rw [xw] at h; cases h)
 | succ n ih =>
  have ih_spec_l6ownExpr := ih
  exact fun a0 r h => Uf (xw n) ih_spec_l6ownExpr n a0 r (by rw [xw] at h; exact h)
theorem Ea {G : GExpr → Option GExpr} {a : GExpr} {v2 v3 v4 v5 : Int} {v6 : List UInt8} {v7 : List (List UInt8)} {v8 : List GExpr} {v9 : List UInt8} {v10 : List (List UInt8)} (ha : z8 a.Kids <= 2 ^ 39) : ∀ (l p : List GExpr) (m : Nat), a.Kids = p ++ l → (∀ x ∈ l, G x = some x) → l.length < m → ∃ z, wu G a v2 v3 v4 v5 v6 v7 v8 v9 v10 m (p.length : Int) p = some (z, a.Kids) := by
 have hl := yF a.Kids
 intro l
 induction l with
 | nil =>
  intro p m he _ hm
  obtain ⟨m, rfl, _⟩ := zg hm
  exact ⟨_, by rw [wu, he, if_neg (yD p)]; simp; rfl⟩
 | cons x l ih =>
  intro p m he hG hm
  obtain ⟨m, rfl, hm'⟩ := zg hm
  have hlen : a.Kids.length = p.length + (l.length + 1) := by rw [he]; simp
  obtain ⟨z, hz⟩ := ih (p ++ [x]) m (by rw [he]; simp) (fun y hy => hG y (List.mem_cons_of_mem _ hy)) (by simp only [List.length_cons] at hm'; omega)
  refine ⟨z, ?_⟩
  rw [wu, if_pos (by omega), zl, Option.bind_some, show a.Kids[p.length]? = some x by rw [he]; exact yg p x l, Option.bind_some, hG x List.mem_cons_self, Option.bind_some, if_pos (xb (by decide) (by simp only [List.length_cons, List.length_nil]; omega)), y8 p x (by omega), hz]
theorem zct : ∀ (N : Nat) (v : GExpr), xsz v < N → xsz v <= 2 ^ 39 → ∀ f : Nat, xsz v + 2 <= f → xw f v = some v := by
 intro N
 induction N with
 | zero => intro v hv; omega
 | succ N ih =>
  intro v hv hs f hf
  obtain ⟨f, rfl, _⟩ := zg (show 0 < f by omega)
  have he := xv v
  have hl := yF v.Kids
  rw [xw]
  unfold YR js
  rw [if_pos (xb (by decide) (by omega)), if_pos (by omega), Option.bind_some]
  obtain ⟨z, hz⟩ := Ea (G := xw f) (a := v) (v2 := 0) (v3 := 0) (v4 := v.Kind) (v5 := v.N) (v6 := []) (v7 := []) (v8 := []) (v9 := v.S) (v10 := v.K) (by omega) v.Kids [] f rfl (fun x hx => by
   have := xA hx
   exact ih x (by omega) (by omega) f (by omega)) (by omega)
  simp only [List.length_nil, Int.natCast_zero] at hz
  rw [hz, Option.bind_some]
  exact congrArg some (GExpr.eta v)
def jB (a0 : GExpr) : Option GExpr := if xsz a0 <= 2 ^ 39 then some a0 else none
theorem Vh (a0 : GExpr) (r : GExpr) (h : jB a0 = some r) : ∃ n, xw n a0 = some r := by
 unfold jB at h
 obtain ⟨ha, h⟩ := yc h
 exact ⟨xsz a0 + 2, by rw [<- h]; exact zct _ a0 (Nat.lt_succ_self _) ha _ (Nat.le_refl _)⟩
theorem Td : jA jB := by
 intro a0 r h
 obtain ⟨n, hn⟩ := Vh a0 r h
 exact (VU n) a0 r hn
def Zs (a0 : GExpr) : Option (GExpr × Bool) :=
 (YC a0).bind fun r1 =>
 match r1 with
 | true =>
  (Zr a0).bind fun r2 =>
  (jB r2).bind fun r3 =>
  some (r3, true)
 | false =>
  some ((GExpr.mk 0 0 [] [] []), false)
theorem Ug (a0 : GExpr) : Oc (Zs a0) 7 [] [.val true (zs a0)] fun r => (.tup [(true, (yL r.1)), (false, [.bool r.2])], []) := tc (
 .cl (O6 a0) fun r1 =>
 .vN 0 r1 (
  .cl (Ue a0) fun r2 =>
  .cl (Td r2) fun r3 =>
  .ret (r3, true)) <|
 .ret ((GExpr.mk 0 0 [] [] []), false)) (zj Tryz.func7)
def xH (a0 : Int) (a1 : Int) (a2 : Int) : Option Bool :=
 if a1 <= a0 then
  some (decide (a0 <= a2))
 else
 some false
theorem qO (a0 : Int) (a1 : Int) (a2 : Int) : Oc (xH a0 a1 a2) 140 [] [vi a0, vi a1, vi a2] fun r => (vb r, []) := tc (
 .gI a1 a0 (fun c1 =>
  .gD a0 a2 <|
  .ret (decide (a0 <= a2))) fun c1 =>
 .ret false) (zj Tryz.func140)
def KZ (F : (List UInt8) → Option Bool) : Prop := ∀ (a0 : (List UInt8)), Oc (F a0) 142 [] [vq za a0] fun r => (vb r, [])
def qE (a0 : (List UInt8)) (v1 : Int) : Nat → Int → Option (Bool ⊕ Int)
  | 0, _ => none
  | m + 1, v2 =>
  if v2 < v1 then
   (zH v2).bind fun i2 =>
   (a0[i2]?).bind fun x3 =>
   if ((x3.toNat : Nat) : Int) < 97 then
    some (.inl false)
   else
   if 122 < ((x3.toNat : Nat) : Int) then
    some (.inl false)
   else
   qE a0 v1 m (w64 (v2 + 1))
  else
  some (.inr v2)
theorem Te (a0 : (List UInt8)) (v1 : Int) (m : Nat) : ∀ (v2 : Int), Ol (qE a0 v1 m v2) 142 (zQ Tryz.f142 0) ⟨[(0, vq za a0), (5, vq za a0), (6, vi v1), (7, vi v2)], [], 0⟩ fun o => match o with | .inl o_0 => (.ret, ⟨[(2, vb o_0)], [], 0⟩) | .inr (o_1) => (.exit 0, ⟨[(0, vq za a0), (5, vq za a0), (6, vi v1), (7, vi o_1), (8, vb false)], [], 0⟩) := by
  induction m with
  | zero => intro v2 o h; cases h
  | succ m ih => exact fun v2 => tlp (
   .lI v2 v1 (fun c1 =>
    .na v2 fun i2 =>
    .ix0 za a0 i2 fun x3 =>
    .lI ((x3.toNat : Nat) : Int) 97 (fun c4 =>
     .ret (.inl false)) fun c4 =>
    .lI 122 ((x3.toNat : Nat) : Int) (fun c5 =>
     .ret (.inl false)) fun c5 =>
    .go (ih (w64 (v2 + 1)))) fun c1 =>
   .ret (.inr v2))
def WJ (n : Nat) (a0 : (List UInt8)) : Option Bool :=
 (qE a0 (a0.length : Int) n 0).bind fun o1 =>
 match o1 with
 | .inl o1_0 =>
  some o1_0
 | .inr (o1_1) =>
  (xH (a0.length : Int) 1 8).bind fun r2 =>
  some r2
theorem Ml (n : Nat) : KZ (WJ n) := fun a0 => tc (
 .le za a0 <|
 .l2 (Te a0 (a0.length : Int) n 0) (fun o1_0 =>
  .ret o1_0) fun o1_1 =>
 .le za a0 <|
 .cl (qO (a0.length : Int) 1 8) fun r2 =>
 .ret r2) (zj Tryz.func142)
theorem Uh {a : List UInt8} (ha : a.length <= 2 ^ 20) : ∀ (d i m : Nat), i + d = a.length → d < m → ∃ z, qE a (a.length : Int) m (i : Int) = some (if (a.drop i).all (inB 97 122) = true then .inr z else .inl false) := by
 intro d
 induction d with
 | zero =>
  intro i m hi hm
  obtain ⟨m, rfl, _⟩ := zg hm
  exact ⟨_, by rw [qE, if_neg (by omega), List.drop_eq_nil_of_le (by omega)]; rfl⟩
 | succ d ih =>
  intro i m hi hm
  obtain ⟨m, rfl, hm'⟩ := zg hm
  have hil : i < a.length := by omega
  rw [qE, if_pos (by omega), zl, Option.bind_some, zr hil, Option.bind_some, yt (by omega), xr hil, List.all_cons]
  by_cases h1 : ((a[i].toNat : Nat) : Int) < 97
  ·exact ⟨0, by rw [if_pos h1, if_neg]; simp [inB]; omega⟩
  ·rw [if_neg h1]
   by_cases h2 : (122 : Int) < ((a[i].toNat : Nat) : Int)
   ·exact ⟨0, by rw [if_pos h2, if_neg]; simp [inB]; omega⟩
   ·rw [if_neg h2, show inB 97 122 a[i] = true by simp [inB]; omega, Bool.true_and]
    exact ih (i + 1) m (by omega) (by omega)
theorem M4 (a b c : Int) : xH a b c = some (decide (b <= a ∧ a <= c)) := by
 unfold xH
 by_cases h : b <= a
 ·rw [if_pos h]; simp [h]
 ·rw [if_neg h]; simp [h]
def w9 (a0 : (List UInt8)) : Option Bool := if a0.length <= 2 ^ 20 then some (xR a0) else none
theorem Ui (a0 : (List UInt8)) (r : Bool) (h : w9 a0 = some r) : ∃ n, WJ n a0 = some r := by
 unfold w9 at h
 obtain ⟨ha, h⟩ := yc h
 refine ⟨a0.length + 1, ?_⟩
 obtain ⟨z, hz⟩ := Uh ha a0.length 0 (a0.length + 1) (by omega) (by omega)
 rw [show ((0 : Nat) : Int) = 0 from rfl, List.drop_zero] at hz
 unfold WJ
 rw [<- h, hz]
 unfold xR
 have hd : decide (1 <= a0.length ∧ a0.length <= 8) = decide ((1 : Int) <= (a0.length : Int) ∧ (a0.length : Int) <= 8) := decide_eq_decide.2 (by omega)
 rw [hd]
 cases a0.all (inB 97 122)
 ·rw [Bool.and_false]; rfl
 ·rw [Bool.and_true]
  simp only [if_true, Option.bind_some, M4]
theorem kV : KZ w9 := fun a0 r h => (Ui a0 r h).elim fun n hn => Ml n a0 r hn
def yS (a0 : (List UInt8)) (a1 : (List UInt8)) : Option Int :=
 (wB a0 a1).bind fun r1 =>
 some r1
theorem qF (a0 : (List UInt8)) (a1 : (List UInt8)) : Oc (yS a0 a1) 144 [] [vq za a0, vq za a1] fun r => (vi r, []) := tc (
 .cl (W2 a0 a1) fun r1 =>
 .ret r1) (zj Tryz.func144)
def Va (F : (List UInt8) → Option Bool) : Prop := ∀ (a0 : (List UInt8)), Oc (F a0) 141 [] [vq za a0] fun r => (vb r, [])
def qG (a0 : (List UInt8)) (v1 : Int) : Nat → Int → Option (Bool ⊕ Int)
  | 0, _ => none
  | m + 1, v2 =>
  if v2 < v1 then
   (zH v2).bind fun i2 =>
   (a0[i2]?).bind fun x3 =>
   if ((x3.toNat : Nat) : Int) < 32 then
    some (.inl false)
   else
   if 126 < ((x3.toNat : Nat) : Int) then
    some (.inl false)
   else
   qG a0 v1 m (w64 (v2 + 1))
  else
  some (.inr v2)
theorem Tf (a0 : (List UInt8)) (v1 : Int) (m : Nat) : ∀ (v2 : Int), Ol (qG a0 v1 m v2) 141 (zQ Tryz.f141 0) ⟨[(0, vq za a0), (5, vq za a0), (6, vi v1), (7, vi v2)], [], 0⟩ fun o => match o with | .inl o_0 => (.ret, ⟨[(2, vb o_0)], [], 0⟩) | .inr (o_1) => (.exit 0, ⟨[(0, vq za a0), (5, vq za a0), (6, vi v1), (7, vi o_1), (8, vb false)], [], 0⟩) := by
  induction m with
  | zero => intro v2 o h; cases h
  | succ m ih => exact fun v2 => tlp (
   .lI v2 v1 (fun c1 =>
    .na v2 fun i2 =>
    .ix0 za a0 i2 fun x3 =>
    .lI ((x3.toNat : Nat) : Int) 32 (fun c4 =>
     .ret (.inl false)) fun c4 =>
    .lI 126 ((x3.toNat : Nat) : Int) (fun c5 =>
     .ret (.inl false)) fun c5 =>
    .go (ih (w64 (v2 + 1)))) fun c1 =>
   .ret (.inr v2))
def WK (n : Nat) (a0 : (List UInt8)) : Option Bool :=
 (qG a0 (a0.length : Int) n 0).bind fun o1 =>
 match o1 with
 | .inl o1_0 =>
  some o1_0
 | .inr (o1_1) =>
  some (decide ((a0.length : Int) <= 20))
theorem Mm (n : Nat) : Va (WK n) := fun a0 => tc (
 .le za a0 <|
 .l2 (Tf a0 (a0.length : Int) n 0) (fun o1_0 =>
  .ret o1_0) fun o1_1 =>
 .le za a0 <|
 .gD (a0.length : Int) 20 <|
 .ret (decide ((a0.length : Int) <= 20))) (zj Tryz.func141)
theorem Uj {a : List UInt8} (ha : a.length <= 2 ^ 20) : ∀ (d i m : Nat), i + d = a.length → d < m → ∃ z, qG a (a.length : Int) m (i : Int) = some (if (a.drop i).all (inB 32 126) = true then .inr z else .inl false) := by
 intro d
 induction d with
 | zero =>
  intro i m hi hm
  obtain ⟨m, rfl, _⟩ := zg hm
  exact ⟨_, by rw [qG, if_neg (by omega), List.drop_eq_nil_of_le (by omega)]; rfl⟩
 | succ d ih =>
  intro i m hi hm
  obtain ⟨m, rfl, hm'⟩ := zg hm
  have hil : i < a.length := by omega
  rw [qG, if_pos (by omega), zl, Option.bind_some, zr hil, Option.bind_some, yt (by omega), xr hil, List.all_cons]
  by_cases h1 : ((a[i].toNat : Nat) : Int) < 32
  ·exact ⟨0, by rw [if_pos h1, if_neg]; simp [inB]; omega⟩
  ·rw [if_neg h1]
   by_cases h2 : (126 : Int) < ((a[i].toNat : Nat) : Int)
   ·exact ⟨0, by rw [if_pos h2, if_neg]; simp [inB]; omega⟩
   ·rw [if_neg h2, show inB 32 126 a[i] = true by simp [inB]; omega, Bool.true_and]
    exact ih (i + 1) m (by omega) (by omega)
def jS (a0 : (List UInt8)) : Option Bool := if a0.length <= 2 ^ 20 then some (xo a0) else none
theorem Uk (a0 : (List UInt8)) (r : Bool) (h : jS a0 = some r) : ∃ n, WK n a0 = some r := by
 unfold jS at h
 obtain ⟨ha, h⟩ := yc h
 refine ⟨a0.length + 1, ?_⟩
 obtain ⟨z, hz⟩ := Uj ha a0.length 0 (a0.length + 1) (by omega) (by omega)
 rw [show ((0 : Nat) : Int) = 0 from rfl, List.drop_zero] at hz
 unfold WK
 rw [<- h, hz]
 unfold xo
 by_cases hl : a0.length <= 20
 ·rw [decide_eq_true hl]
  cases a0.all (inB 32 126)
  ·rfl
  ·show some (decide _) = _; rw [decide_eq_true (by omega)]; rfl
 ·rw [decide_eq_false hl]
  cases a0.all (inB 32 126)
  ·rfl
  ·show some (decide _) = _; rw [decide_eq_false (by omega)]; rfl
theorem JH : Va jS := fun a0 r h => (Uk a0 r h).elim fun n hn => Mm n a0 r hn
def YS : Option (List (List UInt8)) :=
 some [[110, 117, 108, 108], [116, 114, 117, 101], [102, 97, 108, 115, 101], [105, 110, 100, 101, 120], [107, 101, 121], [118, 97, 108], [108, 111, 99, 97, 108], [114, 101, 115], [111, 117, 116], [99, 111, 117, 110, 116], [101, 97, 99, 104]]
theorem Tg : Oc YS 191 [] [] fun r => (.val false [.own 1 (eL Zo r)], []) := tc (
 .ret [[110, 117, 108, 108], [116, 114, 117, 101], [102, 97, 108, 115, 101], [105, 110, 100, 101, 120], [107, 101, 121], [118, 97, 108], [108, 111, 99, 97, 108], [114, 101, 115], [111, 117, 116], [99, 111, 117, 110, 116], [101, 97, 99, 104]]) (zj Tryz.func191)
def Xh (F : (List (List UInt8)) → (List UInt8) → Option Int) : Prop := ∀ (a0 : (List (List UInt8))) (a1 : (List UInt8)), Oc (F a0 a1) 210 [] [vq Zo a0, vs a1] fun r => (vi r, [])
def xl (a0 : (List (List UInt8))) (a1 : (List UInt8)) (v2 : Int) : Nat → Int → Option (Int ⊕ Int)
  | 0, _ => none
  | m + 1, v3 =>
  if v3 < v2 then
   (zH v3).bind fun i2 =>
   (a0[i2]?).bind fun x3 =>
   if a1 = x3 then
    some (.inl v3)
   else
   xl a0 a1 v2 m (w64 (v3 + 1))
  else
  some (.inr v3)
theorem Qc (a0 : (List (List UInt8))) (a1 : (List UInt8)) (v2 : Int) (m : Nat) : ∀ (v3 : Int), Ol (xl a0 a1 v2 m v3) 210 (zQ Tryz.f210 0) ⟨[(0, vq Zo a0), (1, vs a1), (7, vi v2), (8, vi v3)], [], 0⟩ fun o => match o with | .inl o_0 => (.ret, ⟨[(4, vi o_0)], [], 0⟩) | .inr (o_1) => (.exit 0, ⟨[(0, vq Zo a0), (1, vs a1), (7, vi v2), (8, vi o_1), (9, vb false)], [], 0⟩) := by
  induction m with
  | zero => intro v3 o h; cases h
  | succ m ih => exact fun v3 => tlp (
   .lI v3 v2 (fun c1 =>
    .na v3 fun i2 =>
    .ix0 Zo a0 i2 fun x3 =>
    .sI a1 x3 (fun c4 =>
     .ret (.inl v3)) fun c4 =>
    .go (ih (w64 (v3 + 1)))) fun c1 =>
   .ret (.inr v3))
def kW (n : Nat) (a0 : (List (List UInt8))) (a1 : (List UInt8)) : Option Int :=
 (xl a0 a1 (a0.length : Int) n 0).bind fun o1 =>
 match o1 with
 | .inl o1_0 =>
  some o1_0
 | .inr (o1_1) =>
  some (-1)
theorem JI (n : Nat) : Xh (kW n) := fun a0 a1 => tc (
 .le Zo a0 <|
 .l2 (Qc a0 a1 (a0.length : Int) n 0) (fun o1_0 =>
  .ret o1_0) fun o1_1 =>
 .ret (-1)) (zj Tryz.func210)
def ixF (a : List UInt8) : List (List UInt8) → Nat → Int
 | [], _ => -1
 | x :: r, i => if a = x then (i : Int) else ixF a r (i + 1)
theorem zcu (a : List UInt8) (l : List (List UInt8)) (i : Nat) : decide (0 <= ixF a l i) = l.any fun w => decide (w = a) := by
 induction l generalizing i with
 | nil => rfl
 | cons x l ih =>
  rw [ixF, List.any_cons]
  by_cases h : a = x
  ·rw [if_pos h, decide_eq_true h.symm, Bool.true_or]; exact decide_eq_true (by omega)
  ·rw [if_neg h, show decide (x = a) = false from decide_eq_false fun e => h e.symm, Bool.false_or]; exact ih _
theorem Eb {a : List UInt8} {l : List (List UInt8)} (hl : l.length <= 2 ^ 20) : ∀ (d i m : Nat), i + d = l.length → d < m → ∃ z, xl l a (l.length : Int) m (i : Int) = some (if 0 <= ixF a (l.drop i) i then .inl (ixF a (l.drop i) i) else .inr z) := by
 intro d
 induction d with
 | zero =>
  intro i m hi hm
  obtain ⟨m, rfl, _⟩ := zg hm
  exact ⟨_, by rw [xl, if_neg (by omega), List.drop_eq_nil_of_le (by omega)]; rfl⟩
 | succ d ih =>
  intro i m hi hm
  obtain ⟨m, rfl, hm'⟩ := zg hm
  have hil : i < l.length := by omega
  rw [xl, if_pos (by omega), zl, Option.bind_some, zr hil, Option.bind_some, yt (by omega), xr hil, ixF]
  by_cases h : a = l[i]
  ·exact ⟨0, by rw [if_pos h, if_pos h, if_pos (by omega)]⟩
  ·rw [if_neg h, if_neg h]
   exact ih (i + 1) m (by omega) (by omega)
def wN (a0 : (List (List UInt8))) (a1 : (List UInt8)) : Option Int := if a0.length <= 2 ^ 20 then some (ixF a1 a0 0) else none
theorem Qz (a0 : (List (List UInt8))) (a1 : (List UInt8)) (r : Int) (h : wN a0 a1 = some r) : ∃ n, kW n a0 a1 = some r := by
 unfold wN at h
 obtain ⟨ha, h⟩ := yc h
 obtain ⟨z, hz⟩ := Eb (a := a1) ha a0.length 0 (a0.length + 1) (by omega) (by omega)
 rw [show ((0 : Nat) : Int) = 0 from rfl, List.drop_zero] at hz
 refine ⟨a0.length + 1, ?_⟩
 unfold kW
 rw [hz, <- h]
 have hm : ∀ (l : List (List UInt8)) (i : Nat), ixF a1 l i = -1 ∨ 0 <= ixF a1 l i := fun l => by
  induction l with
  | nil => exact fun i => .inl rfl
  | cons x l ih => intro i; rw [ixF]; split; exact .inr (by omega); exact ih _
 rcases hm a0 0 with h | h
 ·rw [h]; rfl
 ·rw [if_pos h]; rfl
theorem Jy : Xh wN := fun a0 a1 r h => (Qz a0 a1 r h).elim fun n hn => JI n a0 a1 r hn
def jC (a0 : (List (List UInt8))) (a1 : (List UInt8)) : Option Bool :=
 (wN a0 a1).bind fun r1 =>
 some (decide (0 <= r1))
theorem Qd (a0 : (List (List UInt8))) (a1 : (List UInt8)) : Oc (jC a0 a1) 190 [] [vq Zo a0, vs a1] fun r => (vb r, []) := tc (
 .cl (Jy a0 a1) fun r1 =>
 .gD 0 r1 <|
 .ret (decide (0 <= r1))) (zj Tryz.func190)
def vV (a0 : (List UInt8)) : Option Bool :=
 (w9 a0).bind fun r1 =>
 match r1 with
 | true =>
  (YS).bind fun r2 =>
  (jC r2 a0).bind fun r3 =>
  some (!r3)
 | false =>
  some false
theorem JJ (a0 : (List UInt8)) : Oc (vV a0) 143 [] [vq za a0] fun r => (vb r, []) := tc (
 .cl (kV a0) fun r1 =>
 .vM 0 r1 (
  .cl (Tg) fun r2 =>
  .az 0 1 <|
  .az 0 1 <|
  .bt a0 <|
  .az 0 1 <|
  .vw zgt r2 <|
  .cl (Qd r2 a0) fun r3 =>
  .az 0 2 <|
  .az 0 2 <|
  .ret (!r3)) <|
 .az 0 0 <|
 .az 0 0 <|
 .az 0 0 <|
 .az 0 0 <|
 .az 0 0 <|
 .ret false) (zj Tryz.func143)
def jt (F : GExpr → Int → Option Bool) : Prop := ∀ (a0 : GExpr) (e0 : Int), Oc (F a0 e0) 146 [.var [ci e0]] [.val true (zs a0), vp 0 0] fun r => (vb r, [.var [ci e0]])
def xd (F : (List GExpr) → Int → Option Int) : Prop := ∀ (a0 : (List GExpr)) (e0 : Int), Oc (F a0 e0) 193 [.var [ci e0]] [vq zd a0, .val false [.fn 146 [.ptr 0 0]]] fun r => (vi r, [.var [ci e0]])
def yv (F : (List GExpr) → Int → Option Bool) : Prop := ∀ (a0 : (List GExpr)) (e0 : Int), Oc (F a0 e0) 145 [.var [ci e0]] [vq zd a0, .val false [.fn 146 [.ptr 0 0]]] fun r => (vb r, [.var [ci e0]])
def Zt (F : GExpr → Int → Option Bool) : Prop := ∀ (a0 : GExpr) (a1 : Int), Oc (F a0 a1) 80 [] [.val true (zs a0), vi a1] fun r => (vb r, [])
def Ys (G_impl_isFormed : GExpr → Int → Option Bool) (a0 : GExpr) (e0 : Int) : Option Bool :=
 (G_impl_isFormed a0 (w64 (e0 - 1))).bind fun r1 =>
 some (!r1)
theorem Th (G_impl_isFormed : GExpr → Int → Option Bool) (H_impl_isFormed : Zt G_impl_isFormed) : jt (Ys G_impl_isFormed) := fun a0 e0 => tc (
 .cl (H_impl_isFormed a0 (w64 (e0 - 1))) fun r1 =>
 .ret (!r1)) (zj Tryz.func146)
def yb (G_impl_isFormed_1 : GExpr → Int → Option Bool) (a0 : (List GExpr)) (v1 : Int) (e0 : Int) : Nat → Int → Option (Int ⊕ Int)
  | 0, _ => none
  | m + 1, v2 =>
  if v2 < v1 then
   (zH v2).bind fun i2 =>
   (a0[i2]?).bind fun x3 =>
   (G_impl_isFormed_1 x3 e0).bind fun r4 =>
   match r4 with
   | true =>
    some (.inl v2)
   | false =>
    yb G_impl_isFormed_1 a0 v1 e0 m (w64 (v2 + 1))
  else
  some (.inr v2)
theorem Zf (G_impl_isFormed_1 : GExpr → Int → Option Bool) (H_impl_isFormed_1 : jt G_impl_isFormed_1) (a0 : (List GExpr)) (v1 : Int) (e0 : Int) (m : Nat) : ∀ (v2 : Int), Ol (yb G_impl_isFormed_1 a0 v1 e0 m v2) 193 (zQ Tryz.f193 0) ⟨[(0, vq zd a0), (1, .val false [.fn 146 [.ptr 0 0]]), (7, vi v1), (8, vi v2)], [.var [ci e0]], 1⟩ fun o => match o with | .inl o_0 => (.ret, ⟨[(4, vi o_0)], [.var [ci e0]], 1⟩) | .inr (o_1) => (.exit 0, ⟨[(0, vq zd a0), (1, .val false [.fn 146 [.ptr 0 0]]), (7, vi v1), (8, vi o_1), (9, vb false)], [.var [ci e0]], 1⟩) := by
  induction m with
  | zero => intro v2 o h; cases h
  | succ m ih => exact fun v2 => tlp (
   .lI v2 v1 (fun c1 =>
    .na v2 fun i2 =>
    .ix eq_GExpr a0 i2 fun x3 =>
    .cl (H_impl_isFormed_1 x3 e0) fun r4 =>
    .vM 0 r4 (
     .ret (.inl v2)) <|
    .go (ih (w64 (v2 + 1)))) fun c1 =>
   .ret (.inr v2))
def xe (G_impl_isFormed_1 : GExpr → Int → Option Bool) (n : Nat) (a0 : (List GExpr)) (e0 : Int) : Option Int :=
 (yb G_impl_isFormed_1 a0 (a0.length : Int) e0 n 0).bind fun o1 =>
 match o1 with
 | .inl o1_0 =>
  some o1_0
 | .inr (o1_1) =>
  some (-1)
theorem Yt (G_impl_isFormed_1 : GExpr → Int → Option Bool) (H_impl_isFormed_1 : jt G_impl_isFormed_1) (n : Nat) : xd (xe G_impl_isFormed_1 n) := fun a0 e0 => tc (
 .le zd a0 <|
 .l2 (Zf G_impl_isFormed_1 H_impl_isFormed_1 a0 (a0.length : Int) e0 n 0) (fun o1_0 =>
  .ret o1_0) fun o1_1 =>
 .ret (-1)) (zj Tryz.func193)
def xS (G_slices_IndexFunc_Expr_isFormed_1 : (List GExpr) → Int → Option Int) (a0 : (List GExpr)) (e0 : Int) : Option Bool :=
 (G_slices_IndexFunc_Expr_isFormed_1 a0 e0).bind fun r1 =>
 some (decide (0 <= r1))
theorem Z1 (G_slices_IndexFunc_Expr_isFormed_1 : (List GExpr) → Int → Option Int) (H_slices_IndexFunc_Expr_isFormed_1 : xd G_slices_IndexFunc_Expr_isFormed_1) : yv (xS G_slices_IndexFunc_Expr_isFormed_1) := fun a0 e0 => tc (
 .cl (H_slices_IndexFunc_Expr_isFormed_1 a0 e0) fun r1 =>
 .gD 0 r1 <|
 .ret (decide (0 <= r1))) (zj Tryz.func145)
def xV (G_slices_ContainsFunc_Expr_isFormed_1 : (List GExpr) → Int → Option Bool) (v0 : Int) (v1 : Bool) (v2 : (List (List UInt8))) (a0 : GExpr) (a1 : Int) : Nat → Int → Option (Bool ⊕ Int)
  | 0, _ => none
  | m + 1, v3 =>
  if v3 < v0 then
   (zH v3).bind fun i2 =>
   (v2[i2]?).bind fun x3 =>
   (w9 x3).bind fun r4 =>
   match r4 with
   | true =>
    if 0 < v3 then
     (zH (w64 (v3 - 1))).bind fun i6 =>
     (a0.K[i6]?).bind fun x7 =>
     (yS x7 x3).bind fun r8 =>
     if 0 <= r8 then
      some (.inl false)
     else
     xV G_slices_ContainsFunc_Expr_isFormed_1 v0 v1 v2 a0 a1 m (w64 (v3 + 1))
    else
    xV G_slices_ContainsFunc_Expr_isFormed_1 v0 v1 v2 a0 a1 m (w64 (v3 + 1))
   | false =>
    some (.inl false)
  else
  some (.inr v3)
theorem Vi (G_slices_ContainsFunc_Expr_isFormed_1 : (List GExpr) → Int → Option Bool) (H_slices_ContainsFunc_Expr_isFormed_1 : yv G_slices_ContainsFunc_Expr_isFormed_1) (v0 : Int) (v1 : Bool) (v2 : (List (List UInt8))) (a0 : GExpr) (a1 : Int) (m : Nat) : ∀ (v3 : Int), Ol (xV G_slices_ContainsFunc_Expr_isFormed_1 v0 v1 v2 a0 a1 m v3) 80 (zQ Tryz.f80 0) ⟨[(2, vp 0 0), (3, vp 1 0), (5, vi v0), (6, vb v1), (96, vq (zi za) v2), (97, vi v0), (98, vi v3)], [.var (zs a0), .var [ci a1]], 0⟩ fun o => match o with | .inl o_0 => (.ret, ⟨[(4, vb o_0)], [], 0⟩) | .inr (o_1) => (.exit 1, ⟨[(2, vp 0 0), (3, vp 1 0), (5, vi v0), (6, vb v1), (96, vq (zi za) v2), (97, vi v0), (98, vi o_1), (99, vb false)], [.var (zs a0), .var [ci a1]], 0⟩) := by
  induction m with
  | zero => intro v3 o h; cases h
  | succ m ih => exact fun v3 => tlp (
   .lI v3 v0 (fun c1 =>
    .na v3 fun i2 =>
    .ix0 (zi za) v2 i2 fun x3 =>
    .cl (kV x3) fun r4 =>
    .vN 0 r4 (
     .an 0 0 <|
     .lI 0 v3 (fun c5 =>
      .an 0 0 <|
      .na (w64 (v3 - 1)) fun i6 =>
      .ix0 (zi za) a0.K i6 fun x7 =>
      .cl (qF x7 x3) fun r8 =>
      .gI 0 r8 (fun c9 =>
       .an 0 3 <|
       .an 1 3 <|
       .ret (.inl false)) fun c9 =>
      .an 0 3 <|
      .an 1 3 <|
      .go (ih (w64 (v3 + 1)))) fun c5 =>
     .an 0 0 <|
     .an 9 0 <|
     .an 1 0 <|
     .go (ih (w64 (v3 + 1)))) <|
    .an 0 0 <|
    .an 0 0 <|
    .an 0 0 <|
    .an 0 0 <|
    .ret (.inl false)) fun c1 =>
   .ret (.inr v3))
def wY (G_slices_ContainsFunc_Expr_isFormed_1 : (List GExpr) → Int → Option Bool) (n : Nat) (a0 : GExpr) (a1 : Int) : Option Bool :=
 if a1 = 0 then
  some false
 else
 if a0.Kind = 5 then
  if a0.N = 0 then
   (xV G_slices_ContainsFunc_Expr_isFormed_1 (a0.K.length : Int) false a0.K a0 a1 n 0).bind fun o4 =>
   match o4 with
   | .inl o4_0 =>
    some o4_0
   | .inr (o4_1) =>
    if 0 < (a0.S.length : Int) then
     some false
    else
    if (a0.Kids.length : Int) = (a0.K.length : Int) then
     if 150 < (a0.K.length : Int) then
      some false
     else
     (G_slices_ContainsFunc_Expr_isFormed_1 a0.Kids a1).bind fun r8 =>
     some (!r8)
    else
    some false
  else
  some false
 else
 if 0 < (a0.K.length : Int) then
  some false
 else
 if a0.Kind = 1 then
  (xH a0.N 0 1).bind fun r5 =>
  match r5 with
  | true =>
   if 0 < (a0.S.length : Int) then
    some false
   else
   if (a0.Kids.length : Int) = 0 then
    (G_slices_ContainsFunc_Expr_isFormed_1 a0.Kids a1).bind fun r8 =>
    some (!r8)
   else
   some false
  | false =>
   some false
 else
 if a0.Kind = 2 then
  (xH a0.N 0 1000000000000).bind fun r6 =>
  match r6 with
  | true =>
   if 0 < (a0.S.length : Int) then
    some false
   else
   if (a0.Kids.length : Int) = 0 then
    (G_slices_ContainsFunc_Expr_isFormed_1 a0.Kids a1).bind fun r9 =>
    some (!r9)
   else
   some false
  | false =>
   some false
 else
 if a0.N = 0 then
  if a0.Kind = 0 then
   if 0 < (a0.S.length : Int) then
    some false
   else
   if (a0.Kids.length : Int) = 0 then
    (G_slices_ContainsFunc_Expr_isFormed_1 a0.Kids a1).bind fun r10 =>
    some (!r10)
   else
   some false
  else
  if a0.Kind = 10 then
   if 0 < (a0.S.length : Int) then
    some false
   else
   if (a0.Kids.length : Int) = 0 then
    (G_slices_ContainsFunc_Expr_isFormed_1 a0.Kids a1).bind fun r11 =>
    some (!r11)
   else
   some false
  else
  if a0.Kind = 11 then
   if 0 < (a0.S.length : Int) then
    some false
   else
   if (a0.Kids.length : Int) = 0 then
    (G_slices_ContainsFunc_Expr_isFormed_1 a0.Kids a1).bind fun r12 =>
    some (!r12)
   else
   some false
  else
  if a0.Kind = 12 then
   if 0 < (a0.S.length : Int) then
    some false
   else
   if (a0.Kids.length : Int) = 0 then
    (G_slices_ContainsFunc_Expr_isFormed_1 a0.Kids a1).bind fun r13 =>
    some (!r13)
   else
   some false
  else
  if a0.Kind = 3 then
   (jS a0.S).bind fun r12 =>
   match r12 with
   | true =>
    if (a0.Kids.length : Int) = 0 then
     (G_slices_ContainsFunc_Expr_isFormed_1 a0.Kids a1).bind fun r14 =>
     some (!r14)
    else
    some false
   | false =>
    some false
  else
  if a0.Kind = 6 then
   (w9 a0.S).bind fun r13 =>
   match r13 with
   | true =>
    if (a0.Kids.length : Int) = 0 then
     (G_slices_ContainsFunc_Expr_isFormed_1 a0.Kids a1).bind fun r15 =>
     some (!r15)
    else
    some false
   | false =>
    some false
  else
  if a0.Kind = 8 then
   (w9 a0.S).bind fun r14 =>
   match r14 with
   | true =>
    if (a0.Kids.length : Int) = 1 then
     (G_slices_ContainsFunc_Expr_isFormed_1 a0.Kids a1).bind fun r16 =>
     some (!r16)
    else
    some false
   | false =>
    some false
  else
  if a0.Kind = 7 then
   (vV a0.S).bind fun r15 =>
   match r15 with
   | true =>
    if (a0.Kids.length : Int) = 0 then
     (G_slices_ContainsFunc_Expr_isFormed_1 a0.Kids a1).bind fun r17 =>
     some (!r17)
    else
    some false
   | false =>
    some false
  else
  if a0.Kind = 23 then
   (vV a0.S).bind fun r16 =>
   match r16 with
   | true =>
    if 150 < (a0.Kids.length : Int) then
     some false
    else
    (G_slices_ContainsFunc_Expr_isFormed_1 a0.Kids a1).bind fun r18 =>
    some (!r18)
   | false =>
    some false
  else
  if a0.Kind = 4 then
   if 0 < (a0.S.length : Int) then
    some false
   else
   if 150 < (a0.Kids.length : Int) then
    some false
   else
   (G_slices_ContainsFunc_Expr_isFormed_1 a0.Kids a1).bind fun r19 =>
   some (!r19)
  else
  if a0.Kind = 13 then
   if 0 < (a0.S.length : Int) then
    some false
   else
   if (a0.Kids.length : Int) = 1 then
    (G_slices_ContainsFunc_Expr_isFormed_1 a0.Kids a1).bind fun r20 =>
    some (!r20)
   else
   some false
  else
  if a0.Kind = 14 then
   if 0 < (a0.S.length : Int) then
    some false
   else
   if (a0.Kids.length : Int) = 1 then
    (G_slices_ContainsFunc_Expr_isFormed_1 a0.Kids a1).bind fun r21 =>
    some (!r21)
   else
   some false
  else
  if a0.Kind = 9 then
   if 0 < (a0.S.length : Int) then
    some false
   else
   if (a0.Kids.length : Int) = 2 then
    (G_slices_ContainsFunc_Expr_isFormed_1 a0.Kids a1).bind fun r22 =>
    some (!r22)
   else
   some false
  else
  if a0.Kind = 15 then
   if 0 < (a0.S.length : Int) then
    some false
   else
   if (a0.Kids.length : Int) = 2 then
    (G_slices_ContainsFunc_Expr_isFormed_1 a0.Kids a1).bind fun r23 =>
    some (!r23)
   else
   some false
  else
  if a0.Kind = 16 then
   if 0 < (a0.S.length : Int) then
    some false
   else
   if (a0.Kids.length : Int) = 2 then
    (G_slices_ContainsFunc_Expr_isFormed_1 a0.Kids a1).bind fun r24 =>
    some (!r24)
   else
   some false
  else
  if a0.Kind = 17 then
   if 0 < (a0.S.length : Int) then
    some false
   else
   if (a0.Kids.length : Int) = 2 then
    (G_slices_ContainsFunc_Expr_isFormed_1 a0.Kids a1).bind fun r25 =>
    some (!r25)
   else
   some false
  else
  if a0.Kind = 18 then
   if 0 < (a0.S.length : Int) then
    some false
   else
   if (a0.Kids.length : Int) = 2 then
    (G_slices_ContainsFunc_Expr_isFormed_1 a0.Kids a1).bind fun r26 =>
    some (!r26)
   else
   some false
  else
  if a0.Kind = 19 then
   if 0 < (a0.S.length : Int) then
    some false
   else
   if (a0.Kids.length : Int) = 2 then
    (G_slices_ContainsFunc_Expr_isFormed_1 a0.Kids a1).bind fun r27 =>
    some (!r27)
   else
   some false
  else
  if a0.Kind = 20 then
   if 0 < (a0.S.length : Int) then
    some false
   else
   if (a0.Kids.length : Int) = 2 then
    (G_slices_ContainsFunc_Expr_isFormed_1 a0.Kids a1).bind fun r28 =>
    some (!r28)
   else
   some false
  else
  if a0.Kind = 21 then
   if 0 < (a0.S.length : Int) then
    some false
   else
   if (a0.Kids.length : Int) = 2 then
    (G_slices_ContainsFunc_Expr_isFormed_1 a0.Kids a1).bind fun r29 =>
    some (!r29)
   else
   some false
  else
  if a0.Kind = 22 then
   if 0 < (a0.S.length : Int) then
    some false
   else
   if (a0.Kids.length : Int) = 3 then
    (G_slices_ContainsFunc_Expr_isFormed_1 a0.Kids a1).bind fun r30 =>
    some (!r30)
   else
   some false
  else
  some false
 else
 some false
theorem Pr (G_slices_ContainsFunc_Expr_isFormed_1 : (List GExpr) → Int → Option Bool) (H_slices_ContainsFunc_Expr_isFormed_1 : yv G_slices_ContainsFunc_Expr_isFormed_1) (n : Nat) : Zt (wY G_slices_ContainsFunc_Expr_isFormed_1 n) := fun a0 a1 => tc (
 .eI a1 0 (fun c1 =>
  .ret false) fun c1 =>
 .eI a0.Kind 5 (fun c2 =>
  .q (.eFo a0.Kind 1 (by omega)) <|
  .q (.eFo a0.Kind 2 (by omega)) <|
  .eI a0.N 0 (fun c3 =>
   .q (.eFo a0.Kind 1 (by omega)) <|
   .q (.eFo a0.Kind 2 (by omega)) <|
   .q (.eFo a0.Kind 0 (by omega)) <|
   .q (.eFo a0.Kind 10 (by omega)) <|
   .q (.eFo a0.Kind 11 (by omega)) <|
   .q (.eFo a0.Kind 12 (by omega)) <|
   .q (.eFo a0.Kind 3 (by omega)) <|
   .q (.eFo a0.Kind 6 (by omega)) <|
   .q (.eFo a0.Kind 8 (by omega)) <|
   .q (.eFo a0.Kind 7 (by omega)) <|
   .q (.eFo a0.Kind 23 (by omega)) <|
   .q (.eFo a0.Kind 4 (by omega)) <|
   .q (.eT c2) <|
   .le (zi za) a0.K <|
   .le (zi za) a0.K <|
   .l2 (Vi G_slices_ContainsFunc_Expr_isFormed_1 H_slices_ContainsFunc_Expr_isFormed_1 (a0.K.length : Int) false a0.K a0 a1 n 0) (fun o4_0 =>
    .ret o4_0) fun o4_1 =>
   .le za a0.S <|
   .lI 0 (a0.S.length : Int) (fun c5 =>
    .ret false) fun c5 =>
   .le zd a0.Kids <|
   .eI (a0.Kids.length : Int) (a0.K.length : Int) (fun c6 =>
    .lI 150 (a0.K.length : Int) (fun c7 =>
     .ret false) fun c7 =>
    .cl (H_slices_ContainsFunc_Expr_isFormed_1 a0.Kids a1) fun r8 =>
    .ret (!r8)) fun c6 =>
   .ret false) fun c3 =>
  .ret false) fun c2 =>
 .le (zi za) a0.K <|
 .lI 0 (a0.K.length : Int) (fun c3 =>
  .ret false) fun c3 =>
 .eI a0.Kind 1 (fun c4 =>
  .q (.eT c4) <|
  .cl (qO a0.N 0 1) fun r5 =>
  .vN 0 r5 (
   .le za a0.S <|
   .lI 0 (a0.S.length : Int) (fun c6 =>
    .ret false) fun c6 =>
   .le zd a0.Kids <|
   .eI (a0.Kids.length : Int) 0 (fun c7 =>
    .q (.lFo 150 0 (by omega)) <|
    .cl (H_slices_ContainsFunc_Expr_isFormed_1 a0.Kids a1) fun r8 =>
    .ret (!r8)) fun c7 =>
   .ret false) <|
  .ret false) fun c4 =>
 .eI a0.Kind 2 (fun c5 =>
  .q (.eF c4) <|
  .q (.eT c5) <|
  .cl (qO a0.N 0 1000000000000) fun r6 =>
  .vN 0 r6 (
   .le za a0.S <|
   .lI 0 (a0.S.length : Int) (fun c7 =>
    .ret false) fun c7 =>
   .le zd a0.Kids <|
   .eI (a0.Kids.length : Int) 0 (fun c8 =>
    .q (.lFo 150 0 (by omega)) <|
    .cl (H_slices_ContainsFunc_Expr_isFormed_1 a0.Kids a1) fun r9 =>
    .ret (!r9)) fun c8 =>
   .ret false) <|
  .ret false) fun c5 =>
 .eI a0.N 0 (fun c6 =>
  .q (.eF c4) <|
  .q (.eF c5) <|
  .eI a0.Kind 0 (fun c7 =>
   .le za a0.S <|
   .lI 0 (a0.S.length : Int) (fun c8 =>
    .ret false) fun c8 =>
   .le zd a0.Kids <|
   .eI (a0.Kids.length : Int) 0 (fun c9 =>
    .q (.lFo 150 0 (by omega)) <|
    .cl (H_slices_ContainsFunc_Expr_isFormed_1 a0.Kids a1) fun r10 =>
    .ret (!r10)) fun c9 =>
   .ret false) fun c7 =>
  .eI a0.Kind 10 (fun c8 =>
   .le za a0.S <|
   .lI 0 (a0.S.length : Int) (fun c9 =>
    .ret false) fun c9 =>
   .le zd a0.Kids <|
   .eI (a0.Kids.length : Int) 0 (fun c10 =>
    .q (.lFo 150 0 (by omega)) <|
    .cl (H_slices_ContainsFunc_Expr_isFormed_1 a0.Kids a1) fun r11 =>
    .ret (!r11)) fun c10 =>
   .ret false) fun c8 =>
  .eI a0.Kind 11 (fun c9 =>
   .le za a0.S <|
   .lI 0 (a0.S.length : Int) (fun c10 =>
    .ret false) fun c10 =>
   .le zd a0.Kids <|
   .eI (a0.Kids.length : Int) 0 (fun c11 =>
    .q (.lFo 150 0 (by omega)) <|
    .cl (H_slices_ContainsFunc_Expr_isFormed_1 a0.Kids a1) fun r12 =>
    .ret (!r12)) fun c11 =>
   .ret false) fun c9 =>
  .eI a0.Kind 12 (fun c10 =>
   .le za a0.S <|
   .lI 0 (a0.S.length : Int) (fun c11 =>
    .ret false) fun c11 =>
   .le zd a0.Kids <|
   .eI (a0.Kids.length : Int) 0 (fun c12 =>
    .q (.lFo 150 0 (by omega)) <|
    .cl (H_slices_ContainsFunc_Expr_isFormed_1 a0.Kids a1) fun r13 =>
    .ret (!r13)) fun c12 =>
   .ret false) fun c10 =>
  .eI a0.Kind 3 (fun c11 =>
   .cl (JH a0.S) fun r12 =>
   .vN 0 r12 (
    .le zd a0.Kids <|
    .eI (a0.Kids.length : Int) 0 (fun c13 =>
     .q (.lFo 150 0 (by omega)) <|
     .cl (H_slices_ContainsFunc_Expr_isFormed_1 a0.Kids a1) fun r14 =>
     .ret (!r14)) fun c13 =>
    .ret false) <|
   .ret false) fun c11 =>
  .eI a0.Kind 6 (fun c12 =>
   .cl (kV a0.S) fun r13 =>
   .vN 0 r13 (
    .q (.eFo a0.Kind 8 (by omega)) <|
    .le zd a0.Kids <|
    .eI (a0.Kids.length : Int) 0 (fun c14 =>
     .q (.lFo 150 0 (by omega)) <|
     .cl (H_slices_ContainsFunc_Expr_isFormed_1 a0.Kids a1) fun r15 =>
     .ret (!r15)) fun c14 =>
    .ret false) <|
   .ret false) fun c12 =>
  .eI a0.Kind 8 (fun c13 =>
   .cl (kV a0.S) fun r14 =>
   .vN 0 r14 (
    .q (.eT c13) <|
    .le zd a0.Kids <|
    .eI (a0.Kids.length : Int) 1 (fun c15 =>
     .q (.lFo 150 1 (by omega)) <|
     .cl (H_slices_ContainsFunc_Expr_isFormed_1 a0.Kids a1) fun r16 =>
     .ret (!r16)) fun c15 =>
    .ret false) <|
   .ret false) fun c13 =>
  .eI a0.Kind 7 (fun c14 =>
   .cl (JJ a0.S) fun r15 =>
   .vN 0 r15 (
    .q (.eFo a0.Kind 23 (by omega)) <|
    .le zd a0.Kids <|
    .eI (a0.Kids.length : Int) 0 (fun c16 =>
     .q (.lFo 150 0 (by omega)) <|
     .cl (H_slices_ContainsFunc_Expr_isFormed_1 a0.Kids a1) fun r17 =>
     .ret (!r17)) fun c16 =>
    .ret false) <|
   .ret false) fun c14 =>
  .eI a0.Kind 23 (fun c15 =>
   .cl (JJ a0.S) fun r16 =>
   .vN 0 r16 (
    .q (.eT c15) <|
    .le zd a0.Kids <|
    .le zd a0.Kids <|
    .q (.eTo (a0.Kids.length : Int) (a0.Kids.length : Int) (by omega)) <|
    .lI 150 (a0.Kids.length : Int) (fun c17 =>
     .ret false) fun c17 =>
    .cl (H_slices_ContainsFunc_Expr_isFormed_1 a0.Kids a1) fun r18 =>
    .ret (!r18)) <|
   .ret false) fun c15 =>
  .eI a0.Kind 4 (fun c16 =>
   .le zd a0.Kids <|
   .le za a0.S <|
   .lI 0 (a0.S.length : Int) (fun c17 =>
    .ret false) fun c17 =>
   .le zd a0.Kids <|
   .q (.eTo (a0.Kids.length : Int) (a0.Kids.length : Int) (by omega)) <|
   .lI 150 (a0.Kids.length : Int) (fun c18 =>
    .ret false) fun c18 =>
   .cl (H_slices_ContainsFunc_Expr_isFormed_1 a0.Kids a1) fun r19 =>
   .ret (!r19)) fun c16 =>
  .q (.eF c2) <|
  .eI a0.Kind 13 (fun c17 =>
   .le za a0.S <|
   .lI 0 (a0.S.length : Int) (fun c18 =>
    .ret false) fun c18 =>
   .le zd a0.Kids <|
   .eI (a0.Kids.length : Int) 1 (fun c19 =>
    .q (.lFo 150 1 (by omega)) <|
    .cl (H_slices_ContainsFunc_Expr_isFormed_1 a0.Kids a1) fun r20 =>
    .ret (!r20)) fun c19 =>
   .ret false) fun c17 =>
  .eI a0.Kind 14 (fun c18 =>
   .le za a0.S <|
   .lI 0 (a0.S.length : Int) (fun c19 =>
    .ret false) fun c19 =>
   .le zd a0.Kids <|
   .eI (a0.Kids.length : Int) 1 (fun c20 =>
    .q (.lFo 150 1 (by omega)) <|
    .cl (H_slices_ContainsFunc_Expr_isFormed_1 a0.Kids a1) fun r21 =>
    .ret (!r21)) fun c20 =>
   .ret false) fun c18 =>
  .eI a0.Kind 9 (fun c19 =>
   .le za a0.S <|
   .lI 0 (a0.S.length : Int) (fun c20 =>
    .ret false) fun c20 =>
   .le zd a0.Kids <|
   .eI (a0.Kids.length : Int) 2 (fun c21 =>
    .q (.lFo 150 2 (by omega)) <|
    .cl (H_slices_ContainsFunc_Expr_isFormed_1 a0.Kids a1) fun r22 =>
    .ret (!r22)) fun c21 =>
   .ret false) fun c19 =>
  .eI a0.Kind 15 (fun c20 =>
   .le za a0.S <|
   .lI 0 (a0.S.length : Int) (fun c21 =>
    .ret false) fun c21 =>
   .le zd a0.Kids <|
   .eI (a0.Kids.length : Int) 2 (fun c22 =>
    .q (.lFo 150 2 (by omega)) <|
    .cl (H_slices_ContainsFunc_Expr_isFormed_1 a0.Kids a1) fun r23 =>
    .ret (!r23)) fun c22 =>
   .ret false) fun c20 =>
  .eI a0.Kind 16 (fun c21 =>
   .le za a0.S <|
   .lI 0 (a0.S.length : Int) (fun c22 =>
    .ret false) fun c22 =>
   .le zd a0.Kids <|
   .eI (a0.Kids.length : Int) 2 (fun c23 =>
    .q (.lFo 150 2 (by omega)) <|
    .cl (H_slices_ContainsFunc_Expr_isFormed_1 a0.Kids a1) fun r24 =>
    .ret (!r24)) fun c23 =>
   .ret false) fun c21 =>
  .eI a0.Kind 17 (fun c22 =>
   .le za a0.S <|
   .lI 0 (a0.S.length : Int) (fun c23 =>
    .ret false) fun c23 =>
   .le zd a0.Kids <|
   .eI (a0.Kids.length : Int) 2 (fun c24 =>
    .q (.lFo 150 2 (by omega)) <|
    .cl (H_slices_ContainsFunc_Expr_isFormed_1 a0.Kids a1) fun r25 =>
    .ret (!r25)) fun c24 =>
   .ret false) fun c22 =>
  .eI a0.Kind 18 (fun c23 =>
   .le za a0.S <|
   .lI 0 (a0.S.length : Int) (fun c24 =>
    .ret false) fun c24 =>
   .le zd a0.Kids <|
   .eI (a0.Kids.length : Int) 2 (fun c25 =>
    .q (.lFo 150 2 (by omega)) <|
    .cl (H_slices_ContainsFunc_Expr_isFormed_1 a0.Kids a1) fun r26 =>
    .ret (!r26)) fun c25 =>
   .ret false) fun c23 =>
  .eI a0.Kind 19 (fun c24 =>
   .le za a0.S <|
   .lI 0 (a0.S.length : Int) (fun c25 =>
    .ret false) fun c25 =>
   .le zd a0.Kids <|
   .eI (a0.Kids.length : Int) 2 (fun c26 =>
    .q (.lFo 150 2 (by omega)) <|
    .cl (H_slices_ContainsFunc_Expr_isFormed_1 a0.Kids a1) fun r27 =>
    .ret (!r27)) fun c26 =>
   .ret false) fun c24 =>
  .eI a0.Kind 20 (fun c25 =>
   .le za a0.S <|
   .lI 0 (a0.S.length : Int) (fun c26 =>
    .ret false) fun c26 =>
   .le zd a0.Kids <|
   .eI (a0.Kids.length : Int) 2 (fun c27 =>
    .q (.lFo 150 2 (by omega)) <|
    .cl (H_slices_ContainsFunc_Expr_isFormed_1 a0.Kids a1) fun r28 =>
    .ret (!r28)) fun c27 =>
   .ret false) fun c25 =>
  .eI a0.Kind 21 (fun c26 =>
   .le za a0.S <|
   .lI 0 (a0.S.length : Int) (fun c27 =>
    .ret false) fun c27 =>
   .le zd a0.Kids <|
   .eI (a0.Kids.length : Int) 2 (fun c28 =>
    .q (.lFo 150 2 (by omega)) <|
    .cl (H_slices_ContainsFunc_Expr_isFormed_1 a0.Kids a1) fun r29 =>
    .ret (!r29)) fun c28 =>
   .ret false) fun c26 =>
  .eI a0.Kind 22 (fun c27 =>
   .le za a0.S <|
   .lI 0 (a0.S.length : Int) (fun c28 =>
    .ret false) fun c28 =>
   .le zd a0.Kids <|
   .eI (a0.Kids.length : Int) 3 (fun c29 =>
    .q (.lFo 150 3 (by omega)) <|
    .cl (H_slices_ContainsFunc_Expr_isFormed_1 a0.Kids a1) fun r30 =>
    .ret (!r30)) fun c29 =>
   .ret false) fun c27 =>
  .ret false) fun c6 =>
 .ret false) (zj Tryz.func80)
mutual
def xI : Nat → GExpr → Int → Option Bool
 | 0, _, _ => none
 | n + 1, a0, e0 => Ys (wq n) a0 e0
def zT : Nat → (List GExpr) → Int → Option Int
 | 0, _, _ => none
 | n + 1, a0, e0 => xe (xI n) n a0 e0
def zL : Nat → (List GExpr) → Int → Option Bool
 | 0, _, _ => none
 | n + 1, a0, e0 => xS (zT n) a0 e0
def wq : Nat → GExpr → Int → Option Bool
 | 0, _, _ => none
 | n + 1, a0, a1 => wY (zL n) n a0 a1
end
theorem jL (n : Nat) : jt (xI n) ∧ xd (zT n) ∧ yv (zL n) ∧ Zt (wq n) := by
 induction n with
 | zero => exact ⟨fun _ _ _ h => (by rw [xI] at h; cases h), fun _ _ _ h => (by rw [zT] at h; cases h), fun _ _ _ h => (by rw [zL] at h; cases h), fun _ _ _ h => (by rw [wq] at h; cases h)⟩
 | succ n ih =>
  obtain ⟨ih_impl_isFormed_1, ih_slices_IndexFunc_Expr_isFormed_1, ih_slices_ContainsFunc_Expr_isFormed_1, ih_impl_isFormed⟩ := ih
  exact ⟨fun a0 e0 r h => Th (wq n) ih_impl_isFormed a0 e0 r (by rw [xI] at h; exact h),
   fun a0 e0 r h => Yt (xI n) ih_impl_isFormed_1 n a0 e0 r (by rw [zT] at h; exact h),
   fun a0 e0 r h => Z1 (zT n) ih_slices_IndexFunc_Expr_isFormed_1 a0 e0 r (by rw [zL] at h; exact h),
   fun a0 a1 r h => Pr (zL n) ih_slices_ContainsFunc_Expr_isFormed_1 n a0 a1 r (by rw [wq] at h; exact h)⟩
theorem Ha (a b : List UInt8) : yS a b = some (Lib.compareBytes a b) := rfl
theorem Ji {a : List UInt8} (h : a.length <= 2 ^ 20) : w9 a = some (xR a) := if_pos h
theorem L8 {a : List UInt8} (h : a.length <= 2 ^ 20) : jS a = some (xo a) := if_pos h
theorem Z2 {G : GExpr → Int → Option Bool} {a : List GExpr} {f : Nat} {e : Int} {p : GExpr → Bool} (ha : a.length <= 2 ^ 20) (hf : a.length < f) (hG : ∀ x ∈ a, G x e = some (!p x)) : ∃ r : Int, xe G f a e = some r ∧ decide (0 <= r) = !(a.all p) := by
 have loop : ∀ (d i m : Nat), i + d = a.length → d < m → ∃ (q : Nat) (z : Int), yb G a (a.length : Int) e m (i : Int) = some (if (a.drop i).all p = true then .inr z else .inl (q : Int)) := by
  intro d
  induction d with
  | zero =>
   intro i m hi hm
   obtain ⟨m, rfl, _⟩ := zg hm
   exact ⟨0, _, by rw [yb, if_neg (by omega), List.drop_eq_nil_of_le (by omega)]; rfl⟩
  | succ d ih =>
   intro i m hi hm
   obtain ⟨m, rfl, hm'⟩ := zg hm
   have hil : i < a.length := by omega
   rw [yb, if_pos (by omega), zl, Option.bind_some, zr hil, Option.bind_some, hG _ (List.getElem_mem hil), Option.bind_some, yt (by omega), xr hil, List.all_cons]
   cases hp : p a[i] with
   | false => exact ⟨i, 0, rfl⟩
   | true =>
    obtain ⟨q, z, hz⟩ := ih (i + 1) m (by omega) (by omega)
    exact ⟨q, z, by rw [Bool.true_and]; exact hz⟩
 obtain ⟨q, z, hz⟩ := loop a.length 0 f (by omega) (by omega)
 rw [show ((0 : Nat) : Int) = 0 from rfl, List.drop_zero] at hz
 unfold xe
 rw [hz, Option.bind_some]
 cases hp : a.all p with
 | true => exact ⟨-1, rfl, rfl⟩
 | false => exact ⟨(q : Int), rfl, by simp⟩
theorem Mn {G : List GExpr → Int → Option Bool} {v : GExpr} {v1 : Bool} {a1 : Int} (hs : xsz v <= 2 ^ 20) : ∀ (d i m : Nat), i + d = v.K.length → d < m → ∃ z, xV G (v.K.length : Int) v1 v.K v a1 m (i : Int) = some (if xq v.K i d = true then .inr z else .inl false) := by
 have he := xv v
 have hl := qJ v.K
 intro d
 induction d with
 | zero =>
  intro i m hi hm
  obtain ⟨m, rfl, _⟩ := zg hm
  exact ⟨_, by rw [xV, if_neg (by omega)]; rfl⟩
 | succ d ih =>
  intro i m hi hm
  obtain ⟨m, rfl, hm'⟩ := zg hm
  have hil : i < v.K.length := by omega
  have hx := Xl (List.getElem_mem hil)
  rw [xV, if_pos (by omega), zl, Option.bind_some, zr hil, Option.bind_some, Ji (by omega), Option.bind_some, yt (by omega), vm]
  obtain ⟨z, hz⟩ := ih (i + 1) m (by omega) (by omega)
  cases hnm : xR v.K[i] with
  | false =>
   refine ⟨0, ?_⟩
   have : kOk v.K i = false := by
    by_cases h0 : i = 0
    ·subst h0; rw [ZK hil, hnm]
    ·rw [vd hil (by omega), hnm]; rfl
   rw [this]; rfl
  | true =>
   dsimp only
   by_cases h0 : 0 < i
   ·rw [if_pos (by omega), XK (by omega) h0, zl, Option.bind_some, zr (show i - 1 < v.K.length by omega), Option.bind_some, Ha, Option.bind_some]
    by_cases hb : Op.bytesLess (v.K[i - 1]'(by omega)) v.K[i] = true
    ·rw [if_neg (by rw [QB]; exact fun h => h hb), vd hil h0, hnm, hb]
     exact ⟨z, hz⟩
    ·rw [if_pos (by rw [QB]; exact hb), vd hil h0, hnm, show Op.bytesLess (v.K[i - 1]'(by omega)) v.K[i] = false by simpa using hb]
     exact ⟨0, rfl⟩
   ·have : i = 0 := by omega
    subst this
    rw [if_neg (by omega), ZK hil, hnm]
    exact ⟨z, hz⟩
theorem Dz {a : List UInt8} (h : a.length <= 2 ^ 20) : vV a = some (xR a && !Jp a) := by
 unfold vV
 rw [Ji h, Option.bind_some]
 cases xR a with
 | false => rfl
 | true =>
  dsimp only
  rw [show YS = some PH from rfl, Option.bind_some]
  unfold jC wN
  rw [if_pos (by decide), Option.bind_some, Option.bind_some, zcu]
  rfl
theorem NF {G : List GExpr → Int → Option Bool} {v : GExpr} {n : Nat} {a1 : Int} {X : Option Bool} (hs : v.S.length <= 2 ^ 20) (h1 : ¬ a1 = 0) (h5 : ¬ v.Kind = 5)
  (hX : ((G v.Kids a1).bind fun r => some (!r)) = X) : Dec X (some false) (jI v ∧ v.Kids.length <= 150) (wY G n v a1) := by
 have hw := DO (xR v.S) (Jp v.S)
 unfold wY jI
 rw [if_neg h1, if_neg h5]
 have q1 : (0 : Int) <= (v.S.length : Int) := by omega
 have q2 : (0 : Int) <= (v.K.length : Int) := by omega
 have q3 : (0 : Int) <= (v.Kids.length : Int) := by omega
 rw [show (v.Kids.length <= 150) = ((v.Kids.length : Int) <= 150) from propext (by omega)]
 generalize v.Kind = k at h5
 generalize (v.S.length : Int) = s at q1
 generalize (v.K.length : Int) = kk at q2
 generalize (v.Kids.length : Int) = kl at q3
 repeat' first
  | refine Dec.ite (fun _ => ?_) (fun _ => ?_)
  | refine Dec.bndD (M4 _ _ _) (fun _ => ?_) (fun _ => ?_)
  | refine Dec.bndB (L8 hs) (fun _ => ?_) (fun _ => ?_)
  | refine Dec.bndB (Ji hs) (fun _ => ?_) (fun _ => ?_)
  | refine Dec.bndB (Dz hs) (fun _ => ?_) (fun _ => ?_)
 all_goals first
  | (refine .inl ⟨hX, ?_⟩; (try subst_vars); first | (simp [Xb, arI]; done) | (simp [Xb, arI]; omega))
  | (refine .inr ⟨rfl, ?_⟩; rintro ⟨h, hk⟩; (try subst_vars); first
   | (have g := h.1; clear h hw; omega)
   | (have g := h.2.2.2.1; clear h hw; omega)
   | (have g := h.2.2.2.2.2.2.1; clear h hw; omega)
   | (simp [Xb, arI] at h; done)
   | (simp [Xb, arI] at h; omega))
theorem Ec {G : List GExpr → Int → Option Bool} {v : GExpr} {f d : Nat} (hs : xsz v <= 2 ^ 20) (hf : v.K.length < f) (hd : 0 < d) (hG : G v.Kids (d : Int) = some (!(v.Kids.all (frX (d - 1))))) : wY G f v (d : Int) = some (frX d v) := by
 obtain ⟨e, rfl⟩ : ∃ e, d = e + 1 := ⟨d - 1, by omega⟩
 have he := xv v
 have hl := yF v.Kids
 have hb := qJ v.K
 rw [show e + 1 - 1 = e by omega] at hG
 rw [Kz]
 have no : Zm v = false → some false = some (Zm v && v.Kids.all (frX e)) := fun h => by rw [h]; rfl
 have yes : Zm v = true → ((G v.Kids ((e + 1 : Nat) : Int)).bind fun r => some (!r)) = some (Zm v && v.Kids.all (frX e)) := fun h => by rw [hG, Option.bind_some, h, Bool.not_not, Bool.true_and]
 by_cases h5 : v.Kind = 5
 ·have har := JW v.Kind
  have hbad : ∀ {p : Prop}, p → (p → ¬ (jI v ∧ v.Kids.length <= 150 ∧ (v.Kind = 5 → xq v.K 0 v.K.length = true))) → Zm v = false := fun hp h => by
   cases hx : Zm v with
   | false => rfl
   | true => exact (h hp (TR hx)).elim
  unfold wY
  rw [if_neg (by omega), if_pos h5]
  by_cases a2 : v.N = 0
  ·rw [if_pos a2]
   obtain ⟨z, hz⟩ := Mn (G := G) (v1 := false) (a1 := ((e + 1 : Nat) : Int)) hs v.K.length 0 f (by omega) (by omega)
   rw [show ((0 : Nat) : Int) = 0 from rfl] at hz
   rw [hz, Option.bind_some]
   cases hk : xq v.K 0 v.K.length with
   | false => exact no (hbad hk fun h h' => by have := h'.2.2 h5; rw [h] at this; cases this)
   | true =>
    rw [if_pos rfl]
    dsimp only
    by_cases a3 : 0 < (v.S.length : Int)
    ·rw [if_pos a3]; exact no (hbad a3 fun h h' => by have := h'.1; unfold jI Xb at this; omega)
    ·rw [if_neg a3]
     by_cases a4 : (v.Kids.length : Int) = (v.K.length : Int)
     ·rw [if_pos a4]
      by_cases a5 : 150 < (v.K.length : Int)
      ·rw [if_pos a5]; exact no (hbad a5 fun h h' => by have := h'.2.1; omega)
      ·rw [if_neg a5]
       refine yes (VN ?_ (by omega) fun _ => hk)
       unfold jI Xb; omega
     ·rw [if_neg a4]; exact no (hbad a4 fun h h' => by have := h'.1; unfold jI Xb at this; omega)
  ·rw [if_neg a2]; exact no (hbad a2 fun h h' => by have := h'.1; unfold jI Xb at this; omega)
 ·rcases NF (G := G) (n := f) (v := v) (a1 := ((e + 1 : Nat) : Int)) (by omega) (by omega) h5 rfl with ⟨h, hL⟩ | ⟨h, hL⟩
  ·rw [h]; exact yes (VN hL.1 hL.2 fun k => (h5 k).elim)
  ·rw [h]
   refine no ?_
   cases hx : Zm v with
   | false => rfl
   | true => have := TR hx; exact (hL ⟨this.1, this.2.1⟩).elim
theorem Ed : ∀ (N : Nat) (v : GExpr), xsz v < N → xsz v <= 2 ^ 20 → ∀ (f d : Nat), 4 * xsz v + 6 <= f → d <= 2 ^ 20 → wq f v (d : Int) = some (frX d v) := by
 intro N
 induction N with
 | zero => intro v hv; omega
 | succ N ih =>
  intro v hv hs f d hf hd
  have he := xv v
  have hl := yF v.Kids
  have hb := qJ v.K
  obtain ⟨f, rfl, _⟩ := zg (show 0 < f by omega)
  rw [wq]
  by_cases h0 : d = 0
  ·subst h0; unfold wY; rw [if_pos (show ((0 : Nat) : Int) = 0 from rfl)]; rfl
  refine Ec hs (by omega) (by omega) ?_
  obtain ⟨f, rfl, _⟩ := zg (show 0 < f by omega)
  obtain ⟨f, rfl, _⟩ := zg (show 0 < f by omega)
  obtain ⟨f, rfl, _⟩ := zg (show 0 < f by omega)
  rw [zL]
  unfold xS
  rw [zT]
  obtain ⟨r, hr, hr2⟩ := Z2 (G := xI (f + 1)) (a := v.Kids) (f := f + 1) (e := (d : Int)) (p := frX (d - 1)) (by omega) (by omega) fun x hx => by
   have := xA hx
   rw [xI]
   unfold Ys
   rw [XK (by omega) (by omega), ih x (by omega) (by omega) f (d - 1) (by omega) (by omega)]
   rfl
  rw [hr, Option.bind_some, hr2]
def WQ (a0 : GExpr) (e0 : Int) : Option Bool := none
theorem K3 (a0 : GExpr) (e0 : Int) (r : Bool) (h : WQ a0 e0 = some r) : ∃ n, xI n a0 e0 = some r := by cases h
def ju (a0 : (List GExpr)) (e0 : Int) : Option Int := none
theorem Z3 (a0 : (List GExpr)) (e0 : Int) (r : Int) (h : ju a0 e0 = some r) : ∃ n, zT n a0 e0 = some r := by cases h
def qL (a0 : (List GExpr)) (e0 : Int) : Option Bool := none
theorem vC (a0 : (List GExpr)) (e0 : Int) (r : Bool) (h : qL a0 e0 = some r) : ∃ n, zL n a0 e0 = some r := by cases h
noncomputable def kf (a0 : GExpr) (a1 : Int) : Option Bool := if xsz a0 <= 2 ^ 20 ∧ 0 <= a1 ∧ a1 <= 2 ^ 20 then some (frX a1.toNat a0) else none
theorem VV (a0 : GExpr) (a1 : Int) (r : Bool) (h : kf a0 a1 = some r) : ∃ n, wq n a0 a1 = some r := by
 unfold kf at h
 obtain ⟨⟨hs, h0, h1⟩, h⟩ := yc h
 refine ⟨4 * xsz a0 + 6, ?_⟩
 have := Ed _ a0 (Nat.lt_succ_self _) hs _ a1.toNat (Nat.le_refl _) (by omega)
 rw [show ((a1.toNat : Nat) : Int) = a1 by omega] at this
 rw [this]; exact h
theorem D0 : jt WQ := by
 intro a0 e0 r h
 obtain ⟨n, hn⟩ := K3 a0 e0 r h
 exact (jL n).1 a0 e0 r hn
theorem RD : xd ju := by
 intro a0 e0 r h
 obtain ⟨n, hn⟩ := Z3 a0 e0 r h
 exact (jL n).2.1 a0 e0 r hn
theorem Vj : yv qL := by
 intro a0 e0 r h
 obtain ⟨n, hn⟩ := vC a0 e0 r h
 exact (jL n).2.2.1 a0 e0 r hn
theorem Ul : Zt kf := by
 intro a0 a1 r h
 obtain ⟨n, hn⟩ := VV a0 a1 r h
 exact (jL n).2.2.2 a0 a1 r hn
def jv (F : GExpr → Option Int) : Prop := ∀ (a0 : GExpr), Oc (F a0) 81 [] [.val true (zs a0)] fun r => (vi r, [])
def wc (G_impl_Expr_parts : GExpr → Option Int) (v1 : (List GExpr)) (v2 : Int) : Nat → Int → Int → Option (Int × Int)
  | 0, _, _ => none
  | m + 1, v0, v3 =>
  if v3 < v2 then
   (zH v3).bind fun i2 =>
   (v1[i2]?).bind fun x3 =>
   (G_impl_Expr_parts x3).bind fun r4 =>
   wc G_impl_Expr_parts v1 v2 m (w64 (v0 + r4)) (w64 (v3 + 1))
  else
  some (v0, v3)
theorem JK (G_impl_Expr_parts : GExpr → Option Int) (H_impl_Expr_parts : jv G_impl_Expr_parts) (v1 : (List GExpr)) (v2 : Int) (m : Nat) : ∀ (v0 : Int) (v3 : Int), Ol (wc G_impl_Expr_parts v1 v2 m v0 v3) 81 (zQ Tryz.f81 0) ⟨[(3, vi v0), (7, vq zd v1), (8, vi v2), (9, vi v3)], [], 0⟩ fun o => match o with | ⟨o_0, o_1⟩ => (.exit 0, ⟨[(3, vi o_0), (7, vq zd v1), (8, vi v2), (9, vi o_1), (10, vb false)], [], 0⟩) := by
  induction m with
  | zero => intro v0 v3 o h; cases h
  | succ m ih => exact fun v0 v3 => tlp (
   .lI v3 v2 (fun c1 =>
    .na v3 fun i2 =>
    .ix eq_GExpr v1 i2 fun x3 =>
    .cl (H_impl_Expr_parts x3) fun r4 =>
    .go (ih (w64 (v0 + r4)) (w64 (v3 + 1)))) fun c1 =>
   .ret (v0, v3))
def kJ (G_impl_Expr_parts : GExpr → Option Int) (n : Nat) (a0 : GExpr) : Option Int :=
 (wc G_impl_Expr_parts a0.Kids (a0.Kids.length : Int) n 1 0).bind fun ⟨o1_0, o1_1⟩ =>
 some o1_0
theorem Ti (G_impl_Expr_parts : GExpr → Option Int) (H_impl_Expr_parts : jv G_impl_Expr_parts) (n : Nat) : jv (kJ G_impl_Expr_parts n) := fun a0 => tc (
 .le zd a0.Kids <|
 .lp (JK G_impl_Expr_parts H_impl_Expr_parts a0.Kids (a0.Kids.length : Int) n 1 0) fun ⟨o1_0, o1_1⟩ =>
 .ret o1_0) (zj Tryz.func81)
def xJ : Nat → GExpr → Option Int
 | 0, _ => none
 | n + 1, a0 => kJ (xJ n) n a0
theorem Vk (n : Nat) : jv (xJ n) := by
 induction n with
 | zero => exact fun _ _ h => (by rw [xJ] at h; cases h)
 | succ n ih =>
  have ih_impl_Expr_parts := ih
  exact fun a0 r h => Ti (xJ n) ih_impl_Expr_parts n a0 r (by rw [xJ] at h; exact h)
theorem Tj {G : GExpr → Option Int} {v : GExpr} {f : Nat} (hs : xsz v <= 2 ^ 20) (hf : v.Kids.length < f) (hG : ∀ x ∈ v.Kids, G x = some (((ptX x) : Nat) : Int)) : kJ G f v = some (((ptX v) : Nat) : Int) := by
 have he := xv v
 have hl := yF v.Kids
 have loop : ∀ (d i m : Nat) (r : Int), i + d = v.Kids.length → d < m → 0 <= r → r <= 2 ^ 21 - wG (v.Kids.drop i) → ∃ z, wc G v.Kids (v.Kids.length : Int) m r (i : Int) = some (r + wG (v.Kids.drop i), z) := by
  intro d
  induction d with
  | zero =>
   intro i m r hi hm h0 h1
   obtain ⟨m, rfl, _⟩ := zg hm
   exact ⟨_, by rw [wc, if_neg (by omega), List.drop_eq_nil_of_le (by omega)]; simp [wG]; rfl⟩
  | succ d ih =>
   intro i m r hi hm h0 h1
   obtain ⟨m, rfl, hm'⟩ := zg hm
   have hil : i < v.Kids.length := by omega
   have hp : wG (v.Kids.drop i) = ptX v.Kids[i] + wG (v.Kids.drop (i + 1)) := by rw [xr hil]; simp only [wG]
   rw [hp] at h1 ⊢
   rw [wc, if_pos (by omega), zl, Option.bind_some, zr hil, Option.bind_some, hG _ (List.getElem_mem hil), Option.bind_some, yt (by omega), yu (by omega) (by omega)]
   obtain ⟨z, hz⟩ := ih (i + 1) m (r + ptX v.Kids[i]) (by omega) (by omega) (by omega) (by omega)
   exact ⟨z, by rw [hz]; congr 2; omega⟩
 have hle := Lb v.Kids
 obtain ⟨z, hz⟩ := loop v.Kids.length 0 f 1 (by omega) (by omega) (by omega) (by rw [List.drop_zero]; omega)
 rw [show ((0 : Nat) : Int) = 0 from rfl, List.drop_zero] at hz
 unfold kJ
 rw [hz, PG]
 simp only [Option.bind_some]
 congr 1
theorem Tk : ∀ (N : Nat) (v : GExpr), xsz v < N → xsz v <= 2 ^ 20 → ∀ f : Nat, xsz v + 2 <= f → xJ f v = some (((ptX v) : Nat) : Int) := by
 intro N
 induction N with
 | zero => intro v hv; omega
 | succ N ih =>
  intro v hv hs f hf
  obtain ⟨f, rfl, _⟩ := zg (show 0 < f by omega)
  have he := xv v
  have hl := yF v.Kids
  rw [xJ]
  refine Tj hs (by omega) fun x hx => ?_
  have := xA hx
  exact ih x (by omega) (by omega) f (by omega)
def jw (a0 : GExpr) : Option Int := if xsz a0 <= 2 ^ 20 then some (((ptX a0) : Nat) : Int) else none
theorem K4 (a0 : GExpr) (r : Int) (h : jw a0 = some r) : ∃ n, xJ n a0 = some r := by
 unfold jw at h
 obtain ⟨ha, h⟩ := yc h
 exact ⟨xsz a0 + 2, by rw [<- h]; exact Tk _ a0 (Nat.lt_succ_self _) ha _ (Nat.le_refl _)⟩
theorem VW : jv jw := by
 intro a0 r h
 obtain ⟨n, hn⟩ := K4 a0 r h
 exact (Vk n) a0 r hn
def YJ (a0 : GExpr) : Option Bool :=
 (kf a0 10).bind fun r1 =>
 match r1 with
 | true =>
  (jw a0).bind fun r2 =>
  some (decide (r2 <= 150))
 | false =>
  some false
theorem OK (a0 : GExpr) : Oc (YJ a0) 39 [] [.val true (zs a0)] fun r => (vb r, []) := tc (
 .cl (Ul a0 10) fun r1 =>
 .vM 0 r1 (
  .az 0 0 <|
  .cl (VW a0) fun r2 =>
  .az 0 1 <|
  .gD r2 150 <|
  .az 0 1 <|
  .ret (decide (r2 <= 150))) <|
 .az 0 0 <|
 .az 0 0 <|
 .az 0 0 <|
 .ret false) (zj Tryz.func39)
def Wu (F : (List Int) → Int → Option Int) : Prop := ∀ (a0 : (List Int)) (a1 : Int), Oc (F a0 a1) 194 [] [vq yY a0, vi a1] fun r => (vi r, [])
def xT (a0 : (List Int)) (a1 : Int) (v2 : Int) : Nat → Int → Option (Int ⊕ Int)
  | 0, _ => none
  | m + 1, v3 =>
  if v3 < v2 then
   (zH v3).bind fun i2 =>
   (a0[i2]?).bind fun x3 =>
   if a1 = x3 then
    some (.inl v3)
   else
   xT a0 a1 v2 m (w64 (v3 + 1))
  else
  some (.inr v3)
theorem Jz (a0 : (List Int)) (a1 : Int) (v2 : Int) (m : Nat) : ∀ (v3 : Int), Ol (xT a0 a1 v2 m v3) 194 (zQ Tryz.f194 0) ⟨[(0, vq yY a0), (1, vi a1), (7, vi v2), (8, vi v3)], [], 0⟩ fun o => match o with | .inl o_0 => (.ret, ⟨[(4, vi o_0)], [], 0⟩) | .inr (o_1) => (.exit 0, ⟨[(0, vq yY a0), (1, vi a1), (7, vi v2), (8, vi o_1), (9, vb false)], [], 0⟩) := by
  induction m with
  | zero => intro v3 o h; cases h
  | succ m ih => exact fun v3 => tlp (
   .lI v3 v2 (fun c1 =>
    .na v3 fun i2 =>
    .ix0 yY a0 i2 fun x3 =>
    .eI a1 x3 (fun c4 =>
     .ret (.inl v3)) fun c4 =>
    .go (ih (w64 (v3 + 1)))) fun c1 =>
   .ret (.inr v3))
def ZC (n : Nat) (a0 : (List Int)) (a1 : Int) : Option Int :=
 (xT a0 a1 (a0.length : Int) n 0).bind fun o1 =>
 match o1 with
 | .inl o1_0 =>
  some o1_0
 | .inr (o1_1) =>
  some (-1)
theorem VX (n : Nat) : Wu (ZC n) := fun a0 a1 => tc (
 .le yY a0 <|
 .l2 (Jz a0 a1 (a0.length : Int) n 0) (fun o1_0 =>
  .ret o1_0) fun o1_1 =>
 .ret (-1)) (zj Tryz.func194)
def ixI : List Int → Int → Nat → Int
 | [], _, _ => -1
 | y :: l, x, i => if x = y then (i : Int) else ixI l x (i + 1)
theorem Hb : ∀ (l : List Int) (x : Int) (i : Nat), 0 <= ixI l x i ↔ x ∈ l
 | [], x, i => by simp [ixI]
 | y :: l, x, i => by
  rw [ixI]
  by_cases h : x = y
  ·rw [if_pos h]; simp [h]
  ·rw [if_neg h, Hb l]; simp [h]
theorem Hc : ∀ (l : List Int) (x : Int) (i : Nat), x ∉ l → ixI l x i = -1
 | [], x, i, _ => rfl
 | y :: l, x, i, h => by
  simp only [List.mem_cons, not_or] at h
  rw [ixI, if_neg h.1, Hc l x _ h.2]
theorem Ee {a : List Int} {x : Int} (ha : a.length <= 2 ^ 40) : ∀ (l p : List Int) (m : Nat), a = p ++ l → l.length < m → ∃ z, xT a x (a.length : Int) m (p.length : Int) = some (if x ∈ l then .inl (ixI l x p.length) else .inr z) := by
 intro l
 induction l with
 | nil =>
  intro p m he hm
  subst he
  obtain ⟨m, rfl, _⟩ := zg hm
  exact ⟨_, by rw [xT, if_neg (yD p), if_neg (by simp)]⟩
 | cons y l ih =>
  intro p m he hm
  obtain ⟨m, rfl, hm'⟩ := zg hm
  have hlen : a.length = p.length + (l.length + 1) := by rw [he]; simp
  rw [xT, if_pos (by omega), zl, Option.bind_some, show a[p.length]? = some y by rw [he]; exact yg p y l, Option.bind_some, y8 p y (by omega)]
  by_cases hxy : x = y
  ·exact ⟨0, by rw [if_pos hxy, if_pos (by simp [hxy]), ixI, if_pos hxy]⟩
  ·obtain ⟨z, hz⟩ := ih (p ++ [y]) m (by rw [he]; simp) (by simp only [List.length_cons] at hm'; omega)
   refine ⟨z, ?_⟩
   rw [if_neg hxy, hz, ixI, if_neg hxy]
   by_cases hm : x ∈ l
   ·rw [if_pos hm, if_pos (by simp [hm])]; simp
   ·rw [if_neg hm, if_neg (by simp [hm, hxy])]
def qW (a0 : (List Int)) (a1 : Int) : Option Int := if a0.length <= 2 ^ 40 then some (ixI a0 a1 0) else none
theorem JL (a0 : (List Int)) (a1 : Int) (r : Int) (h : qW a0 a1 = some r) : ∃ n, ZC n a0 a1 = some r := by
 unfold qW at h
 obtain ⟨ha, h⟩ := yc h
 obtain ⟨z, hz⟩ := Ee (x := a1) ha a0 [] (a0.length + 1) rfl (by omega)
 refine ⟨a0.length + 1, ?_⟩
 unfold ZC
 simp only [List.length_nil, Int.natCast_zero] at hz
 rw [hz, Option.bind_some, <- h]
 by_cases hc : a1 ∈ a0
 ·rw [if_pos hc]
 ·rw [if_neg hc, Hc _ _ _ hc]
theorem Vl : Wu qW := fun a0 a1 r h => (JL a0 a1 r h).elim fun n hn => VX n a0 a1 r hn
def wO (a0 : (List Int)) (a1 : Int) : Option Bool :=
 (qW a0 a1).bind fun r1 =>
 some (decide (0 <= r1))
theorem Y5 (a0 : (List Int)) (a1 : Int) : Oc (wO a0 a1) 147 [] [vq yY a0, vi a1] fun r => (vb r, []) := tc (
 .cl (Vl a0 a1) fun r1 =>
 .gD 0 r1 <|
 .ret (decide (0 <= r1))) (zj Tryz.func147)
def wZ (F : GExpr → (List Int) → Option Bool) : Prop := ∀ (a0 : GExpr) (e0 : (List Int)), Oc (F a0 e0) 148 [.var [cq yY e0]] [.val true (zs a0), vp 0 0] fun r => (vb r, [.var [cq yY e0]])
def yN (F : (List GExpr) → (List Int) → Option Int) : Prop := ∀ (a0 : (List GExpr)) (e0 : (List Int)), Oc (F a0 e0) 193 [.var [cq yY e0]] [vq zd a0, .val false [.fn 148 [.ptr 0 0]]] fun r => (vi r, [.var [cq yY e0]])
def yE (F : (List GExpr) → (List Int) → Option Bool) : Prop := ∀ (a0 : (List GExpr)) (e0 : (List Int)), Oc (F a0 e0) 145 [.var [cq yY e0]] [vq zd a0, .val false [.fn 148 [.ptr 0 0]]] fun r => (vb r, [.var [cq yY e0]])
def kg (F : GExpr → (List Int) → Option Bool) : Prop := ∀ (a0 : GExpr) (a1 : (List Int)), Oc (F a0 a1) 82 [] [.val true (zs a0), vq yY a1] fun r => (vb r, [])
def vD (G_impl_Expr_isFree : GExpr → (List Int) → Option Bool) (a0 : GExpr) (e0 : (List Int)) : Option Bool :=
 (G_impl_Expr_isFree a0 e0).bind fun r1 =>
 some (!r1)
theorem K5 (G_impl_Expr_isFree : GExpr → (List Int) → Option Bool) (H_impl_Expr_isFree : kg G_impl_Expr_isFree) : wZ (vD G_impl_Expr_isFree) := fun a0 e0 => tc (
 .cl (H_impl_Expr_isFree a0 e0) fun r1 =>
 .ret (!r1)) (zj Tryz.func148)
def zR (G_impl_Expr_isFree_1 : GExpr → (List Int) → Option Bool) (a0 : (List GExpr)) (v1 : Int) (e0 : (List Int)) : Nat → Int → Option (Int ⊕ Int)
  | 0, _ => none
  | m + 1, v2 =>
  if v2 < v1 then
   (zH v2).bind fun i2 =>
   (a0[i2]?).bind fun x3 =>
   (G_impl_Expr_isFree_1 x3 e0).bind fun r4 =>
   match r4 with
   | true =>
    some (.inl v2)
   | false =>
    zR G_impl_Expr_isFree_1 a0 v1 e0 m (w64 (v2 + 1))
  else
  some (.inr v2)
theorem ve (G_impl_Expr_isFree_1 : GExpr → (List Int) → Option Bool) (H_impl_Expr_isFree_1 : wZ G_impl_Expr_isFree_1) (a0 : (List GExpr)) (v1 : Int) (e0 : (List Int)) (m : Nat) : ∀ (v2 : Int), Ol (zR G_impl_Expr_isFree_1 a0 v1 e0 m v2) 193 (zQ Tryz.f193 0) ⟨[(0, vq zd a0), (1, .val false [.fn 148 [.ptr 0 0]]), (7, vi v1), (8, vi v2)], [.var [cq yY e0]], 1⟩ fun o => match o with | .inl o_0 => (.ret, ⟨[(4, vi o_0)], [.var [cq yY e0]], 1⟩) | .inr (o_1) => (.exit 0, ⟨[(0, vq zd a0), (1, .val false [.fn 148 [.ptr 0 0]]), (7, vi v1), (8, vi o_1), (9, vb false)], [.var [cq yY e0]], 1⟩) := by
  induction m with
  | zero => intro v2 o h; cases h
  | succ m ih => exact fun v2 => tlp (
   .lI v2 v1 (fun c1 =>
    .na v2 fun i2 =>
    .ix eq_GExpr a0 i2 fun x3 =>
    .cl (H_impl_Expr_isFree_1 x3 e0) fun r4 =>
    .vM 0 r4 (
     .ret (.inl v2)) <|
    .go (ih (w64 (v2 + 1)))) fun c1 =>
   .ret (.inr v2))
def yO (G_impl_Expr_isFree_1 : GExpr → (List Int) → Option Bool) (n : Nat) (a0 : (List GExpr)) (e0 : (List Int)) : Option Int :=
 (zR G_impl_Expr_isFree_1 a0 (a0.length : Int) e0 n 0).bind fun o1 =>
 match o1 with
 | .inl o1_0 =>
  some o1_0
 | .inr (o1_1) =>
  some (-1)
theorem Z4 (G_impl_Expr_isFree_1 : GExpr → (List Int) → Option Bool) (H_impl_Expr_isFree_1 : wZ G_impl_Expr_isFree_1) (n : Nat) : yN (yO G_impl_Expr_isFree_1 n) := fun a0 e0 => tc (
 .le zd a0 <|
 .l2 (ve G_impl_Expr_isFree_1 H_impl_Expr_isFree_1 a0 (a0.length : Int) e0 n 0) (fun o1_0 =>
  .ret o1_0) fun o1_1 =>
 .ret (-1)) (zj Tryz.func193)
def xx (G_slices_IndexFunc_Expr_Expr_isFree_1 : (List GExpr) → (List Int) → Option Int) (a0 : (List GExpr)) (e0 : (List Int)) : Option Bool :=
 (G_slices_IndexFunc_Expr_Expr_isFree_1 a0 e0).bind fun r1 =>
 some (decide (0 <= r1))
theorem vE (G_slices_IndexFunc_Expr_Expr_isFree_1 : (List GExpr) → (List Int) → Option Int) (H_slices_IndexFunc_Expr_Expr_isFree_1 : yN G_slices_IndexFunc_Expr_Expr_isFree_1) : yE (xx G_slices_IndexFunc_Expr_Expr_isFree_1) := fun a0 e0 => tc (
 .cl (H_slices_IndexFunc_Expr_Expr_isFree_1 a0 e0) fun r1 =>
 .gD 0 r1 <|
 .ret (decide (0 <= r1))) (zj Tryz.func145)
def ZD (G_slices_ContainsFunc_Expr_Expr_isFree_1 : (List GExpr) → (List Int) → Option Bool) (a0 : GExpr) (a1 : (List Int)) : Option Bool :=
 (wO a1 a0.Kind).bind fun r1 =>
 match r1 with
 | true =>
  some false
 | false =>
  (G_slices_ContainsFunc_Expr_Expr_isFree_1 a0.Kids a1).bind fun r2 =>
  some (!r2)
theorem VY (G_slices_ContainsFunc_Expr_Expr_isFree_1 : (List GExpr) → (List Int) → Option Bool) (H_slices_ContainsFunc_Expr_Expr_isFree_1 : yE G_slices_ContainsFunc_Expr_Expr_isFree_1) : kg (ZD G_slices_ContainsFunc_Expr_Expr_isFree_1) := fun a0 a1 => tc (
 .cl (Y5 a1 a0.Kind) fun r1 =>
 .vN 0 r1 (
  .an 0 0 <|
  .an 0 0 <|
  .an 0 0 <|
  .an 0 0 <|
  .an 0 0 <|
  .ret false) <|
 .an 0 0 <|
 .an 0 0 <|
 .an 0 0 <|
 .cl (H_slices_ContainsFunc_Expr_Expr_isFree_1 a0.Kids a1) fun r2 =>
 .an 0 1 <|
 .an 0 1 <|
 .ret (!r2)) (zj Tryz.func82)
mutual
def yT : Nat → GExpr → (List Int) → Option Bool
 | 0, _, _ => none
 | n + 1, a0, e0 => vD (yU n) a0 e0
def zM : Nat → (List GExpr) → (List Int) → Option Int
 | 0, _, _ => none
 | n + 1, a0, e0 => yO (yT n) n a0 e0
def zF : Nat → (List GExpr) → (List Int) → Option Bool
 | 0, _, _ => none
 | n + 1, a0, e0 => xx (zM n) a0 e0
def yU : Nat → GExpr → (List Int) → Option Bool
 | 0, _, _ => none
 | n + 1, a0, a1 => ZD (zF n) a0 a1
end
theorem qP (n : Nat) : wZ (yT n) ∧ yN (zM n) ∧ yE (zF n) ∧ kg (yU n) := by
 induction n with
 | zero => exact ⟨fun _ _ _ h => (by rw [yT] at h; cases h), fun _ _ _ h => (by rw [zM] at h; cases h), fun _ _ _ h => (by rw [zF] at h; cases h), fun _ _ _ h => (by rw [yU] at h; cases h)⟩
 | succ n ih =>
  obtain ⟨ih_impl_Expr_isFree_1, ih_slices_IndexFunc_Expr_Expr_isFree_1, ih_slices_ContainsFunc_Expr_Expr_isFree_1, ih_impl_Expr_isFree⟩ := ih
  exact ⟨fun a0 e0 r h => K5 (yU n) ih_impl_Expr_isFree a0 e0 r (by rw [yT] at h; exact h),
   fun a0 e0 r h => Z4 (yT n) ih_impl_Expr_isFree_1 n a0 e0 r (by rw [zM] at h; exact h),
   fun a0 e0 r h => vE (zM n) ih_slices_IndexFunc_Expr_Expr_isFree_1 a0 e0 r (by rw [zF] at h; exact h),
   fun a0 a1 r h => VY (zF n) ih_slices_ContainsFunc_Expr_Expr_isFree_1 a0 a1 r (by rw [yU] at h; exact h)⟩
def X5 (a0 : GExpr) (e0 : (List Int)) : Option Bool := none
theorem QF (a0 : GExpr) (e0 : (List Int)) (r : Bool) (h : X5 a0 e0 = some r) : ∃ n, yT n a0 e0 = some r := by cases h
def qM (a0 : (List GExpr)) (e0 : (List Int)) : Option Int := none
theorem vF (a0 : (List GExpr)) (e0 : (List Int)) (r : Int) (h : qM a0 e0 = some r) : ∃ n, zM n a0 e0 = some r := by cases h
def qa (a0 : (List GExpr)) (e0 : (List Int)) : Option Bool := none
theorem kH (a0 : (List GExpr)) (e0 : (List Int)) (r : Bool) (h : qa a0 e0 = some r) : ∃ n, zF n a0 e0 = some r := by cases h
def kh (a0 : GExpr) (a1 : (List Int)) : Option Bool := yU (4 * xsz a0 + 9) a0 a1
theorem JM (a0 : GExpr) (a1 : (List Int)) (r : Bool) (h : kh a0 a1 = some r) : ∃ n, yU n a0 a1 = some r := ⟨_, h⟩
theorem Hd : wZ X5 := by
 intro a0 e0 r h
 obtain ⟨n, hn⟩ := QF a0 e0 r h
 exact (qP n).1 a0 e0 r hn
theorem Vm : yN qM := by
 intro a0 e0 r h
 obtain ⟨n, hn⟩ := vF a0 e0 r h
 exact (qP n).2.1 a0 e0 r hn
theorem JZ : yE qa := by
 intro a0 e0 r h
 obtain ⟨n, hn⟩ := kH a0 e0 r h
 exact (qP n).2.2.1 a0 e0 r hn
theorem Vn : kg kh := by
 intro a0 a1 r h
 obtain ⟨n, hn⟩ := JM a0 a1 r h
 exact (qP n).2.2.2 a0 a1 r hn
def yf : Option GValue :=
 some (GValue.mk 6 0 [] [] [])
theorem yi : Oc yf 154 [] [] fun r => (.val true (YZ r), []) := tc (
 .ret (GValue.mk 6 0 [] [] [])) (zj Tryz.func154)
def qy (F : (List (List UInt8)) → (List UInt8) → Option (Int × Bool)) : Prop := ∀ (a0 : (List (List UInt8))) (a1 : (List UInt8)), Oc (F a0 a1) 174 [] [vq (zi za) a0, vq za a1, .val false [.fn 144 []]] fun r => (.tup [(false, [ci r.1]), (false, [.bool r.2])], [])
def z0 (a0 : (List (List UInt8))) (a1 : (List UInt8)) (v2 : Int) : Nat → Int → Int → Option (Int × Int)
  | 0, _, _ => none
  | m + 1, v3, v4 =>
  if v3 < v4 then
   (zH (w64 (Qp .shr .u64 (IntKind.u64.wrap (w64 (v3 + v4))) 1))).bind fun i2 =>
   (a0[i2]?).bind fun x3 =>
   (yS x3 a1).bind fun r4 =>
   if r4 < 0 then
    z0 a0 a1 v2 m (w64 ((w64 (Qp .shr .u64 (IntKind.u64.wrap (w64 (v3 + v4))) 1)) + 1)) v4
   else
   z0 a0 a1 v2 m v3 (w64 (Qp .shr .u64 (IntKind.u64.wrap (w64 (v3 + v4))) 1))
  else
  some (v3, v4)
theorem kX (a0 : (List (List UInt8))) (a1 : (List UInt8)) (v2 : Int) (m : Nat) : ∀ (v3 : Int) (v4 : Int), Ol (z0 a0 a1 v2 m v3 v4) 174 (zQ Tryz.f174 0) ⟨[(0, vq (zi za) a0), (1, vq za a1), (2, .val false [.fn 144 []]), (8, vi v2), (9, vi v3), (10, vi v4)], [], 0⟩ fun o => match o with | ⟨o_0, o_1⟩ => (.exit 0, ⟨[(0, vq (zi za) a0), (1, vq za a1), (2, .val false [.fn 144 []]), (8, vi v2), (9, vi o_0), (10, vi o_1), (17, vb false)], [], 0⟩) := by
  induction m with
  | zero => intro v3 v4 o h; cases h
  | succ m ih => exact fun v3 v4 => tlp (
   .lI v3 v4 (fun c1 =>
    .q (.gTo 0 1 (by decide)) <|
    .cw (Qp .shr .u64 (IntKind.u64.wrap (w64 (v3 + v4))) 1) <|
    .na (w64 (Qp .shr .u64 (IntKind.u64.wrap (w64 (v3 + v4))) 1)) fun i2 =>
    .ix0 (zi za) a0 i2 fun x3 =>
    .cl (qF x3 a1) fun r4 =>
    .lI r4 0 (fun c5 =>
     .go (ih (w64 ((w64 (Qp .shr .u64 (IntKind.u64.wrap (w64 (v3 + v4))) 1)) + 1)) v4)) fun c5 =>
    .go (ih v3 (w64 (Qp .shr .u64 (IntKind.u64.wrap (w64 (v3 + v4))) 1)))) fun c1 =>
   .ret (v3, v4))
def xL (n : Nat) (a0 : (List (List UInt8))) (a1 : (List UInt8)) : Option (Int × Bool) :=
 (z0 a0 a1 (a0.length : Int) n 0 (a0.length : Int)).bind fun ⟨o1_0, o1_1⟩ =>
 if o1_0 < (a0.length : Int) then
  (zH o1_0).bind fun i3 =>
  (a0[i3]?).bind fun x4 =>
  (yS x4 a1).bind fun r5 =>
  some (o1_0, (decide (r5 = 0)))
 else
 some (o1_0, false)
theorem Zg (n : Nat) : qy (xL n) := fun a0 a1 => tc (
 .le (zi za) a0 <|
 .lp (kX a0 a1 (a0.length : Int) n 0 (a0.length : Int)) fun ⟨o1_0, o1_1⟩ =>
 .lI o1_0 (a0.length : Int) (fun c2 =>
  .na o1_0 fun i3 =>
  .ix0 (zi za) a0 i3 fun x4 =>
  .cl (qF x4 a1) fun r5 =>
  .eD r5 0 <|
  .ret (o1_0, (decide (r5 = 0)))) fun c2 =>
 .ret (o1_0, false)) (zj Tryz.func174)
theorem NG {a : List (List UInt8)} {x : List UInt8} {c : Nat} {v2 : Int} (hp : QD a x c) (ha : a.length <= 2 ^ 40) : ∀ (d i j m : Nat), j - i <= d → i <= c → c <= j → j <= a.length → d < m → z0 a x v2 m (i : Int) (j : Int) = some ((c : Int), (c : Int)) := by
 intro d
 induction d with
 | zero =>
  intro i j m hd h1 h2 h3 hm
  obtain ⟨m, rfl, _⟩ := zg hm
  rw [z0, if_neg (by omega), show i = c by omega, show j = c by omega]
 | succ d ih =>
  intro i j m hd h1 h2 h3 hm
  obtain ⟨m, rfl, hm'⟩ := zg hm
  by_cases hij : i < j
  ·have hk : (i + j) / 2 < a.length := by omega
   rw [z0, if_pos (by omega), zgd (by omega), zl, Option.bind_some, zr hk, Option.bind_some]
   unfold yS wB
   simp only [Option.bind_some]
   have hq := hp.2 _ hk
   by_cases hl : Op.bytesLess a[(i + j) / 2] x = true
   ·rw [if_pos (by rw [Lc]; exact hl), yt (by omega)]
    have := hq.2 hl
    exact ih _ _ m (by omega) (by omega) h2 h3 (by omega)
   ·rw [if_neg (by rw [Lc]; exact hl)]
    have : ¬ (i + j) / 2 < c := fun h => hl (hq.1 h)
    exact ih _ _ m (by omega) h1 (by omega) (by omega) (by omega)
  ·rw [z0, if_neg (by omega), show i = c by omega, show j = c by omega]
open Classical in
noncomputable def zW (a0 : (List (List UInt8))) (a1 : (List UInt8)) : Option (Int × Bool) := if h : a0.length <= 2 ^ 40 ∧ ∃ c, QD a0 a1 c then some (((Classical.choose h.2 : Nat) : Int), decide (a0[Classical.choose h.2]? = some a1)) else none
theorem Ps {a : List (List UInt8)} {x : List UInt8} (ha : a.length <= 2 ^ 40) (h : Asc a) : ∃ c, QD a x c ∧ zW a x = some ((c : Int), decide (x ∈ a)) := by
 have he : a.length <= 2 ^ 40 ∧ ∃ c, QD a x c := ⟨ha, QD.of h x⟩
 refine ⟨Classical.choose he.2, Classical.choose_spec he.2, ?_⟩
 unfold zW
 rw [dif_pos he]
 congr 2
 exact decide_eq_decide.2 (QD.mem h (Classical.choose_spec he.2))
theorem vf (a0 : (List (List UInt8))) (a1 : (List UInt8)) (r : (Int × Bool)) (h : zW a0 a1 = some r) : ∃ n, xL n a0 a1 = some r := by
 unfold zW at h
 split at h
 ·rename_i he
  have hp := Classical.choose_spec he.2
  generalize Classical.choose he.2 = c at h hp
  refine ⟨a0.length + 1, ?_⟩
  unfold xL
  have hl := NG (v2 := (a0.length : Int)) hp he.1 a0.length 0 a0.length (a0.length + 1) (by omega) (by omega) hp.1 (Nat.le_refl _) (by omega)
  rw [show ((0 : Nat) : Int) = 0 from rfl] at hl
  rw [hl, Option.bind_some]
  dsimp only
  rw [<- h]
  by_cases hc : c < a0.length
  ·rw [if_pos (by omega), zl, Option.bind_some, zr hc, Option.bind_some]
   unfold yS wB
   simp only [Option.bind_some]
   congr 2
   exact decide_eq_decide.2 ((Ge _ _).trans (by simp))
  ·rw [if_neg (by omega), List.getElem?_eq_none (by omega)]
   simp
 ·cases h
theorem vW : qy zW := fun a0 a1 r h => (vf a0 a1 r h).elim fun n hn => Zg n a0 a1 r hn
def qX (a0 : GValue) (a1 : (List UInt8)) : Option (Int × Bool) :=
 (zW a0.K a1).bind fun ⟨r1_0, r1_1⟩ =>
 some (r1_0, r1_1)
theorem XE (a0 : GValue) (a1 : (List UInt8)) : Oc (qX a0 a1) 106 [] [.val true (zf a0), vq za a1] fun r => (.tup [(false, [ci r.1]), (false, [.bool r.2])], []) := tc (
 .cl (vW a0.K a1) fun ⟨r1_0, r1_1⟩ =>
 .ret (r1_0, r1_1)) (zj Tryz.func106)
def jD (a0 : GValue) (a1 : (List UInt8)) : Option (GValue × Int) :=
 if a0.Kind = 6 then
  (yf).bind fun r2 =>
  some (r2, 0)
 else
 if a0.Kind = 5 then
  (qX a0 a1).bind fun ⟨r3_0, r3_1⟩ =>
  match r3_1 with
  | true =>
   (zH r3_0).bind fun i4 =>
   (a0.L[i4]?).bind fun x5 =>
   some (x5, 0)
  | false =>
   some ((GValue.mk 0 0 [] [] []), 3)
 else
 some ((GValue.mk 0 0 [] [] []), 2)
theorem YK (a0 : GValue) (a1 : (List UInt8)) : Oc (jD a0 a1) 149 [] [.val true (zf a0), vq za a1] fun r => (.tup [(true, (zf r.1)), (false, [ci r.2])], []) := tc (
 .eI a0.Kind 6 (fun c1 =>
  .cl (yi) fun r2 =>
  .vw ze r2.S <|
  .vo (zC 1 z9) r2.K <|
  .vo zz r2.L <|
  .ret (r2, 0)) fun c1 =>
 .eI a0.Kind 5 (fun c2 =>
  .cl (XE a0 a1) fun ⟨r3_0, r3_1⟩ =>
  .vN 0 r3_1 (
   .na r3_0 fun i4 =>
   .ix zh a0.L i4 fun x5 =>
   .ret (x5, 0)) <|
  .vw ze [] <|
  .vw (zn za) [] <|
  .vw zc [] <|
  .ret ((GValue.mk 0 0 [] [] []), 3)) fun c2 =>
 .vw ze [] <|
 .vw (zn za) [] <|
 .vw zc [] <|
 .ret ((GValue.mk 0 0 [] [] []), 2)) (zj Tryz.func149)
def Wh (a0 : GValue) (a1 : GValue) : Option (GValue × Int) :=
 if a0.Kind = 4 then
  if a1.Kind = 2 then
   (xH a1.N 0 (w64 ((a0.L.length : Int) - 1))).bind fun r3 =>
   match r3 with
   | true =>
    (zH a1.N).bind fun i4 =>
    (a0.L[i4]?).bind fun x5 =>
    some (x5, 0)
   | false =>
    some ((GValue.mk 0 0 [] [] []), 3)
  else
  if a1.Kind = 3 then
   some ((GValue.mk 0 0 [] [] []), 2)
  else
  if a1.Kind = 6 then
   (yf).bind fun r5 =>
   some (r5, 0)
  else
  some ((GValue.mk 0 0 [] [] []), 2)
 else
 if a0.Kind = 5 then
  if a1.Kind = 2 then
   some ((GValue.mk 0 0 [] [] []), 2)
  else
  if a1.Kind = 3 then
   (jD a0 a1.S).bind fun ⟨r5_0, r5_1⟩ =>
   some (r5_0, r5_1)
  else
  if a1.Kind = 6 then
   (yf).bind fun r6 =>
   some (r6, 0)
  else
  some ((GValue.mk 0 0 [] [] []), 2)
 else
 if a0.Kind = 6 then
  if a1.Kind = 2 then
   (yf).bind fun r5 =>
   some (r5, 0)
  else
  if a1.Kind = 3 then
   (yf).bind fun r6 =>
   some (r6, 0)
  else
  if a1.Kind = 6 then
   (yf).bind fun r7 =>
   some (r7, 0)
  else
  some ((GValue.mk 0 0 [] [] []), 2)
 else
 some ((GValue.mk 0 0 [] [] []), 2)
theorem NH (a0 : GValue) (a1 : GValue) : Oc (Wh a0 a1) 151 [] [.val true (zf a0), .val true (zf a1)] fun r => (.tup [(true, (zf r.1)), (false, [ci r.2])], []) := tc (
 .eI a0.Kind 4 (fun c1 =>
  .eI a1.Kind 2 (fun c2 =>
   .q (.eFo a0.Kind 6 (by omega)) <|
   .q (.eFo a1.Kind 6 (by omega)) <|
   .q (.eFo a0.Kind 5 (by omega)) <|
   .q (.eT c1) <|
   .q (.eT c2) <|
   .le zb a0.L <|
   .cl (qO a1.N 0 (w64 ((a0.L.length : Int) - 1))) fun r3 =>
   .vN 0 r3 (
    .na a1.N fun i4 =>
    .ix zh a0.L i4 fun x5 =>
    .ret (x5, 0)) <|
   .vw ze [] <|
   .vw (zn za) [] <|
   .vw zc [] <|
   .ret ((GValue.mk 0 0 [] [] []), 3)) fun c2 =>
  .eI a1.Kind 3 (fun c3 =>
   .q (.eFo a0.Kind 6 (by omega)) <|
   .q (.eFo a1.Kind 6 (by omega)) <|
   .q (.eFo a0.Kind 5 (by omega)) <|
   .q (.eT c1) <|
   .q (.eF c2) <|
   .vw ze [] <|
   .vw (zn za) [] <|
   .vw zc [] <|
   .ret ((GValue.mk 0 0 [] [] []), 2)) fun c3 =>
  .eI a1.Kind 6 (fun c4 =>
   .q (.eFo a0.Kind 6 (by omega)) <|
   .q (.eT c4) <|
   .cl (yi) fun r5 =>
   .vw ze r5.S <|
   .vo (zC 1 z9) r5.K <|
   .vo zz r5.L <|
   .ret (r5, 0)) fun c4 =>
  .vw ze [] <|
  .vw (zn za) [] <|
  .vw zc [] <|
  .ret ((GValue.mk 0 0 [] [] []), 2)) fun c1 =>
 .eI a0.Kind 5 (fun c2 =>
  .eI a1.Kind 2 (fun c3 =>
   .q (.eFo a0.Kind 6 (by omega)) <|
   .q (.eFo a1.Kind 6 (by omega)) <|
   .q (.eT c2) <|
   .q (.eFo a1.Kind 3 (by omega)) <|
   .q (.eF c1) <|
   .vw ze [] <|
   .vw (zn za) [] <|
   .vw zc [] <|
   .ret ((GValue.mk 0 0 [] [] []), 2)) fun c3 =>
  .eI a1.Kind 3 (fun c4 =>
   .q (.eFo a0.Kind 6 (by omega)) <|
   .q (.eFo a1.Kind 6 (by omega)) <|
   .q (.eT c2) <|
   .q (.eT c4) <|
   .cl (YK a0 a1.S) fun ⟨r5_0, r5_1⟩ =>
   .ret (r5_0, r5_1)) fun c4 =>
  .eI a1.Kind 6 (fun c5 =>
   .q (.eFo a0.Kind 6 (by omega)) <|
   .q (.eT c5) <|
   .cl (yi) fun r6 =>
   .vw ze r6.S <|
   .vo (zC 1 z9) r6.K <|
   .vo zz r6.L <|
   .ret (r6, 0)) fun c5 =>
  .vw ze [] <|
  .vw (zn za) [] <|
  .vw zc [] <|
  .ret ((GValue.mk 0 0 [] [] []), 2)) fun c2 =>
 .eI a0.Kind 6 (fun c3 =>
  .eI a1.Kind 2 (fun c4 =>
   .q (.eT c3) <|
   .cl (yi) fun r5 =>
   .vw ze r5.S <|
   .vo (zC 1 z9) r5.K <|
   .vo zz r5.L <|
   .ret (r5, 0)) fun c4 =>
  .eI a1.Kind 3 (fun c5 =>
   .q (.eT c3) <|
   .cl (yi) fun r6 =>
   .vw ze r6.S <|
   .vo (zC 1 z9) r6.K <|
   .vo zz r6.L <|
   .ret (r6, 0)) fun c5 =>
  .eI a1.Kind 6 (fun c6 =>
   .q (.eT c3) <|
   .cl (yi) fun r7 =>
   .vw ze r7.S <|
   .vo (zC 1 z9) r7.K <|
   .vo zz r7.L <|
   .ret (r7, 0)) fun c6 =>
  .vw ze [] <|
  .vw (zn za) [] <|
  .vw zc [] <|
  .ret ((GValue.mk 0 0 [] [] []), 2)) fun c3 =>
 .vw ze [] <|
 .vw (zn za) [] <|
 .vw zc [] <|
 .ret ((GValue.mk 0 0 [] [] []), 2)) (zj Tryz.func151)
def kC (a0 : Bool) : Option GValue :=
 match a0 with
 | true =>
  some (GValue.mk 1 1 [] [] [])
 | false =>
  some (GValue.mk 1 0 [] [] [])
theorem X6 (a0 : Bool) : Oc (kC a0) 155 [] [vb a0] fun r => (.val true (YZ r), []) := tc (
 .vM 0 a0 (
  .ret (GValue.mk 1 1 [] [] [])) <|
 .ret (GValue.mk 1 0 [] [] [])) (zj Tryz.func155)
def vX (a0 : GValue) (a1 : Int) : Option (GValue × Int) :=
 if a0.Kind = 6 then
  some (a0, 0)
 else
 if a0.Kind = a1 then
  if a1 = 1 then
   (kC (decide (a0.N = 0))).bind fun r4 =>
   some (r4, 0)
  else
  some ((GValue.mk 2 (w64 (0 - a0.N)) [] [] []), 0)
 else
 some ((GValue.mk 0 0 [] [] []), 2)
theorem JN (a0 : GValue) (a1 : Int) : Oc (vX a0 a1) 152 [] [.val true (zf a0), vi a1] fun r => (.tup [(true, (zf r.1)), (false, [ci r.2])], []) := tc (
 .eI a0.Kind 6 (fun c1 =>
  .ret (a0, 0)) fun c1 =>
 .eI a0.Kind a1 (fun c2 =>
  .eI a1 1 (fun c3 =>
   .eD a0.N 0 <|
   .cl (X6 (decide (a0.N = 0))) fun r4 =>
   .vw ze r4.S <|
   .vo (zC 1 z9) r4.K <|
   .vo zz r4.L <|
   .ret (r4, 0)) fun c3 =>
  .vw ze [] <|
  .vw (zn za) [] <|
  .vw zc [] <|
  .ret ((GValue.mk 2 (w64 (0 - a0.N)) [] [] []), 0)) fun c2 =>
 .vw ze [] <|
 .vw (zn za) [] <|
 .vw zc [] <|
 .ret ((GValue.mk 0 0 [] [] []), 2)) (zj Tryz.func152)
end
end Go.Am.Try
