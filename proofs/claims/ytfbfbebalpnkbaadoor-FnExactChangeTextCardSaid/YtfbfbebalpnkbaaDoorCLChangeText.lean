/- The law of FnExactChangeText, in plain terms. -/
import Derived.Test.YtfbfbebalpnkbaaDoorCG3
set_option linter.unusedVariables false
set_option linter.unusedSimpArgs false
namespace Go.Am.Try
open Go.Am
noncomputable section
theorem LI {v : GValue} {n : Int} (h : MdV v) (h0 : 0 <= n) (h1 : n <= 2 ^ 20) : wC v n = some (wa (vsz v) n) := if_pos ⟨h, h0, h1⟩
theorem LJ {v : GValue} (h : vsz v <= 2 ^ 20) : wD v = some v := if_pos h
theorem D2 {s : List UInt8} (h : s.length <= 2 ^ 20) : y8 s = some s := if_pos h
theorem HW {s : List UInt8} (h : s.length <= 2 ^ 39) : yt s s = some true := if_pos ⟨rfl, by omega⟩
theorem U0 {v : GValue} {i : Int} (h : vsz v <= 2 ^ 30) (h0 : 0 <= i) (h1 : i <= 2 ^ 40) : ∃ k a b c, wN v.Kind v.N i v.S v.K v.L = some (k, a, b, c) ∧ 0 <= k ∧ k <= i + 2 * vsz v := by
 have he := xR v
 have hb := Qh v.K
 have hc := KK v.L
 unfold wN
 rw [jK (by omega) (by omega), Option.bind_some]
 dsimp only
 rw [XV (by omega) (by omega), Option.bind_some]
 dsimp only
 rw [RV (by omega) (by omega), Option.bind_some]
 exact ⟨_, _, _, _, rfl, by omega, by omega⟩
def Q1 (x : GChange) : List UInt8 := if XK [x] = true then xe x.Path ++ ((if x.Had = true then [32, 45, 32] ++ y4 x.Old else []) ++ (if x.Has = true then [32, 43, 32] ++ y4 x.New else [])) else []
theorem Ps {l : List GStep} (h : l.all xd = true) : Q5 l = true := List.all_eq_true.2 fun s hs => by
 have := List.all_eq_true.1 h s hs
 unfold xd at this
 refine decide_eq_true ?_
 by_cases c : s.Kind = 0
 ·rw [if_pos c, Bool.and_eq_true] at this
  have := of_decide_eq_true this.2
  omega
 ·rw [if_neg c] at this
  have := of_decide_eq_true this
  omega
theorem Rz : ∀ {l : List GStep}, l.all xd = true → (xe l).length <= 23 * zW l
 | [], _ => Nat.le_refl _
 | s :: l, h => by
  have hI := U8 (Ps h) (x := s) List.mem_cons_self
  have hd := XI hI.1 hI.2
  rw [List.all_cons, Bool.and_eq_true] at h
  have := Rz h.2
  rw [xe, List.length_append, stT]
  simp only [zW, wA]
  split
  ·simp only [List.length_cons]; omega
  ·simp only [List.length_cons, List.length_append, List.length_nil]; omega
theorem Oj {x : GChange} (hz : qE x <= 2 ^ 20) : qw x = some (Q1 x) ∧ qy x = some (Q1 x) ∧ (Q1 x).length <= 2 ^ 30 := by
 have hs : xf [x] <= 1048577 := by simp only [xf]; omega
 unfold qE at hz
 unfold qw qy Q1
 rw [L5 hs, LE hs, Option.bind_some, Option.bind_some, show decide ([x].length <= 80) = true from by simp, Bool.true_and]
 cases hc : XK [x] with
 | false => exact ⟨rfl, rfl, by rw [if_neg (by decide)]; decide⟩
 | true =>
  have h1 : ch1 x = true := by simp only [XK, Bool.and_eq_true] at hc; exact hc.1
  unfold ch1 at h1
  rw [Bool.and_eq_true, Bool.and_eq_true, Bool.and_eq_true] at h1
  obtain ⟨hp, ho, hn, _⟩ := h1
  have hall : x.Path.all xd = true := by unfold q4 at hp; rw [Bool.and_eq_true] at hp; exact hp.2
  have hI := Ps hall
  unfold jL at ho hn
  have so := (of_decide_eq_true ho).1
  have sn := (of_decide_eq_true hn).1
  have lo := jM 5 x.Old so
  have ln := jM 5 x.New sn
  have lp := Rz hall
  have tO : ∀ b : List UInt8, b.length <= 2 ^ 38 → yp x.Old b = some (b ++ y4 x.Old) := fun b hb => if_pos ⟨so, by omega, hb⟩
  have tN : ∀ b : List UInt8, b.length <= 2 ^ 38 → yp x.New b = some (b ++ y4 x.New) := fun b hb => if_pos ⟨sn, by omega, hb⟩
  dsimp only
  rw [show qX x.Path = some (xe x.Path) from if_pos ⟨by omega, hI⟩, show qk x.Path = some (xe x.Path) from if_pos ⟨by omega, hI⟩, Option.bind_some, Option.bind_some, show xA x.Old = some (y4 x.Old) from if_pos ⟨so, by omega⟩, show xA x.New = some (y4 x.New) from if_pos ⟨sn, by omega⟩, if_pos rfl]
  have r1 : zq 1 ((xe x.Path).length + [32, 45, 32].length) := zt (by decide) (by simp only [List.length_cons, List.length_nil]; omega)
  have r2 : zq 1 ((xe x.Path).length + [32, 43, 32].length) := zt (by decide) (by simp only [List.length_cons, List.length_nil]; omega)
  have r3 : zq 1 ((xe x.Path ++ [32, 45, 32]).length + (y4 x.Old).length) := zt (by decide) (by simp only [List.length_append, List.length_cons, List.length_nil]; omega)
  have r4 : zq 1 ((xe x.Path ++ [32, 45, 32] ++ y4 x.Old).length + [32, 43, 32].length) := zt (by decide) (by simp only [List.length_append, List.length_cons, List.length_nil]; omega)
  have r5 : zq 1 ((xe x.Path ++ [32, 45, 32] ++ y4 x.Old ++ [32, 43, 32]).length + (y4 x.New).length) := zt (by decide) (by simp only [List.length_append, List.length_cons, List.length_nil]; omega)
  have r6 : zq 1 ((xe x.Path ++ [32, 43, 32]).length + (y4 x.New).length) := zt (by decide) (by simp only [List.length_append, List.length_cons, List.length_nil]; omega)
  have q1 := tO (xe x.Path ++ [32, 45, 32]) (by simp only [List.length_append, List.length_cons, List.length_nil]; omega)
  have q2 := tN (xe x.Path ++ [32, 45, 32] ++ y4 x.Old ++ [32, 43, 32]) (by simp only [List.length_append, List.length_cons, List.length_nil]; omega)
  have q3 := tN (xe x.Path ++ [32, 43, 32]) (by simp only [List.length_append, List.length_cons, List.length_nil]; omega)
  cases x.Had <;> cases x.Has <;> dsimp only
  ·refine ⟨by simp, by simp, ?_⟩
   simp only [Bool.false_eq_true, if_false, List.append_nil]; omega
  ·rw [if_pos r2, if_pos r2, Option.bind_some, if_pos r6, q3]
   refine ⟨by simp, by simp, ?_⟩
   simp only [Bool.false_eq_true, if_false, if_true, List.nil_append, List.length_append, List.length_cons, List.length_nil]; omega
  ·rw [if_pos r1, if_pos r1, Option.bind_some, if_pos r3, q1]
   refine ⟨by simp, by simp, ?_⟩
   simp only [Bool.false_eq_true, if_false, if_true, List.append_nil, List.length_append, List.length_cons, List.length_nil]; omega
  ·rw [if_pos r1, if_pos r1, Option.bind_some, if_pos r3, if_pos r4, Option.bind_some, if_pos r5, q1, Option.bind_some, if_pos r4, q2]
   refine ⟨by simp, by simp, ?_⟩
   simp only [if_true, List.length_append, List.length_cons, List.length_nil]; omega
def MX (x : GChange) : Prop := (x.Path.length <= 2 ^ 63 - 1 ∧ Z8 x.Path) ∧ MdV x.Old ∧ MdV x.New
theorem Gi {x : GChange} (h : MX x) : ∃ r, jo x 1048576 = some r ∧ (r < 0 ∨ qE x <= 2 ^ 20) := by
 obtain ⟨h1, h2, h3⟩ := h
 unfold jo qE
 rw [show q7 x.Path 1048576 = some (wa (zW x.Path) 1048576) from if_pos ⟨h1.1, h1.2, by decide, by decide⟩, Option.bind_some]
 unfold wa
 by_cases c1 : (zW x.Path : Int) <= 1048576
 ·rw [if_pos c1, if_neg (by omega), LI h2 (by omega) (by omega), Option.bind_some]
  unfold wa
  by_cases c2 : (vsz x.Old : Int) <= 1048576 - zW x.Path
  ·rw [if_pos c2, if_neg (by omega), LI h3 (by omega) (by omega), Option.bind_some]
   unfold wa
   by_cases c3 : (vsz x.New : Int) <= 1048576 - zW x.Path - vsz x.Old
   ·rw [if_pos c3, if_neg (by omega)]; exact ⟨_, rfl, .inr (by omega)⟩
   ·rw [if_neg c3, if_pos (by decide)]; exact ⟨_, rfl, .inl (by decide)⟩
  ·rw [if_neg c2, if_pos (by decide)]; exact ⟨_, rfl, .inl (by decide)⟩
 ·rw [if_neg c1, if_pos (by decide)]; exact ⟨_, rfl, .inl (by decide)⟩
theorem Gj {x : GChange} (h : qE x <= 2 ^ 20) : jr x = some x := by
 unfold qE at h
 unfold jr
 rw [show q9 x.Path = some x.Path from if_pos (by omega), Option.bind_some, LJ (by omega), Option.bind_some, LJ (by omega), Option.bind_some]
 cases x; rfl
theorem Gk {v : GChange} (h : qE v <= 2 ^ 39) : j0 v v = some true := by
 unfold qE at h
 have e1 : wE v.Path v.Path = some true := if_pos ⟨rfl, by omega⟩
 have e2 : yu v.Old v.Old = some true := if_pos ⟨rfl, by omega⟩
 have e3 : yu v.New v.New = some true := if_pos ⟨rfl, by omega⟩
 unfold j0
 rw [e1, Option.bind_some]
 dsimp only
 rw [e2, Option.bind_some, e3, Option.bind_some]
 by_cases c1 : v.Had = true
 ·rw [if_pos c1, if_pos c1]
  by_cases c2 : v.Has = true
  ·rw [if_pos c2, if_pos c2]
  ·rw [if_neg c2, if_neg c2]
 ·rw [if_neg c1, if_neg c1]
  by_cases c2 : v.Has = true
  ·rw [if_pos c2, if_pos c2]
  ·rw [if_neg c2, if_neg c2]
theorem law_ChangeText {x : GChange} (hm : MX x) : wP x = some true := by
 unfold wP
 obtain ⟨r, h1, h2⟩ := Gi hm
 rw [h1, Option.bind_some]
 by_cases c : r < 0
 ·rw [if_pos c]
 ·have hz := h2.resolve_left c
  have hz' := hz
  unfold qE at hz'
  rw [if_neg c, Gj hz, Option.bind_some]
  obtain ⟨e1, e2, e3⟩ := Oj hz
  rw [e1, e2, Option.bind_some, Option.bind_some, HW (by omega), Option.bind_some]
  dsimp only
  rw [Gk (by omega), Option.bind_some]
  dsimp only
  have hcs := VO x.Path
  obtain ⟨k1, x1, y1, z1, m1, m2, m3⟩ := U0 (v := x.Old) (i := 1 + xY x.Path) (by omega) (by omega) (by omega)
  obtain ⟨k2, x2, y2, z2, m4, m5, m6⟩ := U0 (v := x.New) (i := k1) (by omega) m2 (by omega)
  have hmk : qz x.Had x.Old.Kind x.Old.N x.Has x.New.Kind x.New.N 1 x.Path x.Old.S x.Old.K x.Old.L x.New.S x.New.K x.New.L = some (k2, wU 1 x.Path, x1, y1, z1, x2, y2, z2) := by
   unfold qz
   rw [Ux (by decide) (by omega), Option.bind_some]
   dsimp only
   rw [m1, Option.bind_some]
   dsimp only
   rw [m4]; rfl
  rw [hmk, Option.bind_some]
  dsimp only
  rw [if_neg (by omega), jK (by decide) (by omega), Option.bind_some]
  dsimp only
  rw [Uz (Q4 _ _) (by decide) (by rw [kr]; omega), Option.bind_some, kr, if_neg (by omega), if_pos rfl]
end
end Go.Am.Try
