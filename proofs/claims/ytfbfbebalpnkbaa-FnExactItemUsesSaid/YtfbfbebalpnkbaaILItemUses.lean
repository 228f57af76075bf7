/- The law of FnExactItemUses, in plain terms. (Under way: the names; l6item / isConfig and the law's own marks are yet to come.) -/
import Derived.Test.YtfbfbebalpnkbaaIG3
set_option linter.unusedVariables false
set_option linter.unusedSimpArgs false
namespace Go.Am.Try
open Go.Am
noncomputable section
theorem GN {v : GExpr} {n : Int} (h : MdX v) (h0 : 0 <= n) (h1 : n <= 2 ^ 20) : qE v n = some (jL (xsz v) n) := if_pos ⟨h, h0, h1⟩
theorem GO {v : GExpr} (h : xsz v <= 2 ^ 20) : qG v = some v := if_pos h
theorem GP {v : GExpr} (h : xsz v <= 2 ^ 39) : qN v v = some true := if_pos ⟨rfl, by omega⟩
theorem GQ {s : List UInt8} (h : s.length <= 2 ^ 20) : yE s = some s := if_pos h
theorem GR {s : List UInt8} (h : s.length <= 2 ^ 39) : yI s s = some true := if_pos ⟨rfl, by omega⟩
theorem U9 {s : List (List UInt8)} (h : bsz s <= 2 ^ 39) : yT s s = some true := if_pos ⟨rfl, by omega⟩
theorem P8 {g : List (List UInt8)} (h : bsz g <= 2 ^ 30) : ∃ (k : Int) (a : List (List UInt8)), yi 1 g = some (k, a) ∧ 0 <= k ∧ xC a 1 = some k := by
 have hb := Yb g
 refine ⟨_, _, kn (by decide) (by omega), by omega, ?_⟩
 rw [Rx (TV _ _) (by decide) (by rw [UI]; omega), Ks]
theorem OF {v : GExpr} {i : Int} (h : xsz v <= 2 ^ 30) (h0 : 0 <= i) (h1 : i <= 2 ^ 40) : ∃ k a b c, jf v.Kind v.N i v.S v.K v.Kids = some (k, a, b, c) ∧ 0 <= k ∧ k <= i + 2 * xsz v := by
 have he := w5 v
 have hb := Yb v.K
 have hc := Kt v.Kids
 unfold jf
 rw [vh (by omega) (by omega), Option.bind_some]
 dsimp only
 rw [kn (by omega) (by omega), Option.bind_some]
 dsimp only
 rw [WE (by omega) (by omega), Option.bind_some]
 exact ⟨_, _, _, _, rfl, by omega, by omega⟩
/-! #### ascending lists of texts -/
def SA (l : List (List UInt8)) : Prop := l.Pairwise fun x y => Lib.compareBytes x y < 0
theorem WG : ∀ {a b : List (List UInt8)}, SA a → SA b → (∀ x, x ∈ a ↔ x ∈ b) → a = b
 | [], [], _, _, _ => rfl
 | [], y :: b, _, _, h => absurd ((h y).2 List.mem_cons_self) (by simp)
 | x :: a, [], _, _, h => absurd ((h x).1 List.mem_cons_self) (by simp)
 | x :: a, y :: b, h1, h2, h => by
  have c1 := List.pairwise_cons.1 h1
  have c2 := List.pairwise_cons.1 h2
  have e : x = y := by
   rcases List.mem_cons.1 ((h x).1 List.mem_cons_self) with e | hx
   ·exact e
   ·rcases List.mem_cons.1 ((h y).2 List.mem_cons_self) with e | hy
    ·exact e.symm
    ·have g1 := c1.1 y hy
     have g2 := c2.1 x hx
     have := vX x y
     omega
  subst e
  have nx : x ∉ a := fun hx => by have := c1.1 x hx; rw [Qg] at this; omega
  have ny : x ∉ b := fun hx => by have := c2.1 x hx; rw [Qg] at this; omega
  rw [WG c1.2 c2.2 fun z => ?_]
  have hz := h z
  simp only [List.mem_cons] at hz
  constructor
  ·intro hza
   rcases hz.1 (.inr hza) with e | hzb
   ·subst e; exact absurd hza nx
   ·exact hzb
  ·intro hzb
   rcases hz.2 (.inr hzb) with e | hza
   ·subst e; exact absurd hzb ny
   ·exact hza
theorem Mg {x y z : List UInt8} (h1 : Lib.compareBytes x y < 0) (h2 : ¬ Lib.compareBytes z y < 0) : Lib.compareBytes x z < 0 := by
 by_cases h : Lib.compareBytes y z < 0
 ·exact Yc h1 h
 ·have := vX y z
  have hz : Lib.compareBytes y z = 0 := by omega
  rw [<- kM hz]; exact h1
theorem Js : ∀ (l : List (List UInt8)) (p : List UInt8), YC (p :: l) → SA (p :: kb p l) ∧ ∀ x, x ∈ p :: kb p l ↔ x ∈ p :: l
 | [], p, _ => ⟨List.pairwise_singleton _ _, fun x => Iff.rfl⟩
 | y :: l, p, h => by
  have c := List.pairwise_cons.1 h
  have c2 := List.pairwise_cons.1 c.2
  rw [kb]
  by_cases e : y = p
  ·subst e
   rw [if_pos rfl]
   obtain ⟨h1, h2⟩ := Js l y c.2
   exact ⟨h1, fun x => by rw [h2]; simp⟩
  ·rw [if_neg e]
   obtain ⟨h1, h2⟩ := Js l y c.2
   have hpy : Lib.compareBytes p y < 0 := by
    have := c.1 y List.mem_cons_self
    have hn := vX p y
    by_cases h0 : Lib.compareBytes p y = 0
    ·exact absurd (kM h0).symm e
    ·omega
   refine ⟨List.pairwise_cons.2 ⟨fun z hz => ?_, h1⟩, fun x => ?_⟩
   ·rcases List.mem_cons.1 ((h2 z).1 hz) with rfl | hz
    ·exact hpy
    ·exact Mg hpy (c2.1 z hz)
   ·have := h2 x
    simp only [List.mem_cons] at this ⊢
    rw [this]
def wd (ts : List (List UInt8)) : List (List UInt8) := Yw (wR ts)
theorem kC (ts : List (List UInt8)) : SA (wd ts) ∧ ∀ x, x ∈ wd ts ↔ x ∈ ts := by
 have hp := jM ts
 have hs := WM ts
 unfold wd
 generalize wR ts = l at hp hs
 cases l with
 | nil => exact ⟨List.Pairwise.nil, fun x => hp.mem_iff⟩
 | cons y l =>
  obtain ⟨h1, h2⟩ := Js l y hs
  exact ⟨h1, fun x => (h2 x).trans hp.mem_iff⟩
theorem Jt {a b : List (List UInt8)} (h : ∀ x, x ∈ a ↔ x ∈ b) : wd a = wd b := WG (kC a).1 (kC b).1 fun x => ((kC a).2 x).trans ((h x).trans ((kC b).2 x).symm)
theorem X3 {x : List UInt8} : ∀ (l : List (List UInt8)) (b : Bool), (∀ y, y ∈ y6 x b l → y = x ∨ y ∈ l) ∧ (∀ y ∈ l, y ≠ x → y ∈ y6 x b l) ∧ (b = false → x ∈ y6 x b l)
 | [], true => ⟨fun y h => by simp [y6] at h, by simp, by simp⟩
 | [], false => ⟨fun y h => by simp [y6] at h; exact .inl h, by simp, by simp [y6]⟩
 | y :: r, true => by
  obtain ⟨h1, h2, _⟩ := X3 (x := x) r true
  rw [y6]
  split
  ·rename_i c
   exact ⟨fun z hz => (h1 z hz).imp_right (List.mem_cons_of_mem _), fun z hz hne => by
    rcases List.mem_cons.1 hz with rfl | hz
    ·exact absurd (kM c).symm hne
    ·exact h2 z hz hne, by simp⟩
  ·exact ⟨fun z hz => by
    rcases List.mem_cons.1 hz with rfl | hz
    ·exact .inr List.mem_cons_self
    ·exact (h1 z hz).imp_right (List.mem_cons_of_mem _), fun z hz hne => by
    rcases List.mem_cons.1 hz with rfl | hz
    ·exact List.mem_cons_self
    ·exact List.mem_cons_of_mem _ (h2 z hz hne), by simp⟩
 | y :: r, false => by
  obtain ⟨h1, h2, _⟩ := X3 (x := x) r true
  obtain ⟨g1, g2, g3⟩ := X3 (x := x) r false
  rw [y6]
  split
  ·refine ⟨fun z hz => ?_, fun z hz hne => ?_, fun _ => List.mem_cons_self⟩
   ·rcases List.mem_cons.1 hz with rfl | hz
    ·exact .inl rfl
    ·split at hz
     ·exact (h1 z hz).imp_right (List.mem_cons_of_mem _)
     ·rcases List.mem_cons.1 hz with rfl | hz
      ·exact .inr List.mem_cons_self
      ·exact (h1 z hz).imp_right (List.mem_cons_of_mem _)
   ·refine List.mem_cons_of_mem _ ?_
    split
    ·rename_i c
     rcases List.mem_cons.1 hz with rfl | hz
     ·exact absurd (kM c).symm hne
     ·exact h2 z hz hne
    ·rcases List.mem_cons.1 hz with rfl | hz
     ·exact List.mem_cons_self
     ·exact List.mem_cons_of_mem _ (h2 z hz hne)
  ·refine ⟨fun z hz => ?_, fun z hz hne => ?_, fun e => List.mem_cons_of_mem _ (g3 e)⟩
   ·rcases List.mem_cons.1 hz with rfl | hz
    ·exact .inr List.mem_cons_self
    ·exact (g1 z hz).imp_right (List.mem_cons_of_mem _)
   ·rcases List.mem_cons.1 hz with rfl | hz
    ·exact List.mem_cons_self
    ·exact List.mem_cons_of_mem _ (g2 z hz hne)
theorem TN {x : List UInt8} (l : List (List UInt8)) (y : List UInt8) : y ∈ y6 x false l ↔ y = x ∨ y ∈ l := by
 obtain ⟨h1, h2, h3⟩ := X3 (x := x) l false
 refine ⟨h1 y, fun h => ?_⟩
 by_cases e : y = x
 ·subst e; exact h3 rfl
 ·exact h2 y (h.resolve_left e) e
theorem X4 {x : List UInt8} : ∀ (l : List (List UInt8)), SA l → (∀ z ∈ l, Lib.compareBytes x z < 0) → y6 x true l = l
 | [], _, _ => rfl
 | y :: r, h, hx => by
  have hy := hx y List.mem_cons_self
  rw [y6, if_neg (by omega), X4 r (List.pairwise_cons.1 h).2 fun z hz => hx z (List.mem_cons_of_mem _ hz)]
theorem UA {x : List UInt8} : ∀ (l : List (List UInt8)), SA l → SA (y6 x false l)
 | [], _ => List.pairwise_singleton _ _
 | y :: r, h => by
  have c := List.pairwise_cons.1 h
  rw [y6]
  split
  ·rename_i hle
   split
   ·rename_i c0
    have e := kM c0
    subst e
    rw [X4 r c.2 c.1]
    exact h
   ·have hxy : Lib.compareBytes x y < 0 := by omega
    have hr : ∀ z ∈ r, Lib.compareBytes x z < 0 := fun z hz => Yc hxy (c.1 z hz)
    rw [X4 r c.2 hr]
    exact List.pairwise_cons.2 ⟨fun z hz => by
     rcases List.mem_cons.1 hz with rfl | hz
     ·exact hxy
     ·exact hr z hz, h⟩
  ·rename_i hle
   refine List.pairwise_cons.2 ⟨fun z hz => ?_, UA r c.2⟩
   rcases (TN r z).1 hz with rfl | hz
   ·have := vX z y; omega
   ·exact c.1 z hz
def fU (acc ts : List (List UInt8)) : List (List UInt8) := ts.foldl (fun acc x => y6 x false acc) acc
theorem M9 : ∀ (ts acc : List (List UInt8)), SA acc → SA (fU acc ts) ∧ ∀ x, x ∈ fU acc ts ↔ x ∈ acc ∨ x ∈ ts
 | [], acc, h => ⟨h, fun x => by simp [fU]⟩
 | t :: ts, acc, h => by
  obtain ⟨h1, h2⟩ := M9 ts (y6 t false acc) (UA acc h)
  refine ⟨h1, fun x => (h2 x).trans ?_⟩
  rw [TN, List.mem_cons]
  constructor
  ·rintro ((h | h) | h)
   ·exact .inr (.inl h)
   ·exact .inl h
   ·exact .inr (.inr h)
  ·rintro (h | h | h)
   ·exact .inl (.inr h)
   ·exact .inl (.inl h)
   ·exact .inr h
theorem Mh (ts : List (List UInt8)) : fU [] ts = wd ts := by
 obtain ⟨h1, h2⟩ := M9 ts [] List.Pairwise.nil
 exact WG h1 (kC ts).1 fun x => (h2 x).trans (by simp [(kC ts).2 x])
/-! #### names -/
mutual
def nmX : GExpr → List (List UInt8)
 | .mk kd _ s _ l => (if kd = 7 then [s] else []) ++ wV l
def wV : List GExpr → List (List UInt8)
 | [] => []
 | v :: l => nmX v ++ wV l
end
theorem TO (v : GExpr) : nmX v = (if v.Kind = 7 then [v.S] else []) ++ wV v.Kids := by
 cases v
 simp only [nmX, GExpr.Kind, GExpr.S, GExpr.Kids]
 congr
mutual
theorem vC : ∀ v : GExpr, (nmX v).length <= 1 + xsz v
 | .mk kd _ s k l => by
  have := TP l
  simp only [nmX, xsz, List.length_append]
  split <;> simp only [List.length_cons, List.length_nil] <;> omega
theorem TP : ∀ l : List GExpr, (wV l).length <= zB l
 | [] => Nat.le_refl _
 | v :: l => by
  have := vC v
  have := TP l
  simp only [wV, zB, List.length_append]
  omega
end
theorem ZX {x : List UInt8} : ∀ (l : List (List UInt8)) (b : Bool), (y6 x b l).length <= l.length + flU b
 | [], true => Nat.le_refl _
 | [], false => Nat.le_refl _
 | y :: r, true => by
  have := ZX (x := x) r true
  rw [y6]
  simp only [flU] at this ⊢
  split <;> simp only [List.length_cons] <;> omega
 | y :: r, false => by
  have h1 := ZX (x := x) r true
  have h2 := ZX (x := x) r false
  rw [y6]
  simp only [flU] at h1 h2 ⊢
  split
  ·split <;> simp only [List.length_cons] <;> omega
  ·simp only [List.length_cons]; omega
theorem Km : ∀ (ts acc : List (List UInt8)), (fU acc ts).length <= acc.length + ts.length
 | [], _ => Nat.le_refl _
 | t :: ts, acc => by
  have h1 := Km ts (y6 t false acc)
  have h2 := ZX (x := t) acc false
  simp only [flU] at h2
  show (fU (y6 t false acc) ts).length <= _
  simp only [List.length_cons]
  omega
theorem TQ (a b acc : List (List UInt8)) : fU acc (a ++ b) = fU (fU acc a) b := by unfold fU; rw [List.foldl_append]
theorem Hn {acc : List (List UInt8)} {x : List UInt8} (h : acc.length <= 2 ^ 38) : wM acc x = some (y6 x false acc) := if_pos h
theorem OG : ∀ (N : Nat) (v : GExpr), xsz v < N → xsz v <= 2 ^ 20 → ∀ (f : Nat) (acc : List (List UInt8)), xsz v + 2 <= f → acc.length + xsz v + 1 <= 2 ^ 38 → yj f v 7 acc = some (fU acc (nmX v)) := by
 intro N
 induction N with
 | zero => intro v hv; omega
 | succ N ih =>
  intro v hv hs f acc hf hb
  obtain ⟨f, rfl, hf'⟩ : ∃ n, f = n + 1 ∧ xsz v + 1 <= n := ⟨f - 1, by omega, by omega⟩
  have he := w5 v
  have hk := zX v.Kids
  have loop : ∀ (l p : List GExpr) (acc : List (List UInt8)) (m : Nat), v.Kids = p ++ l → l.length < m → acc.length + zB l <= 2 ^ 38 → yN (yj f) 7 v m acc (p.length : Int) = some (fU acc (wV l)) := by
   intro l
   induction l with
   | nil =>
    intro p acc m hp hm _
    obtain ⟨m, rfl, _⟩ := zl hm
    rw [yN, hp, List.append_nil, if_neg (by omega)]; rfl
   | cons x l ihl =>
    intro p acc m hp hm hb
    obtain ⟨m, rfl, hm'⟩ := zl hm
    have hlen : v.Kids.length = p.length + (l.length + 1) := by rw [hp]; simp
    have hx := yy (l := v.Kids) (v := x) (by rw [hp]; simp)
    simp only [zB] at hb
    have hl2 := Km (nmX x) acc
    have hl3 := vC x
    rw [yN, if_pos (by omega), zu, Option.bind_some, show v.Kids[p.length]? = some x by rw [hp]; exact xn p x l, Option.bind_some, ih x (by omega) (by omega) f acc (by omega) (by omega), Option.bind_some, wt p x (by omega), ihl (p ++ [x]) _ m (by rw [hp]; simp) (by simp only [List.length_cons] at hm'; omega) (by omega), wV, TQ]
  rw [show yj (f + 1) v 7 acc = jF (yj f) f v 7 acc from rfl]
  unfold jF
  rw [TO]
  by_cases k7 : v.Kind = 7
  ·have hl := ZX (x := v.S) acc false
   simp only [flU] at hl
   have := loop v.Kids [] (y6 v.S false acc) f rfl (by omega) (by omega)
   simp only [List.length_nil, Int.natCast_zero] at this
   rw [if_pos k7, if_pos k7, Hn (by omega), Option.bind_some, this, Option.bind_some]; rfl
  ·have := loop v.Kids [] acc f rfl (by omega) (by omega)
   simp only [List.length_nil, Int.natCast_zero] at this
   rw [if_neg k7, if_neg k7, this, Option.bind_some, List.nil_append]
theorem WH : ∀ (l : List (List UInt8)) (p : List UInt8), (kb p l).length <= l.length
 | [], _ => Nat.le_refl _
 | y :: l, p => by
  rw [kb]
  split
  ·exact Nat.le_trans (WH l p) (Nat.le_succ _)
  ·exact Nat.succ_le_succ (WH l y)
theorem Y7 (ts : List (List UInt8)) : (wd ts).length <= ts.length := by
 have hp := (jM ts).length_eq
 unfold wd
 generalize wR ts = l at hp
 cases l with
 | nil => exact Nat.zero_le _
 | cons y l => rw [<- hp]; exact Nat.succ_le_succ (WH l y)
theorem Vw {l : List GExpr} {v : GExpr} (h : v ∈ l) : ptX v <= zP l := by
 induction l with
 | nil => cases h
 | cons e l ih =>
  simp only [zP]
  rcases List.mem_cons.1 h with rfl | h
  ·omega
  ·have := ih h; omega
mutual
theorem OH : ∀ v : GExpr, (nmX v).length <= ptX v
 | .mk kd _ s k l => by
  have := UB l
  simp only [nmX, ptX, List.length_append]
  split <;> simp only [List.length_cons, List.length_nil] <;> omega
theorem UB : ∀ l : List GExpr, (wV l).length <= zP l
 | [] => Nat.le_refl _
 | v :: l => by
  have := OH v
  have := UB l
  simp only [wV, zP, List.length_append]
  omega
end
def vD : List GExpr → List (List UInt8)
 | [] => []
 | v :: l => wd (nmX v) ++ vD l
theorem X5 (x : List UInt8) : ∀ l : List GExpr, x ∈ vD l ↔ x ∈ wV l
 | [] => Iff.rfl
 | v :: l => by rw [vD, wV, List.mem_append, List.mem_append, (kC (nmX v)).2 x, X5 x l]
theorem Mi : ∀ l : List GExpr, (vD l).length <= zB l
 | [] => Nat.le_refl _
 | v :: l => by
  have h1 := Y7 (nmX v)
  have h2 := vC v
  have h3 := Mi l
  simp only [vD, zB, List.length_append]
  omega
theorem Vx : ∀ l : List GExpr, (vD l).length <= zP l
 | [] => Nat.le_refl _
 | v :: l => by
  have h1 := Y7 (nmX v)
  have h2 := OH v
  have h3 := Vx l
  simp only [vD, zP, List.length_append]
  omega
theorem WI {l : List (List UInt8)} (h : l.length <= 1048576) : ((yc l).bind fun r => (zW r).bind fun r => some r) = some (wd l) := by
 unfold yc zW
 rw [if_pos h, Option.bind_some, if_pos (by rw [(jM l).length_eq]; exact h)]
 rfl
theorem Nu : ∀ (N : Nat) (v : GExpr), xsz v < N → xsz v <= 2 ^ 20 → ptX v <= 2 ^ 19 → ∀ f : Nat, xsz v + 2 <= f → zU f v 7 = some (wd (nmX v)) := by
 intro N
 induction N with
 | zero => intro v hv; omega
 | succ N ih =>
  intro v hv hs hp f hf
  obtain ⟨f, rfl, hf'⟩ : ∃ n, f = n + 1 ∧ xsz v + 1 <= n := ⟨f - 1, by omega, by omega⟩
  have he := w5 v
  have hk := zX v.Kids
  have hpe := Kp v
  have loop : ∀ (l p : List GExpr) (acc : List (List UInt8)) (m : Nat), v.Kids = p ++ l → l.length < m → acc.length + zB l <= 2 ^ 38 → ∃ z, yp (zU f) 7 v.Kids (v.Kids.length : Int) m (p.length : Int) acc = some (z, acc ++ vD l) := by
   intro l
   induction l with
   | nil =>
    intro p acc m hpp hm _
    obtain ⟨m, rfl, _⟩ := zl hm
    exact ⟨_, by rw [yp, hpp, List.append_nil, if_neg (by omega), vD, List.append_nil]⟩
   | cons x l ihl =>
    intro p acc m hpp hm hb
    obtain ⟨m, rfl, hm'⟩ := zl hm
    have hlen : v.Kids.length = p.length + (l.length + 1) := by rw [hpp]; simp
    have hx := yy (l := v.Kids) (v := x) (by rw [hpp]; simp)
    simp only [zB] at hb
    have hq := Vw (l := v.Kids) (v := x) (by rw [hpp]; simp)
    have h1 := Y7 (nmX x)
    have h2 := vC x
    obtain ⟨z, hz⟩ := ihl (p ++ [x]) (acc ++ wd (nmX x)) m (by rw [hpp]; simp) (by simp only [List.length_cons] at hm'; omega) (by rw [List.length_append]; omega)
    refine ⟨z, ?_⟩
    rw [yp, if_pos (by omega), zu, Option.bind_some, show v.Kids[p.length]? = some x by rw [hpp]; exact xn p x l, Option.bind_some, ih x (by omega) (by omega) (by omega) f (by omega), Option.bind_some, if_pos (qu (by decide) (by omega)), wt p x (by omega), hz, vD, List.append_assoc]
  have hcl := Vx v.Kids
  rw [show zU (f + 1) v 7 = wZ (zU f) f v 7 from rfl]
  unfold wZ k6
  by_cases k7 : v.Kind = 7
  ·obtain ⟨z, hz⟩ := loop v.Kids [] [v.S] f rfl (by omega) (by simp only [List.length_cons, List.length_nil]; omega)
   simp only [List.length_nil, Int.natCast_zero] at hz
   rw [if_pos k7, if_pos (qu (by decide) (by omega)), Option.bind_some, if_pos (qu (by decide) (by simp)), hz, Option.bind_some]
   dsimp only
   rw [WI (by simp only [List.length_append, List.length_cons, List.length_nil]; omega)]
   congr 1
   refine Jt fun x => ?_
   rw [TO, if_pos k7, List.mem_append, List.mem_append, X5]
  ·obtain ⟨z, hz⟩ := loop v.Kids [] [] f rfl (by omega) (by simp only [List.length_nil]; omega)
   simp only [List.length_nil, Int.natCast_zero, List.nil_append] at hz
   rw [if_neg k7, hz, Option.bind_some]
   dsimp only
   rw [WI (by omega)]
   congr 1
   refine Jt fun x => ?_
   rw [TO, if_neg k7, List.nil_append, X5]
/-! #### items -/
theorem OI {x : GItem} (hs : bsz x.Names <= 2 ^ 20) : ∀ (d i m : Nat), i + d = x.Names.length → d < m → ∃ z, y8 x.Names (x.Names.length : Int) x m (i : Int) = some (if xo x.Names i d = true then .inr z else .inl false) := by
 have hl := qq x.Names
 intro d
 induction d with
 | zero =>
  intro i m hi hm
  obtain ⟨m, rfl, _⟩ := zl hm
  exact ⟨_, by rw [y8, if_neg (by omega)]; rfl⟩
 | succ d ih =>
  intro i m hi hm
  obtain ⟨m, rfl, hm'⟩ := zl hm
  have hil : i < x.Names.length := by omega
  have hx := vG (List.getElem_mem hil)
  rw [y8, if_pos (by omega), zu, Option.bind_some, zo hil, Option.bind_some, Y3 (by omega), Option.bind_some, yb (by omega), qw]
  obtain ⟨z, hz⟩ := ih (i + 1) m (by omega) (by omega)
  cases hnm : y5 x.Names[i] with
  | false =>
   refine ⟨0, ?_⟩
   have : kOk x.Names i = false := by
    by_cases h0 : i = 0
    ·subst h0; rw [jx hil, hnm]
    ·rw [qO hil (by omega), hnm]; rfl
   rw [this]; rfl
  | true =>
   dsimp only
   by_cases h0 : 0 < i
   ·rw [if_pos (by omega), ZL (by omega) h0, zu, Option.bind_some, zo (show i - 1 < x.Names.length by omega), Option.bind_some, U8, Option.bind_some]
    by_cases hb : Op.bytesLess (x.Names[i - 1]'(by omega)) x.Names[i] = true
    ·rw [if_neg (by rw [ZY]; exact fun h => h hb), qO hil h0, hnm, hb]
     exact ⟨z, hz⟩
    ·rw [if_pos (by rw [ZY]; exact hb), qO hil h0, hnm, show Op.bytesLess (x.Names[i - 1]'(by omega)) x.Names[i] = false by simpa using hb]
     exact ⟨0, rfl⟩
   ·have : i = 0 := by omega
    subst this
    rw [if_neg (by omega), jx hil, hnm]
    exact ⟨z, hz⟩
def vo : Int ⊕ (Int × Int) → Int
 | .inl z => z
 | .inr p => p.1
theorem OJ {v : GExpr} {r : Int} (h : xsz v <= 2 ^ 20) (h0 : 0 <= r) (h1 : r <= 150) : yB v 1 r = some (okX 10 r v) := by
 unfold yB
 rw [if_pos ⟨h, ⟨by decide, by decide⟩, h0, h1⟩]
 rfl
theorem OK {x : GItem} (hs : zB x.Exprs <= 2 ^ 20) (hn : bsz x.Names <= 2 ^ 20) (hk : ¬ x.Kind = 1 ∨ (x.Kind = 1 ∧ x.Names.length = x.Exprs.length)) : ∀ (d i m : Nat) (r : Int), i + d = x.Exprs.length → d < m → r <= 150 →
  ∃ o, zO x m r (i : Int) = some o ∧ (0 <= vo o ↔ 0 <= r ∧ (x.Kind = 1 → xo x.Names i d = true) ∧ (x.Exprs.drop i).all (frX 10) = true ∧ (zP (x.Exprs.drop i) : Int) <= r) := by
 have hl := zX x.Exprs
 intro d
 induction d with
 | zero =>
  intro i m r hi hm h1
  obtain ⟨m, rfl, _⟩ := zl hm
  refine ⟨_, by rw [zO, if_neg (by omega)], ?_⟩
  rw [List.drop_eq_nil_of_le (by omega)]
  show 0 <= r ↔ _
  constructor
  ·intro h; exact ⟨h, fun _ => rfl, rfl, by simpa [zP] using h⟩
  ·exact fun h => h.1
 | succ d ih =>
  intro i m r hi hm h1
  obtain ⟨m, rfl, hm'⟩ := zl hm
  have hil : i < x.Exprs.length := by omega
  have hx := yy (List.getElem_mem hil)
  rw [zO, if_pos (by omega)]
  by_cases h0 : 0 <= r
  ·rw [if_pos h0]
   have hp : zP (x.Exprs.drop i) = ptX x.Exprs[i] + zP (x.Exprs.drop (i + 1)) := by rw [yR hil]; simp only [zP]
   have ha : (x.Exprs.drop i).all (frX 10) = (frX 10 x.Exprs[i] && (x.Exprs.drop (i + 1)).all (frX 10)) := by rw [yR hil, List.all_cons]
   have tail : (x.Kind = 1 → kOk x.Names i = true) → ∃ o, ((yB x.Exprs[i] 1 r).bind fun r12 => zO x m r12 (w64 ((i : Int) + 1))) = some o ∧
     (0 <= vo o ↔ 0 <= r ∧ (x.Kind = 1 → xo x.Names i (d + 1) = true) ∧ (x.Exprs.drop i).all (frX 10) = true ∧ (zP (x.Exprs.drop i) : Int) <= r) := by
    intro hki
    have hox : okX 10 r x.Exprs[i] <= 150 := by unfold okX; split <;> omega
    obtain ⟨o, h2, h3⟩ := ih (i + 1) m (okX 10 r x.Exprs[i]) (by omega) (by omega) hox
    refine ⟨o, by rw [OJ (by omega) h0 h1, Option.bind_some, yb (by omega), h2], h3.trans ?_⟩
    rw [ha, hp]
    have hka : (x.Kind = 1 → xo x.Names (i + 1) d = true) ↔ (x.Kind = 1 → xo x.Names i (d + 1) = true) := by
     constructor
     ·intro h hk; rw [qw, hki hk, h hk]; rfl
     ·intro h hk; have := h hk; rw [qw, hki hk, Bool.true_and] at this; exact this
    rw [hka]
    unfold okX
    by_cases hc : frX 10 x.Exprs[i] = true ∧ (ptX x.Exprs[i] : Int) <= r
    ·rw [if_pos hc, hc.1, Bool.true_and]
     constructor
     ·rintro ⟨q1, q2, q3, q4⟩; exact ⟨h0, q2, q3, by omega⟩
     ·rintro ⟨q1, q2, q3, q4⟩; exact ⟨by omega, q2, q3, by omega⟩
    ·rw [if_neg hc]
     constructor
     ·rintro ⟨q1, _⟩; omega
     ·rintro ⟨_, _, q3, q4⟩
      rw [Bool.and_eq_true] at q3
      exact absurd ⟨q3.1, by omega⟩ hc
   have bad : x.Kind = 1 → kOk x.Names i = false → ∃ o, (some (.inl (-1)) : Option (Int ⊕ (Int × Int))) = some o ∧ (0 <= vo o ↔ 0 <= r ∧ (x.Kind = 1 → xo x.Names i (d + 1) = true) ∧ (x.Exprs.drop i).all (frX 10) = true ∧ (zP (x.Exprs.drop i) : Int) <= r) := by
    intro hk hki
    refine ⟨_, rfl, ?_⟩
    constructor
    ·intro h; exact absurd h (by decide)
    ·rintro ⟨_, q, _⟩
     have := q hk
     rw [qw, hki] at this
     cases this
   rcases hk with hk | ⟨hk, hkl⟩
   ·rw [if_neg hk, zu, Option.bind_some, zo hil, Option.bind_some]
    exact tail fun h => (hk h).elim
   ·have hin : i < x.Names.length := by omega
    have hxn := vG (List.getElem_mem hin)
    rw [if_pos hk, zu, Option.bind_some, zo hin, Option.bind_some, Yz (by omega), Option.bind_some]
    cases hnm : y5 x.Names[i] with
    | false =>
     refine bad hk ?_
     by_cases h0 : i = 0
     ·subst h0; rw [jx hin, hnm]
     ·rw [qO hin (by omega), hnm]; rfl
    | true =>
     dsimp only
     by_cases i0 : 0 < i
     ·rw [if_pos (by omega), ZL (by omega) i0, zu, Option.bind_some, zo (show i - 1 < x.Names.length by omega), Option.bind_some]
      by_cases hb : Op.bytesLess (x.Names[i - 1]'(by omega)) x.Names[i] = true
      ·rw [if_pos hb, zo hil, Option.bind_some]
       exact tail fun _ => by rw [qO hin i0, hnm, hb]; rfl
      ·rw [if_neg hb]
       exact bad hk (by rw [qO hin i0, hnm, show Op.bytesLess (x.Names[i - 1]'(by omega)) x.Names[i] = false by simpa using hb]; rfl)
     ·have : i = 0 := by omega
      subst this
      rw [if_neg (by omega), zo hil, Option.bind_some]
      exact tail fun _ => by rw [jx hin, hnm]
  ·rw [if_neg h0]
   refine ⟨_, rfl, ?_⟩
   constructor
   ·intro h; exact absurd h h0
   ·rintro ⟨q, _⟩; exact absurd q h0
def wJ (v : GExpr) : Bool := decide (v.Kind = 0 ∧ v.N = 0 ∧ v.S.length = 0 ∧ v.K.length = 0 ∧ v.Kids.length = 0)
theorem Kn (v : GExpr) : (if v.Kind = 0 then if v.N = 0 then if (v.S.length : Int) = 0 then if (v.K.length : Int) = 0 then some (decide ((v.Kids.length : Int) = 0)) else some false else some false else some false else some false) = some (wJ v) := by
 unfold wJ
 by_cases a : v.Kind = 0
 ·by_cases b : v.N = 0
  ·by_cases c : v.S.length = 0
   ·by_cases d : v.K.length = 0
    ·by_cases e : v.Kids.length = 0 <;> simp [a, b, c, d, e]
    ·simp [a, b, c, d]
   ·simp [a, b, c]
  ·simp [a, b]
 ·simp [a]
theorem VT (v : GExpr) : kg v = some (wJ v) := Kn v
theorem OL (v : GExpr) : jR v = some (wJ v) := Kn v
structure ItB (x : GItem) : Prop where
 k : 0 <= x.Kind ∧ x.Kind <= 2
 nm : (y5 x.Name && !ko x.Name) = true
 le : x.Exprs.length <= 6
 many : x.Kind = 1 → 0 <= x.Many ∧ x.Many <= 2 ∧ x.Names.length = x.Exprs.length
 one : x.Kind ≠ 1 → x.Many = 0 ∧ x.Names.length = 0 ∧ x.Exprs.length = 1
 zr : x.Many = 0 → wJ x.By = true
 keys : x.Kind = 1 → xo x.Names 0 x.Exprs.length = true
 ex : x.Exprs.all (frX 10) = true
 bf : x.Many ≠ 0 → frX 10 x.By = true
 p0 : x.Many = 0 → zP x.Exprs <= 150
 p1 : x.Many ≠ 0 → ptX x.By + zP x.Exprs <= 150
theorem vE {P : Prop} (h : ¬ P) : ∃ r : Int, some (-1) = some r ∧ (0 <= r ↔ P) := ⟨-1, rfl, ⟨fun h' => absurd h' (by decide), fun p => absurd p h⟩⟩
def isz (x : GItem) : Nat := x.Name.length + xsz x.By + bsz x.Names + zB x.Exprs
theorem Ho {x : GItem} (hz : isz x <= 2 ^ 20) : ∃ r, qI x 150 = some r ∧ (0 <= r ↔ ItB x) := by
 unfold isz at hz
 have run : ∀ r : Int, r <= 150 → (¬ x.Kind = 1 ∨ (x.Kind = 1 ∧ x.Names.length = x.Exprs.length)) → ∃ o, zO x (x.Exprs.length + 5) r 0 = some o ∧ (0 <= vo o ↔ 0 <= r ∧ (x.Kind = 1 → xo x.Names 0 x.Exprs.length = true) ∧ x.Exprs.all (frX 10) = true ∧ (zP x.Exprs : Int) <= r) := fun r hr hk => by
  have := OK (x := x) (by omega) (by omega) hk x.Exprs.length 0 (x.Exprs.length + 5) r (by omega) (by omega) hr
  simpa using this
 have fin : ∀ {o : Int ⊕ (Int × Int)} {P : Prop}, (0 <= vo o ↔ P) → (P ↔ ItB x) → ∃ r, (match o with | .inl z => some z | .inr (⟨a, b⟩) => some a : Option Int) = some r ∧ (0 <= r ↔ ItB x) := fun {o P} h1 h2 => ⟨vo o, by cases o with | inl z => rfl | inr p => cases p; rfl, h1.trans h2⟩
 unfold qI kh
 by_cases k0 : x.Kind < 0
 ·rw [if_pos k0]; exact vE fun h => by have := h.k; omega
 rw [if_neg k0]
 by_cases k2 : 2 < x.Kind
 ·rw [if_pos k2]; exact vE fun h => by have := h.k; omega
 rw [if_neg k2, VQ (by omega), Option.bind_some]
 cases hw : (y5 x.Name && !ko x.Name) with
 | false => exact vE fun h => by have := h.nm; rw [hw] at this; cases this
 | true =>
  dsimp only
  by_cases l6 : 6 < (x.Exprs.length : Int)
  ·rw [if_pos l6]; exact vE fun h => by have := h.le; omega
  rw [if_neg l6]
  by_cases k1 : x.Kind = 1
  ·rw [if_pos k1]
   by_cases m0 : x.Many < 0
   ·rw [if_pos m0]; exact vE fun h => by have := h.many k1; omega
   rw [if_neg m0]
   by_cases m2 : 2 < x.Many
   ·rw [if_pos m2]; exact vE fun h => by have := h.many k1; omega
   rw [if_neg m2]
   by_cases mz : x.Many = 0
   ·rw [if_pos mz, VT, Option.bind_some]
    cases hz0 : wJ x.By with
    | false => exact vE fun h => by have := h.zr mz; rw [hz0] at this; cases this
    | true =>
     dsimp only
     by_cases nl : (x.Names.length : Int) = (x.Exprs.length : Int)
     ·rw [if_pos nl]
      obtain ⟨o, h1, h2⟩ := run 150 (by decide) (.inr ⟨k1, by omega⟩)
      rw [h1, Option.bind_some]
      refine fin h2 ⟨fun ⟨_, q2, q3, q4⟩ => ⟨by omega, hw, by omega, fun _ => ⟨by omega, by omega, by omega⟩, fun h => absurd k1 h, fun _ => hz0, q2, q3, fun h => absurd mz h, fun _ => by omega, fun h => absurd mz h⟩, fun h => ⟨by decide, h.keys, h.ex, by have := h.p0 mz; omega⟩⟩
     ·rw [if_neg nl]; exact vE fun h => by have := h.many k1; omega
   ·rw [if_neg mz]
    by_cases nl : (x.Names.length : Int) = (x.Exprs.length : Int)
    ·rw [if_pos nl, OJ (by omega) (by decide) (by decide), Option.bind_some]
     have hox : okX 10 150 x.By <= 150 := by unfold okX; split <;> omega
     obtain ⟨o, h1, h2⟩ := run (okX 10 150 x.By) hox (.inr ⟨k1, by omega⟩)
     rw [h1, Option.bind_some]
     refine fin h2 ?_
     unfold okX
     by_cases hc : frX 10 x.By = true ∧ (ptX x.By : Int) <= 150
     ·rw [if_pos hc]
      exact ⟨fun ⟨_, q2, q3, q4⟩ => ⟨by omega, hw, by omega, fun _ => ⟨by omega, by omega, by omega⟩, fun h => absurd k1 h, fun h => absurd h mz, q2, q3, fun _ => hc.1, fun h => absurd h mz, fun _ => by omega⟩, fun h => ⟨by omega, h.keys, h.ex, by have := h.p1 mz; omega⟩⟩
     ·rw [if_neg hc]
      exact ⟨fun ⟨q, _⟩ => absurd q (by decide), fun h => absurd ⟨h.bf mz, by have := h.p1 mz; omega⟩ hc⟩
    ·rw [if_neg nl]; exact vE fun h => by have := h.many k1; omega
  ·rw [if_neg k1]
   by_cases mz : x.Many = 0
   ·rw [if_pos mz, VT, Option.bind_some]
    cases hz0 : wJ x.By with
    | false => exact vE fun h => by have := h.zr mz; rw [hz0] at this; cases this
    | true =>
     dsimp only
     by_cases nl : 0 < (x.Names.length : Int)
     ·rw [if_pos nl]; exact vE fun h => by have := h.one k1; omega
     ·rw [if_neg nl]
      by_cases el : (x.Exprs.length : Int) = 1
      ·rw [if_pos el]
       obtain ⟨o, h1, h2⟩ := run 150 (by decide) (.inl k1)
       rw [h1, Option.bind_some]
       refine fin h2 ⟨fun ⟨_, q2, q3, q4⟩ => ⟨by omega, hw, by omega, fun h => absurd h k1, fun _ => ⟨mz, by omega, by omega⟩, fun _ => hz0, q2, q3, fun h => absurd mz h, fun _ => by omega, fun h => absurd mz h⟩, fun h => ⟨by decide, h.keys, h.ex, by have := h.p0 mz; omega⟩⟩
      ·rw [if_neg el]; exact vE fun h => by have := h.one k1; omega
   ·rw [if_neg mz]; exact vE fun h => by have := h.one k1; omega
open Classical in
def exB (v : GExpr) : Bool := decide (frX 10 v = true ∧ (ptX v : Int) <= 150)
theorem Ju {v : GExpr} (h : xsz v <= 2 ^ 20) : wE v = some (exB v) := by
 unfold wE wN yh exB
 rw [if_pos ⟨h, by decide, by decide⟩, Option.bind_some]
 rw [show (10 : Int).toNat = 10 from rfl]
 cases hs : frX 10 v
 ·simp
 ·dsimp only
  rw [if_pos h, Option.bind_some]
  simp
theorem YT {v : GExpr} : exB v = true ↔ frX 10 v = true ∧ (ptX v : Int) <= 150 := by unfold exB; simp
theorem Qd {v : GExpr} (h : wJ v = true) : exB v = true := by
 have h := of_decide_eq_true h
 obtain ⟨h1, h2, h3, h4, h5⟩ := h
 cases v with
 | mk k n s kk l =>
  have e3 : s = [] := List.eq_nil_of_length_eq_zero h3
  have e4 : kk = [] := List.eq_nil_of_length_eq_zero h4
  have e5 : l = [] := List.eq_nil_of_length_eq_zero h5
  have e1 : k = 0 := h1
  have e2 : n = 0 := h2
  subst e1 e2 e3 e4 e5
  refine YT.2 ⟨?_, by decide⟩
  rw [ZR, Y0 (by unfold kD Zp; simp [arI, GExpr.Kind, GExpr.N, GExpr.S, GExpr.K, GExpr.Kids]) (by decide) (fun h => absurd h (by decide))]
  rfl
theorem OM {a : List GExpr} (ha : zB a <= 2 ^ 20) : ∀ (l p : List GExpr) (m : Nat), a = p ++ l → l.length < m → ∃ o, zC a (a.length : Int) m (p.length : Int) = some o ∧ (match o with | .inl z => 0 <= z ∧ l.all exB = false | .inr _ => l.all exB = true) := by
 have hl := zX a
 intro l
 induction l with
 | nil =>
  intro p m he hm
  obtain ⟨m, rfl, _⟩ := zl hm
  exact ⟨_, by rw [zC, he, List.append_nil, if_neg (by omega)], rfl⟩
 | cons x l ih =>
  intro p m he hm
  obtain ⟨m, rfl, hm'⟩ := zl hm
  have hlen : a.length = p.length + (l.length + 1) := by rw [he]; simp
  have hx := yy (l := a) (v := x) (by rw [he]; simp)
  obtain ⟨o, h1, h2⟩ := ih (p ++ [x]) m (by rw [he]; simp) (by simp only [List.length_cons] at hm'; omega)
  rw [zC, if_pos (by omega), zu, Option.bind_some, show a[p.length]? = some x by rw [he]; exact xn p x l, Option.bind_some]
  unfold ve
  rw [Ju (by omega), Option.bind_some, Option.bind_some, wt p x (by omega), List.all_cons]
  cases exB x with
  | true => exact ⟨o, h1, by simpa using h2⟩
  | false => exact ⟨_, rfl, by omega, rfl⟩
theorem Nv {a : List GExpr} (ha : zB a <= 2 ^ 20) : ye a = some (!a.all exB) := by
 unfold ye yo yn
 obtain ⟨o, h1, h2⟩ := OM ha a [] (a.length + 5) rfl (by omega)
 simp only [List.length_nil, Int.natCast_zero] at h1
 rw [h1, Option.bind_some]
 cases o with
 | inl z => dsimp only at h2 ⊢; rw [Option.bind_some, h2.2, decide_eq_true h2.1]; rfl
 | inr z => dsimp only at h2 ⊢; rw [Option.bind_some, h2]; rfl
theorem TR (a b c : Int) : wa a b c = some (decide (b <= a ∧ a <= c)) := by
 unfold wa
 by_cases h : b <= a
 ·rw [if_pos h]; simp [h]
 ·rw [if_neg h]; simp [h]
structure ImB (x : GItem) : Prop where
 k : 0 <= x.Kind ∧ x.Kind <= 2
 nm : (y5 x.Name && !ko x.Name) = true
 le : x.Exprs.length <= 6
 many : x.Kind = 1 → 0 <= x.Many ∧ x.Many <= 2 ∧ x.Names.length = x.Exprs.length
 one : x.Kind ≠ 1 → x.Many = 0 ∧ x.Names.length = 0 ∧ x.Exprs.length = 1
 zr : x.Many = 0 → wJ x.By = true
 keys : x.Kind = 1 → xo x.Names 0 x.Names.length = true
 ex : x.Exprs.all exB = true
 bf : exB x.By = true
theorem noB {P : Prop} (h : ¬ P) : ∃ r : Bool, some false = some r ∧ (r = true ↔ P) := ⟨false, rfl, ⟨fun h' => absurd h' (by decide), fun p => absurd p h⟩⟩
theorem Hp {x : GItem} (hz : isz x <= 2 ^ 20) : ∃ r, qL x = some r ∧ (r = true ↔ ImB x) := by
 unfold isz at hz
 obtain ⟨z, hkey⟩ := OI (x := x) (by omega) x.Names.length 0 (x.Names.length + 5) (by omega) (by omega)
 rw [show ((0 : Nat) : Int) = 0 from rfl] at hkey
 unfold qL kj
 rw [TR, Option.bind_some]
 by_cases kk : 0 <= x.Kind ∧ x.Kind <= 2
 ·rw [decide_eq_true kk]
  dsimp only
  rw [VR (by omega), Option.bind_some]
  cases hw : (y5 x.Name && !ko x.Name) with
  | false => exact noB fun h => by have := h.nm; rw [hw] at this; cases this
  | true =>
   dsimp only
   by_cases l6 : 6 < (x.Exprs.length : Int)
   ·rw [if_pos l6]; exact noB fun h => by have := h.le; omega
   rw [if_neg l6, Nv (by omega), Option.bind_some]
   cases hx : x.Exprs.all exB with
   | false => exact noB fun h => by have := h.ex; rw [hx] at this; cases this
   | true =>
    try dsimp only [Bool.not_true]
    by_cases mz : x.Many = 0
    ·rw [if_pos mz, OL, Option.bind_some]
     cases hz0 : wJ x.By with
     | false => exact noB fun h => by have := h.zr mz; rw [hz0] at this; cases this
     | true =>
      try dsimp only
      rw [Ju (by omega), Option.bind_some, Qd hz0]
      try dsimp only
      by_cases k1 : x.Kind = 1
      ·rw [if_pos k1, hkey, Option.bind_some]
       cases ha : xo x.Names 0 x.Names.length with
       | false => exact noB fun h => by have := h.keys k1; rw [ha] at this; cases this
       | true =>
        rw [if_pos rfl]
        try dsimp only
        rw [TR, Option.bind_some, decide_eq_true (p := 0 <= x.Many ∧ x.Many <= 2) (by omega)]
        refine ⟨_, rfl, ?_⟩
        rw [decide_eq_true_eq]
        exact ⟨fun h => ⟨kk, hw, by omega, fun _ => ⟨by omega, by omega, by omega⟩, fun h => absurd k1 h, fun _ => hz0, fun _ => ha, hx, Qd hz0⟩, fun h => by have := h.many k1; omega⟩
      ·rw [if_neg k1]
       by_cases el : (x.Exprs.length : Int) = 1
       ·rw [if_pos el]
        by_cases nl : (x.Names.length : Int) = 0
        ·rw [if_pos nl]
         exact ⟨true, rfl, fun _ => ⟨kk, hw, by omega, fun h => absurd h k1, fun _ => ⟨mz, by omega, by omega⟩, fun _ => hz0, fun h => absurd h k1, hx, Qd hz0⟩, fun _ => rfl⟩
        ·rw [if_neg nl]; exact noB fun h => by have := h.one k1; omega
       ·rw [if_neg el]; exact noB fun h => by have := h.one k1; omega
    ·rw [if_neg mz, Ju (by omega), Option.bind_some]
     cases hb : exB x.By with
     | false => exact noB fun h => by have := h.bf; rw [hb] at this; cases this
     | true =>
      try dsimp only
      by_cases k1 : x.Kind = 1
      ·rw [if_pos k1, hkey, Option.bind_some]
       cases ha : xo x.Names 0 x.Names.length with
       | false => exact noB fun h => by have := h.keys k1; rw [ha] at this; cases this
       | true =>
        rw [if_pos rfl]
        try dsimp only
        rw [TR, Option.bind_some]
        by_cases mm : 0 <= x.Many ∧ x.Many <= 2
        ·rw [decide_eq_true mm]
         refine ⟨_, rfl, ?_⟩
         rw [decide_eq_true_eq]
         exact ⟨fun h => ⟨kk, hw, by omega, fun _ => ⟨mm.1, mm.2, by omega⟩, fun h => absurd k1 h, fun h => absurd h mz, fun _ => ha, hx, hb⟩, fun h => by have := h.many k1; omega⟩
        ·rw [decide_eq_false mm]; exact noB fun h => mm ⟨(h.many k1).1, (h.many k1).2.1⟩
      ·rw [if_neg k1]
       by_cases el : (x.Exprs.length : Int) = 1
       ·rw [if_pos el]
        by_cases nl : (x.Names.length : Int) = 0
        ·rw [if_pos nl]; exact noB fun h => mz (h.one k1).1
        ·rw [if_neg nl]; exact noB fun h => mz (h.one k1).1
       ·rw [if_neg el]; exact noB fun h => mz (h.one k1).1
 ·rw [decide_eq_false kk]; exact noB fun h => kk h.k
theorem Mj {a : List GItem} {v2 v3 : Int} {x : GItem} (hs : zB x.Exprs <= 2 ^ 20) : ∀ (l p : List GExpr) (acc : Int) (m : Nat), x.Exprs = p ++ l → l.length < m → 0 <= acc → acc + zP l <= 2 ^ 40 →
  xi a v2 v3 x.Exprs (x.Exprs.length : Int) x m acc (p.length : Int) = some (acc + zP l, (x.Exprs.length : Int)) := by
 have hl := zX x.Exprs
 intro l
 induction l with
 | nil =>
  intro p acc m he hm _ _
  obtain ⟨m, rfl, _⟩ := zl hm
  rw [xi, he, List.append_nil, if_neg (by omega)]
  simp [zP]
 | cons e l ih =>
  intro p acc m he hm h0 h1
  obtain ⟨m, rfl, hm'⟩ := zl hm
  have hlen : x.Exprs.length = p.length + (l.length + 1) := by rw [he]; simp
  have hx := yy (l := x.Exprs) (v := e) (by rw [he]; simp)
  simp only [zP] at h1 ⊢
  rw [xi, if_pos (by omega), zu, Option.bind_some, show x.Exprs[p.length]? = some e by rw [he]; exact xn p e l, Option.bind_some, show yh e = some (((ptX e) : Nat) : Int) from if_pos (by omega), Option.bind_some, wt p e (by omega), xZ (x := acc + ((ptX e : Nat) : Int)) (by omega) (by omega), ih (p ++ [e]) _ m (by rw [he]; simp) (by simp only [List.length_cons] at hm'; omega) (by omega) (by omega)]
  congr 2
  omega
theorem Mk (x : GItem) : y4 [] x = some false := rfl
theorem Hq {x : GItem} (hz : isz x <= 2 ^ 20) : ∃ b, wO [x] = some b ∧ (b = true ↔ ItB x) := by
 obtain ⟨r, h1, h2⟩ := Hp hz
 unfold isz at hz
 unfold wO jc
 rw [if_neg (by simp)]
 have hN : x.Exprs.length + 6 <= [x].length + ([x].map fun x => x.Exprs.length).sum + 5 := by simp; omega
 generalize [x].length + ([x].map fun x => x.Exprs.length).sum + 5 = N at hN
 have hfu : ∀ m i v, 1 <= i → y9 N [x] (([x].length : Nat) : Int) (m + 1) v i = some (.inr (v, i)) := fun m i v hi => by
  rw [y9, if_neg (by simp; omega)]
 obtain ⟨M, rfl⟩ : ∃ M, N = M + 2 := ⟨N - 2, by omega⟩
 have hl := zX x.Exprs
 have hp1 := Qf x.Exprs
 have hp2 := OS x.By
 have hsum := Mj (a := [x]) (v2 := (([x].length : Nat) : Int)) (v3 := 0) (x := x) (by omega) x.Exprs [] 0 (M + 2) rfl (by omega) (by decide) (by omega)
 simp only [List.length_nil, Int.natCast_zero] at hsum
 rw [y9, if_pos (by simp), show zT 0 = some 0 from rfl, Option.bind_some, show [x][0]? = some x from rfl, Option.bind_some, h1, Option.bind_some]
 cases r with
 | false =>
  refine ⟨false, rfl, ⟨fun h => absurd h (by decide), fun h => ?_⟩⟩
  refine h2.2 ⟨h.k, h.nm, h.le, h.many, h.one, h.zr, fun hk => ?_, ?_, ?_⟩
  ·rw [(h.many hk).2.2]; exact h.keys hk
  ·refine List.all_eq_true.2 fun e he => YT.2 ⟨List.all_eq_true.1 h.ex e he, ?_⟩
   have := Vw he
   by_cases mz : x.Many = 0
   ·have := h.p0 mz; omega
   ·have := h.p1 mz; omega
  ·by_cases mz : x.Many = 0
   ·exact Qd (h.zr mz)
   ·exact YT.2 ⟨h.bf mz, by have := h.p1 mz; omega⟩
 | true =>
  have hI := h2.1 rfl
  have hex : x.Exprs.all (frX 10) = true := List.all_eq_true.2 fun e he => (YT.1 (List.all_eq_true.1 hI.ex e he)).1
  have hkeys : x.Kind = 1 → xo x.Names 0 x.Exprs.length = true := fun hk => by rw [<- (hI.many hk).2.2]; exact hI.keys hk
  dsimp only
  rw [show kY [x] none (some 0) = some [] from rfl, Option.bind_some, Mk, Option.bind_some]
  dsimp only
  rw [hsum, Option.bind_some]
  dsimp only
  by_cases mz : x.Many = 0
  ·rw [if_pos mz, show w64 (0 + 1) = 1 from by decide, hfu _ _ _ (by decide), Option.bind_some]
   refine ⟨_, rfl, ?_⟩
   rw [decide_eq_true_eq]
   exact ⟨fun h => ⟨hI.k, hI.nm, hI.le, hI.many, hI.one, hI.zr, hkeys, hex, fun h => absurd mz h, fun _ => by omega, fun h => absurd mz h⟩, fun h => by have := h.p0 mz; omega⟩
  ·rw [if_neg mz, show yh x.By = some (((ptX x.By) : Nat) : Int) from if_pos (by omega), Option.bind_some, show w64 (0 + 1) = 1 from by decide, hfu _ _ _ (by decide), Option.bind_some, xZ (by omega) (by omega)]
   refine ⟨_, rfl, ?_⟩
   rw [decide_eq_true_eq]
   exact ⟨fun h => ⟨hI.k, hI.nm, hI.le, hI.many, hI.one, hI.zr, hkeys, hex, fun _ => (YT.1 hI.bf).1, fun h => absurd h mz, fun _ => by omega⟩, fun h => by have := h.p1 mz; omega⟩
/-! #### what an item names -/
theorem TS {v : GExpr} {acc : List (List UInt8)} (hs : xsz v <= 2 ^ 20) (hb : acc.length + xsz v + 1 <= 2 ^ 38) : ql v 7 acc = some (fU acc (nmX v)) := OG _ v (Nat.lt_succ_self _) hs _ acc (by omega) hb
theorem Ml {v : GExpr} (hs : xsz v <= 2 ^ 20) (hp : ptX v <= 2 ^ 19) : qf v 7 = some (wd (nmX v)) := Nu _ v (Nat.lt_succ_self _) hs hp _ (by omega)
theorem GS {x : GItem} (hs : zB x.Exprs <= 2 ^ 20) : ∀ (l p : List GExpr) (acc : List (List UInt8)) (m : Nat), x.Exprs = p ++ l → l.length < m → acc.length + zB l <= 2 ^ 38 → xz x m acc (p.length : Int) = some (fU acc (wV l)) := by
 have hl := zX x.Exprs
 intro l
 induction l with
 | nil =>
  intro p acc m hp hm _
  obtain ⟨m, rfl, _⟩ := zl hm
  rw [xz, hp, List.append_nil, if_neg (by omega)]; rfl
 | cons e l ihl =>
  intro p acc m hp hm hb
  obtain ⟨m, rfl, hm'⟩ := zl hm
  have hlen : x.Exprs.length = p.length + (l.length + 1) := by rw [hp]; simp
  have hx := yy (l := x.Exprs) (v := e) (by rw [hp]; simp)
  simp only [zB] at hb
  have hl2 := Km (nmX e) acc
  have hl3 := vC e
  rw [xz, if_pos (by omega), zu, Option.bind_some, show x.Exprs[p.length]? = some e by rw [hp]; exact xn p e l, Option.bind_some, TS (by omega) (by omega), Option.bind_some, wt p e (by omega), ihl (p ++ [e]) _ m (by rw [hp]; simp) (by simp only [List.length_cons] at hm'; omega) (by omega), wV, TQ]
theorem ON {x : GItem} (hs : zB x.Exprs <= 2 ^ 20) : qJ x = some (wd (wV x.Exprs)) := by
 have hl := zX x.Exprs
 unfold qJ ki
 rw [<- Mh]
 cases hE : x.Exprs with
 | nil =>
  rw [show ([] : List GExpr).length + 5 = 4 + 1 from rfl, q8, if_neg (by rw [hE]; decide), Option.bind_some]; rfl
 | cons e l =>
  have hx := yy (l := x.Exprs) (v := e) (by rw [hE]; simp)
  have h0 := GS hs l [e] (fU [] (nmX e)) ((e :: l).length + 5) hE (by simp only [List.length_cons]; omega) (by
   have h1 := Km (nmX e) []
   have h2 := vC e
   rw [hE] at hs
   simp only [zB] at hs
   simp only [List.length_nil] at h1
   omega)
  rw [show (e :: l).length + 5 = ((e :: l).length + 4) + 1 from rfl] at h0 ⊢
  rw [q8, if_pos (by rw [hE]; simp only [List.length_cons]; omega), show zT 0 = some 0 from rfl, Option.bind_some, show x.Exprs[0]? = some e by rw [hE]; rfl, Option.bind_some, TS (by omega) (by simp only [List.length_nil]; omega), Option.bind_some, show w64 (0 + 1) = (([e].length : Nat) : Int) from rfl, h0, Option.bind_some, Option.bind_some, wV, TQ]
theorem OO {x : GItem} (hs : zB x.Exprs <= 2 ^ 20) (hpt : zP x.Exprs <= 2 ^ 19) : wP x = some (wd (wV x.Exprs)) := by
 have hk := zX x.Exprs
 have loop : ∀ (l p : List GExpr) (acc : List (List UInt8)) (m : Nat), x.Exprs = p ++ l → l.length < m → acc.length + zB l <= 2 ^ 38 → ∃ z, xj x.Exprs (x.Exprs.length : Int) m (p.length : Int) acc = some (z, acc ++ vD l) := by
  intro l
  induction l with
  | nil =>
   intro p acc m hp hm _
   obtain ⟨m, rfl, _⟩ := zl hm
   exact ⟨_, by rw [xj, hp, List.append_nil, if_neg (by omega), vD, List.append_nil]⟩
  | cons e l ihl =>
   intro p acc m hp hm hb
   obtain ⟨m, rfl, hm'⟩ := zl hm
   have hlen : x.Exprs.length = p.length + (l.length + 1) := by rw [hp]; simp
   have hx := yy (l := x.Exprs) (v := e) (by rw [hp]; simp)
   simp only [zB] at hb
   have hq := Vw (l := x.Exprs) (v := e) (by rw [hp]; simp)
   have h1 := Y7 (nmX e)
   have h2 := vC e
   obtain ⟨z, hz⟩ := ihl (p ++ [e]) (acc ++ wd (nmX e)) m (by rw [hp]; simp) (by simp only [List.length_cons] at hm'; omega) (by rw [List.length_append]; omega)
   refine ⟨z, ?_⟩
   rw [xj, if_pos (by omega), zu, Option.bind_some, show x.Exprs[p.length]? = some e by rw [hp]; exact xn p e l, Option.bind_some, Ml (by omega) (by omega), Option.bind_some, if_pos (qu (by decide) (by omega)), wt p e (by omega), hz, vD, List.append_assoc]
 have hcl := Vx x.Exprs
 unfold wP jd
 obtain ⟨z, hz⟩ := loop x.Exprs [] [] (x.Exprs.length + 5) rfl (by omega) (by simp only [List.length_nil]; omega)
 simp only [List.length_nil, Int.natCast_zero, List.nil_append] at hz
 rw [hz, Option.bind_some]
 dsimp only
 rw [WI (by omega)]
 congr 1
 exact Jt fun y => X5 y _
theorem Mm {a b : List (List UInt8)} (h : a.Perm b) : bsz a = bsz b := by
 induction h with
 | nil => rfl
 | cons x _ ih => rw [xT, xT, ih]
 | swap x y l => rw [xT, xT, xT, xT]; omega
 | trans _ _ h1 h2 => rw [h1, h2]
theorem WJ : ∀ (l : List (List UInt8)) (p : List UInt8), bsz (kb p l) <= bsz l
 | [], _ => Nat.le_refl _
 | y :: l, p => by
  have h1 := WJ l p
  have h2 := WJ l y
  rw [kb, xT]
  split
  ·omega
  ·rw [xT]; omega
theorem OP (ts : List (List UInt8)) : bsz (wd ts) <= bsz ts := by
 rw [<- Mm (jM ts)]
 unfold wd
 cases wR ts with
 | nil => exact Nat.le_refl _
 | cons y l =>
  have := WJ l y
  rw [Yw, xT, xT]; omega
theorem UC (a b : List (List UInt8)) : bsz (a ++ b) = bsz a + bsz b := by
 unfold bsz
 simp only [List.length_append, List.map_append, List.sum_append]
 omega
mutual
theorem Nw : ∀ v : GExpr, bsz (nmX v) <= 1 + xsz v
 | .mk kd _ s k l => by
  have := Jv l
  simp only [nmX, xsz, UC]
  split
  ·rw [xT]; simp only [show bsz [] = 0 from rfl]; omega
  ·simp only [show bsz [] = 0 from rfl]; omega
theorem Jv : ∀ l : List GExpr, bsz (wV l) <= zB l
 | [] => Nat.le_refl _
 | v :: l => by
  have := Nw v
  have := Jv l
  simp only [wV, zB, UC]
  omega
end
theorem GT {x : GItem} (hz : isz x <= 2 ^ 20) : ∃ r, qZ x = some r ∧ je x = some r ∧ bsz r <= 2 ^ 20 := by
 obtain ⟨r, h1, h2⟩ := Ho hz
 obtain ⟨b, h3, h4⟩ := Hq hz
 unfold isz at hz
 unfold qZ je
 rw [h1, Option.bind_some, h3, Option.bind_some]
 by_cases c : ItB x
 ·have hb := h4.2 c
  subst hb
  rw [if_neg (by have := h2.2 c; omega), ON (by omega), Option.bind_some]
  have hpt : zP x.Exprs <= 150 := by
   by_cases mz : x.Many = 0
   ·exact c.p0 mz
   ·have := c.p1 mz; omega
  have h5 := OP (wV x.Exprs)
  have h6 := Jv x.Exprs
  dsimp only
  rw [OO (by omega) (by omega), Option.bind_some, show wh (wd (wV x.Exprs)) = some (wd (wV x.Exprs)) from if_pos (by omega), Option.bind_some]
  exact ⟨_, rfl, rfl, by omega⟩
 ·have hb : b = false := by
   cases b with
   | false => rfl
   | true => exact absurd (h4.1 rfl) c
  subst hb
  rw [if_pos (by have := mt h2.1 c; omega)]
  exact ⟨_, rfl, rfl, by decide⟩
def Mn (x : GItem) : Prop := x.Name.length <= 2 ^ 63 - 1 ∧ MdX x.By ∧ MdB x.Names ∧ (x.Exprs.length <= 2 ^ 63 - 1 ∧ ZO x.Exprs)
theorem GU {x : GItem} (h : Mn x) : ∃ r, kc x 1048576 = some r ∧ (r < 0 ∨ isz x <= 2 ^ 20) := by
 obtain ⟨h1, h2, h3, h4, h5⟩ := h
 unfold kc isz
 rw [Xt h1 (by decide) (by decide), Option.bind_some]
 by_cases c1 : (x.Name.length : Int) <= 1048576
 ·rw [if_pos c1, if_neg (by omega), GN h2 (by omega) (by omega), Option.bind_some]
  unfold jL
  by_cases c2 : (xsz x.By : Int) <= 1048576 - x.Name.length
  ·rw [if_pos c2, if_neg (by omega)]
   unfold xr qh
   rw [if_pos ⟨h3, by omega, by omega⟩, Option.bind_some]
   by_cases c3 : (bsz x.Names : Int) <= 1048576 - x.Name.length - xsz x.By
   ·rw [if_pos c3, if_neg (by omega), if_pos ⟨h4, h5, by omega, by omega⟩, Option.bind_some]
    unfold jL
    by_cases c4 : (zB x.Exprs : Int) <= 1048576 - x.Name.length - xsz x.By - bsz x.Names
    ·rw [if_pos c4, if_neg (by omega)]; exact ⟨_, rfl, .inr (by omega)⟩
    ·rw [if_neg c4, if_pos (by decide)]; exact ⟨_, rfl, .inl (by decide)⟩
   ·rw [if_neg c3, if_pos (by decide)]; exact ⟨_, rfl, .inl (by decide)⟩
  ·rw [if_neg c2, if_pos (by decide)]; exact ⟨_, rfl, .inl (by decide)⟩
 ·rw [if_neg c1, if_pos (by decide)]; exact ⟨_, rfl, .inl (by decide)⟩
theorem GV {x : GItem} (h : isz x <= 2 ^ 20) : kf x = some x := by
 unfold isz at h
 unfold kf xt qi
 rw [GQ (by omega), Option.bind_some, GO (by omega), Option.bind_some, if_pos (by omega), Option.bind_some, if_pos (by omega), Option.bind_some]
 cases x; rfl
theorem GW {x : GItem} (h : isz x <= 2 ^ 20) : km x x = some true := by
 unfold isz at h
 unfold km qp
 rw [if_pos rfl, GR (by omega), Option.bind_some]
 dsimp only
 rw [if_pos rfl, GP (by omega), Option.bind_some]
 dsimp only
 rw [U9 (by omega), Option.bind_some]
 dsimp only
 rw [if_pos ⟨rfl, by omega⟩, Option.bind_some]
theorem Mo {x : GItem} (h : isz x <= 2 ^ 20) : ∃ (k : Int) (a b : List UInt8) (c : List (List UInt8)) (d : List GExpr) (e : List (List UInt8)) (g : List GExpr), jg x.Kind x.Many x.By.Kind x.By.N 1 x.Name x.By.S x.By.K x.By.Kids x.Names x.Exprs = some (k, a, b, c, d, e, g) ∧ 0 <= k := by
 unfold isz at h
 unfold jg
 have hb := Yb x.Names
 rw [vh (by decide) (by omega), Option.bind_some]
 dsimp only
 obtain ⟨k, a, b, c, m1, m2, m3⟩ := OF (v := x.By) (i := 1 + x.Name.length) (by omega) (by omega) (by omega)
 rw [m1, Option.bind_some]
 dsimp only
 rw [kn (by omega) (by omega), Option.bind_some]
 dsimp only
 rw [WE (by omega) (by omega), Option.bind_some]
 exact ⟨_, _, _, _, _, _, _, rfl, by omega⟩
theorem law_ItemUses {x : GItem} (hm : Mn x) : wU x = some true := by
 unfold wU
 obtain ⟨r, h1, h2⟩ := GU hm
 rw [h1, Option.bind_some]
 by_cases c : r < 0
 ·rw [if_pos c]
 ·have hz := h2.resolve_left c
  rw [if_neg c, GV hz, Option.bind_some]
  obtain ⟨q, e1, e2, e3⟩ := GT hz
  rw [e1, e2, Option.bind_some, Option.bind_some, U9 (by omega), Option.bind_some]
  dsimp only
  rw [GW hz, Option.bind_some]
  dsimp only
  obtain ⟨k, a, b, cc, d, e, g, m1, m2⟩ := Mo hz
  rw [m1, Option.bind_some]
  dsimp only
  rw [if_neg (by omega)]
  obtain ⟨k2, g2, hg, hq, hh⟩ := P8 (g := q) (by omega)
  rw [hg, Option.bind_some]
  dsimp only
  rw [hh, Option.bind_some, if_neg (by omega), if_pos rfl]
end
end Go.Am.Try
