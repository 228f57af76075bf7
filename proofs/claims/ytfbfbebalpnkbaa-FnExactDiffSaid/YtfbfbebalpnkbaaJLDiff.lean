/- The law of FnExactDiff, in plain terms. -/
import Derived.Test.YtfbfbebalpnkbaaJG3
set_option linter.unusedVariables false
set_option linter.unusedSimpArgs false
namespace Go.Am.Try
open Go.Am
noncomputable section
theorem Pf {v : GValue} (h : vsz v <= 2 ^ 20) : kc v = some (YJ v) := by
 unfold kc kX
 rw [if_pos ⟨h, by decide, by decide, by decide⟩, Option.bind_some]
 congr 1
 unfold okV YJ
 rw [show (6 - (1 : Int)).toNat = 5 from rfl]
 by_cases hc : shV 5 v = true ∧ (ptV v : Int) <= 40
 ·rw [if_pos hc, decide_eq_true hc]; exact decide_eq_true (by omega)
 ·rw [if_neg hc, decide_eq_false hc]; rfl
theorem Pg {v : GValue} (h : vsz v <= 2 ^ 20) : ja v = some (YJ v) := by
 unfold ja qG wJ YJ
 rw [if_pos ⟨h, by decide, by decide⟩, Option.bind_some]
 rw [show (5 : Int).toNat = 5 from rfl]
 cases hs : shV 5 v
 ·simp
 ·dsimp only
  rw [if_pos h, Option.bind_some]
  simp
theorem Ma {v : GValue} {n : Int} (h : MdV v) (h0 : 0 <= n) (h1 : n <= 2 ^ 20) : wZ v n = some (kJ (vsz v) n) := if_pos ⟨h, h0, h1⟩
theorem Mb {v : GValue} (h : vsz v <= 2 ^ 20) : qf v = some v := if_pos h
theorem Mc {v : GValue} (h : vsz v <= 2 ^ 39) : zJ v v = some true := if_pos ⟨rfl, by omega⟩
theorem Ph {v : GValue} {i : Int} (h : vsz v <= 2 ^ 30) (h0 : 0 <= i) (h1 : i <= 2 ^ 40) : ∃ k a b c, yJ v.Kind v.N i v.S v.K v.L = some (k, a, b, c) ∧ 0 <= k ∧ k <= i + 2 * vsz v := by
 have he := y8 v
 have hb := ZG v.K
 have hc := YK v.L
 unfold yJ
 rw [je (by omega) (by omega), Option.bind_some]
 dsimp only
 rw [vf (by omega) (by omega), Option.bind_some]
 dsimp only
 rw [ZW (by omega) (by omega), Option.bind_some]
 exact ⟨_, _, _, _, rfl, by omega, by omega⟩
def QG (a b : Int) : Int := if a < b then -1 else if b < a then 1 else 0
theorem Jf (a b : Int) : wd a b = some (QG a b) := by
 unfold wd jO QG
 rw [Option.bind_some, Option.bind_some]
 dsimp only
 split
 ·rfl
 ·split <;> rfl
theorem Kr (a b : Int) : qY a b = some (QG a b) := by
 unfold qY QG
 split
 ·rfl
 ·split <;> rfl
theorem QH (a : Int) : QG a a = 0 := by unfold QG; rw [if_neg (by omega), if_neg (by omega)]
theorem Jg {a b : Int} (h : a ≠ b) : QG a b ≠ 0 := by
 unfold QG
 split
 ·decide
 ·rw [if_pos (by omega)]; decide
theorem QI : ∀ (a b : List UInt8), xh a b = some (Lib.compareBytes a b) := by
 intro a
 induction a with
 | nil => intro b; cases b <;> simp [xh, Op.bytesLess, Lib.compareBytes]
 | cons x a ih =>
  intro b
  cases b with
  | nil => simp [xh, Op.bytesLess, Lib.compareBytes]
  | cons y b =>
   have := ih b
   unfold xh at this ⊢
   simp only [Op.bytesLess, Lib.compareBytes]
   by_cases h1 : x < y
   ·simp [h1]
   ·by_cases h2 : y < x
    ·have h3 : ¬ x = y := fun e => by subst e; exact h1 h2
     have h4 : ¬ y = x := fun e => h3 e.symm
     simp [h1, h2, h3, h4]
    ·have h3 : x = y := UInt8.le_antisymm (UInt8.not_lt.1 h2) (UInt8.not_lt.1 h1)
     subst h3
     simpa [h1] using this
theorem PT (a b : List UInt8) : yF a b = some (Lib.compareBytes a b) := rfl
theorem Ny : Lib.compareBytes [] [] = 0 := rfl
theorem or3 (a b c : Int) : jb [a, b, c] = some (if a = 0 then (if b = 0 then (if c = 0 then 0 else c) else b) else a) := by
 unfold jb
 rw [if_pos (by simp)]
 rfl
theorem W3 {v : GValue} (h : y3 v = true) : (v.Kind = 3 ∨ v.S.length = 0) ∧ (v.Kind = 5 → v.K.length = v.L.length ∧ Asc v.K) ∧ v.L.length <= 40 ∧ (v.Kind = 3 → v.N = 0 ∧ v.L.length = 0) ∧ (v.Kind ≠ 5 → v.K.length = 0) ∧ v.K.length <= 40 := by
 unfold y3 at h
 by_cases k0 : v.Kind = 0 ∨ v.Kind = 6
 ·rw [if_pos k0] at h
  have h := of_decide_eq_true h
  exact ⟨.inr h.2.1, fun e => by omega, by omega, fun e => by omega, fun _ => h.2.2.1, by omega⟩
 rw [if_neg k0] at h
 by_cases k1 : v.Kind = 1
 ·rw [if_pos k1] at h
  have h := of_decide_eq_true h
  exact ⟨.inr h.2.1, fun e => by omega, by omega, fun e => by omega, fun _ => h.2.2.1, by omega⟩
 rw [if_neg k1] at h
 by_cases k2 : v.Kind = 2
 ·rw [if_pos k2] at h
  have h := of_decide_eq_true h
  exact ⟨.inr h.2.1, fun e => by omega, by omega, fun e => by omega, fun _ => h.2.2.1, by omega⟩
 rw [if_neg k2] at h
 by_cases k3 : v.Kind = 3
 ·rw [if_pos k3, Bool.and_eq_true] at h
  have h := of_decide_eq_true h.2
  exact ⟨.inl k3, fun e => by omega, by omega, fun _ => ⟨h.1, h.2.2⟩, fun _ => h.2.1, by omega⟩
 rw [if_neg k3] at h
 by_cases k4 : v.Kind = 4
 ·rw [if_pos k4] at h
  have h := of_decide_eq_true h
  exact ⟨.inr h.2.1, fun e => by omega, by omega, fun e => by omega, fun _ => h.2.2.1, by omega⟩
 rw [if_neg k4] at h
 by_cases k5 : v.Kind = 5
 ·rw [if_pos k5, Bool.and_eq_true] at h
  have h1 := of_decide_eq_true h.1
  exact ⟨.inr h1.2.2.1, fun _ => ⟨h1.1, N3 h.2⟩, by omega, fun e => by omega, fun e => absurd k5 e, by omega⟩
 ·rw [if_neg k5] at h; cases h
theorem Jh {d : Nat} {v : GValue} (h : shV (d + 1) v = true) : y3 v = true ∧ ∀ x ∈ v.L, shV d x = true := by
 rw [shV, Bool.and_eq_true] at h
 exact ⟨h.1, fun x hx => List.all_eq_true.1 h.2 x hx⟩
theorem Ks : ∀ (d : Nat) (a b : GValue) (f g : Nat), shV d a = true → shV d b = true → vsz a + 3 <= f → vsz a + 3 <= g → ∃ c, yM f a b = some c ∧ zN g a b = some c
 | 0, a, b, f, g, h, _, _, _ => by cases h
 | d + 1, a, b, f, g, ha, hb, hf, hg => by
  obtain ⟨f, rfl, hf'⟩ : ∃ n, f = n + 1 ∧ vsz a + 2 <= n := ⟨f - 1, by omega, by omega⟩
  obtain ⟨g, rfl, hg'⟩ : ∃ n, g = n + 1 ∧ vsz a + 2 <= n := ⟨g - 1, by omega, by omega⟩
  obtain ⟨la, ca⟩ := Jh ha
  obtain ⟨lb, cb⟩ := Jh hb
  obtain ⟨a1, a2, a3, a4, a5, a6⟩ := W3 la
  obtain ⟨b1, b2, b3, b4, b5, b6⟩ := W3 lb
  have hva := y8 a
  have hLa := y0 a.L
  rw [show yM (f + 1) a b = vZ (yM f) f a b from rfl, show zN (g + 1) a b = wW (zN g) g a b from rfl]
  unfold vZ wW
  rw [Jf, Option.bind_some, Jf, Option.bind_some, PT, Option.bind_some, or3, Option.bind_some]
  by_cases hk : a.Kind = b.Kind
  ·rw [if_pos hk, hk, QH, if_pos rfl]
   by_cases k3 : a.Kind = 3
   ·have k3b : b.Kind = 3 := by omega
    rw [if_pos k3b, (a4 k3).1, (b4 k3b).1, QH, if_pos rfl, QI, Option.bind_some]
    refine ⟨_, rfl, ?_⟩
    by_cases hc : Lib.compareBytes a.S b.S = 0
    ·rw [if_pos hc, if_pos rfl, hc, (a4 k3).2, (b4 k3b).2]
     obtain ⟨g, rfl, _⟩ : ∃ n, g = n + 1 ∧ 0 <= n := ⟨g - 1, by omega, by omega⟩
     rw [zZ, if_neg (by decide), Option.bind_some]
     dsimp only
     rw [Jf]; rfl
    ·rw [if_neg hc, if_neg hc]
   ·have k3b : ¬ b.Kind = 3 := by omega
    have s1 : a.S = [] := List.eq_nil_of_length_eq_zero (a1.resolve_left k3)
    have s2 : b.S = [] := List.eq_nil_of_length_eq_zero (b1.resolve_left k3b)
    rw [if_neg k3b, s1, s2, Ny, if_pos rfl]
    by_cases hn : a.N = b.N
    ·rw [if_pos hn, hn, QH, if_pos rfl, if_pos rfl]
     have loop : ∀ (j i m m' : Nat), i + j = min a.L.length b.L.length → j < m → j < m' → (∃ z z', xv (yM f) a b m (i : Int) = some (.inr z) ∧ zZ (zN g) (if (b.L.length : Int) < (a.L.length : Int) then (b.L.length : Int) else (a.L.length : Int)) a b m' (i : Int) = some (.inr z')) ∨
       ∃ c, xv (yM f) a b m (i : Int) = some (.inl c) ∧ zZ (zN g) (if (b.L.length : Int) < (a.L.length : Int) then (b.L.length : Int) else (a.L.length : Int)) a b m' (i : Int) = some (.inl c) := by
      have hmin : (if (b.L.length : Int) < (a.L.length : Int) then (b.L.length : Int) else (a.L.length : Int)) = ((min a.L.length b.L.length : Nat) : Int) := by split <;> omega
      rw [hmin]
      intro j
      induction j with
      | zero =>
       intro i m m' hi hm hm'
       obtain ⟨m, rfl, _⟩ := zg hm
       obtain ⟨m', rfl, _⟩ := zg hm'
       refine .inl ⟨(i : Int), (i : Int), ?_, by rw [zZ, if_neg (by omega)]⟩
       rw [xv]
       by_cases h1 : ((i : Nat) : Int) < (a.L.length : Int)
       ·rw [if_pos h1, if_neg (by omega)]
       ·rw [if_neg h1]
      | succ j ih =>
       intro i m m' hi hm hm'
       obtain ⟨m, rfl, hm2⟩ := zg hm
       obtain ⟨m', rfl, hm2'⟩ := zg hm'
       have i1 : i < a.L.length := by omega
       have i2 : i < b.L.length := by omega
       have next := ih (i + 1) m m' (by omega) (by omega) (by omega)
       have hin : 1 + vsz a.L[i] <= yu a.L := yw (List.getElem_mem i1)
       obtain ⟨c, c1, c2⟩ := Ks d a.L[i] b.L[i] f g (ca _ (List.getElem_mem i1)) (cb _ (List.getElem_mem i2)) (by omega) (by omega)
       rw [xv, zZ, if_pos (by omega), if_pos (by omega)]
       rw [if_pos (show ((i : Nat) : Int) < ((min a.L.length b.L.length : Nat) : Int) by omega)]
       by_cases k5 : a.Kind = 5
       ·have e1 := (a2 k5).1
        have e2 := (b2 (by omega)).1
        rw [if_pos k5, if_pos k5, zd, Option.bind_some, Option.bind_some, zq (show i < a.K.length by omega), Option.bind_some, Option.bind_some, zq (show i < b.K.length by omega), Option.bind_some, Option.bind_some, QI, Option.bind_some, PT, Option.bind_some]
        by_cases hc : Lib.compareBytes (a.K[i]'(by omega)) (b.K[i]'(by omega)) = 0
        ·rw [if_pos hc, if_pos hc, zq i1, Option.bind_some, Option.bind_some, zq i2, Option.bind_some, Option.bind_some, c1, Option.bind_some, c2, Option.bind_some, yr (by omega)]
         by_cases h0 : c = 0
         ·rw [if_pos h0, if_pos h0]; exact next
         ·rw [if_neg h0, if_neg h0]; exact .inr ⟨c, rfl, rfl⟩
        ·rw [if_neg hc, if_neg hc]; exact .inr ⟨_, rfl, rfl⟩
       ·rw [if_neg k5, if_neg k5, zd, Option.bind_some, Option.bind_some, zq i1, Option.bind_some, Option.bind_some, zq i2, Option.bind_some, Option.bind_some, c1, Option.bind_some, c2, Option.bind_some, yr (by omega)]
        by_cases h0 : c = 0
        ·rw [if_pos h0, if_pos h0]; exact next
        ·rw [if_neg h0, if_neg h0]; exact .inr ⟨c, rfl, rfl⟩
     have := loop (min a.L.length b.L.length) 0 f g (by omega) (by omega) (by omega)
     rw [show ((0 : Nat) : Int) = 0 from rfl] at this
     rcases this with ⟨z, z', e1, e2⟩ | ⟨c, e1, e2⟩
     ·rw [e1, e2, Option.bind_some, Option.bind_some]
      dsimp only
      rw [Kr, Jf]
      exact ⟨_, rfl, rfl⟩
     ·rw [e1, e2]
      exact ⟨c, rfl, rfl⟩
    ·rw [if_neg hn, if_neg (Jg hn), if_neg (Jg hn), Kr]
     exact ⟨_, rfl, rfl⟩
  ·rw [if_neg hk, if_neg (Jg hk), if_neg (Jg hk), Kr]
   exact ⟨_, rfl, rfl⟩
theorem LP {a b : GValue} (ha : shV 5 a = true) (hb : shV 5 b = true) : ∃ c, kg a b = some c ∧ wa a b = some c := Ks 5 a b _ _ ha hb (Nat.le_refl _) (Nat.le_refl _)
/-! #### ascending lists of texts -/
def SA (l : List (List UInt8)) : Prop := l.Pairwise fun x y => Lib.compareBytes x y < 0
theorem QJ : ∀ {a b : List (List UInt8)}, SA a → SA b → (∀ x, x ∈ a ↔ x ∈ b) → a = b
 | [], [], _, _, _ => rfl
 | [], y :: b, _, _, h => absurd ((h y).2 List.mem_cons_self) (by simp)
 | x :: a, [], _, _, h => absurd ((h x).1 List.mem_cons_self) (by simp)
 | x :: a, y :: b, h1, h2, h => by
  have c1 := List.pairwise_cons.1 h1
  have c2 := List.pairwise_cons.1 h2
  have e : x = y := by
   rcases List.mem_cons.1 ((h x).1 List.mem_cons_self) with e | hx
   ·exact e
   ·rcases List.mem_cons.1 ((h y).2 List.mem_cons_self) with e | hy
    ·exact e.symm
    ·have g1 := c1.1 y hy
     have g2 := c2.1 x hx
     have := Zg x y
     omega
  subst e
  have nx : x ∉ a := fun hx => by have := c1.1 x hx; rw [XL] at this; omega
  have ny : x ∉ b := fun hx => by have := c2.1 x hx; rw [XL] at this; omega
  rw [QJ c1.2 c2.2 fun z => ?_]
  have hz := h z
  simp only [List.mem_cons] at hz
  constructor
  ·intro hza
   rcases hz.1 (.inr hza) with e | hzb
   ·subst e; exact absurd hza nx
   ·exact hzb
  ·intro hzb
   rcases hz.2 (.inr hzb) with e | hza
   ·subst e; exact absurd hzb ny
   ·exact hza
theorem Nz {x y z : List UInt8} (h1 : Lib.compareBytes x y < 0) (h2 : ¬ Lib.compareBytes z y < 0) : Lib.compareBytes x z < 0 := by
 by_cases h : Lib.compareBytes y z < 0
 ·exact Zw h1 h
 ·have := Zg y z
  have hz : Lib.compareBytes y z = 0 := by omega
  rw [<- Ys hz]; exact h1
theorem Kt : ∀ (l : List (List UInt8)) (p : List UInt8), Xz (p :: l) → SA (p :: Z1 p l) ∧ ∀ x, x ∈ p :: Z1 p l ↔ x ∈ p :: l
 | [], p, _ => ⟨List.pairwise_singleton _ _, fun x => Iff.rfl⟩
 | y :: l, p, h => by
  have c := List.pairwise_cons.1 h
  have c2 := List.pairwise_cons.1 c.2
  rw [Z1]
  by_cases e : y = p
  ·subst e
   rw [if_pos rfl]
   obtain ⟨h1, h2⟩ := Kt l y c.2
   exact ⟨h1, fun x => by rw [h2]; simp⟩
  ·rw [if_neg e]
   obtain ⟨h1, h2⟩ := Kt l y c.2
   have hpy : Lib.compareBytes p y < 0 := by
    have := c.1 y List.mem_cons_self
    have hn := Zg p y
    by_cases h0 : Lib.compareBytes p y = 0
    ·exact absurd (Ys h0).symm e
    ·omega
   refine ⟨List.pairwise_cons.2 ⟨fun z hz => ?_, h1⟩, fun x => ?_⟩
   ·rcases List.mem_cons.1 ((h2 z).1 hz) with rfl | hz
    ·exact hpy
    ·exact Nz hpy (c2.1 z hz)
   ·have := h2 x
    simp only [List.mem_cons] at this ⊢
    rw [this]
def qz (ts : List (List UInt8)) : List (List UInt8) := Xg (qM ts)
theorem Zt (ts : List (List UInt8)) : SA (qz ts) ∧ ∀ x, x ∈ qz ts ↔ x ∈ ts := by
 have hp := kL ts
 have hs := QQ ts
 unfold qz
 generalize qM ts = l at hp hs
 cases l with
 | nil => exact ⟨List.Pairwise.nil, fun x => hp.mem_iff⟩
 | cons y l =>
  obtain ⟨h1, h2⟩ := Kt l y hs
  exact ⟨h1, fun x => (h2 x).trans hp.mem_iff⟩
theorem Da {a b : List (List UInt8)} (h : ∀ x, x ∈ a ↔ x ∈ b) : qz a = qz b := QJ (Zt a).1 (Zt b).1 fun x => ((Zt a).2 x).trans ((h x).trans ((Zt b).2 x).symm)
theorem QK : ∀ (l : List (List UInt8)) (p : List UInt8), (Z1 p l).length <= l.length
 | [], _ => Nat.le_refl _
 | y :: l, p => by
  rw [Z1]
  split
  ·exact Nat.le_trans (QK l p) (Nat.le_succ _)
  ·exact Nat.succ_le_succ (QK l y)
theorem Md (ts : List (List UInt8)) : (qz ts).length <= ts.length := by
 have hp := (kL ts).length_eq
 unfold qz
 generalize qM ts = l at hp
 cases l with
 | nil => exact Nat.zero_le _
 | cons y l => rw [<- hp]; exact Nat.succ_le_succ (QK l y)
theorem EM {l : List (List UInt8)} (h : l.length <= 1048576) : ((yP l).bind fun r => (y7 r).bind fun r => some r) = some (qz l) := by
 unfold yP y7
 rw [if_pos h, Option.bind_some, if_pos (by rw [(kL l).length_eq]; exact h)]
 rfl
theorem QL (a b : List GStep) : zT (a ++ b) = zT a + zT b := by
 induction a with
 | nil => simp [zT]
 | cons x l ih => simp only [List.cons_append, zT, ih]; omega
theorem GG (v : GValue) : 1 <= ptV v := by have := XJ v; omega
theorem Pi {l : List GValue} {v : GValue} (h : v ∈ l) : ptV v <= zO l := by
 induction l with
 | nil => cases h
 | cons e l ih =>
  simp only [zO]
  rcases List.mem_cons.1 h with rfl | h
  ·omega
  ·have := ih h; omega
theorem Db (a b : List GValue) : zO (a ++ b) = zO a + zO b := by
 induction a with
 | nil => simp [zO]
 | cons x l ih => simp only [List.cons_append, zO, ih]; omega
theorem GH {a : List (List UInt8)} (h : Asc a) {i j : Nat} {x : List UInt8} (hi : a[i]? = some x) (hj : a[j]? = some x) : i = j := by
 obtain ⟨i1, i2⟩ := List.getElem?_eq_some_iff.1 hi
 obtain ⟨j1, j2⟩ := List.getElem?_eq_some_iff.1 hj
 rcases Nat.lt_trichotomy i j with c | c | c
 ·have := h i j j1 c
  rw [i2, j2, YH] at this; cases this
 ·exact c
 ·have := h j i i1 c
  rw [i2, j2, YH] at this; cases this
theorem Me {a : List (List UInt8)} (h : Asc a) : SA a := by
 unfold SA
 rw [List.pairwise_iff_getElem]
 intro i j hi hj hij
 exact Es.2 (h i j hj hij)
theorem QM {x : List UInt8} {l l' : List (List UInt8)} (h : ∀ z, z ∈ l ↔ z = x ∨ z ∈ l') (hx : ∀ z ∈ l', Lib.compareBytes x z < 0) : qz l = x :: qz l' := by
 obtain ⟨h1, h2⟩ := Zt l
 obtain ⟨g1, g2⟩ := Zt l'
 refine QJ h1 (List.pairwise_cons.2 ⟨fun z hz => hx z ((g2 z).1 hz), g1⟩) fun z => ?_
 rw [h2, h, List.mem_cons, g2]
theorem Vw {v : GValue} {p q : List (List UInt8)} {k : List UInt8} (hA : Asc v.K) (hl : v.K.length <= 2 ^ 40) (hK : v.K = p ++ k :: q) : yY v k = some ((p.length : Int), true) := by
 obtain ⟨c, c1, c2⟩ := Vl (x := k) hl hA
 have hm : k ∈ v.K := by rw [hK]; simp
 have hp : v.K[p.length]? = some k := by rw [hK]; exact zy p k q
 have := GH hA ((YI.mem hA c1).2 hm) hp
 unfold yY
 rw [c2, Option.bind_some, decide_eq_true hm, this]
theorem PU {v : GValue} {k : List UInt8} (hA : Asc v.K) (hl : v.K.length <= 2 ^ 40) (hK : k ∉ v.K) : ∃ c, yY v k = some (c, false) := by
 obtain ⟨c, c1, c2⟩ := Vl (x := k) hl hA
 unfold yY
 rw [c2, Option.bind_some, decide_eq_false hK]
 exact ⟨_, rfl⟩
theorem Em (a b c d W : Nat) : (a + b + (c + d)) * W = (a + c) * W + (b + d) * W := by
 rw [<- Nat.add_mul]; congr 1; omega
theorem Yq {p : List GStep} {s : GStep} (h : zT p <= 2 ^ 30) : yq p s = some (p ++ [s]) := by
 have := wX p
 unfold yq
 rw [if_pos (xo (by decide) (by omega)), if_pos (xo (by decide) (by simp only [List.length_cons, List.length_nil]; omega))]
def DB (gs : GValue → GValue → List GStep → Option (List GChange)) (gi : List GStep → GValue → GValue → Option (List GChange)) (W : Nat) (x y : GValue) : Prop :=
 ∀ p, 1 + zT p + vsz x + vsz y <= W → ∃ r, gs x y p = some r ∧ gi p x y = some r ∧ zE r <= (ptV x + ptV y) * W
theorem Mf {gs : GValue → GValue → List GStep → Option (List GChange)} {gi : List GStep → GValue → GValue → Option (List GChange)} {W : Nat} {a b : GValue} {p : List GStep}
  (hb : a.L.length = b.L.length) (hG : ∀ x ∈ a.L, ∀ y ∈ b.L, DB gs gi W x y) (hp : 1 + zT p + vsz a + vsz b <= W) (hW : W <= 2 ^ 30) :
  ∀ (la lb pa pb : List GValue) (acc : List GChange) (m m' : Nat), a.L = pa ++ la → b.L = pb ++ lb → pa.length = pb.length → la.length = lb.length → la.length < m → la.length < m' → zE acc + (zO la + zO lb) * W <= 2 ^ 38 →
  ∃ z z' r, w7 gs p a b m (pa.length : Int) acc = some (z, r) ∧ qg gi p (a.L.length : Int) a b m' (pa.length : Int) acc = some (z', r) ∧ zE r <= zE acc + (zO la + zO lb) * W := by
 have va := y8 a
 have vb := y8 b
 have la0 := y0 a.L
 have hpl := wX p
 intro la
 induction la with
 | nil =>
  intro lb pa pb acc m m' ha hb hpp hll hm hm' hacc
  obtain ⟨m, rfl, _⟩ := zg hm
  obtain ⟨m', rfl, _⟩ := zg hm'
  refine ⟨_, _, acc, by rw [w7, ha, List.append_nil, if_neg (by omega)], by rw [qg, ha, List.append_nil, if_neg (by omega)], by omega⟩
 | cons x la ih =>
  intro lb pa pb acc m m' ha hb hpp hll hm hm' hacc
  obtain ⟨m, rfl, hm2⟩ := zg hm
  obtain ⟨m', rfl, hm2'⟩ := zg hm'
  cases lb with
  | nil => simp at hll
  | cons y lb =>
   simp only [List.length_cons] at hll hm2 hm2'
   have hlen : a.L.length = pa.length + (la.length + 1) := by rw [ha]; simp
   have hxa : x ∈ a.L := by rw [ha]; simp
   have hyb : y ∈ b.L := by rw [hb]; simp
   have hx := yw hxa
   have hy := yw hyb
   have gx : a.L[pa.length]? = some x := by rw [ha]; exact zy pa x la
   have gy : b.L[pa.length]? = some y := by rw [hb, hpp]; exact zy pb y lb
   simp only [zO] at hacc ⊢
   rw [Em] at hacc ⊢
   obtain ⟨r, r1, r2, r3⟩ := hG x hxa y hyb (p ++ [GStep.mk 1 [] (pa.length : Int)]) (by
    rw [QL]; simp only [zT, vy, GStep.Key, List.length_nil]; omega)
   have hrl := wY r
   have hal := wY acc
   obtain ⟨z, z', q, q1, q2, q3⟩ := ih lb (pa ++ [x]) (pb ++ [y]) (acc ++ r) m m' (by rw [ha]; simp) (by rw [hb]; simp) (by simp [hpp]) (by omega) (by omega) (by omega) (by rw [jk]; omega)
   rw [jk] at q3
   refine ⟨z, z', q, ?_, ?_, by omega⟩
   ·rw [w7, if_pos (by omega), zd, Option.bind_some, gx, Option.bind_some, gy, Option.bind_some, Yq (by omega), Option.bind_some, r1, Option.bind_some, if_pos (q8 (by omega)), yt pa x (by omega), q1]
   ·rw [qg, if_pos (by omega), kY (by omega), Option.bind_some, if_pos (xo (by decide) (by simp only [List.length_cons, List.length_nil]; omega)), zd, Option.bind_some, gx, Option.bind_some, gy, Option.bind_some, r2, Option.bind_some, if_pos (q8 (by omega)), yt pa x (by omega), q2]
theorem Mg {p : List GStep} {k : List UInt8} {x : GValue} {v W : Nat} (hv : 2 + k.length + vsz x <= v) (hp : 1 + zT p + v <= W) (r : GChange) (hr : kS r = zT (p ++ [GStep.mk 0 k 0]) + vsz x) : zE [r] <= ptV x * W := by
 have h1 := GG x
 have h2 : W <= ptV x * W := Nat.le_mul_of_pos_left W h1
 rw [QL] at hr
 simp only [zT, vy, GStep.Key] at hr
 simp only [zE]
 omega
theorem zsz : vsz (GValue.mk 0 0 [] [] []) = 0 := rfl
set_option maxHeartbeats 2000000 in
theorem N0 {gs : GValue → GValue → List GStep → Option (List GChange)} {gi : List GStep → GValue → GValue → Option (List GChange)} {W : Nat} {a b : GValue} {p : List GStep}
  (hA : Asc a.K) (hB : Asc b.K) (hG : ∀ x ∈ a.L, ∀ y ∈ b.L, DB gs gi W x y) (hp : 1 + zT p + vsz a + vsz b <= W) (hW : W <= 2 ^ 30) (ks : List (List UInt8)) :
  ∀ (d : Nat) (ka kb pka pkb : List (List UInt8)) (la lb pla plb : List GValue) (done : List (List UInt8)) (acc : List GChange) (m m' : Nat), ka.length + kb.length <= d → a.K = pka ++ ka → a.L = pla ++ la → b.K = pkb ++ kb → b.L = plb ++ lb →
   pka.length = pla.length → pkb.length = plb.length → ka.length = la.length → kb.length = lb.length → (∀ z ∈ pka, ∀ y ∈ kb, Lib.compareBytes z y < 0) → (∀ z ∈ pkb, ∀ y ∈ ka, Lib.compareBytes z y < 0) → ks = done ++ qz (ka ++ kb) → ks.length <= 2 ^ 40 →
   ka.length + kb.length < m → ka.length + kb.length < m' → zE acc + (zO la + zO lb) * W <= 2 ^ 38 →
  ∃ z z1 z' r, zp gs p a b m (pka.length : Int) (pkb.length : Int) acc = some (z, z1, r) ∧ yk gi p ks (ks.length : Int) a b m' (done.length : Int) acc = some (z', r) ∧ zE r <= zE acc + (zO la + zO lb) * W := by
 have va := y8 a
 have vb := y8 b
 have ka0 := wk a.K
 have kb0 := wk b.K
 have hpl := wX p
 have hSA := Me hA
 have hSB := Me hB
 intro d
 induction d with
 | zero =>
  intro ka kb pka pkb la lb pla plb done acc m m' hd hka hla hkb hlb e1 e2 e3 e4 i1 i2 hks hkl hm hm' hacc
  obtain ⟨m, rfl, _⟩ := zg hm
  obtain ⟨m', rfl, _⟩ := zg hm'
  have ea : ka = [] := List.eq_nil_of_length_eq_zero (by omega)
  have eb : kb = [] := List.eq_nil_of_length_eq_zero (by omega)
  subst ea eb
  have ec : qz ([] ++ []) = ([] : List (List UInt8)) := rfl
  rw [ec, List.append_nil] at hks
  refine ⟨_, _, _, acc, by rw [zp, hka, hkb, List.append_nil, List.append_nil, if_neg (by omega), if_neg (by omega)], by rw [yk, hks, if_neg (by omega)], by omega⟩
 | succ d ih =>
  intro ka kb pka pkb la lb pla plb done acc m m' hd hka hla hkb hlb e1 e2 e3 e4 i1 i2 hks hkl hm hm' hacc
  obtain ⟨m, rfl, hm2⟩ := zg hm
  obtain ⟨m', rfl, hm2'⟩ := zg hm'
  have hal := wY acc
  have lenA : a.K.length = pka.length + ka.length := by rw [hka]; simp
  have lenB : b.K.length = pkb.length + kb.length := by rw [hkb]; simp
  have sa1 : SA ka := by rw [hka] at hSA; exact (List.pairwise_append.1 hSA).2.1
  have sb1 : SA kb := by rw [hkb] at hSB; exact (List.pairwise_append.1 hSB).2.1
  have sa2 : ∀ z ∈ pka, ∀ y ∈ ka, Lib.compareBytes z y < 0 := by rw [hka] at hSA; exact (List.pairwise_append.1 hSA).2.2
  have sb2 : ∀ z ∈ pkb, ∀ y ∈ kb, Lib.compareBytes z y < 0 := by rw [hkb] at hSB; exact (List.pairwise_append.1 hSB).2.2
  have irr : ∀ z : List UInt8, ¬ Lib.compareBytes z z < 0 := fun z => by rw [XL]; decide
  have ksh : ∀ x l', qz (ka ++ kb) = x :: qz l' → ks[done.length]? = some x ∧ ks = (done ++ [x]) ++ qz l' ∧ done.length < ks.length := fun x l' e => by
   rw [e] at hks
   exact ⟨by rw [hks]; exact zy done x _, by rw [hks]; simp, by rw [hks]; simp⟩
  have zs : ∀ (q : List GStep) (v : GValue) (c1 c2 : Bool), kS (GChange.mk q c1 v c2 (GValue.mk 0 0 [] [] [])) = zT q + vsz v ∧ kS (GChange.mk q c1 (GValue.mk 0 0 [] [] []) c2 v) = zT q + vsz v := fun q v c1 c2 => ⟨rfl, by show zT q + vsz (GValue.mk 0 0 [] [] []) + vsz v = _; rw [zsz]; omega⟩
  have LEFT : ∀ x ka', ka = x :: ka' → (∀ z ∈ kb, Lib.compareBytes x z < 0) → ∃ v, a.L[pka.length]? = some v ∧ a.K[pka.length]? = some x ∧ ∃ z z1 z' r, zp gs p a b m (w64 ((pka.length : Int) + 1)) (pkb.length : Int) (acc ++ [GChange.mk (p ++ [GStep.mk 0 x 0]) true v false (GValue.mk 0 0 [] [] [])]) = some (z, z1, r) ∧
    yk gi p ks (ks.length : Int) a b (m' + 1) (done.length : Int) acc = some (z', r) ∧ zE r <= zE acc + (zO la + zO lb) * W := by
   intro x ka' hx hlt
   subst hx
   cases la with
   | nil => simp at e3
   | cons v la =>
    simp only [List.length_cons] at e3 hd hm2 hm2' lenA
    have s1 := List.pairwise_cons.1 sa1
    have gx : a.K[pka.length]? = some x := by rw [hka]; exact zy pka x ka'
    have hva : v ∈ a.L := by rw [hla]; simp
    have gv : a.L[pka.length]? = some v := by rw [hla, e1]; exact zy pla v la
    have hxk := kI (List.mem_of_getElem? gx)
    have hvv := yw hva
    obtain ⟨k1, k2, k3⟩ := ksh x (ka' ++ kb) (QM (fun z => by simp) fun z hz => (List.mem_append.1 hz).elim (s1.1 z) (hlt z))
    have hnb : x ∉ b.K := fun h => by
     rw [hkb] at h
     rcases List.mem_append.1 h with h | h
     ·exact irr x (i2 x h x List.mem_cons_self)
     ·exact irr x (hlt x h)
    obtain ⟨c, hc⟩ := PU hB (by omega) hnb
    have s2 := Mg (p := p) (W := W) (x := v) (v := vsz a + vsz b) (k := x) (by omega) (by omega) (GChange.mk (p ++ [GStep.mk 0 x 0]) true v false (GValue.mk 0 0 [] [] [])) (zs _ _ _ _).1
    simp only [zO] at hacc ⊢
    rw [show ptV v + zO la + zO lb = ptV v + (zO la + zO lb) by omega, Nat.add_mul] at hacc ⊢
    obtain ⟨z, z1, z', r, r1, r2, r3⟩ := ih ka' kb (pka ++ [x]) pkb la lb (pla ++ [v]) plb (done ++ [x]) (acc ++ [GChange.mk (p ++ [GStep.mk 0 x 0]) true v false (GValue.mk 0 0 [] [] [])]) m m' (by omega) (by rw [hka]; simp) (by rw [hla]; simp) hkb hlb (by simp [e1]) e2 (by omega) e4
     (fun z hz y hy => by
      rcases List.mem_append.1 hz with hz | hz
      ·exact i1 z hz y hy
      ·rw [List.mem_singleton] at hz; rw [hz]; exact hlt y hy)
     (fun z hz y hy => i2 z hz y (List.mem_cons_of_mem _ hy)) k2 hkl (by omega) (by omega) (by rw [jk]; omega)
    rw [jk] at r3
    refine ⟨v, gv, gx, z, z1, z', r, by rw [yt pka x (by omega)]; exact r1, ?_, by omega⟩
    rw [yk, if_pos (by omega), zd, Option.bind_some, k1, Option.bind_some, kY (by omega), Option.bind_some, kj (by omega), Option.bind_some, if_pos (xo (by decide) (by simp only [List.length_cons, List.length_nil]; omega)), Vw hA (by omega) hka, Option.bind_some]
    dsimp only
    rw [hc, Option.bind_some]
    dsimp only
    rw [zd, Option.bind_some, gv, Option.bind_some, show z8 v = some v from if_pos (by omega), Option.bind_some, if_pos (q8 (by simp only [List.length_cons, List.length_nil]; omega)), yt done x (by omega), r2]
  have RIGHT : ∀ x kb', kb = x :: kb' → (∀ z ∈ ka, Lib.compareBytes x z < 0) → ∃ v, b.L[pkb.length]? = some v ∧ b.K[pkb.length]? = some x ∧ ∃ z z1 z' r, zp gs p a b m (pka.length : Int) (w64 ((pkb.length : Int) + 1)) (acc ++ [GChange.mk (p ++ [GStep.mk 0 x 0]) false (GValue.mk 0 0 [] [] []) true v]) = some (z, z1, r) ∧
    yk gi p ks (ks.length : Int) a b (m' + 1) (done.length : Int) acc = some (z', r) ∧ zE r <= zE acc + (zO la + zO lb) * W := by
   intro x kb' hx hlt
   subst hx
   cases lb with
   | nil => simp at e4
   | cons v lb =>
    simp only [List.length_cons] at e4 hd hm2 hm2' lenB
    have s1 := List.pairwise_cons.1 sb1
    have gx : b.K[pkb.length]? = some x := by rw [hkb]; exact zy pkb x kb'
    have hva : v ∈ b.L := by rw [hlb]; simp
    have gv : b.L[pkb.length]? = some v := by rw [hlb, e2]; exact zy plb v lb
    have hxk := kI (List.mem_of_getElem? gx)
    have hvv := yw hva
    obtain ⟨k1, k2, k3⟩ := ksh x (ka ++ kb') (QM (fun z => by simp only [List.mem_append, List.mem_cons]; constructor <;> intro h <;> rcases h with h | h | h <;> simp [h]) fun z hz => (List.mem_append.1 hz).elim (hlt z) (s1.1 z))
    have hna : x ∉ a.K := fun h => by
     rw [hka] at h
     rcases List.mem_append.1 h with h | h
     ·exact irr x (i1 x h x List.mem_cons_self)
     ·exact irr x (hlt x h)
    obtain ⟨c, hc⟩ := PU hA (by omega) hna
    have s2 := Mg (p := p) (W := W) (x := v) (v := vsz a + vsz b) (k := x) (by omega) (by omega) (GChange.mk (p ++ [GStep.mk 0 x 0]) false (GValue.mk 0 0 [] [] []) true v) (zs _ _ _ _).2
    simp only [zO] at hacc ⊢
    rw [show zO la + (ptV v + zO lb) = ptV v + (zO la + zO lb) by omega, Nat.add_mul] at hacc ⊢
    obtain ⟨z, z1, z', r, r1, r2, r3⟩ := ih ka kb' pka (pkb ++ [x]) la lb pla (plb ++ [v]) (done ++ [x]) (acc ++ [GChange.mk (p ++ [GStep.mk 0 x 0]) false (GValue.mk 0 0 [] [] []) true v]) m m' (by omega) hka hla (by rw [hkb]; simp) (by rw [hlb]; simp) e1 (by simp [e2]) e3 (by omega)
     (fun z hz y hy => i1 z hz y (List.mem_cons_of_mem _ hy))
     (fun z hz y hy => by
      rcases List.mem_append.1 hz with hz | hz
      ·exact i2 z hz y hy
      ·rw [List.mem_singleton] at hz; rw [hz]; exact hlt y hy) k2 hkl (by omega) (by omega) (by rw [jk]; omega)
    rw [jk] at r3
    refine ⟨v, gv, gx, z, z1, z', r, by rw [yt pkb x (by omega)]; exact r1, ?_, by omega⟩
    rw [yk, if_pos (by omega), zd, Option.bind_some, k1, Option.bind_some, kY (by omega), Option.bind_some, kj (by omega), Option.bind_some, if_pos (xo (by decide) (by simp only [List.length_cons, List.length_nil]; omega)), hc, Option.bind_some]
    dsimp only
    rw [Vw hB (by omega) hkb, Option.bind_some]
    dsimp only
    rw [zd, Option.bind_some, gv, Option.bind_some, show z8 v = some v from if_pos (by omega), Option.bind_some, if_pos (q8 (by simp only [List.length_cons, List.length_nil]; omega)), yt done x (by omega), r2]
  have BOTH : ∀ x ka' kb', ka = x :: ka' → kb = x :: kb' → ∃ v u r0, a.L[pka.length]? = some v ∧ b.L[pkb.length]? = some u ∧ a.K[pka.length]? = some x ∧ b.K[pkb.length]? = some x ∧ gs v u (p ++ [GStep.mk 0 x 0]) = some r0 ∧ zE r0 <= 2 ^ 38 ∧ ∃ z z1 z' r, zp gs p a b m (w64 ((pka.length : Int) + 1)) (w64 ((pkb.length : Int) + 1)) (acc ++ r0) = some (z, z1, r) ∧
    yk gi p ks (ks.length : Int) a b (m' + 1) (done.length : Int) acc = some (z', r) ∧ zE r <= zE acc + (zO la + zO lb) * W := by
   intro x ka' kb' hx hy
   subst hx hy
   cases la with
   | nil => simp at e3
   | cons v la =>
    cases lb with
    | nil => simp at e4
    | cons u lb =>
     simp only [List.length_cons] at e3 e4 hd hm2 hm2' lenA lenB
     have s1 := List.pairwise_cons.1 sa1
     have t1 := List.pairwise_cons.1 sb1
     have gx : a.K[pka.length]? = some x := by rw [hka]; exact zy pka x ka'
     have gy : b.K[pkb.length]? = some x := by rw [hkb]; exact zy pkb x kb'
     have hva : v ∈ a.L := by rw [hla]; simp
     have hub : u ∈ b.L := by rw [hlb]; simp
     have gv : a.L[pka.length]? = some v := by rw [hla, e1]; exact zy pla v la
     have gu : b.L[pkb.length]? = some u := by rw [hlb, e2]; exact zy plb u lb
     have hxk := kI (List.mem_of_getElem? gx)
     have hvv := yw hva
     have huu := yw hub
     obtain ⟨k1, k2, k3⟩ := ksh x (ka' ++ kb') (QM (fun z => by
      simp only [List.mem_append, List.mem_cons]
      constructor
      ·rintro ((h | h) | (h | h))
       ·exact .inl h
       ·exact .inr (.inl h)
       ·exact .inl h
       ·exact .inr (.inr h)
      ·rintro (h | h | h)
       ·exact .inl (.inl h)
       ·exact .inl (.inr h)
       ·exact .inr (.inr h)) fun z hz => (List.mem_append.1 hz).elim (s1.1 z) (t1.1 z))
     obtain ⟨r0, p1, p2, p3⟩ := hG v hva u hub (p ++ [GStep.mk 0 x 0]) (by
      rw [QL]; simp only [zT, vy, GStep.Key]; omega)
     simp only [zO] at hacc ⊢
     rw [Em] at hacc ⊢
     have hrl := wY r0
     obtain ⟨z, z1, z', r, r1, r2, r3⟩ := ih ka' kb' (pka ++ [x]) (pkb ++ [x]) la lb (pla ++ [v]) (plb ++ [u]) (done ++ [x]) (acc ++ r0) m m' (by omega) (by rw [hka]; simp) (by rw [hla]; simp) (by rw [hkb]; simp) (by rw [hlb]; simp) (by simp [e1]) (by simp [e2]) (by omega) (by omega)
      (fun z hz y hy => by
       rcases List.mem_append.1 hz with hz | hz
       ·exact i1 z hz y (List.mem_cons_of_mem _ hy)
       ·rw [List.mem_singleton] at hz; rw [hz]; exact t1.1 y hy)
      (fun z hz y hy => by
       rcases List.mem_append.1 hz with hz | hz
       ·exact i2 z hz y (List.mem_cons_of_mem _ hy)
       ·rw [List.mem_singleton] at hz; rw [hz]; exact s1.1 y hy) k2 hkl (by omega) (by omega) (by rw [jk]; omega)
     rw [jk] at r3
     refine ⟨v, u, r0, gv, gu, gx, gy, p1, by omega, z, z1, z', r, by rw [yt pka x (by omega), yt pkb x (by omega)]; exact r1, ?_, by omega⟩
     rw [yk, if_pos (by omega), zd, Option.bind_some, k1, Option.bind_some, kY (by omega), Option.bind_some, kj (by omega), Option.bind_some, if_pos (xo (by decide) (by simp only [List.length_cons, List.length_nil]; omega)), Vw hA (by omega) hka, Option.bind_some]
     dsimp only
     rw [Vw hB (by omega) hkb, Option.bind_some]
     dsimp only
     rw [zd, Option.bind_some, gv, Option.bind_some, zd, Option.bind_some, gu, Option.bind_some, p2, Option.bind_some, if_pos (q8 (by omega)), yt done x (by omega), r2]
  cases ka with
  | nil =>
   cases kb with
   | nil =>
    have ec : qz ([] ++ []) = ([] : List (List UInt8)) := rfl
    rw [ec, List.append_nil] at hks
    refine ⟨_, _, _, acc, by rw [zp, hka, hkb, List.append_nil, List.append_nil, if_neg (by omega), if_neg (by omega)], by rw [yk, hks, if_neg (by omega)], by omega⟩
   | cons y kb =>
    obtain ⟨v, gv, gk, z, z1, z', r, r1, r2, r3⟩ := RIGHT y kb rfl (by simp)
    simp only [List.length_cons, List.length_nil] at lenA lenB
    exact ⟨z, z1, z', r, by rw [zp, if_neg (by omega), if_pos (by omega), if_pos (by omega), zd, Option.bind_some, gk, Option.bind_some, Yq (by omega), Option.bind_some, gv, Option.bind_some, if_pos (q8 (by simp only [List.length_cons, List.length_nil]; omega)), r1], r2, r3⟩
  | cons x ka =>
   cases kb with
   | nil =>
    obtain ⟨v, gv, gk, z, z1, z', r, r1, r2, r3⟩ := LEFT x ka rfl (by simp)
    simp only [List.length_cons, List.length_nil] at lenA lenB
    exact ⟨z, z1, z', r, by rw [zp, if_pos (by omega), if_neg (by omega), if_pos (by omega), zd, Option.bind_some, gk, Option.bind_some, Yq (by omega), Option.bind_some, gv, Option.bind_some, if_pos (q8 (by simp only [List.length_cons, List.length_nil]; omega)), r1], r2, r3⟩
   | cons y kb =>
    simp only [List.length_cons] at lenA lenB
    have g1 : a.K[pka.length]? = some x := by rw [hka]; exact zy pka x ka
    have g2 : b.K[pkb.length]? = some y := by rw [hkb]; exact zy pkb y kb
    have hstep := Zg x y
    rcases Int.lt_trichotomy (Lib.compareBytes x y) 0 with c | c | c
    ·obtain ⟨v, gv, gk, z, z1, z', r, r1, r2, r3⟩ := LEFT x ka rfl (fun z hz => by
      rcases List.mem_cons.1 hz with rfl | hz
      ·exact c
      ·exact Zw c ((List.pairwise_cons.1 sb1).1 z hz))
     exact ⟨z, z1, z', r, by rw [zp, if_pos (by omega), if_neg (by omega), if_neg (by omega), zd, Option.bind_some, gk, Option.bind_some, zd, Option.bind_some, g2, Option.bind_some, QI, Option.bind_some, if_pos c, Yq (by omega), Option.bind_some, gv, Option.bind_some, if_pos (q8 (by simp only [List.length_cons, List.length_nil]; omega)), r1], r2, r3⟩
    ·have e := Ys c
     subst e
     obtain ⟨v, u, r0, gv, gu, gx, gy, h1, h2, z, z1, z', r, r1, r2, r3⟩ := BOTH x ka kb rfl rfl
     have hrl := wY r0
     exact ⟨z, z1, z', r, by rw [zp, if_pos (by omega), if_neg (by omega), if_neg (by omega), zd, Option.bind_some, g1, Option.bind_some, zd, Option.bind_some, g2, Option.bind_some, QI, Option.bind_some, if_neg (by omega), if_neg (by omega), gv, Option.bind_some, gu, Option.bind_some, Yq (by omega), Option.bind_some, h1, Option.bind_some, if_pos (q8 (by omega)), r1], r2, r3⟩
    ·have c' : Lib.compareBytes y x < 0 := by have := Zg y x; omega
     obtain ⟨v, gv, gk, z, z1, z', r, r1, r2, r3⟩ := RIGHT y kb rfl (fun z hz => by
      rcases List.mem_cons.1 hz with rfl | hz
      ·exact c'
      ·exact Zw c' ((List.pairwise_cons.1 sa1).1 z hz))
     exact ⟨z, z1, z', r, by rw [zp, if_pos (by omega), if_neg (by omega), if_neg (by omega), zd, Option.bind_some, g1, Option.bind_some, zd, Option.bind_some, gk, Option.bind_some, QI, Option.bind_some, if_neg (by omega), if_pos c, Yq (by omega), Option.bind_some, gv, Option.bind_some, if_pos (q8 (by simp only [List.length_cons, List.length_nil]; omega)), r1], r2, r3⟩
theorem Tb : ∀ (d : Nat) (a b : GValue) (f g W : Nat), shV d a = true → shV d b = true → vsz a + vsz b + 4 <= f → vsz a + vsz b + 4 <= g → W <= 2 ^ 30 → (ptV a + ptV b) * W <= 2 ^ 38 → DB (yN f) (xH g) W a b
 | 0, a, b, f, g, W, h, _, _, _, _, _ => by cases h
 | d + 1, a, b, f, g, W, ha, hb, hf, hg, hW, hM => by
  intro p hp
  obtain ⟨f, rfl, hf'⟩ : ∃ n, f = n + 1 ∧ vsz a + vsz b + 3 <= n := ⟨f - 1, by omega, by omega⟩
  obtain ⟨g, rfl, hg'⟩ : ∃ n, g = n + 1 ∧ vsz a + vsz b + 3 <= n := ⟨g - 1, by omega, by omega⟩
  obtain ⟨la, ca⟩ := Jh ha
  obtain ⟨lb, cb⟩ := Jh hb
  obtain ⟨a1, a2, a3, a4, a5, a6⟩ := W3 la
  obtain ⟨b1, b2, b3, b4, b5, b6⟩ := W3 lb
  have va := y8 a
  have vb := y8 b
  have la0 := y0 a.L
  have ka0 := wk a.K
  have kb0 := wk b.K
  have hpl := wX p
  have pa := XJ a
  have pb := XJ b
  have hle : (zO a.L + zO b.L) * W <= (ptV a + ptV b) * W := Nat.mul_le_mul_right _ (by omega)
  have hGG : ∀ x ∈ a.L, ∀ y ∈ b.L, DB (yN f) (xH g) W x y := fun x hx y hy => by
   have h1 := yw hx
   have h2 := yw hy
   have h3 := Pi hx
   have h4 := Pi hy
   have : (ptV x + ptV y) * W <= (ptV a + ptV b) * W := Nat.mul_le_mul_right _ (by omega)
   exact Tb d x y f g W (ca x hx) (cb y hy) (by omega) (by omega) hW (by omega)
  obtain ⟨c, c1, c2⟩ := Ks (d + 1) a b _ _ ha hb (Nat.le_refl _) (Nat.le_refl _)
  rw [show yN (f + 1) a b p = vd (yN f) f a b p from rfl, show xH (g + 1) p a b = Z4 (xH g) g p a b from rfl]
  unfold vd Z4
  rw [show kg a b = some c from c1, Option.bind_some, show wa a b = some c from c2, Option.bind_some]
  by_cases c0 : c = 0
  ·rw [if_pos c0, if_pos c0]
   exact ⟨[], rfl, rfl, Nat.zero_le _⟩
  rw [if_neg c0, if_neg c0]
  have whole : zE [GChange.mk p true a true b] <= (ptV a + ptV b) * W := by
   have : 1 * W <= (ptV a + ptV b) * W := Nat.mul_le_mul_right _ (by omega)
   show 1 + (zT p + vsz a + vsz b) + 0 <= _
   omega
  have cp : yy p = some p := kY (by omega)
  have cva : z8 a = some a := if_pos (by omega)
  have cvb : z8 b = some b := if_pos (by omega)
  have r1 : zA 40 (0 + p.length) := xo (by decide) (by omega)
  have r2 : zA 216 (0 + [GChange.mk p true a true b].length) := q8 (by simp)
  rw [cp, Option.bind_some, cva, Option.bind_some, cvb, Option.bind_some, if_pos r1, if_pos r2]
  by_cases k4 : a.Kind = 4
  ·rw [if_pos k4, if_pos k4]
   by_cases k4b : b.Kind = 4
   ·rw [if_pos k4b, if_pos k4b]
    by_cases hl : (a.L.length : Int) = (b.L.length : Int)
    ·rw [if_pos hl, if_pos hl]
     obtain ⟨z, z', r, h1, h2, h3⟩ := Mf (a := a) (b := b) (p := p) (by omega) hGG hp hW a.L b.L [] [] [] f g rfl rfl rfl (by omega) (by omega) (by omega) (by simp only [zE]; omega)
     simp only [List.length_nil, Int.natCast_zero, zE] at h1 h2 h3
     rw [h1, h2]
     exact ⟨r, rfl, rfl, by omega⟩
    ·rw [if_neg hl, if_neg hl]; exact ⟨_, rfl, rfl, whole⟩
   ·rw [if_neg k4b, if_neg k4b]; exact ⟨_, rfl, rfl, whole⟩
  ·rw [if_neg k4, if_neg k4]
   by_cases k5 : a.Kind = 5
   ·rw [if_pos k5, if_pos k5]
    by_cases k5b : b.Kind = 5
    ·rw [if_pos k5b, if_pos k5b]
     have n1 := (a2 k5).1
     have n2 := (b2 k5b).1
     have ec : ∀ l : List (List UInt8), Xg (qM l) = qz l := fun l => rfl
     have hcl := Md (a.K ++ b.K)
     rw [List.length_append] at hcl
     rw [YA (by omega), Option.bind_some, YA (by omega), Option.bind_some, if_pos (xo (by decide) (by omega))]
     unfold yP y7
     rw [if_pos (by rw [List.length_append]; omega), Option.bind_some, if_pos (by rw [(kL _).length_eq, List.length_append]; omega), Option.bind_some, ec]
     obtain ⟨z, z1, z', r, h1, h2, h3⟩ := N0 (a := a) (b := b) (p := p) (a2 k5).2 (b2 k5b).2 hGG hp hW (qz (a.K ++ b.K)) (a.K.length + b.K.length) a.K b.K [] [] a.L b.L [] [] [] [] f g (Nat.le_refl _) rfl rfl rfl rfl rfl rfl (by omega) (by omega) (by simp) (by simp) rfl (by omega) (by omega) (by omega) (by simp only [zE]; omega)
     simp only [List.length_nil, Int.natCast_zero, zE] at h1 h2 h3
     rw [h1, h2]
     exact ⟨r, rfl, rfl, by omega⟩
    ·rw [if_neg k5b, if_neg k5b]; exact ⟨_, rfl, rfl, whole⟩
   ·rw [if_neg k5, if_neg k5]; exact ⟨_, rfl, rfl, whole⟩
theorem N1 {a b : GValue} (ha : vsz a <= 2 ^ 20) (hb : vsz b <= 2 ^ 20) : ∃ r t, Z3 a b = some (r, t) ∧ Z6 a b = some (r, t) ∧ zE r <= 2 ^ 34 := by
 unfold Z3 Z6
 rw [Pf ha, Pg ha, Option.bind_some, Option.bind_some]
 cases h1 : YJ a with
 | false => exact ⟨_, _, rfl, rfl, by decide⟩
 | true =>
  dsimp only
  rw [Pf hb, Pg hb, Option.bind_some, Option.bind_some]
  cases h2 : YJ b with
  | false => exact ⟨_, _, rfl, rfl, by decide⟩
  | true =>
   dsimp only
   unfold YJ at h1 h2
   obtain ⟨s1, p1⟩ := of_decide_eq_true h1
   obtain ⟨s2, p2⟩ := of_decide_eq_true h2
   have hM : (ptV a + ptV b) * 2 ^ 22 <= 80 * 2 ^ 22 := Nat.mul_le_mul_right _ (by omega)
   obtain ⟨r, r1, r2, r3⟩ := Tb 5 a b _ _ (2 ^ 22) s1 s2 (Nat.le_refl _) (Nat.le_refl _) (by decide) (by omega) [] (by simp only [zT]; omega)
   unfold ve Z5
   rw [r1, r2, Option.bind_some, Option.bind_some, show kh r = some r from if_pos (by omega), Option.bind_some]
   exact ⟨r, true, rfl, rfl, by omega⟩
theorem law_Diff {a b : GValue} (h1 : MdV a) (h2 : MdV b) : kq a b = some true := by
 unfold kq
 rw [Ma h1 (by decide) (by decide), Option.bind_some]
 unfold kJ
 by_cases ca : (vsz a : Int) <= 1048576
 ·rw [if_pos ca, if_neg (by omega), Ma h2 (by omega) (by omega), Option.bind_some]
  unfold kJ
  by_cases cb : (vsz b : Int) <= 1048576 - vsz a
  ·rw [if_pos cb, if_neg (by omega), Mb (by omega), Option.bind_some, Mb (by omega), Option.bind_some]
   obtain ⟨r, t, e1, e2, e3⟩ := N1 (a := a) (b := b) (by omega) (by omega)
   obtain ⟨k1, x1, y1, z1, m1, m2, m3⟩ := Ph (v := a) (i := 1) (by omega) (by decide) (by decide)
   obtain ⟨k2, x2, y2, z2, m4, m5, m6⟩ := Ph (v := b) (i := k1) (by omega) m2 (by omega)
   have hcl := PY r
   rw [e1, e2, Option.bind_some]
   dsimp only
   rw [Option.bind_some]
   dsimp only
   rw [Pa (by omega), Option.bind_some]
   dsimp only
   have fin : (zJ a a).bind (fun r12 => match r12 with
     | true => (zJ b b).bind fun r13 => match r13 with
      | true => (yJ a.Kind a.N 1 a.S a.K a.L).bind fun ⟨r14_0, r14_1, r14_2, r14_3⟩ => (yJ b.Kind b.N r14_0 b.S b.K b.L).bind fun ⟨r15_0, r15_1, r15_2, r15_3⟩ =>
       if r15_0 < 0 then none else (yZ 1 r).bind fun ⟨r17_0, r17_1⟩ => (xd r17_1 1).bind fun r18 => if r18 < 0 then none else if r18 = r17_0 then some true else none
      | false => none
     | false => none) = some true := by
    rw [Mc (by omega), Option.bind_some]
    dsimp only
    rw [Mc (by omega), Option.bind_some]
    dsimp only
    rw [m1, Option.bind_some]
    dsimp only
    rw [m4, Option.bind_some]
    dsimp only
    rw [if_neg (by omega), R2 (by decide) (by omega), Option.bind_some]
    dsimp only
    rw [R5 (Tk _ _) (by decide) (by rw [PZ]; omega), Option.bind_some, Mm, if_neg (by omega), if_pos rfl]
   cases t with
   | true => rw [if_pos rfl, if_pos rfl]; exact fin
   | false => rw [if_neg (by decide), if_neg (by decide)]; exact fin
  ·rw [if_neg cb, if_pos (by decide)]
 ·rw [if_neg ca, if_pos (by decide)]
end
end Go.Am.Try
