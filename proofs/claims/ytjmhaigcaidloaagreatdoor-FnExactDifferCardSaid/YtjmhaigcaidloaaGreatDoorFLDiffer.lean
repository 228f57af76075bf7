/- The law of FnExactDiffer, in plain terms. -/
import Derived.Test.YtjmhaigcaidloaaGreatDoorFG4
set_option linter.unusedVariables false
set_option linter.unusedSimpArgs false
namespace Go.Am.Try
open Go.Am
noncomputable section
theorem B6 {v : GValue} (h : vsz v <= 2 ^ 20) : jl v = some (Zp v) := by
 unfold jl jR
 rw [if_pos ⟨h, by decide, by decide, by decide⟩, Option.bind_some]
 congr 1
 unfold okV Zp
 rw [show (6 - (1 : Int)).toNat = 5 from rfl]
 by_cases hc : shV 5 v = true ∧ (ptV v : Int) <= 40
 ·rw [if_pos hc, decide_eq_true hc]; exact decide_eq_true (by omega)
 ·rw [if_neg hc, decide_eq_false hc]; rfl
theorem B7 {v : GValue} (h : vsz v <= 2 ^ 20) : qi v = some (Zp v) := by
 unfold qi wM xF Zp
 rw [if_pos ⟨h, by decide, by decide⟩, Option.bind_some]
 rw [show (5 : Int).toNat = 5 from rfl]
 cases hs : shV 5 v
 ·simp
 ·dsimp only
  rw [if_pos h, Option.bind_some]
  simp
def MdS (s : GState) : Prop := s.Pending.length <= 2 ^ 63 - 1 ∧ s.Entries.length <= 2 ^ 63 - 1 ∧ YA s.Entries
theorem Nl {s : GState} {n : Int} (h : MdS s) (h0 : 0 <= n) (h1 : n <= 2 ^ 20) : jf s n = some (wk (ssz s) n) := by
 unfold jf
 rw [Y9 h.1 h0 h1, Option.bind_some]
 unfold wk ssz
 by_cases c1 : (s.Pending.length : Int) <= n
 ·rw [if_pos c1, if_neg (by omega)]
  unfold qH
  rw [if_pos ⟨h.2.1, h.2.2, by omega, by omega⟩, Option.bind_some]
  unfold wk
  by_cases c2 : (xT s.Entries : Int) <= n - s.Pending.length
  ·rw [if_pos c2, if_neg (by omega), if_pos (by omega)]; congr 1; omega
  ·rw [if_neg c2, if_pos (by omega), if_neg (by omega)]
 ·rw [if_neg c1, if_pos (by omega), if_neg (by omega)]
theorem Nm {s : GState} (h : ssz s <= 2 ^ 20) : jj s = some s := by
 unfold ssz at h
 unfold jj yz qI
 rw [if_pos (by omega), Option.bind_some, if_pos (by omega), Option.bind_some]
 cases s; rfl
theorem Nn {s : GState} (h : ssz s <= 2 ^ 39) : jx s s = some true := by
 unfold ssz at h
 unfold jx yl
 rw [if_pos rfl]
 by_cases ho : s.Open = true
 ·rw [if_pos ho, if_pos ho, if_pos ⟨rfl, by omega⟩, Option.bind_some]; dsimp only; rw [if_pos rfl, Ko (by omega), Option.bind_some]
 ·rw [if_neg ho, if_neg ho, if_pos ⟨rfl, by omega⟩, Option.bind_some]; dsimp only; rw [if_pos rfl, Ko (by omega), Option.bind_some]
theorem PG {s : GState} {k : Int} (h0 : 0 <= k) (h1 : k + 4 * ssz s <= 2 ^ 39) : ∃ (k' : Int) (a : List UInt8) (b : List GEntry), qv s.Serial s.Open s.Act k s.Pending s.Entries = some (k', a, b) ∧ 0 <= k' ∧ k' <= k + 4 * ssz s := by
 unfold ssz at h1 ⊢
 have := Nw s.Entries
 unfold qv
 rw [kC (by omega) (by omega), Option.bind_some]
 dsimp only
 rw [Us (by omega) (by omega), Option.bind_some]
 exact ⟨_, _, _, rfl, by omega, by omega⟩
theorem EB {s : List (List UInt8)} (h : bsz s <= 2 ^ 39) : yI s s = some true := if_pos ⟨rfl, by omega⟩
theorem LS {g : List (List UInt8)} (h : bsz g <= 2 ^ 30) : ∃ (k : Int) (a : List (List UInt8)), yw 1 g = some (k, a) ∧ 0 <= k ∧ wb a 1 = some k := by
 have hb := Ya g
 refine ⟨_, _, v7 (by decide) (by omega), by omega, ?_⟩
 rw [Ut (PU _ _) (by decide) (by rw [OU]; omega), Rc]
def Jy (a b : Int) : Int := if a < b then -1 else if b < a then 1 else 0
theorem JI (a b : Int) : xZ a b = some (Jy a b) := by
 unfold xZ kj Jy
 rw [Option.bind_some, Option.bind_some]
 dsimp only
 split
 ·rfl
 ·split <;> rfl
theorem KQ (a b : Int) : jp a b = some (Jy a b) := by
 unfold jp Jy
 split
 ·rfl
 ·split <;> rfl
theorem Jz (a : Int) : Jy a a = 0 := by unfold Jy; rw [if_neg (by omega), if_neg (by omega)]
theorem JJ {a b : Int} (h : a ≠ b) : Jy a b ≠ 0 := by
 unfold Jy
 split
 ·decide
 ·rw [if_pos (by omega)]; decide
theorem Np : ∀ (a b : List UInt8), yk a b = some (Lib.compareBytes a b) := by
 intro a
 induction a with
 | nil => intro b; cases b <;> simp [yk, Op.bytesLess, Lib.compareBytes]
 | cons x a ih =>
  intro b
  cases b with
  | nil => simp [yk, Op.bytesLess, Lib.compareBytes]
  | cons y b =>
   have := ih b
   unfold yk at this ⊢
   simp only [Op.bytesLess, Lib.compareBytes]
   by_cases h1 : x < y
   ·simp [h1]
   ·by_cases h2 : y < x
    ·have h3 : ¬ x = y := fun e => by subst e; exact h1 h2
     have h4 : ¬ y = x := fun e => h3 e.symm
     simp [h1, h2, h3, h4]
    ·have h3 : x = y := UInt8.le_antisymm (UInt8.not_lt.1 h2) (UInt8.not_lt.1 h1)
     subst h3
     simpa [h1] using this
theorem OP (a b : List UInt8) : yn a b = some (Lib.compareBytes a b) := rfl
theorem G9 : Lib.compareBytes [] [] = 0 := rfl
theorem or3 (a b c : Int) : jt [a, b, c] = some (if a = 0 then (if b = 0 then (if c = 0 then 0 else c) else b) else a) := by
 unfold jt
 rw [if_pos (by simp)]
 rfl
theorem PH {v : GValue} (h : yq v = true) : (v.Kind = 3 ∨ v.S.length = 0) ∧ (v.Kind = 5 → v.K.length = v.L.length ∧ Asc v.K) ∧ v.L.length <= 40 ∧ (v.Kind = 3 → v.N = 0 ∧ v.L.length = 0) ∧ (v.Kind ≠ 5 → v.K.length = 0) ∧ v.K.length <= 40 := by
 unfold yq at h
 by_cases k0 : v.Kind = 0 ∨ v.Kind = 6
 ·rw [if_pos k0] at h
  have h := of_decide_eq_true h
  exact ⟨.inr h.2.1, fun e => by omega, by omega, fun e => by omega, fun _ => h.2.2.1, by omega⟩
 rw [if_neg k0] at h
 by_cases k1 : v.Kind = 1
 ·rw [if_pos k1] at h
  have h := of_decide_eq_true h
  exact ⟨.inr h.2.1, fun e => by omega, by omega, fun e => by omega, fun _ => h.2.2.1, by omega⟩
 rw [if_neg k1] at h
 by_cases k2 : v.Kind = 2
 ·rw [if_pos k2] at h
  have h := of_decide_eq_true h
  exact ⟨.inr h.2.1, fun e => by omega, by omega, fun e => by omega, fun _ => h.2.2.1, by omega⟩
 rw [if_neg k2] at h
 by_cases k3 : v.Kind = 3
 ·rw [if_pos k3, Bool.and_eq_true] at h
  have h := of_decide_eq_true h.2
  exact ⟨.inl k3, fun e => by omega, by omega, fun _ => ⟨h.1, h.2.2⟩, fun _ => h.2.1, by omega⟩
 rw [if_neg k3] at h
 by_cases k4 : v.Kind = 4
 ·rw [if_pos k4] at h
  have h := of_decide_eq_true h
  exact ⟨.inr h.2.1, fun e => by omega, by omega, fun e => by omega, fun _ => h.2.2.1, by omega⟩
 rw [if_neg k4] at h
 by_cases k5 : v.Kind = 5
 ·rw [if_pos k5, Bool.and_eq_true] at h
  have h1 := of_decide_eq_true h.1
  exact ⟨.inr h1.2.2.1, fun _ => ⟨h1.1, GC h.2⟩, by omega, fun e => by omega, fun e => absurd k5 e, by omega⟩
 ·rw [if_neg k5] at h; cases h
theorem OQ {d : Nat} {v : GValue} (h : shV (d + 1) v = true) : yq v = true ∧ ∀ x ∈ v.L, shV d x = true := by
 rw [shV, Bool.and_eq_true] at h
 exact ⟨h.1, fun x hx => List.all_eq_true.1 h.2 x hx⟩
theorem PI : ∀ (d : Nat) (a b : GValue) (f g : Nat), shV d a = true → shV d b = true → vsz a + 3 <= f → vsz a + 3 <= g → ∃ c, yE f a b = some c ∧ zJ g a b = some c
 | 0, a, b, f, g, h, _, _, _ => by cases h
 | d + 1, a, b, f, g, ha, hb, hf, hg => by
  obtain ⟨f, rfl, hf'⟩ : ∃ n, f = n + 1 ∧ vsz a + 2 <= n := ⟨f - 1, by omega, by omega⟩
  obtain ⟨g, rfl, hg'⟩ : ∃ n, g = n + 1 ∧ vsz a + 2 <= n := ⟨g - 1, by omega, by omega⟩
  obtain ⟨la, ca⟩ := OQ ha
  obtain ⟨lb, cb⟩ := OQ hb
  obtain ⟨a1, a2, a3, a4, a5, a6⟩ := PH la
  obtain ⟨b1, b2, b3, b4, b5, b6⟩ := PH lb
  have hva := qa a
  have hLa := yR a.L
  rw [show yE (f + 1) a b = Zh (yE f) f a b from rfl, show zJ (g + 1) a b = qe (zJ g) g a b from rfl]
  unfold Zh qe
  rw [JI, Option.bind_some, JI, Option.bind_some, OP, Option.bind_some, or3, Option.bind_some]
  by_cases hk : a.Kind = b.Kind
  ·rw [if_pos hk, hk, Jz, if_pos rfl]
   by_cases k3 : a.Kind = 3
   ·have k3b : b.Kind = 3 := by omega
    rw [if_pos k3b, (a4 k3).1, (b4 k3b).1, Jz, if_pos rfl, Np, Option.bind_some]
    refine ⟨_, rfl, ?_⟩
    by_cases hc : Lib.compareBytes a.S b.S = 0
    ·rw [if_pos hc, if_pos rfl, hc, (a4 k3).2, (b4 k3b).2]
     obtain ⟨g, rfl, _⟩ : ∃ n, g = n + 1 ∧ 0 <= n := ⟨g - 1, by omega, by omega⟩
     rw [zO, if_neg (by decide), Option.bind_some]
     dsimp only
     rw [JI]; rfl
    ·rw [if_neg hc, if_neg hc]
   ·have k3b : ¬ b.Kind = 3 := by omega
    have s1 : a.S = [] := List.eq_nil_of_length_eq_zero (a1.resolve_left k3)
    have s2 : b.S = [] := List.eq_nil_of_length_eq_zero (b1.resolve_left k3b)
    rw [if_neg k3b, s1, s2, G9, if_pos rfl]
    by_cases hn : a.N = b.N
    ·rw [if_pos hn, hn, Jz, if_pos rfl, if_pos rfl]
     have loop : ∀ (j i m m' : Nat), i + j = min a.L.length b.L.length → j < m → j < m' → (∃ z z', xm (yE f) a b m (i : Int) = some (.inr z) ∧ zO (zJ g) (if (b.L.length : Int) < (a.L.length : Int) then (b.L.length : Int) else (a.L.length : Int)) a b m' (i : Int) = some (.inr z')) ∨
       ∃ c, xm (yE f) a b m (i : Int) = some (.inl c) ∧ zO (zJ g) (if (b.L.length : Int) < (a.L.length : Int) then (b.L.length : Int) else (a.L.length : Int)) a b m' (i : Int) = some (.inl c) := by
      have hmin : (if (b.L.length : Int) < (a.L.length : Int) then (b.L.length : Int) else (a.L.length : Int)) = ((min a.L.length b.L.length : Nat) : Int) := by split <;> omega
      rw [hmin]
      intro j
      induction j with
      | zero =>
       intro i m m' hi hm hm'
       obtain ⟨m, rfl, _⟩ := zf hm
       obtain ⟨m', rfl, _⟩ := zf hm'
       refine .inl ⟨(i : Int), (i : Int), ?_, by rw [zO, if_neg (by omega)]⟩
       rw [xm]
       by_cases h1 : ((i : Nat) : Int) < (a.L.length : Int)
       ·rw [if_pos h1, if_neg (by omega)]
       ·rw [if_neg h1]
      | succ j ih =>
       intro i m m' hi hm hm'
       obtain ⟨m, rfl, hm2⟩ := zf hm
       obtain ⟨m', rfl, hm2'⟩ := zf hm'
       have i1 : i < a.L.length := by omega
       have i2 : i < b.L.length := by omega
       have next := ih (i + 1) m m' (by omega) (by omega) (by omega)
       have hin : 1 + vsz a.L[i] <= yK a.L := w6 (List.getElem_mem i1)
       obtain ⟨c, c1, c2⟩ := PI d a.L[i] b.L[i] f g (ca _ (List.getElem_mem i1)) (cb _ (List.getElem_mem i2)) (by omega) (by omega)
       rw [xm, zO, if_pos (by omega), if_pos (by omega)]
       rw [if_pos (show ((i : Nat) : Int) < ((min a.L.length b.L.length : Nat) : Int) by omega)]
       by_cases k5 : a.Kind = 5
       ·have e1 := (a2 k5).1
        have e2 := (b2 (by omega)).1
        rw [if_pos k5, if_pos k5, zc, Option.bind_some, Option.bind_some, zg (show i < a.K.length by omega), Option.bind_some, Option.bind_some, zg (show i < b.K.length by omega), Option.bind_some, Option.bind_some, Np, Option.bind_some, OP, Option.bind_some]
        by_cases hc : Lib.compareBytes (a.K[i]'(by omega)) (b.K[i]'(by omega)) = 0
        ·rw [if_pos hc, if_pos hc, zg i1, Option.bind_some, Option.bind_some, zg i2, Option.bind_some, Option.bind_some, c1, Option.bind_some, c2, Option.bind_some, zC (by omega)]
         by_cases h0 : c = 0
         ·rw [if_pos h0, if_pos h0]; exact next
         ·rw [if_neg h0, if_neg h0]; exact .inr ⟨c, rfl, rfl⟩
        ·rw [if_neg hc, if_neg hc]; exact .inr ⟨_, rfl, rfl⟩
       ·rw [if_neg k5, if_neg k5, zc, Option.bind_some, Option.bind_some, zg i1, Option.bind_some, Option.bind_some, zg i2, Option.bind_some, Option.bind_some, c1, Option.bind_some, c2, Option.bind_some, zC (by omega)]
        by_cases h0 : c = 0
        ·rw [if_pos h0, if_pos h0]; exact next
        ·rw [if_neg h0, if_neg h0]; exact .inr ⟨c, rfl, rfl⟩
     have := loop (min a.L.length b.L.length) 0 f g (by omega) (by omega) (by omega)
     rw [show ((0 : Nat) : Int) = 0 from rfl] at this
     rcases this with ⟨z, z', e1, e2⟩ | ⟨c, e1, e2⟩
     ·rw [e1, e2, Option.bind_some, Option.bind_some]
      dsimp only
      rw [KQ, JI]
      exact ⟨_, rfl, rfl⟩
     ·rw [e1, e2]
      exact ⟨c, rfl, rfl⟩
    ·rw [if_neg hn, if_neg (JJ hn), if_neg (JJ hn), KQ]
     exact ⟨_, rfl, rfl⟩
  ·rw [if_neg hk, if_neg (JJ hk), if_neg (JJ hk), KQ]
   exact ⟨_, rfl, rfl⟩
theorem Pz {a b : GValue} (ha : shV 5 a = true) (hb : shV 5 b = true) : ∃ c, qr a b = some c ∧ xR a b = some c := PI 5 a b _ _ ha hb (Nat.le_refl _) (Nat.le_refl _)
/-! #### entries found -/
theorem PJ {a : List UInt8} : ∀ (l : List GEntry) (i : Nat), y5 l a = true → ∃ k, kR l a i = ((i + k : Nat) : Int) ∧ ∃ e, l[k]? = some e ∧ e.Addr = a
 | [], i, h => by simp [y5] at h
 | e :: l, i, h => by
  rw [kR]
  by_cases he : e.Addr = a
  ·exact ⟨0, by rw [if_pos he]; rfl, e, rfl, he⟩
  ·have h' : y5 l a = true := by
    unfold y5 at h ⊢
    rw [List.any_cons, decide_eq_false he, Bool.false_or] at h
    exact h
   obtain ⟨k, h1, e', h2, h3⟩ := PJ l (i + 1) h'
   exact ⟨k + 1, by rw [if_neg he, h1]; congr 1; omega, e', by simpa using h2, h3⟩
theorem EC {a : List (List UInt8)} : Asc a ↔ ∀ (i j : Nat) x y, i < j → a[i]? = some x → a[j]? = some y → Op.bytesLess x y = true := by
 constructor
 ·intro h i j x y hij hi hj
  obtain ⟨hi1, hi2⟩ := List.getElem?_eq_some_iff.1 hi
  obtain ⟨hj1, hj2⟩ := List.getElem?_eq_some_iff.1 hj
  have := h i j hj1 hij
  rw [hi2, hj2] at this
  exact this
 ·intro h i j hj hij
  exact h i j _ _ hij (List.getElem?_eq_getElem _) (List.getElem?_eq_getElem _)
theorem DL {s : GState} {a : List UInt8} (hl : s.Entries.length <= 2 ^ 40) (hA : Asc (s.Entries.map GEntry.Addr)) : ∃ c : Nat, ye s a = some ((c : Int), y5 s.Entries a) ∧ (y5 s.Entries a = true ↔ (s.Entries.map GEntry.Addr)[c]? = some a) := by
 unfold ye
 obtain ⟨c, hp, hc⟩ := Nj (a := s.Entries) (x := a) hl hA
 rw [hc]
 exact ⟨c, rfl, Xa.trans (WV.mem hA hp).symm⟩
theorem ED {l : List GEntry} {c : Nat} {a : List UInt8} (h : (l.map GEntry.Addr)[c]? = some a) : ∃ x, l[c]? = some x ∧ x.Addr = a := by
 rw [List.getElem?_map] at h
 obtain ⟨x, h1, h2⟩ := Option.map_eq_some_iff.1 h
 exact ⟨x, h1, h2⟩
theorem EE {l : List GEntry} {a : List UInt8} {c : Nat} (hA : Asc (l.map GEntry.Addr)) (h : (l.map GEntry.Addr)[c]? = some a) : kR l a 0 = (c : Int) := by
 have hb : y5 l a = true := Xa.2 (List.mem_of_getElem? h)
 obtain ⟨k, h1, e, h2, h3⟩ := PJ l 0 hb
 rw [Nat.zero_add] at h1
 have hk : (l.map GEntry.Addr)[k]? = some a := by rw [List.getElem?_map, h2, Option.map_some, h3]
 have A := EC.1 hA
 have : k = c := by
  rcases Nat.lt_trichotomy k c with h4 | h4 | h4
  ·have := A k c a a h4 hk h; rw [ZD] at this; cases this
  ·exact h4
  ·have := A c k a a h4 h hk; rw [ZD] at this; cases this
 rw [h1, this]
theorem Nq {a : List (List UInt8)} (h : Asc a) : a.Nodup := by
 unfold List.Nodup
 rw [List.pairwise_iff_getElem]
 intro i j hi hj hij e
 have := h i j hj hij
 rw [e, ZD] at this
 cases this
structure OkD (s : GState) : Prop where
 asc : Asc (s.Entries.map GEntry.Addr)
 val : ∀ x ∈ s.Entries, shV 5 x.Val = true
theorem Nr {s : GState} (h : stB s = true) : OkD s := by
 unfold stB at h
 simp only [Bool.and_eq_true] at h
 have h2 := h.1.2
 refine ⟨PY h2, fun x hx => ?_⟩
 unfold Ri at h2
 have h3 := DQ h2 hx
 unfold Yr ZO at h3
 simp only [Bool.and_eq_true] at h3
 exact (of_decide_eq_true h3.1.1.2.1.2).1
def jW (B : List GEntry) (e : GEntry) : Bool := !y5 B e.Addr || (match B[(kR B e.Addr 0).toNat]? with | some y => decide ((qr e.Val y.Val).getD 0 ≠ 0) | none => false)
theorem Wp {t : GState} {e : GEntry} (hn : t.Entries.length <= 2 ^ 40) (ht : OkD t) (he : shV 5 e.Val = true) :
  (yy t e.Addr = some (-1) ∧ (∃ c : Int, ye t e.Addr = some (c, false)) ∧ jW t.Entries e = true ∧ y5 t.Entries e.Addr = false) ∨
  ∃ (k : Nat) (y : GEntry) (c : Int), yy t e.Addr = some (k : Int) ∧ t.Entries[k]? = some y ∧ ye t e.Addr = some ((k : Int), true) ∧ qr e.Val y.Val = some c ∧ xR e.Val y.Val = some c ∧ jW t.Entries e = decide (c ≠ 0) ∧ y5 t.Entries e.Addr = true := by
 obtain ⟨c, hc, hb⟩ := DL (a := e.Addr) hn ht.asc
 unfold yy
 rw [if_pos hn]
 cases hh : y5 t.Entries e.Addr with
 | false => exact .inl ⟨by rw [VF hh], ⟨_, by rw [hc, hh]⟩, by unfold jW; rw [hh]; rfl, rfl⟩
 | true =>
  have hk := hb.1 hh
  obtain ⟨y, hy, _⟩ := ED hk
  have hf := EE ht.asc hk
  obtain ⟨d, d1, d2⟩ := Pz he (ht.val y (List.mem_of_getElem? hy))
  refine .inr ⟨c, y, d, by rw [hf], hy, by rw [hc, hh], d1, d2, ?_, rfl⟩
  unfold jW
  rw [hh, hf, Int.toNat_natCast, hy]
  simp only [d1, Option.getD_some, Bool.not_true, Bool.false_or]
/-! #### texts put in order -/
theorem TH {x : List UInt8} : ∀ l, x ∉ l → qq x true l = l
 | [], _ => rfl
 | y :: r, h => by
  have hy : Lib.compareBytes x y ≠ 0 := fun e => h (by rw [Wr e]; exact List.mem_cons_self)
  rw [qq, if_neg hy, TH r (fun hr => h (List.mem_cons_of_mem _ hr))]
theorem OR {x : List UInt8} : ∀ l, x ∉ l → qq x false l = vm x l
 | [], _ => rfl
 | y :: r, h => by
  have hy : Lib.compareBytes x y ≠ 0 := fun e => h (by rw [Wr e]; exact List.mem_cons_self)
  have hr : x ∉ r := fun hr => h (List.mem_cons_of_mem _ hr)
  rw [qq, vm]
  by_cases c : Lib.compareBytes x y < 0
  ·rw [if_pos (by omega), if_pos c, if_neg hy, TH r hr]
  ·rw [if_neg (by omega), if_neg c, OR r hr]
theorem vD {x : List UInt8} : ∀ (l : List (List UInt8)) (b : Bool), (qq x b l).length <= l.length + flU b
 | [], true => Nat.le_refl _
 | [], false => Nat.le_refl _
 | y :: r, true => by
  have := vD (x := x) r true
  rw [qq]
  simp only [flU] at this ⊢
  split <;> simp only [List.length_cons] <;> omega
 | y :: r, false => by
  have h1 := vD (x := x) r true
  have h2 := vD (x := x) r false
  rw [qq]
  simp only [flU] at h1 h2 ⊢
  split
  ·split <;> simp only [List.length_cons] <;> omega
  ·simp only [List.length_cons]; omega
def fU (acc ts : List (List UInt8)) : List (List UInt8) := ts.foldl (fun acc x => qq x false acc) acc
theorem LT : ∀ (ts acc : List (List UInt8)), (ts ++ acc).Nodup → fU acc ts = ts.foldl (fun acc x => vm x acc) acc
 | [], _, _ => rfl
 | t :: ts, acc, h => by
  have h' := (List.nodup_cons (a := t) (l := ts ++ acc)).1 h
  have ht : t ∉ acc := fun hm => h'.1 (List.mem_append_right _ hm)
  show fU (qq t false acc) ts = ts.foldl (fun acc x => vm x acc) (vm t acc)
  rw [OR acc ht]
  refine LT ts _ ?_
  have hp : (ts ++ vm t acc).Perm (t :: (ts ++ acc)) := ((XM t acc).append_left ts).trans List.perm_middle
  exact hp.nodup_iff.2 h
theorem GA {a b : List (List UInt8)} (h : a.Perm b) : bsz a = bsz b := by
 induction h with
 | nil => rfl
 | cons x _ ih => rw [jH, jH, ih]
 | swap x y l => rw [jH, jH, jH, jH]; omega
 | trans _ _ h1 h2 => rw [h1, h2]
theorem KR (p : GEntry → Bool) : ∀ l : List GEntry, bsz ((l.filter p).map GEntry.Addr) <= xT l
 | [] => by simp [bsz, xT]
 | e :: l => by
  have ih := KR p l
  rw [List.filter_cons]
  simp only [xT]
  unfold esz
  split
  ·rw [List.map_cons, jH]; omega
  ·omega
theorem PK {l : List GEntry} (p : GEntry → Bool) (h : Asc (l.map GEntry.Addr)) : ((l.filter p).map GEntry.Addr).Nodup := (Nq h).sublist (List.filter_sublist.map _)
/-! #### the vR -/
def ads (p : GEntry → Bool) (l : List GEntry) : List (List UInt8) := (l.filter p).map GEntry.Addr
theorem kW {p : GEntry → Bool} {x : GEntry} {l : List GEntry} (h : p x = true) : ads p (x :: l) = x.Addr :: ads p l := by unfold ads; rw [List.filter_cons, if_pos h]; rfl
theorem YI {p : GEntry → Bool} {x : GEntry} {l : List GEntry} (h : p x = false) : ads p (x :: l) = ads p l := by unfold ads; rw [List.filter_cons, if_neg (by rw [h]; decide)]
theorem JK {acc : List (List UInt8)} {x : List UInt8} (h : acc.length <= 2 ^ 38) : y3 acc x = some (qq x false acc) := if_pos h
theorem B8 {s t : GState} (hs : OkD s) (ht : OkD t) (hsn : s.Entries.length <= 2 ^ 20) (htn : t.Entries.length <= 2 ^ 20) : ∀ (l p : List GEntry) (acc : List (List UInt8)) (m : Nat), s.Entries = p ++ l → l.length < m → acc.length + l.length <= 2 ^ 38 →
  yv s t m acc (p.length : Int) = some (fU acc (ads (jW t.Entries) l)) := by
 intro l
 induction l with
 | nil =>
  intro p acc m he hm _
  obtain ⟨m, rfl, _⟩ := zf hm
  rw [yv, he, List.append_nil, if_neg (by omega)]; rfl
 | cons x l ih =>
  intro p acc m he hm hb
  obtain ⟨m, rfl, hm'⟩ := zf hm
  simp only [List.length_cons] at hb hm'
  have hlen : s.Entries.length = p.length + (l.length + 1) := by rw [he]; simp
  have hx : x ∈ s.Entries := by rw [he]; simp
  have hlu := vD (x := x.Addr) acc false
  simp only [flU] at hlu
  have next := fun acc h => ih (p ++ [x]) acc m (by rw [he]; simp) hm' h
  rw [yv, if_pos (by omega), zc, Option.bind_some, show s.Entries[p.length]? = some x by rw [he]; exact yh p x l, Option.bind_some, xK p x (by omega)]
  rcases Wp (by omega) ht (hs.val x hx) with ⟨h1, _, h3, _⟩ | ⟨k, y, c, h1, h2, _, h4, _, h6, _⟩
  ·rw [h1, Option.bind_some, if_pos (by decide), JK (by omega), Option.bind_some, next _ (by omega), kW h3]; rfl
  ·rw [h1, Option.bind_some, if_neg (by omega), zc, Option.bind_some, h2, Option.bind_some, h4, Option.bind_some]
   by_cases c0 : c = 0
   ·rw [if_pos c0, next _ (by omega), YI (by rw [h6, c0]; rfl)]
   ·rw [if_neg c0, JK (by omega), Option.bind_some, next _ (by omega), kW (by rw [h6]; exact decide_eq_true c0)]; rfl
theorem sd0 {s t : GState} {n : Nat} (hs : OkD s) (ht : OkD t) (hsn : s.Entries.length <= 2 ^ 20) (htn : t.Entries.length <= 2 ^ 20) (hn : s.Entries.length < n) : ∀ (l p : List GEntry) (m : Nat), s.Entries = p ++ l → l.length < m →
  ∃ o, ww n s t [] m (p.length : Int) = some o ∧ (match o with | .inl r => r | .inr _ => []) = fU [] (ads (jW t.Entries) l) := by
 intro l
 induction l with
 | nil =>
  intro p m he hm
  obtain ⟨m, rfl, _⟩ := zf hm
  refine ⟨_, by rw [ww, he, List.append_nil, if_neg (by omega)], rfl⟩
 | cons x l ih =>
  intro p m he hm
  obtain ⟨m, rfl, hm'⟩ := zf hm
  simp only [List.length_cons] at hm'
  have hlen : s.Entries.length = p.length + (l.length + 1) := by rw [he]; simp
  have hx : x ∈ s.Entries := by rw [he]; simp
  have hlu := vD (x := x.Addr) [] false
  simp only [flU, List.length_nil] at hlu
  have next := ih (p ++ [x]) m (by rw [he]; simp) hm'
  have go := fun acc h => B8 hs ht hsn htn l (p ++ [x]) acc n (by rw [he]; simp) (by omega) h
  rw [ww, if_pos (by omega), zc, Option.bind_some, show s.Entries[p.length]? = some x by rw [he]; exact yh p x l, Option.bind_some, xK p x (by omega)]
  rcases Wp (by omega) ht (hs.val x hx) with ⟨h1, _, h3, _⟩ | ⟨k, y, c, h1, h2, _, h4, _, h6, _⟩
  ·rw [h1, Option.bind_some, if_pos (by decide), JK (by simp), Option.bind_some, go _ (by omega), Option.bind_some, kW h3]
   exact ⟨_, rfl, rfl⟩
  ·rw [h1, Option.bind_some, if_neg (by omega), zc, Option.bind_some, h2, Option.bind_some, h4, Option.bind_some]
   by_cases c0 : c = 0
   ·rw [if_pos c0, YI (by rw [h6, c0]; rfl)]
    exact next
   ·rw [if_neg c0, JK (by simp), Option.bind_some, go _ (by omega), Option.bind_some, kW (by rw [h6]; exact decide_eq_true c0)]
    exact ⟨_, rfl, rfl⟩
theorem sd1 {s t : GState} (hs : OkD s) (ht : OkD t) (hsn : s.Entries.length <= 2 ^ 20) (htn : t.Entries.length <= 2 ^ 20) : ∀ (l p : List GEntry) (acc : List (List UInt8)) (m : Nat), t.Entries = p ++ l → l.length < m → acc.length + l.length <= 2 ^ 38 →
  yM s t m acc (p.length : Int) = some (fU acc (ads (fun e => !y5 s.Entries e.Addr) l)) := by
 intro l
 induction l with
 | nil =>
  intro p acc m he hm _
  obtain ⟨m, rfl, _⟩ := zf hm
  rw [yM, he, List.append_nil, if_neg (by omega)]; rfl
 | cons x l ih =>
  intro p acc m he hm hb
  obtain ⟨m, rfl, hm'⟩ := zf hm
  simp only [List.length_cons] at hb hm'
  have hlen : t.Entries.length = p.length + (l.length + 1) := by rw [he]; simp
  have hx : x ∈ t.Entries := by rw [he]; simp
  have hlu := vD (x := x.Addr) acc false
  simp only [flU] at hlu
  have next := fun acc h => ih (p ++ [x]) acc m (by rw [he]; simp) hm' h
  rw [yM, if_pos (by omega), zc, Option.bind_some, show t.Entries[p.length]? = some x by rw [he]; exact yh p x l, Option.bind_some, xK p x (by omega)]
  rcases Wp (by omega) hs (ht.val x hx) with ⟨h1, _, _, h3⟩ | ⟨k, y, c, h1, h2, _, h4, _, _, h6⟩
  ·rw [h1, Option.bind_some, if_pos (by decide), JK (by omega), Option.bind_some, next _ (by omega), kW (by rw [h3]; rfl)]; rfl
  ·rw [h1, Option.bind_some, if_neg (by omega), next _ (by omega), YI (by rw [h6]; rfl)]
theorem B9 {s t : GState} {n : Nat} (hs : OkD s) (ht : OkD t) (hsn : s.Entries.length <= 2 ^ 20) (htn : t.Entries.length <= 2 ^ 20) (hn : t.Entries.length < n) : ∀ (l p : List GEntry) (m : Nat), t.Entries = p ++ l → l.length < m →
  ∃ o, xY n s t [] m (p.length : Int) = some o ∧ (match o with | .inl r => r | .inr _ => []) = fU [] (ads (fun e => !y5 s.Entries e.Addr) l) := by
 intro l
 induction l with
 | nil =>
  intro p m he hm
  obtain ⟨m, rfl, _⟩ := zf hm
  refine ⟨_, by rw [xY, he, List.append_nil, if_neg (by omega)], rfl⟩
 | cons x l ih =>
  intro p m he hm
  obtain ⟨m, rfl, hm'⟩ := zf hm
  simp only [List.length_cons] at hm'
  have hlen : t.Entries.length = p.length + (l.length + 1) := by rw [he]; simp
  have hx : x ∈ t.Entries := by rw [he]; simp
  have hlu := vD (x := x.Addr) [] false
  simp only [flU, List.length_nil] at hlu
  have next := ih (p ++ [x]) m (by rw [he]; simp) hm'
  have go := fun acc h => sd1 hs ht hsn htn l (p ++ [x]) acc n (by rw [he]; simp) (by omega) h
  rw [xY, if_pos (by omega), zc, Option.bind_some, show t.Entries[p.length]? = some x by rw [he]; exact yh p x l, Option.bind_some, xK p x (by omega)]
  rcases Wp (by omega) hs (ht.val x hx) with ⟨h1, _, _, h3⟩ | ⟨k, y, c, h1, h2, _, h4, _, _, h6⟩
  ·rw [h1, Option.bind_some, if_pos (by decide), JK (by simp), Option.bind_some, go _ (by omega), Option.bind_some, kW (by rw [h3]; rfl)]
   exact ⟨_, rfl, rfl⟩
  ·rw [h1, Option.bind_some, if_neg (by omega), YI (by rw [h6]; rfl)]
   exact next
theorem PL {x : List UInt8} (h : x.length <= 2 ^ 40) : w5 x = some x := by
 unfold w5
 rw [if_pos (j0 (by decide) (by omega))]
theorem id0 {s t : GState} (hs : OkD s) (ht : OkD t) (hsn : xT s.Entries <= 2 ^ 20) (htn : t.Entries.length <= 2 ^ 20) : ∀ (l p : List GEntry) (acc : List (List UInt8)) (m : Nat), s.Entries = p ++ l → l.length < m → acc.length + l.length <= 2 ^ 38 →
  ∃ z, yP s.Entries (s.Entries.length : Int) s t m (p.length : Int) acc = some (z, acc ++ ads (jW t.Entries) l) := by
 have hel := qx s.Entries
 intro l
 induction l with
 | nil =>
  intro p acc m he hm _
  obtain ⟨m, rfl, _⟩ := zf hm
  exact ⟨_, by rw [yP, he, List.append_nil, if_neg (by omega), show ads (jW t.Entries) [] = [] from rfl, List.append_nil]⟩
 | cons x l ih =>
  intro p acc m he hm hb
  obtain ⟨m, rfl, hm'⟩ := zf hm
  simp only [List.length_cons] at hb hm'
  have hlen : s.Entries.length = p.length + (l.length + 1) := by rw [he]; simp
  have hx : x ∈ s.Entries := by rw [he]; simp
  have hxl := ZE hx
  unfold esz at hxl
  have next := fun acc h => ih (p ++ [x]) acc m (by rw [he]; simp) hm' h
  rw [yP, if_pos (by omega), zc, Option.bind_some, show s.Entries[p.length]? = some x by rw [he]; exact yh p x l, Option.bind_some, xK p x (by omega)]
  have ha : ∀ acc : List (List UInt8), acc ++ [x.Addr] ++ ads (jW t.Entries) l = acc ++ x.Addr :: ads (jW t.Entries) l := fun acc => by simp
  rcases Wp (by omega) ht (hs.val x hx) with ⟨_, ⟨c, h2⟩, h3, _⟩ | ⟨k, y, c, _, h2, h3, _, h5, h6, _⟩
  ·obtain ⟨z, hz⟩ := next (acc ++ [x.Addr]) (by simp only [List.length_append, List.length_cons, List.length_nil]; omega)
   refine ⟨z, ?_⟩
   rw [h2, Option.bind_some]
   dsimp only
   rw [PL (by omega), Option.bind_some, if_pos (j0 (by decide) (by simp only [List.length_cons, List.length_nil]; omega)), hz, kW h3, ha]
  ·rw [h3, Option.bind_some]
   dsimp only
   rw [zc, Option.bind_some, h2, Option.bind_some, h5, Option.bind_some]
   by_cases c0 : c = 0
   ·obtain ⟨z, hz⟩ := next acc (by omega)
    refine ⟨z, ?_⟩
    rw [if_pos c0, hz, YI (by rw [h6, c0]; rfl)]
   ·obtain ⟨z, hz⟩ := next (acc ++ [x.Addr]) (by simp only [List.length_append, List.length_cons, List.length_nil]; omega)
    refine ⟨z, ?_⟩
    rw [if_neg c0, PL (by omega), Option.bind_some, if_pos (j0 (by decide) (by simp only [List.length_cons, List.length_nil]; omega)), hz, kW (by rw [h6]; exact decide_eq_true c0), ha]
theorem id1 {s t : GState} (hs : OkD s) (ht : OkD t) (hsn : s.Entries.length <= 2 ^ 20) (htn : xT t.Entries <= 2 ^ 20) : ∀ (l p : List GEntry) (acc : List (List UInt8)) (m : Nat), t.Entries = p ++ l → l.length < m → acc.length + l.length <= 2 ^ 38 →
  ∃ z, xv t.Entries (t.Entries.length : Int) s m (p.length : Int) acc = some (z, acc ++ ads (fun e => !y5 s.Entries e.Addr) l) := by
 have hel := qx t.Entries
 intro l
 induction l with
 | nil =>
  intro p acc m he hm _
  obtain ⟨m, rfl, _⟩ := zf hm
  exact ⟨_, by rw [xv, he, List.append_nil, if_neg (by omega), show ads (fun e => !y5 s.Entries e.Addr) [] = [] from rfl, List.append_nil]⟩
 | cons x l ih =>
  intro p acc m he hm hb
  obtain ⟨m, rfl, hm'⟩ := zf hm
  simp only [List.length_cons] at hb hm'
  have hlen : t.Entries.length = p.length + (l.length + 1) := by rw [he]; simp
  have hx : x ∈ t.Entries := by rw [he]; simp
  have hxl := ZE hx
  unfold esz at hxl
  have next := fun acc h => ih (p ++ [x]) acc m (by rw [he]; simp) hm' h
  rw [xv, if_pos (by omega), zc, Option.bind_some, show t.Entries[p.length]? = some x by rw [he]; exact yh p x l, Option.bind_some, xK p x (by omega)]
  rcases Wp (by omega) hs (ht.val x hx) with ⟨_, ⟨c, h2⟩, _, h3⟩ | ⟨k, y, c, _, h2, h3, _, h5, _, h6⟩
  ·obtain ⟨z, hz⟩ := next (acc ++ [x.Addr]) (by simp only [List.length_append, List.length_cons, List.length_nil]; omega)
   refine ⟨z, ?_⟩
   rw [h2, Option.bind_some]
   dsimp only
   rw [PL (by omega), Option.bind_some, if_pos (j0 (by decide) (by simp only [List.length_cons, List.length_nil]; omega)), hz, kW (by rw [h3]; rfl)]
   simp
  ·obtain ⟨z, hz⟩ := next acc (by omega)
   refine ⟨z, ?_⟩
   rw [h3, Option.bind_some]
   dsimp only
   rw [hz, YI (by rw [h6]; rfl)]
theorem LU {s t : GState} (hz : ssz s + ssz t <= 2 ^ 20) : ∃ r, jL s t = some r ∧ jP s t = some r ∧ bsz r <= 2 ^ 20 := by
 unfold jL jP vy v6
 rw [TE (by omega), TF (by omega), Option.bind_some, Option.bind_some]
 cases hs : stB s with
 | false => exact ⟨_, rfl, rfl, by decide⟩
 | true =>
  dsimp only
  rw [TE (by omega), TF (by omega), Option.bind_some, Option.bind_some]
  cases ht : stB t with
  | false => exact ⟨_, rfl, rfl, by decide⟩
  | true =>
   dsimp only
   have os := Nr hs
   have ot := Nr ht
   unfold ssz at hz
   have ls := qx s.Entries
   have lt := qx t.Entries
   have b1 := KR (jW t.Entries) s.Entries
   have b2 := KR (fun e => !y5 s.Entries e.Addr) t.Entries
   have n1 := PK (jW t.Entries) os.asc
   have n2 := PK (fun e => !y5 s.Entries e.Addr) ot.asc
   obtain ⟨z1, i1⟩ := id0 os ot (by omega) (by omega) s.Entries [] [] (s.Entries.length + t.Entries.length + 5) rfl (by omega) (by simp only [List.length_nil]; omega)
   obtain ⟨o, s1, s2⟩ := sd0 (n := s.Entries.length + t.Entries.length + 5) os ot (by omega) (by omega) (by omega) s.Entries [] (s.Entries.length + t.Entries.length + 5) rfl (by omega)
   have hm : ∀ x ∈ ads (jW t.Entries) s.Entries, y5 s.Entries x = true := fun x hx => by
    obtain ⟨e, he, rfl⟩ := List.mem_map.1 hx
    exact Xa.2 (List.mem_map_of_mem (List.mem_filter.1 he).1)
   have hm2 : ∀ x ∈ ads (fun e => !y5 s.Entries e.Addr) t.Entries, y5 s.Entries x = false := fun x hx => by
    obtain ⟨e, he, rfl⟩ := List.mem_map.1 hx
    simpa using (List.mem_filter.1 he).2
   have k1 : (ads (jW t.Entries) s.Entries).length <= xT s.Entries := Nat.le_trans (wQ _) b1
   obtain ⟨z2, i2⟩ := id1 os ot (by omega) (by omega) t.Entries [] (ads (jW t.Entries) s.Entries) (s.Entries.length + t.Entries.length + 5) rfl (by omega) (by omega)
   simp only [List.length_nil, Int.natCast_zero, List.nil_append] at i1 i2 s1
   rw [i1, Option.bind_some]
   dsimp only
   rw [i2, Option.bind_some]
   dsimp only
   have b1' : bsz (ads (jW t.Entries) s.Entries) <= xT s.Entries := b1
   have b2' : bsz (ads (fun e => !y5 s.Entries e.Addr) t.Entries) <= xT t.Entries := b2
   have n1' : (ads (jW t.Entries) s.Entries).Nodup := n1
   have n2' : (ads (fun e => !y5 s.Entries e.Addr) t.Entries).Nodup := n2
   have g := fun acc h => sd1 os ot (by omega) (by omega) t.Entries [] acc (s.Entries.length + t.Entries.length + 5) rfl (by omega) h
   have ga := B9 (n := s.Entries.length + t.Entries.length + 5) os ot (by omega) (by omega) (by omega) t.Entries [] (s.Entries.length + t.Entries.length + 5) rfl (by omega)
   generalize ads (jW t.Entries) s.Entries = R1 at *
   generalize ads (fun e => !y5 s.Entries e.Addr) t.Entries = R2 at *
   have hnd : (R1 ++ R2).Nodup := List.nodup_append.2 ⟨n1', n2', fun a ha b hb e => by
    have q1 := hm a ha
    have q2 := hm2 b hb
    rw [e, q2] at q1
    cases q1⟩
   have hbs : bsz (R1 ++ R2) = bsz R1 + bsz R2 := by
    unfold bsz
    simp only [List.length_append, List.map_append, List.sum_append]
    omega
   have hL : (R1 ++ R2).length <= bsz (R1 ++ R2) := wQ _
   have hsrt : fU (fU [] R1) R2 = wR (R1 ++ R2) := by
    have := LT (R1 ++ R2) [] (by simpa using hnd)
    unfold fU at this ⊢
    rw [List.foldl_append] at this
    exact this
   have hbr : bsz (wR (R1 ++ R2)) = bsz (R1 ++ R2) := GA (YC _)
   have hi : wB (R1 ++ R2) = some (wR (R1 ++ R2)) := if_pos (by omega)
   have how : ∀ r, r = wR (R1 ++ R2) → xf r = some (wR (R1 ++ R2)) := fun r hr => by rw [hr]; exact if_pos (by omega)
   have hf1 : (fU [] R1).length <= R1.length := by
    have : fU [] R1 = wR R1 := LT R1 [] (by simpa using n1')
    rw [this, (YC R1).length_eq]; exact Nat.le_refl _
   refine ⟨wR (R1 ++ R2), ?_, by rw [hi, Option.bind_some], by omega⟩
   rw [s1, Option.bind_some]
   match o, s2 with
   | .inl r, s2 =>
    dsimp only at s2 ⊢
    rw [s2]
    have := g (fU [] R1) (by omega)
    simp only [List.length_nil, Int.natCast_zero] at this
    rw [this, Option.bind_some, how _ hsrt, Option.bind_some]
   | .inr (), s2 =>
    dsimp only at s2 ⊢
    obtain ⟨o', g1, g2⟩ := ga
    simp only [List.length_nil, Int.natCast_zero] at g1
    rw [g1, Option.bind_some]
    rw [<- s2] at hsrt
    rw [hsrt] at g2
    match o', g2 with
    | .inl r, g2 =>
     dsimp only at g2 ⊢
     rw [how _ g2, Option.bind_some]
    | .inr (), g2 =>
     dsimp only at g2 ⊢
     rw [how _ g2, Option.bind_some]
theorem law_Differ {s t : GState} (hs : MdS s) (ht : MdS t) : jG s t = some true := by
 unfold jG
 rw [Nl hs (by decide) (by decide), Option.bind_some]
 unfold wk
 by_cases c : (ssz s : Int) <= 1048576
 ·rw [if_pos c, if_neg (by omega), Nl ht (by omega) (by omega), Option.bind_some]
  unfold wk
  by_cases c2 : (ssz t : Int) <= 1048576 - ssz s
  ·have hz : ssz s + ssz t <= 2 ^ 20 := by omega
   rw [if_pos c2, if_neg (by omega), Nm (by omega), Option.bind_some, Nm (by omega), Option.bind_some]
   obtain ⟨r, h1, h2, h3⟩ := LU hz
   rw [h1, h2, Option.bind_some, Option.bind_some, EB (by omega), Option.bind_some]
   dsimp only
   rw [Nn (by omega), Option.bind_some]
   dsimp only
   rw [Nn (by omega), Option.bind_some]
   dsimp only
   obtain ⟨k, a1, a2, m1, m2, m3⟩ := PG (s := s) (k := 1) (by decide) (by omega)
   obtain ⟨k2, x1, x2, m4, m5, m6⟩ := PG (s := t) (k := k) m2 (by omega)
   rw [m1, Option.bind_some]
   dsimp only
   rw [m4, Option.bind_some]
   dsimp only
   rw [if_neg (by omega)]
   obtain ⟨q, g, hg, hq, hh⟩ := LS (g := r) (by omega)
   rw [hg, Option.bind_some]
   dsimp only
   rw [hh, Option.bind_some, if_neg (by omega), if_pos rfl]
  ·rw [if_neg c2, if_pos (by omega)]
 ·rw [if_neg c, if_pos (by omega)]
end
end Go.Am.Try
