/- Texts put in order: the machine's word for it. -/
import Derived.Test.YtfbfbebalpnkbaaDoorEAmD
set_option linter.unusedVariables false
set_option linter.unusedSimpArgs false
set_option linter.unusedVariables false
set_option linter.unusedSimpArgs false
namespace Go.Am
open Go.Lib
/-! ### the order of texts -/
theorem Dh : ∀ x : List UInt8, compareBytes x x = 0
 | [] => rfl
 | a :: x => by simp [compareBytes, UInt8.lt_irrefl, Dh x]
theorem Tn : ∀ {x y : List UInt8}, compareBytes x y = 0 → x = y
 | [], [], _ => rfl
 | [], _ :: _, h => by simp [compareBytes] at h
 | _ :: _, [], h => by simp [compareBytes] at h
 | a :: x, b :: y, h => by
  unfold compareBytes at h
  split at h
  ·cases h
  ·split at h
   ·cases h
   ·rename_i h1 h2
    have : a = b := UInt8.le_antisymm (UInt8.not_lt.1 h2) (UInt8.not_lt.1 h1)
    rw [this, Tn h]
theorem Ra : ∀ x y : List UInt8, compareBytes y x = - compareBytes x y
 | [], [] => rfl
 | [], _ :: _ => rfl
 | _ :: _, [] => rfl
 | a :: x, b :: y => by
  unfold compareBytes
  by_cases h1 : a < b
  ·have h2 : ¬ b < a := UInt8.not_lt.2 (UInt8.le_of_lt h1)
   simp [h1, h2]
  ·by_cases h2 : b < a
   ·simp [h1, h2]
   ·simp only [h1, h2, if_false]
    exact Ra x y
theorem PR : ∀ {x y z : List UInt8}, compareBytes x y < 0 → compareBytes y z < 0 → compareBytes x z < 0
 | [], [], _, h, _ => by simp [compareBytes] at h
 | [], _ :: _, [], _, h => by simp [compareBytes] at h
 | [], _ :: _, _ :: _, _, _ => by simp [compareBytes]
 | _ :: _, [], _, h, _ => by simp [compareBytes] at h
 | _ :: _, _ :: _, [], _, h => by simp [compareBytes] at h
 | a :: x, b :: y, c :: z, h1, h2 => by
  unfold compareBytes at h1 h2 ⊢
  by_cases ab : a < b
  ·by_cases bc : b < c
   ·have : a < c := UInt8.lt_trans ab bc
    simp [this]
   ·by_cases cb : c < b
    ·simp [bc, cb] at h2
    ·have : b = c := UInt8.le_antisymm (UInt8.not_lt.1 cb) (UInt8.not_lt.1 bc)
     subst this; simp [ab]
  ·by_cases ba : b < a
   ·simp [ab, ba] at h1
   ·have : a = b := UInt8.le_antisymm (UInt8.not_lt.1 ba) (UInt8.not_lt.1 ab)
    subst this
    by_cases bc : a < c
    ·simp [bc]
    ·by_cases cb : c < a
     ·simp [bc, cb] at h2
     ·simp only [ab, ba, bc, cb, if_false] at h1 h2 ⊢
      exact PR h1 h2
def XH (x : List UInt8) : List (List UInt8) → List (List UInt8)
 | [] => [x]
 | y :: r => if compareBytes x y < 0 then x :: y :: r else y :: XH x r
def LR (ts : List (List UInt8)) : List (List UInt8) := ts.foldl (fun acc x => XH x acc) []
def Js (l : List (List UInt8)) : Prop := l.Pairwise fun x y => ¬ compareBytes y x < 0
theorem Jt (x : List UInt8) : ∀ l, (XH x l).Perm (x :: l)
 | [] => List.Perm.refl _
 | y :: r => by
  unfold XH
  split
  ·exact List.Perm.refl _
  ·exact ((Jt x r).cons y).trans (List.Perm.swap x y r)
theorem Ov {x y z : List UInt8} (h1 : ¬ compareBytes y x < 0) (h2 : ¬ compareBytes z y < 0) : ¬ compareBytes z x < 0 := by
 intro h
 by_cases h3 : compareBytes x y < 0
 ·exact h2 (PR h h3)
 ·have := Ra x y
  have hz : compareBytes x y = 0 := by omega
  rw [<- Tn hz] at h2
  exact h2 h
theorem Kl (x : List UInt8) : ∀ l, Js l → Js (XH x l)
 | [], _ => by simp [XH, Js]
 | y :: r, h => by
  unfold XH
  have hc := List.pairwise_cons.1 h
  split
  ·rename_i hx
   have hyx : ¬ compareBytes y x < 0 := by have := Ra x y; omega
   refine List.pairwise_cons.2 ⟨fun z hz => ?_, h⟩
   rcases List.mem_cons.1 hz with rfl | hz
   ·exact hyx
   ·exact Ov hyx (hc.1 z hz)
  ·rename_i hx
   refine List.pairwise_cons.2 ⟨fun z hz => ?_, Kl x r hc.2⟩
   rcases List.mem_cons.1 ((Jt x r).mem_iff.1 hz) with rfl | hz
   ·exact hx
   ·exact hc.1 z hz
theorem WW : ∀ (ts acc : List (List UInt8)), Js acc → Js (ts.foldl (fun acc x => XH x acc) acc) ∧ (ts.foldl (fun acc x => XH x acc) acc).Perm (ts ++ acc)
 | [], acc, h => ⟨h, List.Perm.refl _⟩
 | t :: ts, acc, h => by
  obtain ⟨h1, h2⟩ := WW ts (XH t acc) (Kl t acc h)
  refine ⟨h1, h2.trans ?_⟩
  exact ((Jt t acc).append_left ts).trans List.perm_middle
theorem DV (ts : List (List UInt8)) : Js (LR ts) := (WW ts [] List.Pairwise.nil).1
theorem B0 (ts : List (List UInt8)) : (LR ts).Perm ts := by
 have h := (WW ts [] List.Pairwise.nil).2
 rw [List.append_nil] at h
 exact h
theorem LS : ∀ {a b : List (List UInt8)}, Js a → Js b → a.Perm b → a = b
 | [], b, _, _, h => h.nil_eq
 | x :: a, [], _, _, h => absurd h.length_eq (by simp)
 | x :: a, y :: b, h1, h2, h => by
  have c1 := List.pairwise_cons.1 h1
  have c2 := List.pairwise_cons.1 h2
  have e : x = y := by
   rcases List.mem_cons.1 (h.mem_iff.1 (List.mem_cons_self ..)) with e | hx
   ·exact e
   ·rcases List.mem_cons.1 (h.mem_iff.2 (List.mem_cons_self ..)) with e | hy
    ·exact e.symm
    ·have g1 := c1.1 y hy
     have g2 := c2.1 x hx
     have := Ra x y
     exact Tn (by omega)
  subst e
  rw [LS c1.2 c2.2 (List.Perm.cons_inv h)]
/-! ### the machine's word for it -/
def qH (s : List UInt8) : List (List C) := s.map fun b => [C.int .u8 (b.toNat : Int)]
def Wj : List (List C) → Option (List (List UInt8))
 | [] => some []
 | [.own 1 b] :: r => (bytesOf b).bind fun s => (Wj r).map fun t => s :: t
 | _ => none
theorem Ow : ∀ {l : List (List C)} {ts}, Wj l = some ts → l = ts.map fun s => [.own 1 (qH s)]
 | [], ts, h => by simp [Wj] at h; subst h; rfl
 | e :: r, ts, h => by
  unfold Wj at h
  split at h
  ·rename_i e2; cases e2
  ·rename_i b r' e2
   cases e2
   obtain ⟨s, hs, h⟩ := Option.bind_eq_some_iff.1 h
   obtain ⟨t, ht, rfl⟩ := Option.map_eq_some_iff.1 h
   rw [Ow ht, qI hs]
   rfl
  ·cases h
def AW (g : FuncId) (st : List Entry) : List V → Option (V × List Entry)
 | [.val false [.ref 0], .val false [.fn f []]] => match st with
  | [.obj 1 l] => if f = g ∧ l.length <= 1048576 then (Wj l).map fun ts => (.tup [], [.obj 1 ((LR ts).map fun s => [.own 1 (qH s)])]) else none
  | _ => none
 | _ => none
end Go.Am
