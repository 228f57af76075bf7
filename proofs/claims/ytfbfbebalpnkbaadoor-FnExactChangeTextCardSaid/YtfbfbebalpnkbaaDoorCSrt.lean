/- Texts put in order: the machine's word for it. -/
import Derived.Test.YtfbfbebalpnkbaaDoorCAmD
set_option linter.unusedVariables false
set_option linter.unusedSimpArgs false
set_option linter.unusedVariables false
set_option linter.unusedSimpArgs false
namespace Go.Am
open Go.Lib
/-! ### the order of texts -/
theorem Hw : ∀ x : List UInt8, compareBytes x x = 0
 | [] => rfl
 | a :: x => by simp [compareBytes, UInt8.lt_irrefl, Hw x]
theorem VT : ∀ {x y : List UInt8}, compareBytes x y = 0 → x = y
 | [], [], _ => rfl
 | [], _ :: _, h => by simp [compareBytes] at h
 | _ :: _, [], h => by simp [compareBytes] at h
 | a :: x, b :: y, h => by
  unfold compareBytes at h
  split at h
  ·cases h
  ·split at h
   ·cases h
   ·rename_i h1 h2
    have : a = b := UInt8.le_antisymm (UInt8.not_lt.1 h2) (UInt8.not_lt.1 h1)
    rw [this, VT h]
theorem KM : ∀ x y : List UInt8, compareBytes y x = - compareBytes x y
 | [], [] => rfl
 | [], _ :: _ => rfl
 | _ :: _, [] => rfl
 | a :: x, b :: y => by
  unfold compareBytes
  by_cases h1 : a < b
  ·have h2 : ¬ b < a := UInt8.not_lt.2 (UInt8.le_of_lt h1)
   simp [h1, h2]
  ·by_cases h2 : b < a
   ·simp [h1, h2]
   ·simp only [h1, h2, if_false]
    exact KM x y
theorem UE : ∀ {x y z : List UInt8}, compareBytes x y < 0 → compareBytes y z < 0 → compareBytes x z < 0
 | [], [], _, h, _ => by simp [compareBytes] at h
 | [], _ :: _, [], _, h => by simp [compareBytes] at h
 | [], _ :: _, _ :: _, _, _ => by simp [compareBytes]
 | _ :: _, [], _, h, _ => by simp [compareBytes] at h
 | _ :: _, _ :: _, [], _, h => by simp [compareBytes] at h
 | a :: x, b :: y, c :: z, h1, h2 => by
  unfold compareBytes at h1 h2 ⊢
  by_cases ab : a < b
  ·by_cases bc : b < c
   ·have : a < c := UInt8.lt_trans ab bc
    simp [this]
   ·by_cases cb : c < b
    ·simp [bc, cb] at h2
    ·have : b = c := UInt8.le_antisymm (UInt8.not_lt.1 cb) (UInt8.not_lt.1 bc)
     subst this; simp [ab]
  ·by_cases ba : b < a
   ·simp [ab, ba] at h1
   ·have : a = b := UInt8.le_antisymm (UInt8.not_lt.1 ba) (UInt8.not_lt.1 ab)
    subst this
    by_cases bc : a < c
    ·simp [bc]
    ·by_cases cb : c < a
     ·simp [bc, cb] at h2
     ·simp only [ab, ba, bc, cb, if_false] at h1 h2 ⊢
      exact UE h1 h2
def YF (x : List UInt8) : List (List UInt8) → List (List UInt8)
 | [] => [x]
 | y :: r => if compareBytes x y < 0 then x :: y :: r else y :: YF x r
def Ov (ts : List (List UInt8)) : List (List UInt8) := ts.foldl (fun acc x => YF x acc) []
def Ql (l : List (List UInt8)) : Prop := l.Pairwise fun x y => ¬ compareBytes y x < 0
theorem Qm (x : List UInt8) : ∀ l, (YF x l).Perm (x :: l)
 | [] => List.Perm.refl _
 | y :: r => by
  unfold YF
  split
  ·exact List.Perm.refl _
  ·exact ((Qm x r).cons y).trans (List.Perm.swap x y r)
theorem UY {x y z : List UInt8} (h1 : ¬ compareBytes y x < 0) (h2 : ¬ compareBytes z y < 0) : ¬ compareBytes z x < 0 := by
 intro h
 by_cases h3 : compareBytes x y < 0
 ·exact h2 (UE h h3)
 ·have := KM x y
  have hz : compareBytes x y = 0 := by omega
  rw [<- VT hz] at h2
  exact h2 h
theorem Ja (x : List UInt8) : ∀ l, Ql l → Ql (YF x l)
 | [], _ => by simp [YF, Ql]
 | y :: r, h => by
  unfold YF
  have hc := List.pairwise_cons.1 h
  split
  ·rename_i hx
   have hyx : ¬ compareBytes y x < 0 := by have := KM x y; omega
   refine List.pairwise_cons.2 ⟨fun z hz => ?_, h⟩
   rcases List.mem_cons.1 hz with rfl | hz
   ·exact hyx
   ·exact UY hyx (hc.1 z hz)
  ·rename_i hx
   refine List.pairwise_cons.2 ⟨fun z hz => ?_, Ja x r hc.2⟩
   rcases List.mem_cons.1 ((Qm x r).mem_iff.1 hz) with rfl | hz
   ·exact hx
   ·exact hc.1 z hz
theorem XL : ∀ (ts acc : List (List UInt8)), Ql acc → Ql (ts.foldl (fun acc x => YF x acc) acc) ∧ (ts.foldl (fun acc x => YF x acc) acc).Perm (ts ++ acc)
 | [], acc, h => ⟨h, List.Perm.refl _⟩
 | t :: ts, acc, h => by
  obtain ⟨h1, h2⟩ := XL ts (YF t acc) (Ja t acc h)
  refine ⟨h1, h2.trans ?_⟩
  exact ((Qm t acc).append_left ts).trans List.perm_middle
theorem Em (ts : List (List UInt8)) : Ql (Ov ts) := (XL ts [] List.Pairwise.nil).1
theorem E9 (ts : List (List UInt8)) : (Ov ts).Perm ts := by
 have h := (XL ts [] List.Pairwise.nil).2
 rw [List.append_nil] at h
 exact h
theorem Ow : ∀ {a b : List (List UInt8)}, Ql a → Ql b → a.Perm b → a = b
 | [], b, _, _, h => h.nil_eq
 | x :: a, [], _, _, h => absurd h.length_eq (by simp)
 | x :: a, y :: b, h1, h2, h => by
  have c1 := List.pairwise_cons.1 h1
  have c2 := List.pairwise_cons.1 h2
  have e : x = y := by
   rcases List.mem_cons.1 (h.mem_iff.1 (List.mem_cons_self ..)) with e | hx
   ·exact e
   ·rcases List.mem_cons.1 (h.mem_iff.2 (List.mem_cons_self ..)) with e | hy
    ·exact e.symm
    ·have g1 := c1.1 y hy
     have g2 := c2.1 x hx
     have := KM x y
     exact VT (by omega)
  subst e
  rw [Ow c1.2 c2.2 (List.Perm.cons_inv h)]
/-! ### the machine's word for it -/
def qn (s : List UInt8) : List (List C) := s.map fun b => [C.int .u8 (b.toNat : Int)]
def Xa : List (List C) → Option (List (List UInt8))
 | [] => some []
 | [.own 1 b] :: r => (bytesOf b).bind fun s => (Xa r).map fun t => s :: t
 | _ => none
theorem UZ : ∀ {l : List (List C)} {ts}, Xa l = some ts → l = ts.map fun s => [.own 1 (qn s)]
 | [], ts, h => by simp [Xa] at h; subst h; rfl
 | e :: r, ts, h => by
  unfold Xa at h
  split at h
  ·rename_i e2; cases e2
  ·rename_i b r' e2
   cases e2
   obtain ⟨s, hs, h⟩ := Option.bind_eq_some_iff.1 h
   obtain ⟨t, ht, rfl⟩ := Option.map_eq_some_iff.1 h
   rw [UZ ht, qp hs]
   rfl
  ·cases h
def DR (g : FuncId) (st : List Entry) : List V → Option (V × List Entry)
 | [.val false [.ref 0], .val false [.fn f []]] => match st with
  | [.obj 1 l] => if f = g ∧ l.length <= 1048576 then (Xa l).map fun ts => (.tup [], [.obj 1 ((Ov ts).map fun s => [.own 1 (qn s)])]) else none
  | _ => none
 | _ => none
end Go.Am
